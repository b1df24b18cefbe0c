/-
  Texts that were built apart, put behind one another (5 of 5): OC OE OF OG OH OI OV KE KO KI KJ KK KM KG KP OP OW OM OZ OJ OX NX NZ OL.
  Conditions: none.
-/
import Derived.Test.YtpgdnfgjbhdbpaaGreatDoorZ4
import Derived.Test.YtpgdnfgjbhdbpaaGreatDoorRows
import Derived.LaidMore
import Derived.Lib.LaidTab
import Derived.Lib.LaidU8
namespace Go.Proofs.YtpgdnfgjbhdbpaaGreatDoor
open Go Go.RowKit SL
set_option maxRecDepth 8000
set_option maxHeartbeats 4000000
set_option linter.unusedSimpArgs false
set_option linter.unusedVariables false
attribute [local irreducible] SL.CW SL.LW SL.DW Calls SL.Ret SL.RetG SL.beginQ SL.roundQ SL.rangeQ SL.RW SL.AnyW SL.thenQ SL.thenC SL.thenW SL.blkQ SL.finQ SL.ValP SL.NewP SL.SetP SL.CallP SL.Rd SL.Wr SL.Known
section
open SK (sumB Sum_calls TurnAt NumAt)
open UK (adr aRead_calls)
attribute [local irreducible] SK.padB SK.sumB
theorem sum_len (b:List UInt8):(sumB b).length=32:=by unfold SK.sumB;rw [SK.idF_len]
def crL (a salt:Nat) (D:List UInt8):List UInt8:=255::(beb 8 a++(beb 32 salt++D))
def createdA (a salt:Nat) (b:List UInt8):Nat:=adr (sumB (crL a salt (sumB b)))
theorem Created_calls (a salt:Nat) (b:List UInt8) (ha:a < 18446744073709551616) (hs:salt < M256) (v:Value) (w:World) (hv:RowAt w 1 v b.length (ucs b)) (hb:b.length≤100000) (hT:TurnAt w) (hN:NumAt w) :
  Calls Tryz.prog 34 #[.int .u64 (a:Int),wv salt,v] w (Ret w (.int .u64 (createdA a salt b:Int))):=by
 have hlen:=sum_len b
 have hcr:createdA a salt b=adr (sumB (crL a salt (sumB b))):=rfl
 have hSum0:∀ w' {fs},St w [] fs w'→Calls Tryz.prog 69 #[v] w' (Ret w' (.agg (uca (sumB b)))):=fun w' fs hst=>Sum_calls b v w' (hv.st hst) hb (hT.st hst) (hN.st hst)
 obtain ⟨D,hD⟩:∃ D,sumB b=D:=⟨_,rfl⟩
 have hSum:=@hSum0
 rw [hD] at hSum hlen hcr
 rw [hcr]
 have hlen2:=sum_len (crL a salt D)
 obtain ⟨D2,hD2⟩:∃ D2,sumB (crL a salt D)=D2:=⟨_,rfl⟩
 rw [hD2] at hlen2 ⊢
 have hRead:∀ (g:Nat) (w':World) {fs:Fs},St w [] fs w'→w'.heap[g]?=some (.cells (uca D2) 107 (0,0))→Calls Tryz.prog 73 #[.slice (some ⟨g,0,none⟩) 32 32] w' (Ret w' (.tuple #[.int .u64 (adr D2:Int),.int .i64 0])):=fun g w' fs _ h=>by
  have h2:=own_row (off:=0) (n:=32) (c:=32) h (by omega) (Nat.le_refl _) (by simp only [maxLen];omega)
  rw [List.drop_zero,List.take_of_length_le (by omega)] at h2
  exact aRead_calls D2 _ w' (by rw [hlen2];exact h2) (by omega)
 refine enter (args:=[_,_,_]) _ [] [] Tryz.func34 rfl Tryz.ntmps34 rfl (by simp) .nil ?_
 (refine sRz ?_;apply zT;rfl;rfl;intro _;refine vAz<|nSz<|vMz ?_;apply zS;rfl;rfl;infer_instance;exact .cons rfl .nil;intro w _;rename_i hst;exact hSum w hst;apply zU;rfl;intro _;apply zR;rfl;rfl;apply qA;apply wr_ucaO;rfl;assumption;refine nNz<|zI ?_)
 rename_i b4 b7
 apply CW.pre
 refine AnyW.anyX [(2,bM (beb 8 a),[]),(4,(fun v gs=>IsRow 5 1 v 32 (ucs (beb 32 salt)) gs),[]),(7,bM (crL a salt D),[.tmp 13,.tmp 15,.tmp 17,.tmp 18])] 10 mixed (by decide +kernel) (by kernel_rfl) ?_
 ((try simp only [tsOf_cons,tsOf_nil,tsOf_app]);apply DW.lay1;rfl;rfl;rfl;exact zC;infer_instance;infer_instance;rfl;rfl;rfl;rfl;rfl;rfl;intro _;refine dvz (.move rfl) ?_)
 (apply DW.manyE;rfl;rfl;rfl;exact zC;rfl;infer_instance;exact .cons rfl .nil;rfl;exact ReadAll.nil;intro w _ _)
 exact aBytes_calls a ha w
 rintro v15 g15 h15
 have h15':=h15
 unfold bM at h15'
 obtain ⟨q15,k15,rfl⟩:=id h15'.form
 obtain ⟨u15,hbl15,hin15,hrows15⟩:=rowU_own h15'
 ((try simp only [tsOf_cons,tsOf_nil,tsOf_app]);apply qD;rfl;rfl;rfl;exact zC;rfl;apply zQ;apply zO;apply zO;apply zP;exact zN;exact qF rfl)
 (apply DW.manyE;rfl;rfl;rfl;exact zC;rfl;infer_instance;exact .cons rfl .nil;rfl;exact ReadAll.nil;intro w _ _)
 exact Bytes_calls salt hs w
 rintro v17 g17 h17
 obtain ⟨q17,k17,rfl⟩:=id h17.form
 obtain ⟨u17,hbl17,hin17,hrows17⟩:=rowU_own h17
 ((try simp only [tsOf_cons,tsOf_nil,tsOf_app]);refine dvz (.cutArrAll inferInstance inferInstance rfl) ?_)
 rename_i b13
 refine DW.new rfl rfl rfl (by (exact zC)) rfl (NewP.buildSN (vs:=[(0,.slice (some ⟨b13,0,none⟩) 1 1),(1,.slice q15 (beb 8 a).length k15),(2,.slice q17 32 k17),(3,.slice (some ⟨b7,0,none⟩) 32 32)]) (c:=#[.slice (some ⟨b13,0,none⟩) 1 1,.slice q15 (beb 8 a).length k15,.slice q17 32 k17,.slice (some ⟨b7,0,none⟩) 32 32]) inferInstance inferInstance (by (apply zA;rfl;apply zA;rfl;apply zA;rfl;apply zA;rfl;exact zB)) rfl rfl (by kernel_rfl) (by kernel_rfl)) fun b19=>?_
 simp only [Sh.val]
 ((try simp only [tsOf_cons,tsOf_nil,tsOf_app]))
 have hj:crL a salt D=catL [(.slice (some ⟨b13,0,none⟩) 1 1,[255]),(.slice q15 (beb 8 a).length k15,beb 8 a),(.slice q17 32 k17,beb 32 salt),(.slice (some ⟨b7,0,none⟩) 32 32,D)]:=by
  unfold catL crL
  simp
 refine DW.manyX ([(b13,.cells #[.int .u8 255] 5 (0,0))]++(u15++(u17++[(b7,.cells (uca D) 107 (0,0)),(b19,.cells #[.slice (some ⟨b13,0,none⟩) 1 1,.slice q15 (beb 8 a).length k15,.slice q17 32 k17,.slice (some ⟨b7,0,none⟩) 32 32] 22 (0,0))]))) (xv:=[.slice (some ⟨b13,0,none⟩) 1 1,.slice q15 (beb 8 a).length k15,.slice q17 32 k17,.slice (some ⟨b7,0,none⟩) 32 32]) rfl rfl rfl (by (exact zC)) rfl inferInstance (by (exact .cons rfl .nil)) (by (exact .cons rfl (.cons rfl (.cons rfl (.cons rfl .nil))))) ?_ ?_ ?_ ?_
 ·simp only [List.cons_append,List.nil_append,List.flatMap_cons,List.flatMap_nil,hbl15,hbl17,List.map_cons,List.map_append,List.map_nil]
  rfl
 ·intro p hp
  refine AncT.lie (by (refine AncT.cons ?_ ?_;kernel_rfl;refine AncT.app ?_ ?_;refine AncT.new ?_;kernel_rfl;refine AncT.app ?_ ?_;refine AncT.new ?_;kernel_rfl;refine AncT.cons ?_ ?_;kernel_rfl;refine AncT.cons ?_ ?_;exact zN;refine AncT.cons ?_ ?_;exact zN;exact AncT.nil)) ?_
  rcases List.mem_append.1 hp with hp|hp
  ·obtain rfl:=List.mem_singleton.1 hp
   simp [fsOf,tsOf,tsNew,tsTag,markAll,Function.comp_def]
  ·rcases List.mem_append.1 hp with hp|hp
   ·have hp:=hin15 p hp
    simp [fsOf,tsOf,tsNew,tsTag,markAll,Function.comp_def,hp]
   ·rcases List.mem_append.1 hp with hp|hp
    ·have hp:=hin17 p hp
     simp [fsOf,tsOf,tsNew,tsTag,markAll,Function.comp_def,hp]
    ·simp only [List.mem_cons,List.not_mem_nil,or_false] at hp
     rcases hp with rfl|rfl
     ·simp [fsOf,tsOf,tsNew,tsTag,markAll,Function.comp_def]
     ·simp [fsOf,tsOf,tsNew,tsTag,markAll,Function.comp_def]
 ·intro w' _ hu
  have hw13:w'.heap[b13]?=some (.cells #[.int .u8 255] 5 (0,0)):=hu (b13,_) (by simp)
  have hw7:w'.heap[b7]?=some (.cells (uca D) 107 (0,0)):=hu (b7,_) (by simp)
  have hw19:w'.heap[b19]?=some (.cells #[.slice (some ⟨b13,0,none⟩) 1 1,.slice q15 (beb 8 a).length k15,.slice q17 32 k17,.slice (some ⟨b7,0,none⟩) 32 32] 22 (0,0)):=hu (b19,_) (by simp)
  rw [hj]
  refine joined_calls _ _ w' (row_cells (n:=4) hw19 rfl rfl (by simp [maxLen])) (fun x hx=>?_) (by rw [← hj];unfold crL;simp only [List.length_cons,List.length_append,beb_len,hlen];omega)
  simp only [List.mem_cons,List.not_mem_nil,or_false] at hx
  rcases hx with rfl|rfl|rfl|rfl
  ·exact row_cells (n:=1) hw13 rfl rfl (by simp [maxLen])
  ·exact hrows15 w' fun q hq=>hu q (List.mem_append_right _ (List.mem_append_left _ hq))
  ·have h:=hrows17 w' fun q hq=>hu q (List.mem_append_right _ (List.mem_append_right _ (List.mem_append_left _ hq)))
   dsimp only
   rw [beb_len]
   exact h
  ·have h2:=own_row (off:=0) (n:=32) (c:=32) hw7 (by omega) (Nat.le_refl _) (by simp only [maxLen];omega)
   rw [List.drop_zero,List.take_of_length_le (by omega)] at h2
   dsimp only
   rw [hlen]
   exact h2
 rintro v20 g20 h20
 have h20':=h20
 unfold bM at h20'
 obtain ⟨q20,k20,rfl⟩:=id h20'.form
 obtain ⟨u20,hbl20,hin20,hrows20⟩:=rowU_own h20'
 (try simp only [markAll_cons,markAll_app,markAll_tsOf,markAll_tag,markAll_new,markAll_nil])
 ((try simp only [tsOf_cons,tsOf_nil,tsOf_app]))
 refine DW.callA u20 (v:=.agg (uca D2)) rfl rfl rfl (by (exact zC)) rfl inferInstance (by (exact .cons rfl .nil)) (by rw [List.flatMap_cons,hbl20];simp) (fun p hp=>AncT.lie (by (refine AncT.app ?_ ?_;refine AncT.new ?_;kernel_rfl;refine AncT.cons ?_ ?_;kernel_rfl;refine AncT.app ?_ ?_;refine AncT.tag ?_;kernel_rfl;refine AncT.app ?_ ?_;refine AncT.tag ?_;kernel_rfl;refine AncT.cons ?_ ?_;kernel_rfl;refine AncT.cons ?_ ?_;exact zN;refine AncT.cons ?_ ?_;exact zN;exact AncT.nil)) (by have hp:=hin20 p hp;simp [fsOf,tsOf,tsNew,tsTag,markAll,Function.comp_def,hp])) (fun w' hbw hu=>?_) ?_
 ·rw [← hD2]
  exact Sum_calls (crL a salt D) _ w' (hrows20 w' hu) (by unfold crL;simp only [List.length_cons,List.length_append,beb_len,hlen];omega) (hT.st ⟨hbw,(fun p h=>by cases h),.nil⟩) (hN.st ⟨hbw,(fun p h=>by cases h),.nil⟩)
 (try simp only [markAll_cons,markAll_app,markAll_tsOf,markAll_tag,markAll_new,markAll_nil])
 ((try simp only [tsOf_cons,tsOf_nil,tsOf_app]);apply DW.allocA;rfl;rfl;rfl;exact zC;intro _;apply DW.nil;simp only [fsOf_cons,fsOf_nil,fsOf_app,fsOf_tsOf,fsOf_new,fsOf_tag,fsOf_mark])
 (apply zR;rfl;rfl;apply qA;apply wr_ucaO;rfl;assumption;refine nSz<|lvz (.cutArrAll inferInstance inferInstance rfl) ?_;apply zS;rfl;rfl;infer_instance;exact .cons rfl .nil;intro w _;rename_i hst;(exact hRead _ w hst ((hst.own (_,.cells (uca D2) 107 (0,0)) (by (repeat (first|exact List.Mem.head _|apply List.Mem.tail)))).2));refine vMz ?_;refine vEz ?_;refine vEz ?_;refine vAz<|vAz<|nSz<|vMz<|vAz<|nNz<|zK ?_)
 (apply finR;exact .inl rfl;rfl;rfl;rfl;apply zD;exact zG rfl;exact zF)
 rfl
end
section
open SK (TurnAt NumAt)
open CK (CheckC_calls)
attribute [local irreducible] SL.inP wordI shq createdA
def creV (n:Nat):Nat:=min (timesV ((n+31) / 32) 6+3200) NOG
def keepV (g:Nat):Nat:=g - g / 64
def creC (c:ClV) (a g:Nat) (lv:Value):ClV:={ c with code:=lv,inp:=.slice none 0 0,dst:=a,self:=a,gas:=g }
def BCreatesK (b:Nat) (f:FrV) (A:AkV) (c:ClV) (l:List UInt8) (lv:Value) (salt:Nat) (rest:Fs):Out:=fun x fs' =>
 (¬ (l.length≤200∧creV l.length≤f.gas)∧x=.panicked offC∧fs'=rest) ∨
 ((l.length≤200∧creV l.length≤f.gas)∧x=.returned (.tuple #[])∧fs'=(b,bgO (f.setGas (f.gas - creV l.length - keepV (f.gas - creV l.length))) A (creC c (createdA f.self salt l) (keepV (f.gas - creV l.length)) lv))::rest)
theorem bcreates_calls (w0:World) (b:Nat) (f:FrV) (A:AkV) (c:ClV) (ws:List Nat) (hM:∀ x∈ws,x < M256) (h4:ws.length=4) (hg:f.gas≤20000) (hsf:f.self < 18446744073709551616) (l:List UInt8) (gl:Fs) (hlv:bM l c.inp gl) (hll:l.length≤100000) (rest:Fs) (hgl:∀ p∈gl,p∈rest)
  (hT:TurnAt w0) (hN:NumAt w0) (w:World) (hv:RowAt w0 4 A.ws ws.length (wcs ws)) (hs:St w0 [] ((b,bgO f A c)::rest) w) :
  Calls Tryz.prog 56 #[.pointer (some ⟨b,0,none⟩)] w (fun x w'=>∃ fs',BCreatesK b f A c l c.inp (ws.getD 3 0) rest x fs'∧St w0 [] fs' w'):=by
 obtain ⟨code,pc,stk,mem,gas,self,frm,val,inp,back,stat⟩:=f
 obtain ⟨cop,cdst,cself,cfrm,cval,cmv,cgas,cinp,ccode,cpl,cn,cstat⟩:=c
 obtain ⟨kind,op,aws,dt,cold,vl,new⟩:=A
 dsimp only at hg hsf hv hlv
 obtain ⟨bw,off,cc,cs,E,fr,heq,hbw,hx⟩:=hv.pos (by omega)
 subst heq
 have hrd:=word_rd (P:=Tryz.prog) (T:=29) (E:=E) (fr:=fr) hx 3 (by omega)
 have hw3:ws.getD 3 0 < M256:=by rw [List.getD_eq_getElem?_getD,List.getElem?_eq_getElem (by omega:3 < ws.length)];exact hM _ (List.getElem_mem _)
 obtain ⟨x0,hx0⟩:∃ x,ws.getD 3 0=x:=⟨_,rfl⟩
 rw [hx0] at hrd hw3 ⊢
 have hlv':=hlv
 unfold bM at hlv'
 obtain ⟨ql,kl,rfl⟩:=id hlv'.form
 obtain ⟨us,hbl,hin,hrows⟩:=rowU_own hlv'
 have hln:l.length < 18446744073709551616:=by omega
 have hrow:∀ w' {X:Fs},St w0 [] (X++rest) w'→RowAt w' 1 (.slice ql l.length kl) l.length (ucs l):=fun w' X hst=>bM_at hlv fun p hp=>(hst.own p (List.mem_append_right _ (hgl p hp))).2
 have hCk0:∀ w' {X:Fs},St w0 [] (X++rest) w'→Calls Tryz.prog 48 #[.slice ql l.length kl] w' (Ret w' (.int .i64 (if l.length≤200 then 0 else 3))):=fun w' X hst=>CheckC_calls _ _ _ w' (hrow w' hst)
 unfold BCreatesK creC
 dsimp only
 obtain ⟨k,hk⟩:∃ k,creV l.length=k:=⟨_,rfl⟩
 refine calls_anyO (calls_inlineP (K:=anyO fun x fs'=>(¬ (l.length≤200∧creV l.length≤gas)∧x=.panicked offC∧fs'=rest)∨((l.length≤200∧creV l.length≤gas)∧x=.returned (.tuple #[])∧fs'=(b,bgO (FrV.setGas ⟨code,pc,stk,mem,gas,self,frm,val,inp,back,stat⟩ (gas - creV l.length - keepV (gas - creV l.length))) ⟨kind,op,.slice (some ⟨bw,off,none⟩) ws.length cc,dt,cold,vl,new⟩ ⟨cop,createdA self x0 l,createdA self x0 l,cfrm,cval,cmv,keepV (gas - creV l.length),.slice none 0 0,.slice ql l.length kl,cpl,cn,cstat⟩)::rest)) (args:=[_]) Tryz.func56 rfl Tryz.ntmps56 rfl ?_ hs)
 by_cases hc:l.length≤200
 ·have hCk:∀ w' {c E},St w0 [] ([(b,.cells c E (0,0))]++rest) w'→Calls Tryz.prog 48 #[.slice ql l.length kl] w' (Ret w' (.int .i64 0)):=fun w' c E hst=>by have h:=hCk0 w' hst;rwa [if_pos hc] at h
  (refine sRz<|vMz<|vNz<|vFz<|vAz<|nSz<|vMz<|vMz<|vMz<|vNz<|vFz<|ldz rfl .head bg_rd36<|vNz<|vFz ?_;refine zR rfl rfl .head bg_wr37<|vNz<|vFz ?_;refine zR rfl rfl .head bg_wr36<|nNz<|zI<|sRz<|vMz<|vNz<|vFz<|ldz rfl .head bg_rd37 ?_;apply zS;rfl;rfl;infer_instance;exact .cons rfl .nil;intro w _;rename_i hst;exact hCk w hst;refine lvz (.neF rfl rfl (by omega)) ?_;refine nNz<|cFz<|zJ<|thenN<|sRz<|vMz<|vMz<|vNz<|vFz<|ldz rfl .head bg_rd37<|lvz (.lenR rfl inferInstance rfl) ?_;refine lvz (.convN rfl (by omega) (by omega)) ?_;apply zS;rfl;rfl;infer_instance;exact .cons rfl .nil;intro w _;exact Create_calls _ hln w)
  rw [show min (timesV ((l.length+31) / 32) 6+3200) NOG=k from hk]
  rw [hk]
  refine LW.callP (K:=fun x fs'=>(k≤gas∧x=.returned (.tuple #[])∧fs'=(b,bgO (FrV.setGas ⟨code,pc,stk,mem,gas,self,frm,val,inp,back,stat⟩ (gas - k)) ⟨kind,op,.slice (some ⟨bw,off,none⟩) ws.length cc,dt,cold,vl,new⟩ ⟨cop,cdst,cself,cfrm,cval,cmv,cgas,.slice none 0 0,.slice ql l.length kl,cpl,cn,cstat⟩)::rest)∨(gas < k∧x=.panicked offC∧fs'=rest)) rfl rfl inferInstance (by (exact .cons rfl (.cons rfl .nil))) rfl (fun fs h=>by rcases h with ⟨_,h,_⟩|⟨_,h,_⟩<;>cases h) (fun w' hst=>bspend_calls w0 b ⟨code,pc,stk,mem,gas,self,frm,val,inp,back,stat⟩ _ _ k (by dsimp only;omega) rest w' hst) ?_ ?_
  ·rintro v fs' (⟨hkg,h,rfl⟩|⟨_,h,_⟩)
   ·cases h
    change LW _ _ _ _ _ ((b,bgO ⟨code,pc,stk,mem,gas - k,self,frm,val,inp,back,stat⟩ ⟨kind,op,.slice (some ⟨bw,off,none⟩) ws.length cc,dt,cold,vl,new⟩ ⟨cop,cdst,cself,cfrm,cval,cmv,cgas,.slice none 0 0,.slice ql l.length kl,cpl,cn,cstat⟩)::rest)
    have hPart:∀ w,Calls Tryz.prog 33 #[.int .u64 ((gas - k:Nat):Int)] w (Ret w (.int .u64 ((keepV (gas - k):Nat):Int))):=fun w=>Part_calls (gas - k) (by omega) w
    (refine nNz<|zI ?_)
    apply CW.pre
    refine AnyW.any 20 mixed (by decide +kernel) ?_
    ((try simp only [tsOf_cons,tsOf_nil,tsOf_app]);refine dvz (.move rfl)<|dvz (.move rfl)<|dvz (.nilCheck rfl)<|dvz (.fieldAddr rfl rfl)<|dvz (.fieldAddr rfl rfl) ?_;apply qD;rfl;rfl;rfl;exact zC;rfl;apply zP;exact zN;exact bg_rd5;refine dvz (.move rfl)<|dvz (.nilCheck rfl)<|dvz (.fieldAddr rfl rfl)<|dvz (.fieldAddr rfl rfl) ?_;apply qD;rfl;rfl;rfl;exact zC;rfl;apply zP;exact zN;exact bg_rd21;refine dvz (.indexAddrSL rfl rfl (by decide) (by omega)) ?_;apply DW.loadX;rfl;rfl;rfl;exact zC;rfl;assumption;simp;assumption;refine dvz (.move rfl)<|dvz (.nilCheck rfl)<|dvz (.fieldAddr rfl rfl) ?_;apply qD;rfl;rfl;rfl;exact zC;rfl;apply zP;exact zN;exact bg_rd37)
    refine DW.callA us (v:=.int .u64 (createdA self x0 l:Int)) rfl rfl rfl (by (exact zC)) rfl inferInstance (by (exact .cons rfl (.cons rfl (.cons rfl .nil)))) (by rw [List.flatMap_cons,List.flatMap_cons,List.flatMap_cons,hbl];simp [blocksN,wc]) (fun p hp=>AncT.lie (by (refine AncT.cons ?_ ?_;exact zN;exact AncT.tsOf)) (by have hp:=hgl p (hin p hp);simp [fsOf,tsOf,tsNew,tsTag,markAll,Function.comp_def,hp])) (fun w' hbw hu=>Created_calls self x0 l hsf hw3 _ w' (hrows w' hu) hll (hT.st ⟨hbw,(fun p h=>by cases h),.nil⟩) (hN.st ⟨hbw,(fun p h=>by cases h),.nil⟩)) ?_
    (try simp only [markAll_cons,markAll_app,markAll_tsOf,markAll_tag,markAll_new,markAll_nil])
    ((try simp only [tsOf_cons,tsOf_nil,tsOf_app]);refine dvz (.nilCheck rfl)<|dvz (.fieldAddr rfl rfl) ?_;apply DW.nil;simp only [fsOf_cons,fsOf_nil,fsOf_app,fsOf_tsOf,fsOf_new,fsOf_tag,fsOf_mark])
    (apply zR;rfl;rfl;apply qA;apply bg_wr27 (z:=.int .u64 0);refine nNz<|zI ?_;apply CW.pre;refine AnyW.any 15 mixed (by decide +kernel) ?_;(try simp only [tsOf_cons,tsOf_nil,tsOf_app]);refine dvz (.move rfl)<|dvz (.move rfl)<|dvz (.move rfl)<|dvz (.nilCheck rfl)<|dvz (.fieldAddr rfl rfl) ?_;apply qD;rfl;rfl;rfl;exact zC;rfl;apply zP;exact zN;exact bg_rd27;refine dvz (.move rfl)<|dvz (.nilCheck rfl)<|dvz (.fieldAddr rfl rfl)<|dvz (.fieldAddr rfl rfl) ?_;apply qD;rfl;rfl;rfl;exact zC;rfl;apply zP;exact zN;exact bg_rd4;apply DW.callE;rfl;rfl;rfl;exact zC;rfl;infer_instance;exact .cons rfl .nil;rfl;exact ReadAll.nil;intro w _ _;exact hPart w;refine dvz (.nilCheck rfl)<|dvz (.fieldAddr rfl rfl) ?_;apply DW.store;rfl;rfl;exact zC;rfl;rfl;apply TSet.head;exact zN;kernel_rfl;apply bg_wr28 (z:=.int .u64 0);apply DW.nil;simp only [fsOf_cons,fsOf_nil,fsOf_app,fsOf_tsOf,fsOf_new,fsOf_tag,fsOf_mark];refine vNz<|vFz ?_;apply zR;rfl;rfl;apply qA;apply bg_wr35 (z:=.int .u64 0);refine nNz<|zL<|vMz<|vMz<|vNz<|vFz<|ldz rfl .head bg_rd35 ?_)
    refine LW.callP (K:=fun x fs'=>(keepV (gas - k)≤gas - k∧x=.returned (.tuple #[])∧fs'=(b,bgO (FrV.setGas ⟨code,pc,stk,mem,gas - k,self,frm,val,inp,back,stat⟩ (gas - k - keepV (gas - k))) ⟨kind,op,.slice (some ⟨bw,off,none⟩) ws.length cc,dt,cold,vl,new⟩ ⟨cop,createdA self x0 l,createdA self x0 l,cfrm,cval,cmv,keepV (gas - k),.slice none 0 0,.slice ql l.length kl,cpl,cn,cstat⟩)::rest)∨(gas - k < keepV (gas - k)∧x=.panicked offC∧fs'=rest)) rfl rfl inferInstance (by (exact .cons rfl (.cons rfl .nil))) rfl (fun fs h=>by rcases h with ⟨_,h,_⟩|⟨_,h,_⟩<;>cases h) (fun w' hst=>bspend_calls w0 b ⟨code,pc,stk,mem,gas - k,self,frm,val,inp,back,stat⟩ _ _ (keepV (gas - k)) (by dsimp only;omega) rest w' hst) ?_ ?_
    ·rintro v fs' (⟨hkg2,h,rfl⟩|⟨_,h,_⟩)
     ·cases h
      (apply zV)
      exact inPI (.inr rfl) .nil rfl .nil rfl ⟨_,.inr ⟨⟨hc,hkg⟩,rfl,rfl⟩,_,.refl _,.refl _⟩
     ·cases h
    ·rintro ch fs' (⟨_,h,_⟩|⟨hkg2,h,rfl⟩)
     ·cases h
     ·exact absurd hkg2 (by unfold keepV;omega)
   ·cases h
  ·rintro ch fs' (⟨_,h,_⟩|⟨hkg,h,rfl⟩)
   ·cases h
   ·cases h
    refine thenP ?_
    exact inPP .nil ⟨_,.inl ⟨fun h=>by omega,rfl,rfl⟩,_,.refl _,.refl _⟩
 ·have hCk:∀ w' {c E},St w0 [] ([(b,.cells c E (0,0))]++rest) w'→Calls Tryz.prog 48 #[.slice ql l.length kl] w' (Ret w' (.int .i64 3)):=fun w' c E hst=>by have h:=hCk0 w' hst;rwa [if_neg hc] at h
  (refine sRz<|vMz<|vNz<|vFz<|vAz<|nSz<|vMz<|vMz<|vMz<|vNz<|vFz<|ldz rfl .head bg_rd36<|vNz<|vFz ?_;refine zR rfl rfl .head bg_wr37<|vNz<|vFz ?_;refine zR rfl rfl .head bg_wr36<|nNz<|zI<|sRz<|vMz<|vNz<|vFz<|ldz rfl .head bg_rd37 ?_;apply zS;rfl;rfl;infer_instance;exact .cons rfl .nil;intro w _;rename_i hst;exact hCk w hst;refine lvz (.neT rfl rfl (by omega)) ?_;refine nNz<|cTz<|zL ?_;apply LW.v0;rfl;rfl;apply zW;infer_instance;infer_instance;exact zB;rfl;simp only [fillP,wrCells,Value.cells,qH,qI,qJ,qG,qL,qK,Nat.reduceAdd,qN];rfl;apply LW.v0;rfl;rfl;apply ValP.mkIface;kernel_rfl;rfl;apply LW.panic;rfl;refine thenP ?_)
  exact inPP .nil ⟨rest,.inl ⟨fun h=>hc h.1,rfl,rfl⟩,subp_ix [[_]] (xs:=[]) (ys:=[0]) rest rfl⟩
end
section
open SK (TurnAt NumAt)
theorem shq245:shq 245=(4,-1,0,1,-1,true):=rfl
attribute [local irreducible] SL.inP SL.inD SL.outD wordI shq createdA
theorem breachN_calls (b:Nat) (w:World):Calls Tryz.prog 90 #[.pointer (some ⟨b,0,none⟩),.int .i64 (-1)] w (Ret w (.tuple #[.slice none 0 0,.int .u64 0,.int .u64 0])):=by
 refine enter (args:=[_,_]) _ [] [] Tryz.func90 rfl Tryz.ntmps90 rfl (by simp) .nil ?_
 (refine sRz<|vAz<|vAz<|vAz<|nNz<|zI<|sRz<|vMz ?_;refine lvz (.lssT rfl rfl (by omega)) ?_;refine nNz<|cTz<|sRz<|vAz<|vAz<|vAz<|nNz<|zK<|thenR ?_)
 (apply finR;exact .inl rfl;rfl;rfl;rfl;apply zD;exact zG rfl;apply zD;exact zG rfl;apply zD;exact zG rfl;exact zF)
 rfl
def BReachesX (b:Nat) (f:FrV) (L:FrL) (A:AkV) (c:ClV) (a1 n1:Nat) (rest:Fs):Out:=fun x fs' =>
 (reachG f.gas L a1 n1=none∧x=.panicked offC∧fs'=rest)∨∃ g1 L1,reachG f.gas L a1 n1=some (g1,L1)∧∃ cc s m i b5 gs' lv gl,x=.returned (.tuple #[])∧FrO (f.rowsG g1 cc s m i b5) L1 gs'∧bM ((L1.ms.drop a1).take n1) lv gl∧fs'=(b,bgO (f.rowsG g1 cc s m i b5) A { c with inp:=lv,pl:=0,n:=0 })::(gs'++(gl++rest))
theorem breachesX_calls (w0:World) (b:Nat) (f:FrV) (L:FrL) (A:AkV) (c:ClV) (ws:List Nat) (hM:∀ x∈ws,x < M256) (hqi:(shq A.op).2.2.2.1=1) (hqj:(shq A.op).2.2.2.2.1=-1) (hi:2 < ws.length) (hll:ws.length≤100) (hF:okF f L) (gs rest:Fs) (hfr:FrA w0 f L gs) (w:World) (hv:RowAt w0 4 A.ws ws.length (wcs ws)) (hs:St w0 [] ((b,bgO f A c)::(gs++rest)) w) :
  Calls Tryz.prog 58 #[.pointer (some ⟨b,0,none⟩)] w (fun x w'=>∃ fs',BReachesX b f L A c (wordI ws 1) (wordI ws 2) rest x fs'∧St w0 [] fs' w'):=by
 obtain ⟨cop,cdst,cself,cfrm,cval,cmv,cgas,cinp,ccode,cpl,cn,cstat⟩:=c
 have hs17:∀ {f c E fr},Rd Tryz.prog 3 (.cells (bga f A c) E fr) 17 (.int .i64 1):=fun {f c E fr}=>by have h:=bg_rd17 (P:=Tryz.prog) (T:=3) (E:=E) (fr:=fr) (A:=A) (f:=f) (c:=c);rw [hqi] at h;exact h
 have hs18:∀ {f c E fr},Rd Tryz.prog 3 (.cells (bga f A c) E fr) 18 (.int .i64 (-1)):=fun {f c E fr}=>by have h:=bg_rd18 (P:=Tryz.prog) (T:=3) (E:=E) (fr:=fr) (A:=A) (f:=f) (c:=c);rw [hqj] at h;exact h
 refine calls_anyO (calls_inlineP (K:=anyO (BReachesX b f L A ⟨cop,cdst,cself,cfrm,cval,cmv,cgas,cinp,ccode,cpl,cn,cstat⟩ (wordI ws 1) (wordI ws 2) rest)) (args:=[_]) Tryz.func58 rfl Tryz.ntmps58 rfl ?_ hs)
 (refine sRz<|vMz<|vMz<|vMz<|vNz<|vFz<|vFz<|ldz rfl .head hs17 ?_)
 refine LW.callP (K:=BReachK w0 b f L A _ (wordI ws 1) (wordI ws 2) rest) rfl rfl inferInstance (by (exact .cons rfl (.cons rfl .nil))) rfl BReachK.plain (fun w' hst=>breach_calls w0 b f L A _ ws hM 1 (by omega) hll hF gs rest hfr w' hv hst) ?_ ?_
 ·intro v fs' hK
  unfold BReachK at hK
  rw [reachR_G] at hK
  cases hR:reachG f.gas L (wordI ws 1) (wordI ws 2) with
  |none=>rw [hR] at hK;cases hK.1
  |some x =>
   rw [hR] at hK
   obtain ⟨g1,L1⟩:=x
   obtain ⟨cc,s1,m1,i1,b1,gs1,lv,gl,h1,hfr1,hlv,rfl⟩:=hK
   cases h1
   have hlv':=hlv
   unfold bM at hlv'
   obtain ⟨q1,k1,rfl⟩:=hlv'.form
   (refine vMz ?_;refine vEz ?_;refine vEz ?_;refine vEz ?_;refine vNz<|vFz<|vFz ?_;refine zR rfl rfl .head bg_wr36<|nNz<|zL<|vMz<|vMz<|vMz<|vMz<|vNz<|vFz<|vFz<|ldz rfl .head hs18 ?_;apply zS;rfl;rfl;infer_instance;exact .cons rfl (.cons rfl .nil);intro w _;exact breachN_calls b w;refine vMz ?_;refine vEz ?_;refine vEz ?_;refine vEz ?_;refine vNz<|vFz<|vFz ?_;apply zR;rfl;rfl;apply qA;apply bg_wr38 (z:=.int .u64 0);refine vNz<|vFz<|vFz ?_;apply zR;rfl;rfl;apply qA;apply bg_wr39 (z:=.int .u64 0);apply zV)
   exact inPI (.inr rfl) .nil rfl .nil rfl ⟨_,.inr ⟨g1,L1,hR,cc,s1,m1,i1,b1,gs1,_,gl,rfl,hfr1,hlv,rfl⟩,_,.refl _,.refl _⟩
 ·intro ch fs' hK
  unfold BReachK at hK
  rw [reachR_G] at hK
  cases hR:reachG f.gas L (wordI ws 1) (wordI ws 2) with
  |none =>
   rw [hR] at hK
   obtain ⟨h1,rfl⟩:=hK
   cases h1
   refine thenP ?_
   exact inPP .nil ⟨_,.inl ⟨hR,rfl,rfl⟩,_,.refl _,.refl _⟩
  |some x=>rw [hR] at hK;obtain ⟨_,_,_,_,_,_,_,_,h,_⟩:=hK;cases h
end
section
open SK (TurnAt NumAt)
def BegA (f:FrV) (R:Option (Nat × FrL × ClL × ClV)) (v:Value) (gs:Fs):Prop:=match R with
 |none=>v=.tuple #[frv zeroF,clv zeroC,.bool false]∧gs=[]
 |some (g,L',M,c)=>∃ cc s m i b iv kv g1 g2,v=.tuple #[frv (f.rowsG g cc s m i b),clv { c with inp:=iv,code:=kv },.bool true]∧gs=g1++g2∧FrO (f.rowsG g cc s m i b) L' g1∧ClO { c with inp:=iv,code:=kv } M g2
def beginX (f:FrV) (L:FrL) (ws:List Nat):Option (Nat × FrL × ClL × ClV) :=
 match reachG f.gas L (wordI ws 1) (wordI ws 2) with
 |none=>none
 |some (g1,L1) =>
  let l:=(L1.ms.drop (wordI ws 1)).take (wordI ws 2)
  if l.length≤200∧creV l.length≤g1 then some (g1 - creV l.length - keepV (g1 - creV l.length),L1,⟨[],l⟩,creC { whoC f 245 ws with pl:=0,n:=0 } (createdA f.self (ws.getD 3 0) l) (keepV (g1 - creV l.length)) (.slice none 0 0)) else none
def beginA (f:FrV) (L:FrL) (A:AkV) (ws:List Nat):Option (Nat × FrL × ClL × ClV) :=
 if askB A.kind A.op ws.length=true∧okF f L then (if A.op=245 then beginX f L ws else (beginG f L A ws).map fun x=>(x.1,x.2.1,⟨x.2.2.1,[]⟩,x.2.2.2)) else none
theorem beginX_no1 {f:FrV} {L:FrL} {ws:List Nat} (h:reachG f.gas L (wordI ws 1) (wordI ws 2)=none):beginX f L ws=none:=by unfold beginX;rw [h]
theorem beginX_no2 {f:FrV} {L L1:FrL} {ws:List Nat} {g1:Nat} (h:reachG f.gas L (wordI ws 1) (wordI ws 2)=some (g1,L1)) (h2:¬ (((L1.ms.drop (wordI ws 1)).take (wordI ws 2)).length≤200∧creV ((L1.ms.drop (wordI ws 1)).take (wordI ws 2)).length≤g1)):beginX f L ws=none:=by
 unfold beginX;rw [h];exact if_neg h2
theorem beginX_some {f:FrV} {L L1:FrL} {ws:List Nat} {g1:Nat} (h:reachG f.gas L (wordI ws 1) (wordI ws 2)=some (g1,L1)) (h2:((L1.ms.drop (wordI ws 1)).take (wordI ws 2)).length≤200∧creV ((L1.ms.drop (wordI ws 1)).take (wordI ws 2)).length≤g1) :
  beginX f L ws=some (g1 - creV ((L1.ms.drop (wordI ws 1)).take (wordI ws 2)).length - keepV (g1 - creV ((L1.ms.drop (wordI ws 1)).take (wordI ws 2)).length),L1,⟨[],(L1.ms.drop (wordI ws 1)).take (wordI ws 2)⟩,creC { whoC f 245 ws with pl:=0,n:=0 } (createdA f.self (ws.getD 3 0) ((L1.ms.drop (wordI ws 1)).take (wordI ws 2))) (keepV (g1 - creV ((L1.ms.drop (wordI ws 1)).take (wordI ws 2)).length)) (.slice none 0 0)):=by
 unfold beginX;rw [h];exact if_pos h2
theorem whoC_nil (f:FrV) (op:Nat) (ws:List Nat):(whoC f op ws).code=.slice none 0 0∧(whoC f op ws).inp=.slice none 0 0:=by
 unfold whoC
 split<;>exact ⟨rfl,rfl⟩
attribute [local irreducible] SL.inP SL.inD SL.outD wordI shq createdA whoC
theorem BeginX_calls (f:FrV) (L:FrL) (A:AkV) (ws:List Nat) (hM:∀ x∈ws,x < M256) (hd:∃ p n c,A.dt=.slice p n c) (hask:askB A.kind A.op ws.length=true) (he:A.op=245) (hF:okF f L) (hsf:f.self < 18446744073709551616) (w:World) (hf:FrRows w f L) (hv:RowAt w 4 A.ws ws.length (wcs ws)) (hT:TurnAt w) (hN:NumAt w) :
  Calls Tryz.prog 26 #[frv f,.agg (aska A.kind A.op A.ws A.dt),.agg #[.bool A.cold,.bool A.vl,.bool A.new]] w (RetG w [] (BegA f (beginX f L ws))):=by
 have hst0:St w [] [] w:=⟨Bel.refl _ _ _,(fun p h=>by cases h),.nil⟩
 have hv0:=hv
 have hq0:=hask
 unfold askB at hq0
 rw [Bool.and_eq_true,Bool.and_eq_true,decide_eq_true_eq,decide_eq_true_eq] at hq0
 obtain ⟨hq1,hq2,hq3⟩:=hq0
 obtain ⟨kind,op,aws,dt,cold,vl,new⟩:=A
 obtain ⟨q,d,e,hd⟩:=hd
 dsimp only at hd hask he hq1 hq2 hq3 hv ⊢
 subst hd he
 have h4:ws.length=4:=by rw [shq245] at hq3;omega
 obtain ⟨p,c,rfl,_,_⟩:=id hv.form
 have hzs:=zero_sl
 have hsl:=hf.sl
 have hSh:∀ w,Calls Tryz.prog 53 #[.agg (aska kind 245 (.slice p ws.length c) (.slice q d e))] w (Ret w (.tuple #[.agg (shc 245).toArray,.bool true])):=fun w=>by
  have h:=shapeOf_calls kind 245 ws.length c p q d e w
  rwa [hask] at h
 have hFc:∀ w' {fs:Fs},St w [] fs w'→Calls Tryz.prog 31 #[frv f] w' (Ret w' (.int .i64 0)):=fun w' fs hst=>by have h:=fCheck_calls f L w' (hf.st hst);rwa [if_pos hF] at h
 refine calls_inlineD (w0:=w) (S:=[]) (args:=[_,_,_]) (R:=RetG w [] (BegA f (beginX f L ws))) Tryz.func26 rfl Tryz.ntmps26 rfl ?_ hst0
 (refine sRz ?_;apply zT;rfl;rfl;intro _;apply zT;rfl;rfl;intro _;apply zT;rfl;rfl;intro _;apply zU;rfl;intro _;apply zU;rfl;intro _;refine vAz<|nSz<|ldz rfl (.tail (.tail (.tail .head))) ask_rdW ?_;apply zS;rfl;rfl;infer_instance;exact .cons rfl .nil;intro w _;exact hSh w;refine vMz ?_;refine vEz ?_;refine vEz ?_;apply zU;rfl;intro _;refine zR rfl rfl .head (.whole rfl rfl rfl)<|vAz<|nNz<|zI<|sRz<|vMz ?_;refine lvz (.notT rfl (by with_reducible rfl)) ?_;refine vMz<|gTz<|ldz rfl (.tail (.tail (.tail (.tail (.tail .head))))) fr_rdW<|gTz ?_;apply zS;rfl;rfl;infer_instance;exact .cons rfl .nil;intro w _;exact hFc w (by assumption);refine gTz ?_;refine lvz (.neF rfl rfl (by omega)) ?_;refine pFz<|nNz<|cFz<|zJ<|thenN<|sRz<|ldz rfl (.tail (.tail (.tail (.tail (.tail .head))))) fr_rdW<|ldz rfl .head sh_rdW<|ldz rfl (.tail (.tail (.tail (.tail .head)))) ask_rdW<|ldz rfl (.tail (.tail (.tail .head))) (qF rfl) ?_;apply LW.v0;rfl;rfl;apply zW;infer_instance;infer_instance;apply zA;rfl;apply zA;rfl;apply zA;rfl;apply zA;rfl;exact zB;rfl;simp only [fillP,wrCells,fra,frc,bga,bgl,shc,aska,wc,zeroC,clc,Value.cells,qH,qI,qJ,qG,qL,qK,List.cons_append,List.nil_append,Nat.reduceAdd,qN];rfl;apply zT;rfl;rfl;intro _;refine vAz<|nSz ?_)
 rename_i b3 b4 b5 b6 b7 b9 bB
 refine LW.subP (fs':=(bB,bgO f ⟨kind,245,.slice p ws.length c,.slice q d e,cold,vl,new⟩ zeroC)::(b6,.cells (fra zeroF) 31 (0,0))::(b7,.cells (cla zeroC) 33 (0,0))::(b4,.cells (aska kind 245 (.slice p ws.length c) (.slice q d e)) 61 (0,0))::[]) ?_ ?_
 ·exact subp_ix [[_],[_],[_],[_],[_],[_],[_]] (xs:=[0,3,2,5]) (ys:=[0,1,2,3,4,5,6]) [] rfl
 apply LW.defer
 rfl
 rfl
 (apply zV;refine thenM<|sRz<|vMz ?_;apply LW.v0;rfl;rfl;apply ValP.makeFunc;exact .cons rfl .nil;exact ArgsOk.nil;refine vAz<|nNz<|zI<|sRz<|vFz<|ldz rfl (.tail (.tail (.tail .head))) ask_rd1 ?_;refine lvz (.eqT rfl rfl (by omega)) ?_;refine nNz<|cTz<|zL<|vMz ?_;apply LW.v0;rfl;rfl;apply ValP.makeFunc;exact .cons rfl .nil;exact ArgsOk.nil;refine vAz<|nNz<|zI<|sRz<|vMz ?_;apply LW.v0;rfl;rfl;apply ValP.makeFunc;exact .cons rfl .nil;exact ArgsOk.nil;refine vMz ?_;apply LW.v0;rfl;rfl;apply ValP.makeFunc;exact .cons rfl .nil;exact ArgsOk.nil;refine vMz ?_;apply LW.v0;rfl;rfl;apply ValP.buildA;apply zA;rfl;apply zA;rfl;apply zA;rfl;exact zB;rfl;simp only [fillC,wc,wrCells,Value.cells,qJ,qG,qL,qK,Nat.reduceAdd,Nat.reduceMul,qN,Nat.mul_one];rfl;refine vMz<|nNz<|zM ?_)
 apply CW.rounds 4
 apply RW.step
 (refine sRz ?_;refine lvz (.lssT rfl rfl (by omega)) ?_;refine nNz<|zI<|cTz<|zJ<|thenN<|zI<|zM<|sRz<|lvz (.indexAL rfl rfl rfl rfl rfl)<|vAz<|nNz<|zL<|vMz ?_)
 refine LW.callP (K:=fun x fs'=>x=.returned (.tuple #[])∧fs'=(bB,bgO f ⟨kind,245,.slice p ws.length c,.slice q d e,cold,vl,new⟩ (whoC f 245 ws))::((b6,.cells (fra zeroF) 31 (0,0))::(b7,.cells (cla zeroC) 33 (0,0))::(b4,.cells (aska kind 245 (.slice p ws.length c) (.slice q d e)) 61 (0,0))::[])) rfl rfl inferInstance (by (exact ArgsOk.nil)) rfl (fun fs h=>by cases h.1) (fun w' hst=>who_calls w bB f ⟨kind,245,.slice p ws.length c,.slice q d e,cold,vl,new⟩ ws hM hq3.symm hq1 _ w' hv hst) ?_ ?_
 ·rintro v fs' ⟨h,rfl⟩
  cases h
  (apply zV;refine blkN<|thenN<|zL ?_;refine lvz (.addI rfl rfl (by omega) (by omega)) ?_;refine vMz ?_;apply zV;refine thenL ?_)
  apply RW.step
  (refine sRz ?_;refine lvz (.lssT rfl rfl (by omega)) ?_;refine nNz<|zI<|cTz<|zJ<|thenN<|zI<|zM<|sRz<|lvz (.indexAL rfl rfl rfl rfl rfl)<|vAz<|nNz<|zL<|vMz ?_)
  refine LW.callP (K:=BReachesX bB f L ⟨kind,245,.slice p ws.length c,.slice q d e,cold,vl,new⟩ (whoC f 245 ws) (wordI ws 1) (wordI ws 2) ((b6,.cells (fra zeroF) 31 (0,0))::(b7,.cells (cla zeroC) 33 (0,0))::(b4,.cells (aska kind 245 (.slice p ws.length c) (.slice q d e)) 61 (0,0))::[])) rfl rfl inferInstance (by (exact ArgsOk.nil)) rfl (fun fs h=>by rcases h with ⟨_,h,_⟩|⟨_,_,_,_,_,_,_,_,_,_,_,h,_⟩<;>cases h) (fun w' hst=>breachesX_calls w bB f L ⟨kind,245,.slice p ws.length c,.slice q d e,cold,vl,new⟩ _ ws hM (by dsimp only;rw [shq245]) (by dsimp only;rw [shq245]) (by omega) (by omega) hF [] _ (.inl ⟨rfl,hf⟩) w' hv hst) ?_ ?_
  ·rintro v fs' (⟨_,h,_⟩|⟨g1,L1,hR1,cc,s1,m1,i1,x1,gs1,lv,gl,h1,hfr,hlv,rfl⟩)
   ·cases h
   cases h1
   have hF1:=okF_reach (c:=cc) (s:=s1) (m:=m1) (i:=i1) (b:=x1) hF hR1
   (apply zV;refine blkN<|thenN<|zL ?_;refine lvz (.addI rfl rfl (by omega) (by omega)) ?_;refine vMz ?_;apply zV;refine thenL ?_)
   apply RW.step
   (refine sRz ?_;refine lvz (.lssT rfl rfl (by omega)) ?_;refine nNz<|zI<|cTz<|zJ<|thenN<|zI<|zM<|sRz<|lvz (.indexAL rfl rfl rfl rfl rfl)<|vAz<|nNz<|zL<|vMz ?_)
   obtain ⟨l,hl⟩:∃ l,(L1.ms.drop (wordI ws 1)).take (wordI ws 2)=l:=⟨_,rfl⟩
   rw [hl] at hlv
   have hll:l.length≤100000:=by
    have h5:=hF1.2.2.2.1.2.1
    rw [← hl,List.length_take,List.length_drop]
    omega
   refine LW.callP (K:=BCreatesK bB (f.rowsG g1 cc s1 m1 i1 x1) ⟨kind,245,.slice p ws.length c,.slice q d e,cold,vl,new⟩ { whoC f 245 ws with inp:=lv,pl:=0,n:=0 } l lv (ws.getD 3 0) (gs1++(gl++((b6,.cells (fra zeroF) 31 (0,0))::(b7,.cells (cla zeroC) 33 (0,0))::(b4,.cells (aska kind 245 (.slice p ws.length c) (.slice q d e)) 61 (0,0))::[])))) rfl rfl inferInstance (by (exact ArgsOk.nil)) rfl (fun fs h=>by rcases h with ⟨_,h,_⟩|⟨_,h,_⟩<;>cases h) (fun w' hst=>bcreates_calls w bB (f.rowsG g1 cc s1 m1 i1 x1) ⟨kind,245,.slice p ws.length c,.slice q d e,cold,vl,new⟩ { whoC f 245 ws with inp:=lv,pl:=0,n:=0 } ws hM h4 hF1.1.2.2 hsf l gl hlv hll _ (fun p hp=>List.mem_append_right _ (List.mem_append_left _ hp)) hT hN w' hv hst) ?_ ?_
   ·rintro v fs' (⟨_,h,_⟩|⟨hk,h,rfl⟩)
    ·cases h
    ·cases h
     have hBeg:=beginX_some (f:=f) (L:=L) (ws:=ws) hR1 (by rw [hl];exact hk)
     rw [hl] at hBeg
     rw [hBeg]
     (apply zV;refine blkN<|thenN<|zL ?_;refine lvz (.addI rfl rfl (by omega) (by omega)) ?_;refine vMz ?_;apply zV;refine thenL ?_)
     apply RW.step
     (refine sRz ?_;refine lvz (.lssF rfl rfl (by omega)) ?_;refine nNz<|zI<|cFz<|CW.exit<|thenE<|thenE<|blkE rfl<|thenN<|zI ?_)
     have hfr3:FrO ((f.rowsG g1 cc s1 m1 i1 x1).setGas (g1 - creV l.length - keepV (g1 - creV l.length))) L1 gs1:=hfr
     have hfa:FrA w ((f.rowsG g1 cc s1 m1 i1 x1).setGas (g1 - creV l.length - keepV (g1 - creV l.length))) L1 gs1:=.inr hfr3
     obtain ⟨us,hbl,hin,hrows⟩:=hfa.lie
     have hlv':=hlv
     unfold bM at hlv'
     obtain ⟨q4,k4,rfl⟩:=hlv'.form
     apply CW.pre
     (refine AnyW.anyM [(4,CopyR ((f.rowsG g1 cc s1 m1 i1 x1).setGas (g1 - creV l.length - keepV (g1 - creV l.length))) L1)] 10 mixed (by decide +kernel) ?_)
     ((try simp only [tsOf_cons,tsOf_nil,tsOf_app]);refine dvz (.move rfl)<|dvz (.nilCheck rfl)<|dvz (.fieldAddr rfl rfl) ?_;apply qD;rfl;rfl;rfl;exact zC;rfl;apply zP;exact zN;exact bg_rdF)
     refine DW.manyA us rfl rfl rfl (by (exact zC)) rfl inferInstance (by (exact .cons rfl .nil)) (by rw [List.flatMap_cons];exact (List.append_nil _).trans hbl) (fun p hp=>?_) (fun w' hb hu=>callCopied_calls _ L1 hF1.short w' (hrows w' hb hu)) ?_
     ·rcases hin p hp with h|h
      ·exact .inl ⟨[],[],by simp [tsOf,h],anc_nil⟩
      ·exact .inr ⟨h,by simp⟩
     rintro vT gT ⟨c4,s4,m4,i4,x4,rfl,hfr4⟩
     have hsl4:=hfr4.sl
     have hcl4:=cl_cells (c:=creC { whoC f 245 ws with inp:=.slice q4 l.length k4,pl:=0,n:=0 } (createdA f.self (ws.getD 3 0) l) (keepV (g1 - creV l.length)) (.slice q4 l.length k4)) ⟨_,_,_,rfl⟩ ⟨_,_,_,rfl⟩
     simp only [markAll_app,markAll_cons,markAll_tsOf,markAll_nil]
     ((try simp only [tsOf_cons,tsOf_nil,tsOf_app]);refine dvz (.move rfl)<|dvz (.nilCheck rfl)<|dvz (.fieldAddr rfl rfl) ?_;apply qD;rfl;rfl;rfl;exact zC;rfl;apply zQ;apply zP;exact zN;exact bg_rdC;apply DW.store;rfl;rfl;exact zC;rfl;rfl;apply TSet.app;apply TSet.tail;apply TSet.app;apply TSet.app;apply TSet.head;exact zN;kernel_rfl;apply fr_wrW;rfl;assumption;apply DW.nil;simp only [fsOf_cons,fsOf_nil,fsOf_app,fsOf_tsOf,fsOf_new,fsOf_tag])
     try simp only [fsOf_mark,fsOf_cons,fsOf_nil,fsOf_app,fsOf_tsOf,fsOf_new,fsOf_tag,List.append_eq,List.nil_append]
     (apply zR;rfl;rfl;apply qC;apply qB;apply qC;apply qC;apply qB;apply qA;apply cl_wrW;rfl;exact hcl4;refine vAz<|nNz<|zK ?_)
     refine outDI (.inl rfl) rfl fun a w2 s2=>?_
     refine leaves_clo (K:=fun e fs'=>e=.returned (.tuple #[])∧∃ b1,fs'=b1::_) inferInstance (fun h=>by cases h) (begin1_idle w [] _ w2 s2.st) (fun fs h=>by cases h.1) ?_ ?_
     ·rintro v fs' w' ⟨_,b1,rfl⟩ hst
      refine leaves_end (vs:=[frv (f.rowsG (g1 - creV l.length - keepV (g1 - creV l.length)) c4 s4 m4 i4 x4),clv (creC { whoC f 245 ws with inp:=.slice q4 l.length k4,pl:=0,n:=0 } (createdA f.self (ws.getD 3 0) l) (keepV (g1 - creV l.length)) (.slice q4 l.length k4)),.bool true]) (w:=w') rfl s2.env hst ?_ rfl ?_
      ·(apply zD;apply zH;rfl;apply qE;apply zX;apply zZ;apply zX;apply zZ;apply zZ;apply zY;exact fr_rdW;apply zD;apply zH;rfl;apply qE;apply zX;apply zZ;apply zX;apply zZ;apply zZ;apply zX;apply zY;exact cl_rdW;apply zD;exact zG rfl;exact zF)
      ·have h9:=st_sub (gs:=gT++gl) hst (.cons _ (.append_left (.cons _ (List.Sublist.trans (qP gl _) (List.sublist_append_right gs1 _))) _))
       unfold RetG
       exact ⟨_,gT++gl,rfl,⟨c4,s4,m4,i4,x4,.slice none 0 0,.slice q4 l.length k4,gT,gl,rfl,rfl,hfr4,[],gl,(List.append_nil _).symm,.nil,hlv⟩,hst.bel,h9.own,h9.nd⟩
     ·rintro ch fs' w' ⟨h,_⟩
      cases h
   ·rintro ch fs' (⟨hk,h,rfl⟩|⟨_,h,_⟩)
    ·cases h
     rw [beginX_no2 hR1 (by rw [hl];exact hk)]
     (repeat (first|refine thenP ?_|refine blkP ?_))
     refine outDP rfl fun a w2 s2=>?_
     refine leaves_clo (K:=fun e fs'=>e=.returned (.tuple #[])∧∃ b1,fs'=b1::_) inferInstance (fun h=>by cases h) (begin1_off w [] _ w2 s2.st) (fun fs h=>by cases h.1) ?_ ?_
     ·rintro v fs' w' ⟨_,b1,rfl⟩ hst
      refine leaves_end (vs:=[frv zeroF,clv zeroC,.bool false]) (w:=w') rfl s2.env hst ?_ rfl ?_
      ·(apply zD;apply zH;rfl;apply qE;apply zX;apply zZ;apply zZ;apply zY;exact fr_rdW;apply zD;apply zH;rfl;apply qE;apply zX;apply zZ;apply zZ;apply zX;apply zY;exact cl_rdW;apply zD;exact zG rfl;exact zF)
      ·unfold RetG;exact ⟨_,[],rfl,⟨rfl,rfl⟩,hst.bel,(fun p hp=>by cases hp),.nil⟩
     ·rintro ch fs' w' ⟨h,_⟩
      cases h
    ·cases h
  ·rintro ch fs' (⟨hR,h,rfl⟩|⟨_,_,_,_,_,_,_,_,_,_,_,h,_⟩)
   ·cases h
    rw [beginX_no1 hR]
    (repeat (first|refine thenP ?_|refine blkP ?_))
    refine outDP rfl fun a w2 s2=>?_
    refine leaves_clo (K:=fun e fs'=>e=.returned (.tuple #[])∧∃ b1,fs'=b1::_) inferInstance (fun h=>by cases h) (begin1_off w [] _ w2 s2.st) (fun fs h=>by cases h.1) ?_ ?_
    ·rintro v fs' w' ⟨_,b1,rfl⟩ hst
     refine leaves_end (vs:=[frv zeroF,clv zeroC,.bool false]) (w:=w') rfl s2.env hst ?_ rfl ?_
     ·(apply zD;apply zH;rfl;apply qE;apply zX;apply zY;exact fr_rdW;apply zD;apply zH;rfl;apply qE;apply zX;apply zX;apply zY;exact cl_rdW;apply zD;exact zG rfl;exact zF)
     ·unfold RetG;exact ⟨_,[],rfl,⟨rfl,rfl⟩,hst.bel,(fun p hp=>by cases hp),.nil⟩
    ·rintro ch fs' w' ⟨h,_⟩
     cases h
   ·cases h
 ·rintro ch fs' ⟨h,_⟩
  cases h
end
section
open SK (TurnAt NumAt)
theorem RetG.imp {w:World} {S:List Nat} {Φ Ψ:Value→Fs→Prop} {e:Ending} {w':World} (hi:∀ v gs,Φ v gs→Ψ v gs) (h:RetG w S Φ e w'):RetG w S Ψ e w':=by
 unfold RetG at h ⊢
 obtain ⟨v,gs,h1,h2,h3⟩:=h
 exact ⟨v,gs,h1,hi _ _ h2,h3⟩
theorem Begin_calls (f:FrV) (L:FrL) (A:AkV) (ws:List Nat) (hM:∀ x∈ws,x < M256) (hd:∃ p n c,A.dt=.slice p n c) (hsf:f.self < 18446744073709551616) (w:World) (hf:FrRows w f L) (hv:RowAt w 4 A.ws ws.length (wcs ws)) (hT:TurnAt w) (hN:NumAt w) :
  Calls Tryz.prog 26 #[frv f,.agg (aska A.kind A.op A.ws A.dt),.agg #[.bool A.cold,.bool A.vl,.bool A.new]] w (RetG w [] (BegA f (beginA f L A ws))):=by
 by_cases hq:askB A.kind A.op ws.length=true∧okF f L
 ·have hb:beginA f L A ws=if A.op=245 then beginX f L ws else (beginG f L A ws).map fun x=>(x.1,x.2.1,⟨x.2.2.1,[]⟩,x.2.2.2):=if_pos hq
  rw [hb]
  by_cases he:A.op=245
  ·rw [if_pos he]
   exact BeginX_calls f L A ws hM hd hq.1 he hq.2 hsf w hf hv hT hN
  ·rw [if_neg he]
   refine Calls.mono (BeginC_calls f L A ws hM hd hq.1 he hq.2 w hf hv) fun e w' h=>RetG.imp (fun v gs h=>?_) h
   cases hR:beginG f L A ws with
   |none=>rw [hR] at h;exact h
   |some x =>
    obtain ⟨g,L',l,c⟩:=x
    rw [hR] at h
    obtain ⟨cc,s,m,i,b,lv,g1,g2,hv,hg,h1,h2⟩:=h
    have hc:c.code=.slice none 0 0:=by
     unfold beginG at hR
     dsimp only at hR
     split at hR
     ·cases hR
     ·split at hR
      ·cases hR
      ·split at hR
       ·cases hR
        exact (whoC_nil f A.op ws).1
       ·cases hR
    refine ⟨cc,s,m,i,b,lv,.slice none 0 0,g1,g2,?_,hg,h1,g2,[],rfl,h2,.nil⟩
    rw [hv,← hc]
 ·have hb:beginA f L A ws=none:=if_neg hq
  rw [hb]
  refine Calls.mono (Begin_bad f L A ws hd (by
   rcases Decidable.not_and_iff_or_not.1 hq with h|h
   ·exact .inl (by simpa using h)
   ·exact .inr h) w hf hv) fun e w' h=>RetG.imp (fun v gs h=>h) h
end
end Go.Proofs.YtpgdnfgjbhdbpaaGreatDoor
namespace Go.Proofs.YtpgdnfgjbhdbpaaGreatDoor
open Go Go.RowKit SL
set_option linter.unusedVariables false
theorem whoC_op (f:FrV) (op:Nat) (ws:List Nat):(whoC f op ws).op=op:=by
 unfold whoC
 split<;>rfl
theorem whoC_mv {f:FrV} {op:Nat} {ws:List Nat} (h:(shq op).2.2.2.2.2=true) (hm:(whoC f op ws).mv=true):op=241∨op=245:=by
 unfold whoC at hm
 split at hm
 ·cases hm
 ·rename_i h4
  rcases shq_ok h with ⟨ho,hs⟩|⟨ho,hs⟩|⟨ho,hs⟩
  ·exact .inl ho
  ·rw [hs] at hm
   simp [wordI] at hm
  ·exact .inr ho
theorem reach_range {f:FrV} {L L':FrL} {a n g:Nat} (h:okF f L) (hr:reachG f.gas L a n=some (g,L')):g≤f.gas∧L'.ms.length≤1024∧L'.ws=L.ws∧(0 < n→a+n≤1024∧a+n≤L'.ms.length):=by
 have hok:=okF_reach (c:=f.code) (s:=f.stk) (m:=f.mem) (i:=f.inp) (b:=f.back) h hr
 obtain ⟨hc,rfl,rfl⟩:=reachG_some hr
 have hE:=memV_le h.2.2.2.1.2.1 h.1.2.2 hc
 refine ⟨Nat.sub_le _ _,hok.2.2.2.1.2.1,rfl,fun h0=>?_⟩
 obtain ⟨h1,h2,_⟩:=reach_bounds h.2.2.2.1 h0 hE
 exact ⟨h1,h2⟩
structure BegP (f:FrV) (L:FrL) (A:AkV) (g:Nat) (L':FrL) (M:ClL) (c:ClV):Prop where
 fr:∀ cc s m i b,okF (f.rowsG g cc s m i b) L'
 cl:okC c M
 op:c.op=A.op
 mv:c.mv=true→A.op=241∨A.op=245
 stip:A.op=241→c.mv=true→230≤c.gas
 left:g+(if A.op=241∧c.mv=true then c.gas - 230 else c.gas)≤f.gas
 all:g+c.gas≤f.gas
 part:(if A.op=241∧c.mv=true then c.gas - 230 else c.gas)≤keepV (g+(if A.op=241∧c.mv=true then c.gas - 230 else c.gas))
 keep:(g+(if A.op=241∧c.mv=true then c.gas - 230 else c.gas)) / 64≤g
theorem beginG_P {f:FrV} {L:FrL} {A:AkV} {ws:List Nat} {g:Nat} {L':FrL} {l:List UInt8} {c:ClV} (hask:askB A.kind A.op ws.length=true) (hF:okF f L) (hne:¬ A.op=245) (h:beginG f L A ws=some (g,L',l,c)):BegP f L A g L' ⟨l,[]⟩ c:=by
 have hq0:=hask
 unfold askB at hq0
 rw [Bool.and_eq_true,Bool.and_eq_true,decide_eq_true_eq,decide_eq_true_eq] at hq0
 obtain ⟨hq1,hq2,hq3⟩:=hq0
 obtain ⟨hw7,hw0,i,j,hqi,hqj,hi,hj⟩:=shq_ij hne hq1 hq3
 unfold beginG at h
 dsimp only at h
 rw [hqi,hqj] at h
 cases hR1:reachG f.gas L (wordI ws (i:Int)) (wordI ws ((i:Int)+1)) with
 |none=>rw [hR1] at h;cases h
 |some x =>
  obtain ⟨g1,L1⟩:=x
  rw [hR1] at h
  dsimp only at h
  cases hR2:reachG g1 L1 (wordI ws (j:Int)) (wordI ws ((j:Int)+1)) with
  |none=>rw [hR2] at h;cases h
  |some y =>
   obtain ⟨g2,L2⟩:=y
   rw [hR2] at h
   dsimp only at h
   have hF1:=okF_reach (c:=f.code) (s:=f.stk) (m:=f.mem) (i:=f.inp) (b:=f.back) hF hR1
   have hF2:=fun (cc s m i b:Value)=>okF_reach (c:=cc) (s:=s) (m:=m) (i:=i) (b:=b) hF1 hR2
   obtain ⟨r1,r2,r3,r4⟩:=reach_range hF hR1
   obtain ⟨s1,s2,s3,s4⟩:=reach_range hF1 hR2
   have s1':g2≤g1:=s1
   have hg2:g2≤20000:=by have:=hF.1.2.2;omega
   have hmv:=fun h=>whoC_mv (f:=f) (ws:=ws) hq1 h
   have hop:=whoC_op f A.op ws
   have hco:A.op=241∨A.op=244∨A.op=250:=by
    rcases shq_ok hq1 with ⟨ho,_⟩|⟨ho,_⟩|⟨ho,_⟩
    ·exact .inl ho
    ·exact .inr ho
    ·exact absurd ho hne
   generalize whoC f A.op ws=c0 at h hmv hop
   obtain ⟨k,hk⟩:∃ k,callV A.cold c0.mv A.new=k:=⟨_,rfl⟩
   rw [hk] at h
   have hk9:c0.mv=true→910≤k:=fun h=>by
    rw [← hk,h]
    unfold callV
    cases A.cold<;>cases A.new<;>decide
   split at h
   ·rename_i hkg
    cases h
    obtain ⟨q,hq⟩:∃ q,lentG g2 k (ws.getD 0 0)=q:=⟨_,rfl⟩
    have hq':q≤g2 - k - (g2 - k) / 64:=by rw [← hq];exact Nat.min_le_right _ _
    rw [hq]
    refine ⟨?_,?_,hop,hmv,?_,?_,?_,?_,?_⟩
    ·intro cc s m i b
     obtain ⟨⟨h1,h2,h3⟩,h4⟩:=hF2 cc s m i b
     exact ⟨⟨h1,h2,by show g2 - k - q≤20000;omega⟩,h4⟩
    ·refine ⟨?_,⟨?_,?_,?_⟩,⟨?_,?_,?_⟩,?_,?_⟩
     ·show c0.op=241∨_
      rw [hop]
      omega
     ·show q+(if c0.mv then 230 else 0)≤20000
      split
      ·have:=hk9 (by assumption);omega
      ·omega
     ·show ((L1.ms.drop _).take _).length≤1024
      rw [List.length_take,List.length_drop]
      omega
     ·exact Nat.zero_le _
     ·show wordI ws ((j:Int)+1)≤1024
      rcases Nat.eq_zero_or_pos (wordI ws ((j:Int)+1)) with h0|h0
      ·omega
      ·have:=s4 h0;omega
     ·show (if wordI ws ((j:Int)+1)=0 then 0 else wordI ws (j:Int))+wordI ws ((j:Int)+1)≤1024
      rcases Nat.eq_zero_or_pos (wordI ws ((j:Int)+1)) with h0|h0
      ·rw [if_pos h0];omega
      ·rw [if_neg (by omega)];have:=s4 h0;omega
     ·show 0 < wordI ws ((j:Int)+1)∨(if wordI ws ((j:Int)+1)=0 then 0 else wordI ws (j:Int))=0
      rcases Nat.eq_zero_or_pos (wordI ws ((j:Int)+1)) with h0|h0
      ·exact .inr (if_pos h0)
      ·exact .inl h0
     ·intro h5
      exact absurd (hop.symm.trans h5) hne
     ·intro _
      rfl
    all_goals dsimp only
    ·intro _ hm
     rw [hm]
     exact Nat.le_add_left _ _
    all_goals (cases hm:c0.mv with
     |true =>
      have h9:=hk9 hm
      have hop2:=hmv hm
      have h41:A.op=241:=by omega
      simp only [h41,and_self,if_true,keepV]
      omega
     |false =>
      simp only [Bool.false_eq_true,and_false,if_false,keepV]
      omega)
   ·cases h
theorem beginX_P {f:FrV} {L:FrL} {A:AkV} {ws:List Nat} {g:Nat} {L':FrL} {M:ClL} {c:ClV} (hF:okF f L) (he:A.op=245) (h:beginX f L ws=some (g,L',M,c)):BegP f L A g L' M c:=by
 unfold beginX at h
 cases hR1:reachG f.gas L (wordI ws 1) (wordI ws 2) with
 |none=>rw [hR1] at h;cases h
 |some x =>
  obtain ⟨g1,L1⟩:=x
  rw [hR1] at h
  dsimp only at h
  generalize (L1.ms.drop (wordI ws 1)).take (wordI ws 2)=l at h
  obtain ⟨r1,r2,r3,r4⟩:=reach_range hF hR1
  have hF1:=fun (cc s m i b:Value)=>okF_reach (c:=cc) (s:=s) (m:=m) (i:=i) (b:=b) hF hR1
  have hg1:g1≤20000:=by have:=hF.1.2.2;omega
  split at h
  ·rename_i hk
   cases h
   obtain ⟨k,hk2⟩:∃ k,creV l.length=k:=⟨_,rfl⟩
   rw [hk2] at hk ⊢
   have ho:=whoC_op f 245 ws
   refine ⟨?_,?_,?_,fun _=>.inr he,?_,?_,?_,?_,?_⟩
   ·intro cc s m i b
    obtain ⟨⟨h1,h2,h3⟩,h4⟩:=hF1 cc s m i b
    exact ⟨⟨h1,h2,by show g1 - k - _≤20000;omega⟩,h4⟩
   ·refine ⟨.inr (.inr (.inl ho)),⟨?_,Nat.zero_le _,hk.1⟩,⟨Nat.zero_le _,Nat.zero_le _,.inr rfl⟩,fun _=>⟨rfl,rfl⟩,fun h5=>absurd ho h5⟩
    show keepV (g1 - k)≤20000
    unfold keepV
    omega
   ·exact ho.trans he.symm
   ·intro h5
    omega
   all_goals
    first|rw [he]|skip
    try simp only [show ¬ (245:Nat)=241 by decide,false_and,if_false]
    simp only [creC,keepV]
    omega
  ·cases h
theorem beginA_P {f:FrV} {L:FrL} {A:AkV} {ws:List Nat} {g:Nat} {L':FrL} {M:ClL} {c:ClV} (h:beginA f L A ws=some (g,L',M,c)):BegP f L A g L' M c:=by
 unfold beginA at h
 split at h
 ·rename_i hq
  split at h
  ·exact beginX_P hq.2 (by assumption) h
  ·rename_i hne
   cases hG:beginG f L A ws with
   |none=>rw [hG] at h;cases h
   |some x =>
    obtain ⟨g0,L0,l0,c0⟩:=x
    rw [hG] at h
    cases h
    exact beginG_P hq.1 hq.2 hne hG
 ·cases h
end Go.Proofs.YtpgdnfgjbhdbpaaGreatDoor
namespace Go.Proofs.YtpgdnfgjbhdbpaaGreatDoor
open Go Go.RowKit SL
theorem clv250 (t self y a n:Nat) (iv:Value):Value.agg #[.int .u8 ((250:Nat):Int),.int .u64 (t:Int),.int .u64 (t:Int),.int .u64 (self:Int),.int .u64 0,.int .u64 0,.int .u64 0,.int .u64 0,.bool false,.int .u64 (y:Int),iv,.slice none 0 0,.int .u64 (a:Int),.int .u64 (n:Int),.bool true]=clv ⟨250,t,t,self,0,false,y,iv,.slice none 0 0,a,n,true⟩:=by
 unfold clv cla clc wc
 simp
theorem finS {C:Cu} {fn:Func} {e:Env} {fs:Fs} {x:Exit} {rs:List ResultVar} {vs:List Value} (gs:Fs) {Φ:Value→Fs→Prop} (hx:x=.ret∨x=.normal) (hr:fn.results.toList=rs) (hds:C.ds=[]) (h:ResL C e fs rs vs) (hg:SubP gs fs) (hΦ:Φ (tup vs) gs) :
  finQ C fn (RetG C.w0 C.S Φ) x C.ds e fs:=by
 obtain ⟨m,h1,h2⟩:=hg
 exact ⟨hx,fun a w hs=>LeavesInM_nil (by rw [hs.env.dfr];exact hds) ⟨tup vs,ResL.run (by rw [hr];exact h) hs,tup vs,gs,rfl,hΦ,hs.st.bel,fun p hp=>hs.st.own p (h2.subset (h1.subset hp)),(hs.st.perm h2).nd.sublist h1⟩⟩
theorem subS (a b c:Fs):SubP (a++b) (b++(a++c)):=⟨a++(b++c),List.Sublist.append_left (qP b c) a,List.perm_append_comm_assoc a b c⟩
set_option maxRecDepth 8000
set_option maxHeartbeats 4000000
set_option linter.unusedSimpArgs false
set_option linter.unusedVariables false
attribute [local irreducible] SL.CW SL.LW SL.DW Calls SL.Ret SL.RetG SL.beginQ SL.roundQ SL.rangeQ SL.RW SL.AnyW SL.thenQ SL.thenC SL.thenW SL.blkQ SL.finQ SL.ValP SL.NewP SL.SetP SL.CallP SL.Rd SL.Wr SL.Known
section bg
variable {f : FrV} {L L1 L2 : FrL} {A : AkV} {ws : List Nat} {i j : Int} {a1 n1 a2 n2 g1 g2 k y : Nat} {c0 : ClV}
theorem beginG_none1 (hi:(shq A.op).2.2.2.1=i) (ha:wordI ws i=a1) (hn:wordI ws (i+1)=n1) (h:reachG f.gas L a1 n1=none):beginG f L A ws=none:=by
 subst hi ha hn
 unfold beginG
 dsimp only
 rw [h]
theorem beginG_none2 (hi:(shq A.op).2.2.2.1=i) (hj:(shq A.op).2.2.2.2.1=j) (ha:wordI ws i=a1) (hn:wordI ws (i+1)=n1) (ha2:wordI ws j=a2) (hn2:wordI ws (j+1)=n2) (h:reachG f.gas L a1 n1=some (g1,L1)) (h2:reachG g1 L1 a2 n2=none):beginG f L A ws=none:=by
 subst hi hj ha hn ha2 hn2
 unfold beginG
 dsimp only
 rw [h]
 dsimp only
 rw [h2]
theorem beginG_few (hi:(shq A.op).2.2.2.1=i) (hj:(shq A.op).2.2.2.2.1=j) (ha:wordI ws i=a1) (hn:wordI ws (i+1)=n1) (ha2:wordI ws j=a2) (hn2:wordI ws (j+1)=n2) (hc:whoC f A.op ws=c0) (hk:callV A.cold c0.mv A.new=k) (h:reachG f.gas L a1 n1=some (g1,L1)) (h2:reachG g1 L1 a2 n2=some (g2,L2)) (h3:¬ k≤g2):beginG f L A ws=none:=by
 subst hi hj ha hn ha2 hn2 hc hk
 unfold beginG
 dsimp only
 rw [h]
 dsimp only
 rw [h2]
 dsimp only
 rw [if_neg h3]
theorem beginG_ok (hi:(shq A.op).2.2.2.1=i) (hj:(shq A.op).2.2.2.2.1=j) (ha:wordI ws i=a1) (hn:wordI ws (i+1)=n1) (ha2:wordI ws j=a2) (hn2:wordI ws (j+1)=n2) (hc:whoC f A.op ws=c0) (hk:callV A.cold c0.mv A.new=k) (hy:lentG g2 k (ws.getD 0 0)=y) (h:reachG f.gas L a1 n1=some (g1,L1)) (h2:reachG g1 L1 a2 n2=some (g2,L2)) (h3:k≤g2) :
  beginG f L A ws=some (g2 - k - y,L2,(L1.ms.drop a1).take n1,{ c0 with pl:=if n2=0 then 0 else a2,n:=n2,gas:=y+(if c0.mv then 230 else 0) }):=by
 subst hi hj ha hn ha2 hn2 hc hk hy
 unfold beginG
 dsimp only
 rw [h]
 dsimp only
 rw [h2]
 dsimp only
 rw [if_pos h3]
theorem reach_same (hF:okF f L) (h:reachG f.gas L a1 n1=some (g1,L1)) (h2:reachG g1 L1 a2 n2=some (g2,L2)):L2.ms.length≤100000∧(0 < n1→a1+n1≤L2.ms.length)∧(L2.ms.drop a1).take n1=(L1.ms.drop a1).take n1:=by
 obtain ⟨_,_,_,h3⟩:=reach_range hF h
 have hF2:=okF_reach (c:=f.code) (s:=f.stk) (m:=f.mem) (i:=f.inp) (b:=f.back) hF h
 obtain ⟨_,h4,_,_⟩:=reach_range hF2 h2
 obtain ⟨_,_,rfl⟩:=reachG_some h2
 have hms:(memR L1 a2 n2).ms=L1.ms++List.replicate (upW (endV a2 n2) - L1.ms.length) 0:=rfl
 refine ⟨by omega,fun h0=>?_,?_⟩
 ·rw [hms,List.length_append]
  have:=(h3 h0).2
  omega
 ·rw [hms]
  rcases Nat.eq_zero_or_pos n1 with h0|h0
  ·rw [h0];simp
  ·have:=(h3 h0).2
   rw [List.drop_append_of_le_length (by omega),List.take_append_of_le_length (by rw [List.length_drop];omega)]
end bg
theorem ValP.cutFromW {P:Program} {e:Env} {T E:TypeId} {x lo:Operand} {b o n c k:Nat} {il:IntKind} {z:Value} (hU:UnI P T (.slice E)) (hI:InfoI P E 4 z) (hx:e.ev x=some (.slice (some ⟨b,o,none⟩) n c)) (hl:e.ev lo=some (.int il (k:Int))) (hk:k≤n) (hc:k < c):ValP P e [] (.slice T x (some lo) none none) (.slice (some ⟨b,o+k * 4,none⟩) (n - k) (c - k)):=by
 have h:=ValP.cutFrom (P:=P) hU hI hx hl hk
 have e1:cutAt (some ⟨b,o,none⟩) k n c 4=.slice (some ⟨b,o+k * 4,none⟩) (n - k) (c - k):=by
  unfold cutAt
  rw [if_neg (by omega)]
  simp [Addr.add]
 rwa [e1] at h
theorem rcalls241 (f:FrV) (L:FrL) (A:AkV) (ws:List Nat) (hM:∀ x∈ws,x < M256) (hd:∃ p n c,A.dt=.slice p n c) (hask:askB A.kind A.op ws.length=true) (he:A.op=241) (hF:okF f L) (w:World) (h:FrRows w f L) (hv:RowAt w 4 A.ws ws.length (wcs ws)) :
  Calls Tryz.prog 60 #[frv f,.agg (aska A.kind A.op A.ws A.dt),.agg #[.bool A.cold,.bool A.vl,.bool A.new]] w (RetG w [] (BegR f (beginG f L A ws))):=by
 obtain ⟨kind,op,aws,dt,cold,vl,new⟩:=A
 obtain ⟨q,d,e,hd⟩:=hd
 dsimp only at hd hask hv he ⊢
 subst hd
 subst he
 have hlen:ws.length=7:=by
  have hh:=hask
  unfold askB at hh
  simp only [Bool.and_eq_true,decide_eq_true_eq] at hh
  have h2:=hh.2.2
  have:(shq 241).1=7:=rfl
  omega
 obtain ⟨pw,cw,rfl,hc7,_⟩:=id hv.form
 obtain ⟨bw,off,cc,cs,E,fr,heq,hbw,hx⟩:=hv.pos (by omega)
 cases heq
 obtain ⟨code,pc,stk,mem,gas,self,frm,val,inp,back,stat⟩:=f
 have hrow:=h
 obtain ⟨h0,h2,h3,h11,h12⟩:=h
 dsimp only at h0 h2 h3 h11 h12
 obtain ⟨p0,c0,rfl,_,_⟩:=id h0.form
 obtain ⟨p2,c2,rfl,_,_⟩:=id h2.form
 obtain ⟨p3,c3,rfl,_,_⟩:=id h3.form
 obtain ⟨p11,c11,rfl,_,_⟩:=id h11.form
 obtain ⟨p12,c12,rfl,_,_⟩:=id h12.form
 have hrd1:=word0_rd (P:=Tryz.prog) (T:=26) (E:=E) (fr:=fr) hx 1 (by omega)
 have hrd0:=word_rd (P:=Tryz.prog) (T:=29) (E:=E) (fr:=fr) hx 0 (by omega)
 have hrd2:=word_rd (P:=Tryz.prog) (T:=29) (E:=E) (fr:=fr) hx 2 (by omega)
 have hrd3:=word_rd (P:=Tryz.prog) (T:=29) (E:=E) (fr:=fr) hx 3 (by omega)
 have hrd4:=word_rd (P:=Tryz.prog) (T:=29) (E:=E) (fr:=fr) hx 4 (by omega)
 have hrd5:=word_rd (P:=Tryz.prog) (T:=29) (E:=E) (fr:=fr) hx 5 (by omega)
 have hrd6:=word_rd (P:=Tryz.prog) (T:=29) (E:=E) (fr:=fr) hx 6 (by omega)
 have hrd50:=word0_rd (P:=Tryz.prog) (T:=26) (E:=E) (fr:=fr) hx 5 (by omega)
 have hrd60:=word0_rd (P:=Tryz.prog) (T:=26) (E:=E) (fr:=fr) hx 6 (by omega)
 have hzs:=zero_sl
 have hcw:ws.length≤cw:=hc7
 have ht:ws.getD 1 0 % 18446744073709551616 < 18446744073709551616:=Nat.mod_lt _ (by decide)
 obtain ⟨t,hte⟩:∃ t,t=ws.getD 1 0 % 18446744073709551616:=⟨_,rfl⟩
 rw [← hte] at hrd1 ht
 have hx2:ws.getD 2 0 < M256:=wordI_lt hM 2
 obtain ⟨x,hxe⟩:∃ x,x=ws.getD 2 0:=⟨_,rfl⟩
 rw [← hxe] at hrd2 hx2
 obtain ⟨a1,ha1⟩:∃ a,a=ws.getD 3 0:=⟨_,rfl⟩
 rw [← ha1] at hrd3
 have la1:a1 < M256:=ha1 ▸ wordI_lt hM 3
 have e3:off+3 * 4=off+3 * 4+0 * 4:=by omega
 rw [e3] at hrd3
 obtain ⟨n1,hn1⟩:∃ a,a=ws.getD 4 0:=⟨_,rfl⟩
 rw [← hn1] at hrd4
 have ln1:n1 < M256:=hn1 ▸ wordI_lt hM 4
 have e4:off+4 * 4=off+3 * 4+1 * 4:=by omega
 rw [e4] at hrd4
 obtain ⟨a2,ha2⟩:∃ a,a=ws.getD 5 0:=⟨_,rfl⟩
 rw [← ha2] at hrd5 hrd50
 have la2:a2 < M256:=ha2 ▸ wordI_lt hM 5
 have e5:off+5 * 4=off+3 * 4+2 * 4:=by omega
 rw [e5] at hrd5 hrd50
 obtain ⟨n2,hn2⟩:∃ a,a=ws.getD 6 0:=⟨_,rfl⟩
 rw [← hn2] at hrd6 hrd60
 have ln2:n2 < M256:=hn2 ▸ wordI_lt hM 6
 have e6:off+6 * 4=off+3 * 4+3 * 4:=by omega
 rw [e6] at hrd6 hrd60
 have hI:(shq 241).2.2.2.1=3:=rfl
 have hJ:(shq 241).2.2.2.2.1=5:=rfl
 have hA1:wordI ws 3=a1:=by rw [ha1];rfl
 have hN1:wordI ws (3+1)=n1:=by rw [hn1];rfl
 have hA2:wordI ws 5=a2:=by rw [ha2];rfl
 have hN2:wordI ws (5+1)=n2:=by rw [hn2];rfl
 have hwho:whoC (FrV.mk (.slice p0 L.cl.length c0) pc (.slice p2 L.ws.length c2) (.slice p3 L.ms.length c3) gas self frm val (.slice p11 L.il.length c11) (.slice p12 L.bl.length c12) stat) 241 ws=⟨241,t,t,self,x,!decide (x=0),0,.slice none 0 0,.slice none 0 0,0,0,stat⟩:=by
  rw [hte,hxe]
  cases stat<;>rfl
 obtain ⟨us,hbl,hin,hrows⟩:=FrA.lie (w0:=w) (f:=(FrV.mk (.slice p0 L.cl.length c0) pc (.slice p2 L.ws.length c2) (.slice p3 L.ms.length c3) gas self frm val (.slice p11 L.il.length c11) (.slice p12 L.bl.length c12) stat)) (L:=L) (gs:=[]) (.inl ⟨rfl,hrow⟩)
 refine enter (args:=[_,_,_]) _ [] [] Tryz.func60 rfl Tryz.ntmps60 rfl (by simp) .nil ?_
 (refine sRz ?_;apply zT;rfl;rfl;intro _;apply zT;rfl;rfl;intro _;apply zT;rfl;rfl;intro _;apply zU;rfl;intro _;apply zU;rfl;intro _;refine vAz<|nSz<|vFz<|ldz rfl (.tail (.tail (.tail .head))) ask_rd2<|vAz<|nNz<|zI ?_)
 apply CW.pre
 (refine AnyW.anyM [] 12 mixed (by decide +kernel) ?_)
 ((try simp only [tsOf_cons,tsOf_nil,tsOf_app]);refine dvz (.fieldAddr rfl rfl) ?_;apply qD;rfl;rfl;rfl;exact zC;rfl;apply zO;apply zO;apply zO;apply zP;exact zN;exact ask_rd1;refine dvz (.move rfl) ?_;refine dvz (.indexAddrSL rfl rfl (by decide) (by omega)) ?_;refine dvz (.indexAddrL rfl rfl rfl) ?_;apply DW.loadX;rfl;rfl;rfl;exact zC;rfl;assumption;simp;exact hrd1;refine dvz (.fieldAddr rfl rfl) ?_;apply qD;rfl;rfl;rfl;exact zC;rfl;apply zO;apply zO;apply zO;apply zO;apply zP;exact zN;exact fr_rd5;refine dvz (.fieldAddr rfl rfl) ?_;apply qD;rfl;rfl;rfl;exact zC;rfl;apply zO;apply zO;apply zO;apply zO;apply zP;exact zN;exact fr_rd13;apply DW.v0;rfl;rfl;rfl;exact zC;rfl;apply zW;infer_instance;infer_instance;apply zA;rfl;apply zA;rfl;apply zA;rfl;apply zA;rfl;exact zB;rfl;simp only [fillP,wrCells,Value.cells,qH,qI,qJ,qG,qL,qK,Nat.reduceAdd,qN];rfl;apply DW.allocA;rfl;rfl;rfl;exact zC;intro _;apply DW.nil;simp only [fsOf_cons,fsOf_nil,fsOf_app,fsOf_tsOf,fsOf_new])
 (refine zR rfl rfl .head (.whole rfl rfl rfl)<|nSz<|vFz<|ldz rfl .head (Rd.one' rfl)<|vFz ?_;apply zR;rfl;rfl;apply qA;apply Wr.cells;rfl;rfl;simp only [wc,List.size_toArray,List.length_cons,List.length_nil];omega;simp only [fillC,wc,wrCells,Value.cells,qJ,qG,qL,qK,Nat.reduceAdd,Nat.reduceMul,qN,Nat.mul_one];rfl;refine nSz<|vMz ?_;apply LW.v0;rfl;rfl;(refine ValP.cutFromW (k:=2) inferInstance inferInstance rfl rfl ?_ ?_<;>omega);refine vAz<|nNz<|zI<|sRz<|vFz<|ldz rfl (.tail (.tail (.tail (.tail .head)))) ask_rd1<|nNz<|zM<|sRz ?_;refine lvz (.eqT rfl rfl (by omega)) ?_;refine vAz<|nNz<|cTz<|zI ?_;apply CW.pre;refine AnyW.anyM [] 7 mixed (by decide +kernel) ?_;(try simp only [tsOf_cons,tsOf_nil,tsOf_app]);refine dvz (.move rfl) ?_;refine dvz (.indexAddrSL rfl rfl (by decide) (by omega)) ?_;apply DW.loadX;rfl;rfl;rfl;exact zC;rfl;assumption;simp;exact hrd2;refine dvz (.move rfl) ?_;apply DW.v0;rfl;rfl;rfl;exact zC;rfl;(refine ValP.cutFromW (k:=3) inferInstance inferInstance rfl rfl ?_ ?_<;>omega);refine dvz (.fieldAddr rfl rfl) ?_;apply DW.store;rfl;rfl;exact zC;rfl;rfl;apply TSet.head;exact zN;exact zN;apply Wr.cells;rfl;rfl;simp only [wc,List.size_toArray,List.length_cons,List.length_nil];omega;simp only [fillC,wc,wrCells,Value.cells,qJ,qG,qL,qK,Nat.reduceAdd,Nat.reduceMul,qN,Nat.mul_one];rfl;apply DW.nil;simp only [fsOf_cons,fsOf_nil,fsOf_app,fsOf_tsOf,fsOf_new])
 (refine vAz<|nNz<|zL<|vFz ?_;apply LW.load;rfl;rfl;apply qE;apply zY;exact Rd.mid (cs:=(wc x).toList) rfl rfl;apply LW.v0;rfl;rfl;exact ValP.buildW0;refine lvz (.neW rfl rfl (by assumption) (by omega)) ?_;refine vFz ?_;apply zR;rfl;rfl;apply qA;apply Wr.cells;rfl;rfl;simp only [wc,List.size_toArray,List.length_cons,List.length_nil];omega;simp only [fillC,wc,wrCells,Value.cells,qJ,qG,qL,qK,Nat.reduceAdd,Nat.reduceMul,qN,Nat.mul_one];rfl;apply zV;refine blkN<|thenN<|zI ?_)
 apply CW.pre
 (refine AnyW.anyM [(7,ToldR (FrV.mk (.slice p0 L.cl.length c0) pc (.slice p2 L.ws.length c2) (.slice p3 L.ms.length c3) gas self frm val (.slice p11 L.il.length c11) (.slice p12 L.bl.length c12) stat) (reachR (FrV.mk (.slice p0 L.cl.length c0) pc (.slice p2 L.ws.length c2) (.slice p3 L.ms.length c3) gas self frm val (.slice p11 L.il.length c11) (.slice p12 L.bl.length c12) stat) L a1 n1))] 13 mixed (by decide +kernel) ?_)
 ((try simp only [tsOf_cons,tsOf_nil,tsOf_app]);apply qD;rfl;rfl;rfl;exact zC;rfl;apply zO;apply zO;apply zO;apply zO;apply zO;apply zP;exact zN;exact fr_rdW;refine dvz (.move rfl) ?_;refine dvz (.indexAddrSL rfl rfl (by decide) (by omega)) ?_;apply DW.loadX;rfl;rfl;rfl;exact zC;rfl;assumption;simp;exact hrd3;refine dvz (.move rfl) ?_;refine dvz (.indexAddrSL rfl rfl (by decide) (by omega)) ?_;apply DW.loadX;rfl;rfl;rfl;exact zC;rfl;assumption;simp;exact hrd4)
 refine DW.manyA us rfl rfl rfl (by (exact zC)) rfl inferInstance (by (exact .cons rfl (.cons rfl (.cons rfl .nil)))) (by rw [List.flatMap_cons,hbl];exact List.append_nil _) (fun p hp=>?_) (fun w hb hu=>?_) ?_
 ·rcases hin p hp with h|h
  ·cases h
  ·exact .inr ⟨h,by simp⟩
 ·exact rReach_calls (FrV.mk (.slice p0 L.cl.length c0) pc (.slice p2 L.ws.length c2) (.slice p3 L.ms.length c3) gas self frm val (.slice p11 L.il.length c11) (.slice p12 L.bl.length c12) stat) L a1 n1 la1 ln1 hF w (hrows w hb hu)
 intro vT gT hT
 rcases hR:reachR (FrV.mk (.slice p0 L.cl.length c0) pc (.slice p2 L.ws.length c2) (.slice p3 L.ms.length c3) gas self frm val (.slice p11 L.il.length c11) (.slice p12 L.bl.length c12) stat) L a1 n1 with _|z
 ·rw [hR] at hT
  obtain ⟨rfl,rfl⟩:=hT
  ((try simp only [tsOf_cons,tsOf_nil,tsOf_app]);refine dvz (.move rfl) ?_;refine dvz (.extractN rfl rfl) ?_;refine dvz (.extractN rfl rfl) ?_;apply DW.allocA;rfl;rfl;rfl;exact zC;intro _;apply DW.store;rfl;rfl;exact zC;rfl;rfl;apply TSet.head;kernel_rfl;exact zN;apply fr_wrW;rfl;assumption;apply DW.nil;simp only [fsOf_cons,fsOf_nil,fsOf_app,fsOf_tsOf,fsOf_new])
  simp only [fsOf_mark,fsOf_cons,fsOf_nil,fsOf_app,fsOf_tsOf,fsOf_new,List.append_eq,List.nil_append]
  (refine vAz<|nNz<|zI<|sRz<|vMz ?_;refine lvz (.notF rfl (by with_reducible rfl)) ?_;refine nNz<|cTz<|sRz ?_;apply LW.v0;rfl;rfl;apply zW;infer_instance;infer_instance;exact zB;rfl;simp only [fillP,wrCells,Value.cells,qH,qI,qJ,qG,qL,qK,Nat.reduceAdd,qN];rfl;apply LW.v0;rfl;rfl;apply zW;infer_instance;infer_instance;exact zB;rfl;simp only [fillP,wrCells,Value.cells,qH,qI,qJ,qG,qL,qK,Nat.reduceAdd,qN];rfl;refine zR rfl rfl (.tail (.tail (.tail .head))) (.whole rfl rfl rfl) ?_;refine zR rfl rfl (.tail (.tail .head)) (.whole rfl rfl rfl)<|vAz<|nNz<|zK<|thenR ?_)
  rw [beginG_none1 hI hA1 hN1 hR]
  exact fin (vs:=[frv zeroF,clv zeroC,.bool false]) [] (.inl rfl) rfl rfl (by (apply zD;apply zH;rfl;apply qE;apply zX;apply zX;apply zX;apply zY;exact qF rfl;apply zD;apply zH;rfl;apply qE;apply zX;apply zX;apply zY;exact qF rfl;apply zD;exact zG rfl;exact zF)) (List.nil_sublist _) ⟨rfl,rfl⟩
 rw [hR] at hT
 obtain ⟨g1,L1⟩:=z
 obtain ⟨d1,d2,d3,d4,d5,rfl,hfr1⟩:=hT
 have hsl1:=hfr1.sl
 obtain ⟨us1,hbl1,hin1,hrows1⟩:=hfr1.lie
 ((try simp only [tsOf_cons,tsOf_nil,tsOf_app]);refine dvz (.move rfl) ?_;refine dvz (.extractN rfl rfl) ?_;refine dvz (.extractN rfl rfl) ?_;apply DW.allocA;rfl;rfl;rfl;exact zC;intro _;apply DW.store;rfl;rfl;exact zC;rfl;rfl;apply TSet.head;kernel_rfl;exact zN;apply fr_wrW;rfl;assumption;apply DW.nil;simp only [fsOf_cons,fsOf_nil,fsOf_app,fsOf_tsOf,fsOf_new])
 simp only [fsOf_mark,fsOf_cons,fsOf_nil,fsOf_app,fsOf_tsOf,fsOf_new,List.append_eq,List.nil_append]
 (refine vAz<|nNz<|zI<|sRz<|vMz ?_;refine lvz (.notT rfl (by with_reducible rfl)) ?_;refine nNz<|cFz<|zJ<|thenN<|zI<|zI ?_)
 apply CW.pre
 (refine AnyW.anyM [(7,ToldR (FrV.rowsG (FrV.mk (.slice p0 L.cl.length c0) pc (.slice p2 L.ws.length c2) (.slice p3 L.ms.length c3) gas self frm val (.slice p11 L.il.length c11) (.slice p12 L.bl.length c12) stat) g1 d1 d2 d3 d4 d5) (reachG g1 L1 a2 n2))] 12 mixed (by decide +kernel) ?_)
 ((try simp only [tsOf_cons,tsOf_nil,tsOf_app]);apply qD;rfl;rfl;rfl;exact zC;rfl;apply zP;exact zN;exact fr_rdW;refine dvz (.move rfl) ?_;refine dvz (.indexAddrSL rfl rfl (by decide) (by omega)) ?_;apply DW.loadX;rfl;rfl;rfl;exact zC;rfl;assumption;simp;exact hrd5;refine dvz (.move rfl) ?_;refine dvz (.indexAddrSL rfl rfl (by decide) (by omega)) ?_;apply DW.loadX;rfl;rfl;rfl;exact zC;rfl;assumption;simp;exact hrd6)
 refine DW.manyA us1 rfl rfl rfl (by (exact zC)) rfl inferInstance (by (exact .cons rfl (.cons rfl (.cons rfl .nil)))) (by rw [List.flatMap_cons,hbl1];exact List.append_nil _) (fun p hp=>AncT.lie (by (refine AncT.cons ?_ ?_;exact zN;refine AncT.app ?_ ?_;exact AncT.tsOf;refine AncT.cons ?_ ?_;exact zN;refine AncT.cons ?_ ?_;exact zN;refine AncT.cons ?_ ?_;exact zN;refine AncT.cons ?_ ?_;exact zN;refine AncT.cons ?_ ?_;exact zN;refine AncT.cons ?_ ?_;exact zN;exact AncT.nil)) (by have hp:=hin1 p hp;simp [fsOf,tsOf,tsNew,tsTag,markAll,Function.comp_def,hp])) (fun w hb hu=>?_) ?_
 ·exact rReach_calls (FrV.rowsG (FrV.mk (.slice p0 L.cl.length c0) pc (.slice p2 L.ws.length c2) (.slice p3 L.ms.length c3) gas self frm val (.slice p11 L.il.length c11) (.slice p12 L.bl.length c12) stat) g1 d1 d2 d3 d4 d5) L1 a2 n2 la2 ln2 (okF_reach hF hR) w (hrows1 w hu)
 intro vT2 gT2 hT2
 rcases hR2:reachG g1 L1 a2 n2 with _|z2
 ·rw [hR2] at hT2
  obtain ⟨rfl,rfl⟩:=hT2
  (try simp only [markAll_cons,markAll_app,markAll_tsOf,markAll_tag,markAll_new,markAll_nil])
  ((try simp only [tsOf_cons,tsOf_nil,tsOf_app]);refine dvz (.move rfl) ?_;refine dvz (.extractN rfl rfl) ?_;refine dvz (.extractN rfl rfl) ?_;apply DW.store;rfl;rfl;exact zC;rfl;rfl;apply TSet.head;exact zN;kernel_rfl;apply fr_wrW;rfl;assumption;apply DW.nil;simp only [fsOf_cons,fsOf_nil,fsOf_app,fsOf_tsOf,fsOf_new])
  try simp only [fsOf_mark,fsOf_cons,fsOf_nil,fsOf_app,fsOf_tsOf,fsOf_new,fsOf_tag,List.append_eq,List.nil_append]
  (refine vAz<|nSz<|vMz ?_;refine lvz (.notF rfl (by with_reducible rfl)) ?_;refine nNz<|cTz<|sRz ?_;apply LW.v0;rfl;rfl;apply zW;infer_instance;infer_instance;exact zB;rfl;simp only [fillP,wrCells,Value.cells,qH,qI,qJ,qG,qL,qK,Nat.reduceAdd,qN];rfl;apply LW.v0;rfl;rfl;apply zW;infer_instance;infer_instance;exact zB;rfl;simp only [fillP,wrCells,Value.cells,qH,qI,qJ,qG,qL,qK,Nat.reduceAdd,qN];rfl;refine zR rfl rfl (.tail (.app (.tail (.tail .head)))) (.whole rfl rfl rfl) ?_;refine zR rfl rfl (.tail (.app (.tail .head))) (.whole rfl rfl rfl)<|vAz<|nNz<|zK<|thenR ?_)
  rw [beginG_none2 hI hJ hA1 hN1 hA2 hN2 hR hR2]
  exact fin (vs:=[frv zeroF,clv zeroC,.bool false]) [] (.inl rfl) rfl rfl (by (apply zD;apply zH;rfl;apply qE;apply zX;apply zZ;apply zX;apply zX;apply zY;exact qF rfl;apply zD;apply zH;rfl;apply qE;apply zX;apply zZ;apply zX;apply zY;exact qF rfl;apply zD;exact zG rfl;exact zF)) (List.nil_sublist _) ⟨rfl,rfl⟩
 rw [hR2] at hT2
 obtain ⟨g2,L2⟩:=z2
 have hF2:=okF_reach (c:=d1) (s:=d2) (m:=d3) (i:=d4) (b:=d5) hF hR
 have hF3:g2≤20000:=by
  have h1:g1≤20000:=hF2.1.2.2
  obtain ⟨_,h2,_⟩:=reachG_some hR2
  omega
 obtain ⟨f1,f2,f3,f4,f5,rfl,hfr2⟩:=hT2
 have hsl2:=hfr2.sl
 obtain ⟨us2,hbl2,hin2,hrows2⟩:=hfr2.lie
 obtain ⟨hm2,hr1,hsame⟩:=reach_same hF hR hR2
 have hK:=rCall_calls cold (!decide (x=0)) new
 have hkl:callV cold (!decide (x=0)) new < 18446744073709551616:=by
  unfold callV
  cases cold<;>cases new<;>cases (!decide (x=0))<;>decide
 obtain ⟨k,hk⟩:∃ k,callV cold (!decide (x=0)) new=k:=⟨_,rfl⟩
 rw [hk] at hK hkl
 dsimp only [FrV.rowsG] at hsl2 hbl2 hrows2 ⊢
 (try simp only [markAll_cons,markAll_app,markAll_tsOf,markAll_tag,markAll_new,markAll_nil])
 ((try simp only [tsOf_cons,tsOf_nil,tsOf_app]);refine dvz (.move rfl) ?_;refine dvz (.extractN rfl rfl) ?_;refine dvz (.extractN rfl rfl) ?_;apply DW.store;rfl;rfl;exact zC;rfl;rfl;apply TSet.app;apply TSet.head;exact zN;kernel_rfl;apply fr_wrW;rfl;assumption;apply DW.nil;simp only [fsOf_cons,fsOf_nil,fsOf_app,fsOf_tsOf,fsOf_new])
 try simp only [fsOf_mark,fsOf_cons,fsOf_nil,fsOf_app,fsOf_tsOf,fsOf_new,fsOf_tag,List.append_eq,List.nil_append]
 rcases Nat.lt_or_ge g2 k with hkg|hkg
 ·rw [beginG_few hI hJ hA1 hN1 hA2 hN2 hwho hk hR hR2 (Nat.not_le.2 hkg)]
  (refine vAz<|nSz<|vMz ?_;refine lvz (.notT rfl (by with_reducible rfl)) ?_;refine nNz<|cFz<|zJ<|thenN<|sRz<|vFz<|ldz rfl (.app (.tail (.app (.tail (.tail (.tail .head)))))) (Rd.one' rfl)<|vFz<|ldz rfl (.app (.tail (.app .head))) (Rd.one' rfl)<|vFz<|ldz rfl (.app (.tail (.app (.tail (.tail (.tail .head)))))) (Rd.one' rfl) ?_;apply LW.v0;rfl;rfl;apply zW;infer_instance;infer_instance;apply zA;rfl;apply zA;rfl;apply zA;rfl;exact zB;rfl;simp only [fillP,wrCells,Value.cells,qH,qI,qJ,qG,qL,qK,Nat.reduceAdd,qN];rfl;apply zS;rfl;rfl;infer_instance;exact .cons rfl .nil;intro w _;exact hK w;refine vAz<|nNz<|zI<|sRz<|vMz<|vFz<|ldz rfl (.app .head) fr_rd4 ?_;refine lvz (.gtrT rfl rfl (by omega)) ?_;refine nNz<|cTz<|sRz ?_;apply LW.v0;rfl;rfl;apply zW;infer_instance;infer_instance;exact zB;rfl;simp only [fillP,wrCells,Value.cells,qH,qI,qJ,qG,qL,qK,Nat.reduceAdd,qN];rfl;apply LW.v0;rfl;rfl;apply zW;infer_instance;infer_instance;exact zB;rfl;simp only [fillP,wrCells,Value.cells,qH,qI,qJ,qG,qL,qK,Nat.reduceAdd,qN];rfl;refine zR rfl rfl (.app (.tail (.app (.tail (.tail .head))))) (.whole rfl rfl rfl) ?_;refine zR rfl rfl (.app (.tail (.app (.tail .head)))) (.whole rfl rfl rfl)<|vAz<|nNz<|zK<|thenR ?_)
  exact fin (vs:=[frv zeroF,clv zeroC,.bool false]) [] (.inl rfl) rfl rfl (by (apply zD;apply zH;rfl;apply qE;apply zZ;apply zX;apply zZ;apply zX;apply zX;apply zY;exact qF rfl;apply zD;apply zH;rfl;apply qE;apply zZ;apply zX;apply zZ;apply zX;apply zY;exact qF rfl;apply zD;exact zG rfl;exact zF)) (List.nil_sublist _) ⟨rfl,rfl⟩
 have l0:ws.getD 0 0 < M256:=wordI_lt hM 0
 have hLd:∀ w,Calls Tryz.prog 92 #[.int .u64 ((g2 - k:Nat):Int),wv (ws.getD 0 0)] w (Ret w (.int .u64 ((lentG g2 k (ws.getD 0 0):Nat):Int))):=fun w=>rlend_calls (g2 - k) (ws.getD 0 0) (by omega) l0 w
 have hle:lentG g2 k (ws.getD 0 0)≤g2 - k:=by unfold lentG;omega
 obtain ⟨y,hy⟩:∃ y,lentG g2 k (ws.getD 0 0)=y:=⟨_,rfl⟩
 rw [hy] at hLd hle
 have hfr3:FrO ⟨f1,pc,f2,f3,g2 - k - y,self,frm,val,f4,f5,stat⟩ L2 gT2:=hfr2
 have hsl3:FrSl ⟨f1,pc,f2,f3,g2 - k - y,self,frm,val,f4,f5,stat⟩:=⟨hsl2.c,hsl2.s,hsl2.m,hsl2.i,hsl2.b⟩
 rw [beginG_ok hI hJ hA1 hN1 hA2 hN2 hwho hk hy hR hR2 hkg]
 (refine vAz<|nSz<|vMz ?_;refine lvz (.notT rfl (by with_reducible rfl)) ?_;refine nNz<|cFz<|zJ<|thenN<|sRz<|vFz<|ldz rfl (.app (.tail (.app (.tail (.tail (.tail .head)))))) (Rd.one' rfl)<|vFz<|ldz rfl (.app (.tail (.app .head))) (Rd.one' rfl)<|vFz<|ldz rfl (.app (.tail (.app (.tail (.tail (.tail .head)))))) (Rd.one' rfl) ?_;apply LW.v0;rfl;rfl;apply zW;infer_instance;infer_instance;apply zA;rfl;apply zA;rfl;apply zA;rfl;exact zB;rfl;simp only [fillP,wrCells,Value.cells,qH,qI,qJ,qG,qL,qK,Nat.reduceAdd,qN];rfl;apply zS;rfl;rfl;infer_instance;exact .cons rfl .nil;intro w _;exact hK w;refine vAz<|nNz<|zI<|sRz<|vMz<|vFz<|ldz rfl (.app .head) fr_rd4 ?_;refine lvz (.gtrF rfl rfl (by omega)) ?_;refine nNz<|cFz<|zJ<|thenN<|zI ?_)
 apply CW.pre
 (refine AnyW.anyM [] 7 mixed (by decide +kernel) ?_)
 ((try simp only [tsOf_cons,tsOf_nil,tsOf_app]);refine dvz (.fieldAddr rfl rfl) ?_;apply qD;rfl;rfl;rfl;exact zC;rfl;apply zQ;apply zP;exact zN;exact fr_rd4;refine dvz (.move rfl) ?_;refine dvz (.subN rfl rfl (by omega) (by omega)) ?_;refine dvz (.move rfl) ?_;refine dvz (.indexAddrSL rfl rfl (by decide) (by omega)) ?_;apply DW.loadX;rfl;rfl;rfl;exact zC;rfl;assumption;simp;exact hrd0;apply DW.nil;simp only [fsOf_cons,fsOf_nil,fsOf_app,fsOf_tsOf,fsOf_new])
 (apply zS;rfl;rfl;infer_instance;exact .cons rfl (.cons rfl .nil);intro w _;exact hLd w;refine vAz<|nSz<|vFz<|ldz rfl (.app .head) fr_rd4<|vMz ?_;refine lvz (.subN rfl rfl (by omega) (by omega)) ?_;refine vMz ?_;refine lvz (.subN rfl rfl (by omega) (by omega)) ?_;refine vFz ?_;refine zR rfl rfl (.app .head) fr_wr4<|nNz<|zI<|sRz<|vMz<|vFz ?_;apply zR;rfl;rfl;apply qC;apply qB;apply qC;apply qA;apply Wr.cells;rfl;rfl;simp only [wc,List.size_toArray,List.length_cons,List.length_nil];omega;simp only [fillC,wc,wrCells,Value.cells,qJ,qG,qL,qK,Nat.reduceAdd,Nat.reduceMul,qN,Nat.mul_one];rfl;refine nSz<|vFz<|ldz rfl (.app (.tail (.app .head))) (Rd.one' rfl)<|nNz ?_)
 by_cases hx0:x=0
 ·rw [decide_eq_true hx0]
  (apply CW.condF;rfl;simp only [Bool.not_true,Bool.not_false];refine zJ<|thenN<|zI ?_)
  apply CW.pre
  (refine AnyW.anyM [] 7 mixed (by decide +kernel) ?_)
  ((try simp only [tsOf_cons,tsOf_nil,tsOf_app]);apply qD;rfl;rfl;rfl;exact zC;rfl;apply zQ;apply zP;exact zN;exact fr_rdW;refine dvz (.move rfl) ?_;refine dvz (.indexAddrSL rfl rfl (by decide) (by omega)) ?_;apply DW.loadX;rfl;rfl;rfl;exact zC;rfl;assumption;simp;exact hrd3;refine dvz (.move rfl) ?_;refine dvz (.indexAddrSL rfl rfl (by decide) (by omega)) ?_;apply DW.loadX;rfl;rfl;rfl;exact zC;rfl;assumption;simp;exact hrd4;apply DW.nil;simp only [fsOf_cons,fsOf_nil,fsOf_app,fsOf_tsOf,fsOf_new])
  (apply LW.callR;rfl;rfl;infer_instance;exact .cons rfl (.cons rfl (.cons rfl .nil));intro w hs)
  have hby:=rbytes_calls ⟨f1,pc,f2,f3,g2 - k - y,self,frm,val,f4,f5,stat⟩ L2 a1 n1 la1 ln1 hr1 hm2 w (by have h:=hrows2 w (fun p hp=>(hs.own p (by have:=hin2 p hp;simp [this])).2);exact ⟨h.c,h.s,h.m,h.i,h.b⟩)
  rw [hsame] at hby
  exact hby
  intro vB gB hB
  have hB':=hB
  unfold bM at hB'
  obtain ⟨q9,j9,rfl⟩:=id hB'.form
  obtain ⟨bl,hblb⟩:∃ bl,(L1.ms.drop a1).take n1=bl:=⟨_,rfl⟩
  rw [hblb] at hB hB' ⊢
  (refine vFz ?_;apply zR;rfl;rfl;apply qC;apply qC;apply qB;apply qC;apply qA;apply Wr.cells;rfl;rfl;simp only [wc,List.size_toArray,List.length_cons,List.length_nil];omega;simp only [fillC,wc,wrCells,Value.cells,qJ,qG,qL,qK,Nat.reduceAdd,Nat.reduceMul,qN,Nat.mul_one];rfl;refine nNz<|zI<|sRz<|vMz ?_;refine lvz (.indexAddrSL rfl rfl (by decide) (by omega)) ?_;apply LW.load;rfl;rfl;exact Known.ext (by assumption) (by simp);exact hrd6;apply LW.v0;rfl;rfl;exact ValP.buildW0;refine lvz (.neW rfl rfl (by assumption) (by omega)) ?_;refine nNz ?_)
  by_cases hn20:n2=0
  ·rw [decide_eq_true hn20]
   rw [if_pos hn20,hn20]
   (apply CW.condF;rfl;simp only [Bool.not_true,Bool.not_false];refine zJ<|thenN<|zI ?_;apply CW.pre;refine AnyW.any 3 mixed (by decide +kernel) ?_;(try simp only [tsOf_cons,tsOf_nil,tsOf_app]);apply qD;rfl;rfl;rfl;exact zC;rfl;apply zQ;apply zQ;apply zP;exact zN;exact fr_rdW;apply qD;rfl;rfl;rfl;exact zC;rfl;apply zQ;apply zQ;apply zO;apply zQ;apply zP;exact zN;exact qF rfl;apply DW.store;rfl;rfl;exact zC;rfl;rfl;apply TSet.app;apply TSet.app;apply TSet.tail;apply TSet.app;apply TSet.tail;apply TSet.tail;apply TSet.head;exact zN;exact zN;apply fr_wrW;rfl;assumption;apply DW.nil;simp only [fsOf_cons,fsOf_nil,fsOf_app,fsOf_tsOf,fsOf_new];refine zR rfl rfl (.app (.app (.tail (.app (.tail .head))))) (.whole rfl rfl rfl)<|vAz<|nNz<|zK ?_)
   exact finS (vs:=[frv ⟨f1,pc,f2,f3,g2 - k - y,self,frm,val,f4,f5,stat⟩,(clv ⟨241,t,t,self,x,false,y,.slice q9 bl.length j9,.slice none 0 0,0,0,stat⟩),.bool true]) (gT2++gB) (.inl rfl) rfl rfl (by (apply zD;apply zH;rfl;apply qE;apply zZ;apply zZ;apply zX;apply zZ;apply zX;apply zX;apply zY;exact fr_rdW;apply zD;apply zH;rfl;apply qE;apply zZ;apply zZ;apply zX;apply zZ;apply zX;apply zY;exact qF rfl;apply zD;exact zG rfl;exact zF)) (subS _ _ _) ⟨f1,f2,f3,f4,f5,.slice q9 bl.length j9,gT2,gB,rfl,rfl,hfr3,hB⟩
  ·rw [decide_eq_false hn20]
   rw [if_neg hn20]
   have hlo:=(reach_range hF2 hR2).2.2.2 (Nat.pos_of_ne_zero hn20)
   have ha2m:a2 % 18446744073709551616=a2:=Nat.mod_eq_of_lt (by omega)
   have hn2m:n2 % 18446744073709551616=n2:=Nat.mod_eq_of_lt (by omega)
   rw [ha2m] at hrd50
   rw [hn2m] at hrd60
   (apply CW.condT;rfl;simp only [Bool.not_true,Bool.not_false];apply CW.pre;refine AnyW.any 10 mixed (by decide +kernel) ?_;(try simp only [tsOf_cons,tsOf_nil,tsOf_app]);refine dvz (.move rfl) ?_;refine dvz (.indexAddrSL rfl rfl (by decide) (by omega)) ?_;refine dvz (.indexAddrL rfl rfl rfl) ?_;apply DW.loadX;rfl;rfl;rfl;exact zC;rfl;assumption;simp;exact hrd50;refine dvz (.move rfl) ?_;refine dvz (.indexAddrSL rfl rfl (by decide) (by omega)) ?_;refine dvz (.indexAddrL rfl rfl rfl) ?_;apply DW.loadX;rfl;rfl;rfl;exact zC;rfl;assumption;simp;exact hrd60;refine dvz (.fieldAddr rfl rfl) ?_;apply DW.store;rfl;rfl;exact zC;rfl;rfl;apply TSet.app;apply TSet.app;apply TSet.tail;apply TSet.app;apply TSet.head;exact zN;exact zN;apply Wr.cells;rfl;rfl;simp only [wc,List.size_toArray,List.length_cons,List.length_nil];omega;simp only [fillC,wc,wrCells,Value.cells,qJ,qG,qL,qK,Nat.reduceAdd,Nat.reduceMul,qN,Nat.mul_one];rfl;apply DW.nil;simp only [fsOf_cons,fsOf_nil,fsOf_app,fsOf_tsOf,fsOf_new];refine vFz ?_;apply zR;rfl;rfl;apply qC;apply qC;apply qB;apply qC;apply qA;apply Wr.cells;rfl;rfl;simp only [wc,List.size_toArray,List.length_cons,List.length_nil];omega;simp only [fillC,wc,wrCells,Value.cells,qJ,qG,qL,qK,Nat.reduceAdd,Nat.reduceMul,qN,Nat.mul_one];rfl;refine nNz<|zI ?_;apply CW.pre;refine AnyW.any 3 mixed (by decide +kernel) ?_;(try simp only [tsOf_cons,tsOf_nil,tsOf_app]);apply qD;rfl;rfl;rfl;exact zC;rfl;apply zQ;apply zQ;apply zP;exact zN;exact fr_rdW;apply qD;rfl;rfl;rfl;exact zC;rfl;apply zQ;apply zQ;apply zO;apply zQ;apply zP;exact zN;exact qF rfl;apply DW.store;rfl;rfl;exact zC;rfl;rfl;apply TSet.app;apply TSet.app;apply TSet.tail;apply TSet.app;apply TSet.tail;apply TSet.tail;apply TSet.head;exact zN;exact zN;apply fr_wrW;rfl;assumption;apply DW.nil;simp only [fsOf_cons,fsOf_nil,fsOf_app,fsOf_tsOf,fsOf_new];refine zR rfl rfl (.app (.app (.tail (.app (.tail .head))))) (.whole rfl rfl rfl)<|vAz<|nNz<|zK ?_)
   exact finS (vs:=[frv ⟨f1,pc,f2,f3,g2 - k - y,self,frm,val,f4,f5,stat⟩,(clv ⟨241,t,t,self,x,false,y,.slice q9 bl.length j9,.slice none 0 0,a2,n2,stat⟩),.bool true]) (gT2++gB) (.inl rfl) rfl rfl (by (apply zD;apply zH;rfl;apply qE;apply zZ;apply zZ;apply zX;apply zZ;apply zX;apply zX;apply zY;exact fr_rdW;apply zD;apply zH;rfl;apply qE;apply zZ;apply zZ;apply zX;apply zZ;apply zX;apply zY;exact qF rfl;apply zD;exact zG rfl;exact zF)) (subS _ _ _) ⟨f1,f2,f3,f4,f5,.slice q9 bl.length j9,gT2,gB,rfl,rfl,hfr3,hB⟩
 ·rw [decide_eq_false hx0]
  have hmod:(y+230) % 18446744073709551616=y+230:=Nat.mod_eq_of_lt (by omega)
  (apply CW.condT;rfl;simp only [Bool.not_true,Bool.not_false];refine zL<|vFz<|ldz rfl (.app (.tail (.app .head))) (Rd.one' rfl) ?_;refine lvz (.addNL rfl rfl (by decide)) ?_;refine vFz ?_;apply zR;rfl;rfl;apply qC;apply qB;apply qC;apply qA;apply Wr.cells;rfl;rfl;simp only [wc,List.size_toArray,List.length_cons,List.length_nil];omega;simp only [fillC,wc,wrCells,Value.cells,qJ,qG,qL,qK,Nat.reduceAdd,Nat.reduceMul,qN,Nat.mul_one];rfl;refine nNz<|zI ?_)
  try rw [hmod]
  apply CW.pre
  (refine AnyW.anyM [] 7 mixed (by decide +kernel) ?_)
  ((try simp only [tsOf_cons,tsOf_nil,tsOf_app]);apply qD;rfl;rfl;rfl;exact zC;rfl;apply zQ;apply zP;exact zN;exact fr_rdW;refine dvz (.move rfl) ?_;refine dvz (.indexAddrSL rfl rfl (by decide) (by omega)) ?_;apply DW.loadX;rfl;rfl;rfl;exact zC;rfl;assumption;simp;exact hrd3;refine dvz (.move rfl) ?_;refine dvz (.indexAddrSL rfl rfl (by decide) (by omega)) ?_;apply DW.loadX;rfl;rfl;rfl;exact zC;rfl;assumption;simp;exact hrd4;apply DW.nil;simp only [fsOf_cons,fsOf_nil,fsOf_app,fsOf_tsOf,fsOf_new])
  (apply LW.callR;rfl;rfl;infer_instance;exact .cons rfl (.cons rfl (.cons rfl .nil));intro w hs)
  have hby:=rbytes_calls ⟨f1,pc,f2,f3,g2 - k - y,self,frm,val,f4,f5,stat⟩ L2 a1 n1 la1 ln1 hr1 hm2 w (by have h:=hrows2 w (fun p hp=>(hs.own p (by have:=hin2 p hp;simp [this])).2);exact ⟨h.c,h.s,h.m,h.i,h.b⟩)
  rw [hsame] at hby
  exact hby
  intro vB gB hB
  have hB':=hB
  unfold bM at hB'
  obtain ⟨q9,j9,rfl⟩:=id hB'.form
  obtain ⟨bl,hblb⟩:∃ bl,(L1.ms.drop a1).take n1=bl:=⟨_,rfl⟩
  rw [hblb] at hB hB' ⊢
  (refine vFz ?_;apply zR;rfl;rfl;apply qC;apply qC;apply qB;apply qC;apply qA;apply Wr.cells;rfl;rfl;simp only [wc,List.size_toArray,List.length_cons,List.length_nil];omega;simp only [fillC,wc,wrCells,Value.cells,qJ,qG,qL,qK,Nat.reduceAdd,Nat.reduceMul,qN,Nat.mul_one];rfl;refine nNz<|zI<|sRz<|vMz ?_;refine lvz (.indexAddrSL rfl rfl (by decide) (by omega)) ?_;apply LW.load;rfl;rfl;exact Known.ext (by assumption) (by simp);exact hrd6;apply LW.v0;rfl;rfl;exact ValP.buildW0;refine lvz (.neW rfl rfl (by assumption) (by omega)) ?_;refine nNz ?_)
  by_cases hn20:n2=0
  ·rw [decide_eq_true hn20]
   rw [if_pos hn20,hn20]
   (apply CW.condF;rfl;simp only [Bool.not_true,Bool.not_false];refine zJ<|thenN<|zI ?_;apply CW.pre;refine AnyW.any 3 mixed (by decide +kernel) ?_;(try simp only [tsOf_cons,tsOf_nil,tsOf_app]);apply qD;rfl;rfl;rfl;exact zC;rfl;apply zQ;apply zQ;apply zP;exact zN;exact fr_rdW;apply qD;rfl;rfl;rfl;exact zC;rfl;apply zQ;apply zQ;apply zO;apply zQ;apply zP;exact zN;exact qF rfl;apply DW.store;rfl;rfl;exact zC;rfl;rfl;apply TSet.app;apply TSet.app;apply TSet.tail;apply TSet.app;apply TSet.tail;apply TSet.tail;apply TSet.head;exact zN;exact zN;apply fr_wrW;rfl;assumption;apply DW.nil;simp only [fsOf_cons,fsOf_nil,fsOf_app,fsOf_tsOf,fsOf_new];refine zR rfl rfl (.app (.app (.tail (.app (.tail .head))))) (.whole rfl rfl rfl)<|vAz<|nNz<|zK ?_)
   exact finS (vs:=[frv ⟨f1,pc,f2,f3,g2 - k - y,self,frm,val,f4,f5,stat⟩,(clv ⟨241,t,t,self,x,true,y+230,.slice q9 bl.length j9,.slice none 0 0,0,0,stat⟩),.bool true]) (gT2++gB) (.inl rfl) rfl rfl (by (apply zD;apply zH;rfl;apply qE;apply zZ;apply zZ;apply zX;apply zZ;apply zX;apply zX;apply zY;exact fr_rdW;apply zD;apply zH;rfl;apply qE;apply zZ;apply zZ;apply zX;apply zZ;apply zX;apply zY;exact qF rfl;apply zD;exact zG rfl;exact zF)) (subS _ _ _) ⟨f1,f2,f3,f4,f5,.slice q9 bl.length j9,gT2,gB,rfl,rfl,hfr3,hB⟩
  ·rw [decide_eq_false hn20]
   rw [if_neg hn20]
   have hlo:=(reach_range hF2 hR2).2.2.2 (Nat.pos_of_ne_zero hn20)
   have ha2m:a2 % 18446744073709551616=a2:=Nat.mod_eq_of_lt (by omega)
   have hn2m:n2 % 18446744073709551616=n2:=Nat.mod_eq_of_lt (by omega)
   rw [ha2m] at hrd50
   rw [hn2m] at hrd60
   (apply CW.condT;rfl;simp only [Bool.not_true,Bool.not_false];apply CW.pre;refine AnyW.any 10 mixed (by decide +kernel) ?_;(try simp only [tsOf_cons,tsOf_nil,tsOf_app]);refine dvz (.move rfl) ?_;refine dvz (.indexAddrSL rfl rfl (by decide) (by omega)) ?_;refine dvz (.indexAddrL rfl rfl rfl) ?_;apply DW.loadX;rfl;rfl;rfl;exact zC;rfl;assumption;simp;exact hrd50;refine dvz (.move rfl) ?_;refine dvz (.indexAddrSL rfl rfl (by decide) (by omega)) ?_;refine dvz (.indexAddrL rfl rfl rfl) ?_;apply DW.loadX;rfl;rfl;rfl;exact zC;rfl;assumption;simp;exact hrd60;refine dvz (.fieldAddr rfl rfl) ?_;apply DW.store;rfl;rfl;exact zC;rfl;rfl;apply TSet.app;apply TSet.app;apply TSet.tail;apply TSet.app;apply TSet.head;exact zN;exact zN;apply Wr.cells;rfl;rfl;simp only [wc,List.size_toArray,List.length_cons,List.length_nil];omega;simp only [fillC,wc,wrCells,Value.cells,qJ,qG,qL,qK,Nat.reduceAdd,Nat.reduceMul,qN,Nat.mul_one];rfl;apply DW.nil;simp only [fsOf_cons,fsOf_nil,fsOf_app,fsOf_tsOf,fsOf_new];refine vFz ?_;apply zR;rfl;rfl;apply qC;apply qC;apply qB;apply qC;apply qA;apply Wr.cells;rfl;rfl;simp only [wc,List.size_toArray,List.length_cons,List.length_nil];omega;simp only [fillC,wc,wrCells,Value.cells,qJ,qG,qL,qK,Nat.reduceAdd,Nat.reduceMul,qN,Nat.mul_one];rfl;refine nNz<|zI ?_;apply CW.pre;refine AnyW.any 3 mixed (by decide +kernel) ?_;(try simp only [tsOf_cons,tsOf_nil,tsOf_app]);apply qD;rfl;rfl;rfl;exact zC;rfl;apply zQ;apply zQ;apply zP;exact zN;exact fr_rdW;apply qD;rfl;rfl;rfl;exact zC;rfl;apply zQ;apply zQ;apply zO;apply zQ;apply zP;exact zN;exact qF rfl;apply DW.store;rfl;rfl;exact zC;rfl;rfl;apply TSet.app;apply TSet.app;apply TSet.tail;apply TSet.app;apply TSet.tail;apply TSet.tail;apply TSet.head;exact zN;exact zN;apply fr_wrW;rfl;assumption;apply DW.nil;simp only [fsOf_cons,fsOf_nil,fsOf_app,fsOf_tsOf,fsOf_new];refine zR rfl rfl (.app (.app (.tail (.app (.tail .head))))) (.whole rfl rfl rfl)<|vAz<|nNz<|zK ?_)
   exact finS (vs:=[frv ⟨f1,pc,f2,f3,g2 - k - y,self,frm,val,f4,f5,stat⟩,(clv ⟨241,t,t,self,x,true,y+230,.slice q9 bl.length j9,.slice none 0 0,a2,n2,stat⟩),.bool true]) (gT2++gB) (.inl rfl) rfl rfl (by (apply zD;apply zH;rfl;apply qE;apply zZ;apply zZ;apply zX;apply zZ;apply zX;apply zX;apply zY;exact fr_rdW;apply zD;apply zH;rfl;apply qE;apply zZ;apply zZ;apply zX;apply zZ;apply zX;apply zY;exact qF rfl;apply zD;exact zG rfl;exact zF)) (subS _ _ _) ⟨f1,f2,f3,f4,f5,.slice q9 bl.length j9,gT2,gB,rfl,rfl,hfr3,hB⟩
theorem rcalls244 (f:FrV) (L:FrL) (A:AkV) (ws:List Nat) (hM:∀ x∈ws,x < M256) (hd:∃ p n c,A.dt=.slice p n c) (hask:askB A.kind A.op ws.length=true) (he:A.op=244) (hF:okF f L) (w:World) (h:FrRows w f L) (hv:RowAt w 4 A.ws ws.length (wcs ws)) :
  Calls Tryz.prog 60 #[frv f,.agg (aska A.kind A.op A.ws A.dt),.agg #[.bool A.cold,.bool A.vl,.bool A.new]] w (RetG w [] (BegR f (beginG f L A ws))):=by
 obtain ⟨kind,op,aws,dt,cold,vl,new⟩:=A
 obtain ⟨q,d,e,hd⟩:=hd
 dsimp only at hd hask hv he ⊢
 subst hd
 subst he
 have hlen:ws.length=6:=by
  have hh:=hask
  unfold askB at hh
  simp only [Bool.and_eq_true,decide_eq_true_eq] at hh
  have h2:=hh.2.2
  have:(shq 244).1=6:=rfl
  omega
 obtain ⟨pw,cw,rfl,hc7,_⟩:=id hv.form
 obtain ⟨bw,off,cc,cs,E,fr,heq,hbw,hx⟩:=hv.pos (by omega)
 cases heq
 obtain ⟨code,pc,stk,mem,gas,self,frm,val,inp,back,stat⟩:=f
 have hrow:=h
 obtain ⟨h0,h2,h3,h11,h12⟩:=h
 dsimp only at h0 h2 h3 h11 h12
 obtain ⟨p0,c0,rfl,_,_⟩:=id h0.form
 obtain ⟨p2,c2,rfl,_,_⟩:=id h2.form
 obtain ⟨p3,c3,rfl,_,_⟩:=id h3.form
 obtain ⟨p11,c11,rfl,_,_⟩:=id h11.form
 obtain ⟨p12,c12,rfl,_,_⟩:=id h12.form
 have hrd1:=word0_rd (P:=Tryz.prog) (T:=26) (E:=E) (fr:=fr) hx 1 (by omega)
 have hrd0:=word_rd (P:=Tryz.prog) (T:=29) (E:=E) (fr:=fr) hx 0 (by omega)
 have hrd3:=word_rd (P:=Tryz.prog) (T:=29) (E:=E) (fr:=fr) hx 2 (by omega)
 have hrd4:=word_rd (P:=Tryz.prog) (T:=29) (E:=E) (fr:=fr) hx 3 (by omega)
 have hrd5:=word_rd (P:=Tryz.prog) (T:=29) (E:=E) (fr:=fr) hx 4 (by omega)
 have hrd6:=word_rd (P:=Tryz.prog) (T:=29) (E:=E) (fr:=fr) hx 5 (by omega)
 have hrd50:=word0_rd (P:=Tryz.prog) (T:=26) (E:=E) (fr:=fr) hx 4 (by omega)
 have hrd60:=word0_rd (P:=Tryz.prog) (T:=26) (E:=E) (fr:=fr) hx 5 (by omega)
 have hzs:=zero_sl
 have hcw:ws.length≤cw:=hc7
 have ht:ws.getD 1 0 % 18446744073709551616 < 18446744073709551616:=Nat.mod_lt _ (by decide)
 obtain ⟨t,hte⟩:∃ t,t=ws.getD 1 0 % 18446744073709551616:=⟨_,rfl⟩
 rw [← hte] at hrd1 ht
 obtain ⟨a1,ha1⟩:∃ a,a=ws.getD 2 0:=⟨_,rfl⟩
 rw [← ha1] at hrd3
 have la1:a1 < M256:=ha1 ▸ wordI_lt hM 2
 have e3:off+2 * 4=off+2 * 4+0 * 4:=by omega
 rw [e3] at hrd3
 obtain ⟨n1,hn1⟩:∃ a,a=ws.getD 3 0:=⟨_,rfl⟩
 rw [← hn1] at hrd4
 have ln1:n1 < M256:=hn1 ▸ wordI_lt hM 3
 have e4:off+3 * 4=off+2 * 4+1 * 4:=by omega
 rw [e4] at hrd4
 obtain ⟨a2,ha2⟩:∃ a,a=ws.getD 4 0:=⟨_,rfl⟩
 rw [← ha2] at hrd5 hrd50
 have la2:a2 < M256:=ha2 ▸ wordI_lt hM 4
 have e5:off+4 * 4=off+2 * 4+2 * 4:=by omega
 rw [e5] at hrd5 hrd50
 obtain ⟨n2,hn2⟩:∃ a,a=ws.getD 5 0:=⟨_,rfl⟩
 rw [← hn2] at hrd6 hrd60
 have ln2:n2 < M256:=hn2 ▸ wordI_lt hM 5
 have e6:off+5 * 4=off+2 * 4+3 * 4:=by omega
 rw [e6] at hrd6 hrd60
 have hI:(shq 244).2.2.2.1=2:=rfl
 have hJ:(shq 244).2.2.2.2.1=4:=rfl
 have hA1:wordI ws 2=a1:=by rw [ha1];rfl
 have hN1:wordI ws (2+1)=n1:=by rw [hn1];rfl
 have hA2:wordI ws 4=a2:=by rw [ha2];rfl
 have hN2:wordI ws (4+1)=n2:=by rw [hn2];rfl
 have hwho:whoC (FrV.mk (.slice p0 L.cl.length c0) pc (.slice p2 L.ws.length c2) (.slice p3 L.ms.length c3) gas self frm val (.slice p11 L.il.length c11) (.slice p12 L.bl.length c12) stat) 244 ws=⟨244,t,self,frm,val,false,0,.slice none 0 0,.slice none 0 0,0,0,stat⟩:=by
  rw [hte]
  cases stat<;>rfl
 obtain ⟨us,hbl,hin,hrows⟩:=FrA.lie (w0:=w) (f:=(FrV.mk (.slice p0 L.cl.length c0) pc (.slice p2 L.ws.length c2) (.slice p3 L.ms.length c3) gas self frm val (.slice p11 L.il.length c11) (.slice p12 L.bl.length c12) stat)) (L:=L) (gs:=[]) (.inl ⟨rfl,hrow⟩)
 refine enter (args:=[_,_,_]) _ [] [] Tryz.func60 rfl Tryz.ntmps60 rfl (by simp) .nil ?_
 (refine sRz ?_;apply zT;rfl;rfl;intro _;apply zT;rfl;rfl;intro _;apply zT;rfl;rfl;intro _;apply zU;rfl;intro _;apply zU;rfl;intro _;refine vAz<|nSz<|vFz<|ldz rfl (.tail (.tail (.tail .head))) ask_rd2<|vAz<|nNz<|zI ?_)
 apply CW.pre
 (refine AnyW.anyM [] 12 mixed (by decide +kernel) ?_)
 ((try simp only [tsOf_cons,tsOf_nil,tsOf_app]);refine dvz (.fieldAddr rfl rfl) ?_;apply qD;rfl;rfl;rfl;exact zC;rfl;apply zO;apply zO;apply zO;apply zP;exact zN;exact ask_rd1;refine dvz (.move rfl) ?_;refine dvz (.indexAddrSL rfl rfl (by decide) (by omega)) ?_;refine dvz (.indexAddrL rfl rfl rfl) ?_;apply DW.loadX;rfl;rfl;rfl;exact zC;rfl;assumption;simp;exact hrd1;refine dvz (.fieldAddr rfl rfl) ?_;apply qD;rfl;rfl;rfl;exact zC;rfl;apply zO;apply zO;apply zO;apply zO;apply zP;exact zN;exact fr_rd5;refine dvz (.fieldAddr rfl rfl) ?_;apply qD;rfl;rfl;rfl;exact zC;rfl;apply zO;apply zO;apply zO;apply zO;apply zP;exact zN;exact fr_rd13;apply DW.v0;rfl;rfl;rfl;exact zC;rfl;apply zW;infer_instance;infer_instance;apply zA;rfl;apply zA;rfl;apply zA;rfl;apply zA;rfl;exact zB;rfl;simp only [fillP,wrCells,Value.cells,qH,qI,qJ,qG,qL,qK,Nat.reduceAdd,qN];rfl;apply DW.allocA;rfl;rfl;rfl;exact zC;intro _;apply DW.nil;simp only [fsOf_cons,fsOf_nil,fsOf_app,fsOf_tsOf,fsOf_new])
 (refine zR rfl rfl .head (.whole rfl rfl rfl)<|nSz<|vFz<|ldz rfl .head (Rd.one' rfl)<|vFz ?_;apply zR;rfl;rfl;apply qA;apply Wr.cells;rfl;rfl;simp only [wc,List.size_toArray,List.length_cons,List.length_nil];omega;simp only [fillC,wc,wrCells,Value.cells,qJ,qG,qL,qK,Nat.reduceAdd,Nat.reduceMul,qN,Nat.mul_one];rfl;refine nSz<|vMz ?_;apply LW.v0;rfl;rfl;(refine ValP.cutFromW (k:=2) inferInstance inferInstance rfl rfl ?_ ?_<;>omega);refine vAz<|nNz<|zI<|sRz<|vFz<|ldz rfl (.tail (.tail (.tail (.tail .head)))) ask_rd1<|nNz<|zM<|sRz ?_;refine lvz (.eqF rfl rfl (by omega)) ?_;refine vAz<|nNz<|cFz<|sRz ?_;refine lvz (.eqF rfl rfl (by omega)) ?_;refine vAz<|nNz<|cFz ?_;apply CW.pre;refine AnyW.anyM [] 10 mixed (by decide +kernel) ?_;(try simp only [tsOf_cons,tsOf_nil,tsOf_app]);refine dvz (.fieldAddr rfl rfl) ?_;apply qD;rfl;rfl;rfl;exact zC;rfl;apply zO;apply zO;apply zO;apply zO;apply zO;apply zP;exact zN;exact fr_rd5;refine dvz (.fieldAddr rfl rfl) ?_;apply qD;rfl;rfl;rfl;exact zC;rfl;apply zO;apply zO;apply zO;apply zO;apply zO;apply zP;exact zN;exact fr_rd6;refine dvz (.fieldAddr rfl rfl) ?_;apply qD;rfl;rfl;rfl;exact zC;rfl;apply zO;apply zO;apply zO;apply zO;apply zO;apply zP;exact zN;exact fr_rd7;refine dvz (.fieldAddr rfl rfl) ?_;apply DW.store;rfl;rfl;exact zC;rfl;rfl;apply TSet.head;exact zN;exact zN;apply Wr.cells;rfl;rfl;simp only [wc,List.size_toArray,List.length_cons,List.length_nil];omega;simp only [fillC,wc,wrCells,Value.cells,qJ,qG,qL,qK,Nat.reduceAdd,Nat.reduceMul,qN,Nat.mul_one];rfl;refine dvz (.fieldAddr rfl rfl) ?_;apply DW.store;rfl;rfl;exact zC;rfl;rfl;apply TSet.head;kernel_rfl;kernel_rfl;apply Wr.cells;rfl;rfl;simp only [wc,List.size_toArray,List.length_cons,List.length_nil];omega;simp only [fillC,wc,wrCells,Value.cells,qJ,qG,qL,qK,Nat.reduceAdd,Nat.reduceMul,qN,Nat.mul_one];rfl;apply DW.nil;simp only [fsOf_cons,fsOf_nil,fsOf_app,fsOf_tsOf,fsOf_new])
 (refine vFz ?_;apply zR;rfl;rfl;apply qA;apply Wr.cells;rfl;rfl;simp only [wc,List.size_toArray,List.length_cons,List.length_nil];omega;simp only [fillC,wc,wrCells,Value.cells,qJ,qG,qL,qK,Nat.reduceAdd,Nat.reduceMul,qN,Nat.mul_one];rfl;apply zV;refine blkN<|thenN<|zI ?_)
 apply CW.pre
 (refine AnyW.anyM [(7,ToldR (FrV.mk (.slice p0 L.cl.length c0) pc (.slice p2 L.ws.length c2) (.slice p3 L.ms.length c3) gas self frm val (.slice p11 L.il.length c11) (.slice p12 L.bl.length c12) stat) (reachR (FrV.mk (.slice p0 L.cl.length c0) pc (.slice p2 L.ws.length c2) (.slice p3 L.ms.length c3) gas self frm val (.slice p11 L.il.length c11) (.slice p12 L.bl.length c12) stat) L a1 n1))] 13 mixed (by decide +kernel) ?_)
 ((try simp only [tsOf_cons,tsOf_nil,tsOf_app]);apply qD;rfl;rfl;rfl;exact zC;rfl;apply zO;apply zO;apply zO;apply zO;apply zO;apply zP;exact zN;exact fr_rdW;refine dvz (.move rfl) ?_;refine dvz (.indexAddrSL rfl rfl (by decide) (by omega)) ?_;apply DW.loadX;rfl;rfl;rfl;exact zC;rfl;assumption;simp;exact hrd3;refine dvz (.move rfl) ?_;refine dvz (.indexAddrSL rfl rfl (by decide) (by omega)) ?_;apply DW.loadX;rfl;rfl;rfl;exact zC;rfl;assumption;simp;exact hrd4)
 refine DW.manyA us rfl rfl rfl (by (exact zC)) rfl inferInstance (by (exact .cons rfl (.cons rfl (.cons rfl .nil)))) (by rw [List.flatMap_cons,hbl];exact List.append_nil _) (fun p hp=>?_) (fun w hb hu=>?_) ?_
 ·rcases hin p hp with h|h
  ·cases h
  ·exact .inr ⟨h,by simp⟩
 ·exact rReach_calls (FrV.mk (.slice p0 L.cl.length c0) pc (.slice p2 L.ws.length c2) (.slice p3 L.ms.length c3) gas self frm val (.slice p11 L.il.length c11) (.slice p12 L.bl.length c12) stat) L a1 n1 la1 ln1 hF w (hrows w hb hu)
 intro vT gT hT
 rcases hR:reachR (FrV.mk (.slice p0 L.cl.length c0) pc (.slice p2 L.ws.length c2) (.slice p3 L.ms.length c3) gas self frm val (.slice p11 L.il.length c11) (.slice p12 L.bl.length c12) stat) L a1 n1 with _|z
 ·rw [hR] at hT
  obtain ⟨rfl,rfl⟩:=hT
  ((try simp only [tsOf_cons,tsOf_nil,tsOf_app]);refine dvz (.move rfl) ?_;refine dvz (.extractN rfl rfl) ?_;refine dvz (.extractN rfl rfl) ?_;apply DW.allocA;rfl;rfl;rfl;exact zC;intro _;apply DW.store;rfl;rfl;exact zC;rfl;rfl;apply TSet.head;kernel_rfl;exact zN;apply fr_wrW;rfl;assumption;apply DW.nil;simp only [fsOf_cons,fsOf_nil,fsOf_app,fsOf_tsOf,fsOf_new])
  simp only [fsOf_mark,fsOf_cons,fsOf_nil,fsOf_app,fsOf_tsOf,fsOf_new,List.append_eq,List.nil_append]
  (refine vAz<|nNz<|zI<|sRz<|vMz ?_;refine lvz (.notF rfl (by with_reducible rfl)) ?_;refine nNz<|cTz<|sRz ?_;apply LW.v0;rfl;rfl;apply zW;infer_instance;infer_instance;exact zB;rfl;simp only [fillP,wrCells,Value.cells,qH,qI,qJ,qG,qL,qK,Nat.reduceAdd,qN];rfl;apply LW.v0;rfl;rfl;apply zW;infer_instance;infer_instance;exact zB;rfl;simp only [fillP,wrCells,Value.cells,qH,qI,qJ,qG,qL,qK,Nat.reduceAdd,qN];rfl;refine zR rfl rfl (.tail (.tail (.tail .head))) (.whole rfl rfl rfl) ?_;refine zR rfl rfl (.tail (.tail .head)) (.whole rfl rfl rfl)<|vAz<|nNz<|zK<|thenR ?_)
  rw [beginG_none1 hI hA1 hN1 hR]
  exact fin (vs:=[frv zeroF,clv zeroC,.bool false]) [] (.inl rfl) rfl rfl (by (apply zD;apply zH;rfl;apply qE;apply zX;apply zX;apply zX;apply zY;exact qF rfl;apply zD;apply zH;rfl;apply qE;apply zX;apply zX;apply zY;exact qF rfl;apply zD;exact zG rfl;exact zF)) (List.nil_sublist _) ⟨rfl,rfl⟩
 rw [hR] at hT
 obtain ⟨g1,L1⟩:=z
 obtain ⟨d1,d2,d3,d4,d5,rfl,hfr1⟩:=hT
 have hsl1:=hfr1.sl
 obtain ⟨us1,hbl1,hin1,hrows1⟩:=hfr1.lie
 ((try simp only [tsOf_cons,tsOf_nil,tsOf_app]);refine dvz (.move rfl) ?_;refine dvz (.extractN rfl rfl) ?_;refine dvz (.extractN rfl rfl) ?_;apply DW.allocA;rfl;rfl;rfl;exact zC;intro _;apply DW.store;rfl;rfl;exact zC;rfl;rfl;apply TSet.head;kernel_rfl;exact zN;apply fr_wrW;rfl;assumption;apply DW.nil;simp only [fsOf_cons,fsOf_nil,fsOf_app,fsOf_tsOf,fsOf_new])
 simp only [fsOf_mark,fsOf_cons,fsOf_nil,fsOf_app,fsOf_tsOf,fsOf_new,List.append_eq,List.nil_append]
 (refine vAz<|nNz<|zI<|sRz<|vMz ?_;refine lvz (.notT rfl (by with_reducible rfl)) ?_;refine nNz<|cFz<|zJ<|thenN<|zI<|zI ?_)
 apply CW.pre
 (refine AnyW.anyM [(7,ToldR (FrV.rowsG (FrV.mk (.slice p0 L.cl.length c0) pc (.slice p2 L.ws.length c2) (.slice p3 L.ms.length c3) gas self frm val (.slice p11 L.il.length c11) (.slice p12 L.bl.length c12) stat) g1 d1 d2 d3 d4 d5) (reachG g1 L1 a2 n2))] 12 mixed (by decide +kernel) ?_)
 ((try simp only [tsOf_cons,tsOf_nil,tsOf_app]);apply qD;rfl;rfl;rfl;exact zC;rfl;apply zP;exact zN;exact fr_rdW;refine dvz (.move rfl) ?_;refine dvz (.indexAddrSL rfl rfl (by decide) (by omega)) ?_;apply DW.loadX;rfl;rfl;rfl;exact zC;rfl;assumption;simp;exact hrd5;refine dvz (.move rfl) ?_;refine dvz (.indexAddrSL rfl rfl (by decide) (by omega)) ?_;apply DW.loadX;rfl;rfl;rfl;exact zC;rfl;assumption;simp;exact hrd6)
 refine DW.manyA us1 rfl rfl rfl (by (exact zC)) rfl inferInstance (by (exact .cons rfl (.cons rfl (.cons rfl .nil)))) (by rw [List.flatMap_cons,hbl1];exact List.append_nil _) (fun p hp=>AncT.lie (by (refine AncT.cons ?_ ?_;exact zN;refine AncT.app ?_ ?_;exact AncT.tsOf;refine AncT.cons ?_ ?_;exact zN;refine AncT.cons ?_ ?_;exact zN;refine AncT.cons ?_ ?_;exact zN;refine AncT.cons ?_ ?_;exact zN;refine AncT.cons ?_ ?_;exact zN;refine AncT.cons ?_ ?_;exact zN;exact AncT.nil)) (by have hp:=hin1 p hp;simp [fsOf,tsOf,tsNew,tsTag,markAll,Function.comp_def,hp])) (fun w hb hu=>?_) ?_
 ·exact rReach_calls (FrV.rowsG (FrV.mk (.slice p0 L.cl.length c0) pc (.slice p2 L.ws.length c2) (.slice p3 L.ms.length c3) gas self frm val (.slice p11 L.il.length c11) (.slice p12 L.bl.length c12) stat) g1 d1 d2 d3 d4 d5) L1 a2 n2 la2 ln2 (okF_reach hF hR) w (hrows1 w hu)
 intro vT2 gT2 hT2
 rcases hR2:reachG g1 L1 a2 n2 with _|z2
 ·rw [hR2] at hT2
  obtain ⟨rfl,rfl⟩:=hT2
  (try simp only [markAll_cons,markAll_app,markAll_tsOf,markAll_tag,markAll_new,markAll_nil])
  ((try simp only [tsOf_cons,tsOf_nil,tsOf_app]);refine dvz (.move rfl) ?_;refine dvz (.extractN rfl rfl) ?_;refine dvz (.extractN rfl rfl) ?_;apply DW.store;rfl;rfl;exact zC;rfl;rfl;apply TSet.head;exact zN;kernel_rfl;apply fr_wrW;rfl;assumption;apply DW.nil;simp only [fsOf_cons,fsOf_nil,fsOf_app,fsOf_tsOf,fsOf_new])
  try simp only [fsOf_mark,fsOf_cons,fsOf_nil,fsOf_app,fsOf_tsOf,fsOf_new,fsOf_tag,List.append_eq,List.nil_append]
  (refine vAz<|nSz<|vMz ?_;refine lvz (.notF rfl (by with_reducible rfl)) ?_;refine nNz<|cTz<|sRz ?_;apply LW.v0;rfl;rfl;apply zW;infer_instance;infer_instance;exact zB;rfl;simp only [fillP,wrCells,Value.cells,qH,qI,qJ,qG,qL,qK,Nat.reduceAdd,qN];rfl;apply LW.v0;rfl;rfl;apply zW;infer_instance;infer_instance;exact zB;rfl;simp only [fillP,wrCells,Value.cells,qH,qI,qJ,qG,qL,qK,Nat.reduceAdd,qN];rfl;refine zR rfl rfl (.tail (.app (.tail (.tail .head)))) (.whole rfl rfl rfl) ?_;refine zR rfl rfl (.tail (.app (.tail .head))) (.whole rfl rfl rfl)<|vAz<|nNz<|zK<|thenR ?_)
  rw [beginG_none2 hI hJ hA1 hN1 hA2 hN2 hR hR2]
  exact fin (vs:=[frv zeroF,clv zeroC,.bool false]) [] (.inl rfl) rfl rfl (by (apply zD;apply zH;rfl;apply qE;apply zX;apply zZ;apply zX;apply zX;apply zY;exact qF rfl;apply zD;apply zH;rfl;apply qE;apply zX;apply zZ;apply zX;apply zY;exact qF rfl;apply zD;exact zG rfl;exact zF)) (List.nil_sublist _) ⟨rfl,rfl⟩
 rw [hR2] at hT2
 obtain ⟨g2,L2⟩:=z2
 have hF2:=okF_reach (c:=d1) (s:=d2) (m:=d3) (i:=d4) (b:=d5) hF hR
 have hF3:g2≤20000:=by
  have h1:g1≤20000:=hF2.1.2.2
  obtain ⟨_,h2,_⟩:=reachG_some hR2
  omega
 obtain ⟨f1,f2,f3,f4,f5,rfl,hfr2⟩:=hT2
 have hsl2:=hfr2.sl
 obtain ⟨us2,hbl2,hin2,hrows2⟩:=hfr2.lie
 obtain ⟨hm2,hr1,hsame⟩:=reach_same hF hR hR2
 have hK:=rCall_calls cold false new
 have hkl:callV cold false new < 18446744073709551616:=by
  unfold callV
  cases cold<;>cases new<;>cases false<;>decide
 obtain ⟨k,hk⟩:∃ k,callV cold false new=k:=⟨_,rfl⟩
 rw [hk] at hK hkl
 dsimp only [FrV.rowsG] at hsl2 hbl2 hrows2 ⊢
 (try simp only [markAll_cons,markAll_app,markAll_tsOf,markAll_tag,markAll_new,markAll_nil])
 ((try simp only [tsOf_cons,tsOf_nil,tsOf_app]);refine dvz (.move rfl) ?_;refine dvz (.extractN rfl rfl) ?_;refine dvz (.extractN rfl rfl) ?_;apply DW.store;rfl;rfl;exact zC;rfl;rfl;apply TSet.app;apply TSet.head;exact zN;kernel_rfl;apply fr_wrW;rfl;assumption;apply DW.nil;simp only [fsOf_cons,fsOf_nil,fsOf_app,fsOf_tsOf,fsOf_new])
 try simp only [fsOf_mark,fsOf_cons,fsOf_nil,fsOf_app,fsOf_tsOf,fsOf_new,fsOf_tag,List.append_eq,List.nil_append]
 rcases Nat.lt_or_ge g2 k with hkg|hkg
 ·rw [beginG_few hI hJ hA1 hN1 hA2 hN2 hwho hk hR hR2 (Nat.not_le.2 hkg)]
  (refine vAz<|nSz<|vMz ?_;refine lvz (.notT rfl (by with_reducible rfl)) ?_;refine nNz<|cFz<|zJ<|thenN<|sRz<|vFz<|ldz rfl (.app (.tail (.app (.tail (.tail (.tail .head)))))) (Rd.one' rfl)<|vFz<|ldz rfl (.app (.tail (.app .head))) (Rd.one' rfl)<|vFz<|ldz rfl (.app (.tail (.app (.tail (.tail (.tail .head)))))) (Rd.one' rfl) ?_;apply LW.v0;rfl;rfl;apply zW;infer_instance;infer_instance;apply zA;rfl;apply zA;rfl;apply zA;rfl;exact zB;rfl;simp only [fillP,wrCells,Value.cells,qH,qI,qJ,qG,qL,qK,Nat.reduceAdd,qN];rfl;apply zS;rfl;rfl;infer_instance;exact .cons rfl .nil;intro w _;exact hK w;refine vAz<|nNz<|zI<|sRz<|vMz<|vFz<|ldz rfl (.app .head) fr_rd4 ?_;refine lvz (.gtrT rfl rfl (by omega)) ?_;refine nNz<|cTz<|sRz ?_;apply LW.v0;rfl;rfl;apply zW;infer_instance;infer_instance;exact zB;rfl;simp only [fillP,wrCells,Value.cells,qH,qI,qJ,qG,qL,qK,Nat.reduceAdd,qN];rfl;apply LW.v0;rfl;rfl;apply zW;infer_instance;infer_instance;exact zB;rfl;simp only [fillP,wrCells,Value.cells,qH,qI,qJ,qG,qL,qK,Nat.reduceAdd,qN];rfl;refine zR rfl rfl (.app (.tail (.app (.tail (.tail .head))))) (.whole rfl rfl rfl) ?_;refine zR rfl rfl (.app (.tail (.app (.tail .head)))) (.whole rfl rfl rfl)<|vAz<|nNz<|zK<|thenR ?_)
  exact fin (vs:=[frv zeroF,clv zeroC,.bool false]) [] (.inl rfl) rfl rfl (by (apply zD;apply zH;rfl;apply qE;apply zZ;apply zX;apply zZ;apply zX;apply zX;apply zY;exact qF rfl;apply zD;apply zH;rfl;apply qE;apply zZ;apply zX;apply zZ;apply zX;apply zY;exact qF rfl;apply zD;exact zG rfl;exact zF)) (List.nil_sublist _) ⟨rfl,rfl⟩
 have l0:ws.getD 0 0 < M256:=wordI_lt hM 0
 have hLd:∀ w,Calls Tryz.prog 92 #[.int .u64 ((g2 - k:Nat):Int),wv (ws.getD 0 0)] w (Ret w (.int .u64 ((lentG g2 k (ws.getD 0 0):Nat):Int))):=fun w=>rlend_calls (g2 - k) (ws.getD 0 0) (by omega) l0 w
 have hle:lentG g2 k (ws.getD 0 0)≤g2 - k:=by unfold lentG;omega
 obtain ⟨y,hy⟩:∃ y,lentG g2 k (ws.getD 0 0)=y:=⟨_,rfl⟩
 rw [hy] at hLd hle
 have hfr3:FrO ⟨f1,pc,f2,f3,g2 - k - y,self,frm,val,f4,f5,stat⟩ L2 gT2:=hfr2
 have hsl3:FrSl ⟨f1,pc,f2,f3,g2 - k - y,self,frm,val,f4,f5,stat⟩:=⟨hsl2.c,hsl2.s,hsl2.m,hsl2.i,hsl2.b⟩
 rw [beginG_ok hI hJ hA1 hN1 hA2 hN2 hwho hk hy hR hR2 hkg]
 (refine vAz<|nSz<|vMz ?_;refine lvz (.notT rfl (by with_reducible rfl)) ?_;refine nNz<|cFz<|zJ<|thenN<|sRz<|vFz<|ldz rfl (.app (.tail (.app (.tail (.tail (.tail .head)))))) (Rd.one' rfl)<|vFz<|ldz rfl (.app (.tail (.app .head))) (Rd.one' rfl)<|vFz<|ldz rfl (.app (.tail (.app (.tail (.tail (.tail .head)))))) (Rd.one' rfl) ?_;apply LW.v0;rfl;rfl;apply zW;infer_instance;infer_instance;apply zA;rfl;apply zA;rfl;apply zA;rfl;exact zB;rfl;simp only [fillP,wrCells,Value.cells,qH,qI,qJ,qG,qL,qK,Nat.reduceAdd,qN];rfl;apply zS;rfl;rfl;infer_instance;exact .cons rfl .nil;intro w _;exact hK w;refine vAz<|nNz<|zI<|sRz<|vMz<|vFz<|ldz rfl (.app .head) fr_rd4 ?_;refine lvz (.gtrF rfl rfl (by omega)) ?_;refine nNz<|cFz<|zJ<|thenN<|zI ?_)
 apply CW.pre
 (refine AnyW.anyM [] 7 mixed (by decide +kernel) ?_)
 ((try simp only [tsOf_cons,tsOf_nil,tsOf_app]);refine dvz (.fieldAddr rfl rfl) ?_;apply qD;rfl;rfl;rfl;exact zC;rfl;apply zQ;apply zP;exact zN;exact fr_rd4;refine dvz (.move rfl) ?_;refine dvz (.subN rfl rfl (by omega) (by omega)) ?_;refine dvz (.move rfl) ?_;refine dvz (.indexAddrSL rfl rfl (by decide) (by omega)) ?_;apply DW.loadX;rfl;rfl;rfl;exact zC;rfl;assumption;simp;exact hrd0;apply DW.nil;simp only [fsOf_cons,fsOf_nil,fsOf_app,fsOf_tsOf,fsOf_new])
 (apply zS;rfl;rfl;infer_instance;exact .cons rfl (.cons rfl .nil);intro w _;exact hLd w;refine vAz<|nSz<|vFz<|ldz rfl (.app .head) fr_rd4<|vMz ?_;refine lvz (.subN rfl rfl (by omega) (by omega)) ?_;refine vMz ?_;refine lvz (.subN rfl rfl (by omega) (by omega)) ?_;refine vFz ?_;refine zR rfl rfl (.app .head) fr_wr4<|nNz<|zI<|sRz<|vMz<|vFz ?_;apply zR;rfl;rfl;apply qC;apply qB;apply qC;apply qA;apply Wr.cells;rfl;rfl;simp only [wc,List.size_toArray,List.length_cons,List.length_nil];omega;simp only [fillC,wc,wrCells,Value.cells,qJ,qG,qL,qK,Nat.reduceAdd,Nat.reduceMul,qN,Nat.mul_one];rfl;refine nSz<|vFz<|ldz rfl (.app (.tail (.app .head))) (Rd.one' rfl)<|nNz<|cFz<|zJ<|thenN<|zI ?_)
 apply CW.pre
 (refine AnyW.anyM [] 7 mixed (by decide +kernel) ?_)
 ((try simp only [tsOf_cons,tsOf_nil,tsOf_app]);apply qD;rfl;rfl;rfl;exact zC;rfl;apply zQ;apply zP;exact zN;exact fr_rdW;refine dvz (.move rfl) ?_;refine dvz (.indexAddrSL rfl rfl (by decide) (by omega)) ?_;apply DW.loadX;rfl;rfl;rfl;exact zC;rfl;assumption;simp;exact hrd3;refine dvz (.move rfl) ?_;refine dvz (.indexAddrSL rfl rfl (by decide) (by omega)) ?_;apply DW.loadX;rfl;rfl;rfl;exact zC;rfl;assumption;simp;exact hrd4;apply DW.nil;simp only [fsOf_cons,fsOf_nil,fsOf_app,fsOf_tsOf,fsOf_new])
 (apply LW.callR;rfl;rfl;infer_instance;exact .cons rfl (.cons rfl (.cons rfl .nil));intro w hs)
 have hby:=rbytes_calls ⟨f1,pc,f2,f3,g2 - k - y,self,frm,val,f4,f5,stat⟩ L2 a1 n1 la1 ln1 hr1 hm2 w (by have h:=hrows2 w (fun p hp=>(hs.own p (by have:=hin2 p hp;simp [this])).2);exact ⟨h.c,h.s,h.m,h.i,h.b⟩)
 rw [hsame] at hby
 exact hby
 intro vB gB hB
 have hB':=hB
 unfold bM at hB'
 obtain ⟨q9,j9,rfl⟩:=id hB'.form
 obtain ⟨bl,hblb⟩:∃ bl,(L1.ms.drop a1).take n1=bl:=⟨_,rfl⟩
 rw [hblb] at hB hB' ⊢
 (refine vFz ?_;apply zR;rfl;rfl;apply qC;apply qC;apply qB;apply qC;apply qA;apply Wr.cells;rfl;rfl;simp only [wc,List.size_toArray,List.length_cons,List.length_nil];omega;simp only [fillC,wc,wrCells,Value.cells,qJ,qG,qL,qK,Nat.reduceAdd,Nat.reduceMul,qN,Nat.mul_one];rfl;refine nNz<|zI<|sRz<|vMz ?_;refine lvz (.indexAddrSL rfl rfl (by decide) (by omega)) ?_;apply LW.load;rfl;rfl;exact Known.ext (by assumption) (by simp);exact hrd6;apply LW.v0;rfl;rfl;exact ValP.buildW0;refine lvz (.neW rfl rfl (by assumption) (by omega)) ?_;refine nNz ?_)
 by_cases hn20:n2=0
 ·rw [decide_eq_true hn20]
  rw [if_pos hn20,hn20]
  (apply CW.condF;rfl;simp only [Bool.not_true,Bool.not_false];refine zJ<|thenN<|zI ?_;apply CW.pre;refine AnyW.any 3 mixed (by decide +kernel) ?_;(try simp only [tsOf_cons,tsOf_nil,tsOf_app]);apply qD;rfl;rfl;rfl;exact zC;rfl;apply zQ;apply zQ;apply zP;exact zN;exact fr_rdW;apply qD;rfl;rfl;rfl;exact zC;rfl;apply zQ;apply zQ;apply zO;apply zQ;apply zP;exact zN;exact qF rfl;apply DW.store;rfl;rfl;exact zC;rfl;rfl;apply TSet.app;apply TSet.app;apply TSet.tail;apply TSet.app;apply TSet.tail;apply TSet.tail;apply TSet.head;exact zN;exact zN;apply fr_wrW;rfl;assumption;apply DW.nil;simp only [fsOf_cons,fsOf_nil,fsOf_app,fsOf_tsOf,fsOf_new];refine zR rfl rfl (.app (.app (.tail (.app (.tail .head))))) (.whole rfl rfl rfl)<|vAz<|nNz<|zK ?_)
  exact finS (vs:=[frv ⟨f1,pc,f2,f3,g2 - k - y,self,frm,val,f4,f5,stat⟩,(clv ⟨244,t,self,frm,val,false,y,.slice q9 bl.length j9,.slice none 0 0,0,0,stat⟩),.bool true]) (gT2++gB) (.inl rfl) rfl rfl (by (apply zD;apply zH;rfl;apply qE;apply zZ;apply zZ;apply zX;apply zZ;apply zX;apply zX;apply zY;exact fr_rdW;apply zD;apply zH;rfl;apply qE;apply zZ;apply zZ;apply zX;apply zZ;apply zX;apply zY;exact qF rfl;apply zD;exact zG rfl;exact zF)) (subS _ _ _) ⟨f1,f2,f3,f4,f5,.slice q9 bl.length j9,gT2,gB,rfl,rfl,hfr3,hB⟩
 ·rw [decide_eq_false hn20]
  rw [if_neg hn20]
  have hlo:=(reach_range hF2 hR2).2.2.2 (Nat.pos_of_ne_zero hn20)
  have ha2m:a2 % 18446744073709551616=a2:=Nat.mod_eq_of_lt (by omega)
  have hn2m:n2 % 18446744073709551616=n2:=Nat.mod_eq_of_lt (by omega)
  rw [ha2m] at hrd50
  rw [hn2m] at hrd60
  (apply CW.condT;rfl;simp only [Bool.not_true,Bool.not_false];apply CW.pre;refine AnyW.any 10 mixed (by decide +kernel) ?_;(try simp only [tsOf_cons,tsOf_nil,tsOf_app]);refine dvz (.move rfl) ?_;refine dvz (.indexAddrSL rfl rfl (by decide) (by omega)) ?_;refine dvz (.indexAddrL rfl rfl rfl) ?_;apply DW.loadX;rfl;rfl;rfl;exact zC;rfl;assumption;simp;exact hrd50;refine dvz (.move rfl) ?_;refine dvz (.indexAddrSL rfl rfl (by decide) (by omega)) ?_;refine dvz (.indexAddrL rfl rfl rfl) ?_;apply DW.loadX;rfl;rfl;rfl;exact zC;rfl;assumption;simp;exact hrd60;refine dvz (.fieldAddr rfl rfl) ?_;apply DW.store;rfl;rfl;exact zC;rfl;rfl;apply TSet.app;apply TSet.app;apply TSet.tail;apply TSet.app;apply TSet.head;exact zN;exact zN;apply Wr.cells;rfl;rfl;simp only [wc,List.size_toArray,List.length_cons,List.length_nil];omega;simp only [fillC,wc,wrCells,Value.cells,qJ,qG,qL,qK,Nat.reduceAdd,Nat.reduceMul,qN,Nat.mul_one];rfl;apply DW.nil;simp only [fsOf_cons,fsOf_nil,fsOf_app,fsOf_tsOf,fsOf_new];refine vFz ?_;apply zR;rfl;rfl;apply qC;apply qC;apply qB;apply qC;apply qA;apply Wr.cells;rfl;rfl;simp only [wc,List.size_toArray,List.length_cons,List.length_nil];omega;simp only [fillC,wc,wrCells,Value.cells,qJ,qG,qL,qK,Nat.reduceAdd,Nat.reduceMul,qN,Nat.mul_one];rfl;refine nNz<|zI ?_;apply CW.pre;refine AnyW.any 3 mixed (by decide +kernel) ?_;(try simp only [tsOf_cons,tsOf_nil,tsOf_app]);apply qD;rfl;rfl;rfl;exact zC;rfl;apply zQ;apply zQ;apply zP;exact zN;exact fr_rdW;apply qD;rfl;rfl;rfl;exact zC;rfl;apply zQ;apply zQ;apply zO;apply zQ;apply zP;exact zN;exact qF rfl;apply DW.store;rfl;rfl;exact zC;rfl;rfl;apply TSet.app;apply TSet.app;apply TSet.tail;apply TSet.app;apply TSet.tail;apply TSet.tail;apply TSet.head;exact zN;exact zN;apply fr_wrW;rfl;assumption;apply DW.nil;simp only [fsOf_cons,fsOf_nil,fsOf_app,fsOf_tsOf,fsOf_new];refine zR rfl rfl (.app (.app (.tail (.app (.tail .head))))) (.whole rfl rfl rfl)<|vAz<|nNz<|zK ?_)
  exact finS (vs:=[frv ⟨f1,pc,f2,f3,g2 - k - y,self,frm,val,f4,f5,stat⟩,(clv ⟨244,t,self,frm,val,false,y,.slice q9 bl.length j9,.slice none 0 0,a2,n2,stat⟩),.bool true]) (gT2++gB) (.inl rfl) rfl rfl (by (apply zD;apply zH;rfl;apply qE;apply zZ;apply zZ;apply zX;apply zZ;apply zX;apply zX;apply zY;exact fr_rdW;apply zD;apply zH;rfl;apply qE;apply zZ;apply zZ;apply zX;apply zZ;apply zX;apply zY;exact qF rfl;apply zD;exact zG rfl;exact zF)) (subS _ _ _) ⟨f1,f2,f3,f4,f5,.slice q9 bl.length j9,gT2,gB,rfl,rfl,hfr3,hB⟩
theorem rcalls250 (f:FrV) (L:FrL) (A:AkV) (ws:List Nat) (hM:∀ x∈ws,x < M256) (hd:∃ p n c,A.dt=.slice p n c) (hask:askB A.kind A.op ws.length=true) (he:A.op=250) (hF:okF f L) (w:World) (h:FrRows w f L) (hv:RowAt w 4 A.ws ws.length (wcs ws)) :
  Calls Tryz.prog 60 #[frv f,.agg (aska A.kind A.op A.ws A.dt),.agg #[.bool A.cold,.bool A.vl,.bool A.new]] w (RetG w [] (BegR f (beginG f L A ws))):=by
 obtain ⟨kind,op,aws,dt,cold,vl,new⟩:=A
 obtain ⟨q,d,e,hd⟩:=hd
 dsimp only at hd hask hv he ⊢
 subst hd
 subst he
 have hlen:ws.length=6:=by
  have hh:=hask
  unfold askB at hh
  simp only [Bool.and_eq_true,decide_eq_true_eq] at hh
  have h2:=hh.2.2
  have:(shq 250).1=6:=rfl
  omega
 obtain ⟨pw,cw,rfl,hc7,_⟩:=id hv.form
 obtain ⟨bw,off,cc,cs,E,fr,heq,hbw,hx⟩:=hv.pos (by omega)
 cases heq
 obtain ⟨code,pc,stk,mem,gas,self,frm,val,inp,back,stat⟩:=f
 have hrow:=h
 obtain ⟨h0,h2,h3,h11,h12⟩:=h
 dsimp only at h0 h2 h3 h11 h12
 obtain ⟨p0,c0,rfl,_,_⟩:=id h0.form
 obtain ⟨p2,c2,rfl,_,_⟩:=id h2.form
 obtain ⟨p3,c3,rfl,_,_⟩:=id h3.form
 obtain ⟨p11,c11,rfl,_,_⟩:=id h11.form
 obtain ⟨p12,c12,rfl,_,_⟩:=id h12.form
 have hrd1:=word0_rd (P:=Tryz.prog) (T:=26) (E:=E) (fr:=fr) hx 1 (by omega)
 have hrd0:=word_rd (P:=Tryz.prog) (T:=29) (E:=E) (fr:=fr) hx 0 (by omega)
 have hrd3:=word_rd (P:=Tryz.prog) (T:=29) (E:=E) (fr:=fr) hx 2 (by omega)
 have hrd4:=word_rd (P:=Tryz.prog) (T:=29) (E:=E) (fr:=fr) hx 3 (by omega)
 have hrd5:=word_rd (P:=Tryz.prog) (T:=29) (E:=E) (fr:=fr) hx 4 (by omega)
 have hrd6:=word_rd (P:=Tryz.prog) (T:=29) (E:=E) (fr:=fr) hx 5 (by omega)
 have hrd50:=word0_rd (P:=Tryz.prog) (T:=26) (E:=E) (fr:=fr) hx 4 (by omega)
 have hrd60:=word0_rd (P:=Tryz.prog) (T:=26) (E:=E) (fr:=fr) hx 5 (by omega)
 have hzs:=zero_sl
 have hcw:ws.length≤cw:=hc7
 have ht:ws.getD 1 0 % 18446744073709551616 < 18446744073709551616:=Nat.mod_lt _ (by decide)
 obtain ⟨t,hte⟩:∃ t,t=ws.getD 1 0 % 18446744073709551616:=⟨_,rfl⟩
 rw [← hte] at hrd1 ht
 obtain ⟨a1,ha1⟩:∃ a,a=ws.getD 2 0:=⟨_,rfl⟩
 rw [← ha1] at hrd3
 have la1:a1 < M256:=ha1 ▸ wordI_lt hM 2
 have e3:off+2 * 4=off+2 * 4+0 * 4:=by omega
 rw [e3] at hrd3
 obtain ⟨n1,hn1⟩:∃ a,a=ws.getD 3 0:=⟨_,rfl⟩
 rw [← hn1] at hrd4
 have ln1:n1 < M256:=hn1 ▸ wordI_lt hM 3
 have e4:off+3 * 4=off+2 * 4+1 * 4:=by omega
 rw [e4] at hrd4
 obtain ⟨a2,ha2⟩:∃ a,a=ws.getD 4 0:=⟨_,rfl⟩
 rw [← ha2] at hrd5 hrd50
 have la2:a2 < M256:=ha2 ▸ wordI_lt hM 4
 have e5:off+4 * 4=off+2 * 4+2 * 4:=by omega
 rw [e5] at hrd5 hrd50
 obtain ⟨n2,hn2⟩:∃ a,a=ws.getD 5 0:=⟨_,rfl⟩
 rw [← hn2] at hrd6 hrd60
 have ln2:n2 < M256:=hn2 ▸ wordI_lt hM 5
 have e6:off+5 * 4=off+2 * 4+3 * 4:=by omega
 rw [e6] at hrd6 hrd60
 have hI:(shq 250).2.2.2.1=2:=rfl
 have hJ:(shq 250).2.2.2.2.1=4:=rfl
 have hA1:wordI ws 2=a1:=by rw [ha1];rfl
 have hN1:wordI ws (2+1)=n1:=by rw [hn1];rfl
 have hA2:wordI ws 4=a2:=by rw [ha2];rfl
 have hN2:wordI ws (4+1)=n2:=by rw [hn2];rfl
 have hwho:whoC (FrV.mk (.slice p0 L.cl.length c0) pc (.slice p2 L.ws.length c2) (.slice p3 L.ms.length c3) gas self frm val (.slice p11 L.il.length c11) (.slice p12 L.bl.length c12) stat) 250 ws=⟨250,t,t,self,0,false,0,.slice none 0 0,.slice none 0 0,0,0,true⟩:=by
  rw [hte]
  cases stat<;>rfl
 obtain ⟨us,hbl,hin,hrows⟩:=FrA.lie (w0:=w) (f:=(FrV.mk (.slice p0 L.cl.length c0) pc (.slice p2 L.ws.length c2) (.slice p3 L.ms.length c3) gas self frm val (.slice p11 L.il.length c11) (.slice p12 L.bl.length c12) stat)) (L:=L) (gs:=[]) (.inl ⟨rfl,hrow⟩)
 refine enter (args:=[_,_,_]) _ [] [] Tryz.func60 rfl Tryz.ntmps60 rfl (by simp) .nil ?_
 (refine sRz ?_;apply zT;rfl;rfl;intro _;apply zT;rfl;rfl;intro _;apply zT;rfl;rfl;intro _;apply zU;rfl;intro _;apply zU;rfl;intro _;refine vAz<|nSz<|vFz<|ldz rfl (.tail (.tail (.tail .head))) ask_rd2<|vAz<|nNz<|zI ?_)
 apply CW.pre
 (refine AnyW.anyM [] 12 mixed (by decide +kernel) ?_)
 ((try simp only [tsOf_cons,tsOf_nil,tsOf_app]);refine dvz (.fieldAddr rfl rfl) ?_;apply qD;rfl;rfl;rfl;exact zC;rfl;apply zO;apply zO;apply zO;apply zP;exact zN;exact ask_rd1;refine dvz (.move rfl) ?_;refine dvz (.indexAddrSL rfl rfl (by decide) (by omega)) ?_;refine dvz (.indexAddrL rfl rfl rfl) ?_;apply DW.loadX;rfl;rfl;rfl;exact zC;rfl;assumption;simp;exact hrd1;refine dvz (.fieldAddr rfl rfl) ?_;apply qD;rfl;rfl;rfl;exact zC;rfl;apply zO;apply zO;apply zO;apply zO;apply zP;exact zN;exact fr_rd5;refine dvz (.fieldAddr rfl rfl) ?_;apply qD;rfl;rfl;rfl;exact zC;rfl;apply zO;apply zO;apply zO;apply zO;apply zP;exact zN;exact fr_rd13;apply DW.v0;rfl;rfl;rfl;exact zC;rfl;apply zW;infer_instance;infer_instance;apply zA;rfl;apply zA;rfl;apply zA;rfl;apply zA;rfl;exact zB;rfl;simp only [fillP,wrCells,Value.cells,qH,qI,qJ,qG,qL,qK,Nat.reduceAdd,qN];rfl;apply DW.allocA;rfl;rfl;rfl;exact zC;intro _;apply DW.nil;simp only [fsOf_cons,fsOf_nil,fsOf_app,fsOf_tsOf,fsOf_new])
 skip
 (refine zR rfl rfl .head (.whole rfl rfl rfl)<|nSz<|vFz<|ldz rfl .head (Rd.one' rfl)<|vFz ?_;apply zR;rfl;rfl;apply qA;apply Wr.cells;rfl;rfl;simp only [wc,List.size_toArray,List.length_cons,List.length_nil];omega;simp only [fillC,wc,wrCells,Value.cells,qJ,qG,qL,qK,Nat.reduceAdd,Nat.reduceMul,qN,Nat.mul_one];rfl;refine nSz<|vMz ?_;apply LW.v0;rfl;rfl;(refine ValP.cutFromW (k:=2) inferInstance inferInstance rfl rfl ?_ ?_<;>omega);refine vAz<|nNz<|zI<|sRz<|vFz<|ldz rfl (.tail (.tail (.tail (.tail .head)))) ask_rd1<|nNz<|zM<|sRz ?_;refine lvz (.eqF rfl rfl (by omega)) ?_;refine vAz<|nNz<|cFz<|sRz ?_;refine lvz (.eqT rfl rfl (by omega)) ?_;refine vAz<|nNz<|cTz<|zL<|vFz ?_;apply zR;rfl;rfl;apply qA;apply Wr.cells;rfl;rfl;simp only [wc,List.size_toArray,List.length_cons,List.length_nil];omega;simp only [fillC,wc,wrCells,Value.cells,qJ,qG,qL,qK,Nat.reduceAdd,Nat.reduceMul,qN,Nat.mul_one];rfl;apply zV;refine blkN<|thenN<|zI ?_)
 apply CW.pre
 (refine AnyW.anyM [(7,ToldR (FrV.mk (.slice p0 L.cl.length c0) pc (.slice p2 L.ws.length c2) (.slice p3 L.ms.length c3) gas self frm val (.slice p11 L.il.length c11) (.slice p12 L.bl.length c12) stat) (reachR (FrV.mk (.slice p0 L.cl.length c0) pc (.slice p2 L.ws.length c2) (.slice p3 L.ms.length c3) gas self frm val (.slice p11 L.il.length c11) (.slice p12 L.bl.length c12) stat) L a1 n1))] 13 mixed (by decide +kernel) ?_)
 ((try simp only [tsOf_cons,tsOf_nil,tsOf_app]);apply qD;rfl;rfl;rfl;exact zC;rfl;apply zO;apply zO;apply zO;apply zO;apply zO;apply zP;exact zN;exact fr_rdW;refine dvz (.move rfl) ?_;refine dvz (.indexAddrSL rfl rfl (by decide) (by omega)) ?_;apply DW.loadX;rfl;rfl;rfl;exact zC;rfl;assumption;simp;exact hrd3;refine dvz (.move rfl) ?_;refine dvz (.indexAddrSL rfl rfl (by decide) (by omega)) ?_;apply DW.loadX;rfl;rfl;rfl;exact zC;rfl;assumption;simp;exact hrd4)
 refine DW.manyA us rfl rfl rfl (by (exact zC)) rfl inferInstance (by (exact .cons rfl (.cons rfl (.cons rfl .nil)))) (by rw [List.flatMap_cons,hbl];exact List.append_nil _) (fun p hp=>?_) (fun w hb hu=>?_) ?_
 ·rcases hin p hp with h|h
  ·cases h
  ·exact .inr ⟨h,by simp⟩
 ·exact rReach_calls (FrV.mk (.slice p0 L.cl.length c0) pc (.slice p2 L.ws.length c2) (.slice p3 L.ms.length c3) gas self frm val (.slice p11 L.il.length c11) (.slice p12 L.bl.length c12) stat) L a1 n1 la1 ln1 hF w (hrows w hb hu)
 intro vT gT hT
 rcases hR:reachR (FrV.mk (.slice p0 L.cl.length c0) pc (.slice p2 L.ws.length c2) (.slice p3 L.ms.length c3) gas self frm val (.slice p11 L.il.length c11) (.slice p12 L.bl.length c12) stat) L a1 n1 with _|z
 ·rw [hR] at hT
  obtain ⟨rfl,rfl⟩:=hT
  ((try simp only [tsOf_cons,tsOf_nil,tsOf_app]);refine dvz (.move rfl) ?_;refine dvz (.extractN rfl rfl) ?_;refine dvz (.extractN rfl rfl) ?_;apply DW.allocA;rfl;rfl;rfl;exact zC;intro _;apply DW.store;rfl;rfl;exact zC;rfl;rfl;apply TSet.head;kernel_rfl;exact zN;apply fr_wrW;rfl;assumption;apply DW.nil;simp only [fsOf_cons,fsOf_nil,fsOf_app,fsOf_tsOf,fsOf_new])
  simp only [fsOf_mark,fsOf_cons,fsOf_nil,fsOf_app,fsOf_tsOf,fsOf_new,List.append_eq,List.nil_append]
  (refine vAz<|nNz<|zI<|sRz<|vMz ?_;refine lvz (.notF rfl (by with_reducible rfl)) ?_;refine nNz<|cTz<|sRz ?_;apply LW.v0;rfl;rfl;apply zW;infer_instance;infer_instance;exact zB;rfl;simp only [fillP,wrCells,Value.cells,qH,qI,qJ,qG,qL,qK,Nat.reduceAdd,qN];rfl;apply LW.v0;rfl;rfl;apply zW;infer_instance;infer_instance;exact zB;rfl;simp only [fillP,wrCells,Value.cells,qH,qI,qJ,qG,qL,qK,Nat.reduceAdd,qN];rfl;refine zR rfl rfl (.tail (.tail (.tail .head))) (.whole rfl rfl rfl) ?_;refine zR rfl rfl (.tail (.tail .head)) (.whole rfl rfl rfl)<|vAz<|nNz<|zK<|thenR ?_)
  rw [beginG_none1 hI hA1 hN1 hR]
  exact fin (vs:=[frv zeroF,clv zeroC,.bool false]) [] (.inl rfl) rfl rfl (by (apply zD;apply zH;rfl;apply qE;apply zX;apply zX;apply zX;apply zY;exact qF rfl;apply zD;apply zH;rfl;apply qE;apply zX;apply zX;apply zY;exact qF rfl;apply zD;exact zG rfl;exact zF)) (List.nil_sublist _) ⟨rfl,rfl⟩
 rw [hR] at hT
 obtain ⟨g1,L1⟩:=z
 obtain ⟨d1,d2,d3,d4,d5,rfl,hfr1⟩:=hT
 have hsl1:=hfr1.sl
 obtain ⟨us1,hbl1,hin1,hrows1⟩:=hfr1.lie
 ((try simp only [tsOf_cons,tsOf_nil,tsOf_app]);refine dvz (.move rfl) ?_;refine dvz (.extractN rfl rfl) ?_;refine dvz (.extractN rfl rfl) ?_;apply DW.allocA;rfl;rfl;rfl;exact zC;intro _;apply DW.store;rfl;rfl;exact zC;rfl;rfl;apply TSet.head;kernel_rfl;exact zN;apply fr_wrW;rfl;assumption;apply DW.nil;simp only [fsOf_cons,fsOf_nil,fsOf_app,fsOf_tsOf,fsOf_new])
 simp only [fsOf_mark,fsOf_cons,fsOf_nil,fsOf_app,fsOf_tsOf,fsOf_new,List.append_eq,List.nil_append]
 (refine vAz<|nNz<|zI<|sRz<|vMz ?_;refine lvz (.notT rfl (by with_reducible rfl)) ?_;refine nNz<|cFz<|zJ<|thenN<|zI<|zI ?_)
 apply CW.pre
 (refine AnyW.anyM [(7,ToldR (FrV.rowsG (FrV.mk (.slice p0 L.cl.length c0) pc (.slice p2 L.ws.length c2) (.slice p3 L.ms.length c3) gas self frm val (.slice p11 L.il.length c11) (.slice p12 L.bl.length c12) stat) g1 d1 d2 d3 d4 d5) (reachG g1 L1 a2 n2))] 12 mixed (by decide +kernel) ?_)
 ((try simp only [tsOf_cons,tsOf_nil,tsOf_app]);apply qD;rfl;rfl;rfl;exact zC;rfl;apply zP;exact zN;exact fr_rdW;refine dvz (.move rfl) ?_;refine dvz (.indexAddrSL rfl rfl (by decide) (by omega)) ?_;apply DW.loadX;rfl;rfl;rfl;exact zC;rfl;assumption;simp;exact hrd5;refine dvz (.move rfl) ?_;refine dvz (.indexAddrSL rfl rfl (by decide) (by omega)) ?_;apply DW.loadX;rfl;rfl;rfl;exact zC;rfl;assumption;simp;exact hrd6)
 refine DW.manyA us1 rfl rfl rfl (by (exact zC)) rfl inferInstance (by (exact .cons rfl (.cons rfl (.cons rfl .nil)))) (by rw [List.flatMap_cons,hbl1];exact List.append_nil _) (fun p hp=>AncT.lie (by (refine AncT.cons ?_ ?_;exact zN;refine AncT.app ?_ ?_;exact AncT.tsOf;refine AncT.cons ?_ ?_;exact zN;refine AncT.cons ?_ ?_;exact zN;refine AncT.cons ?_ ?_;exact zN;refine AncT.cons ?_ ?_;exact zN;refine AncT.cons ?_ ?_;exact zN;refine AncT.cons ?_ ?_;exact zN;exact AncT.nil)) (by have hp:=hin1 p hp;simp [fsOf,tsOf,tsNew,tsTag,markAll,Function.comp_def,hp])) (fun w hb hu=>?_) ?_
 ·exact rReach_calls (FrV.rowsG (FrV.mk (.slice p0 L.cl.length c0) pc (.slice p2 L.ws.length c2) (.slice p3 L.ms.length c3) gas self frm val (.slice p11 L.il.length c11) (.slice p12 L.bl.length c12) stat) g1 d1 d2 d3 d4 d5) L1 a2 n2 la2 ln2 (okF_reach hF hR) w (hrows1 w hu)
 intro vT2 gT2 hT2
 rcases hR2:reachG g1 L1 a2 n2 with _|z2
 ·rw [hR2] at hT2
  obtain ⟨rfl,rfl⟩:=hT2
  (try simp only [markAll_cons,markAll_app,markAll_tsOf,markAll_tag,markAll_new,markAll_nil])
  ((try simp only [tsOf_cons,tsOf_nil,tsOf_app]);refine dvz (.move rfl) ?_;refine dvz (.extractN rfl rfl) ?_;refine dvz (.extractN rfl rfl) ?_;apply DW.store;rfl;rfl;exact zC;rfl;rfl;apply TSet.head;exact zN;kernel_rfl;apply fr_wrW;rfl;assumption;apply DW.nil;simp only [fsOf_cons,fsOf_nil,fsOf_app,fsOf_tsOf,fsOf_new])
  try simp only [fsOf_mark,fsOf_cons,fsOf_nil,fsOf_app,fsOf_tsOf,fsOf_new,fsOf_tag,List.append_eq,List.nil_append]
  (refine vAz<|nSz<|vMz ?_;refine lvz (.notF rfl (by with_reducible rfl)) ?_;refine nNz<|cTz<|sRz ?_;apply LW.v0;rfl;rfl;apply zW;infer_instance;infer_instance;exact zB;rfl;simp only [fillP,wrCells,Value.cells,qH,qI,qJ,qG,qL,qK,Nat.reduceAdd,qN];rfl;apply LW.v0;rfl;rfl;apply zW;infer_instance;infer_instance;exact zB;rfl;simp only [fillP,wrCells,Value.cells,qH,qI,qJ,qG,qL,qK,Nat.reduceAdd,qN];rfl;refine zR rfl rfl (.tail (.app (.tail (.tail .head)))) (.whole rfl rfl rfl) ?_;refine zR rfl rfl (.tail (.app (.tail .head))) (.whole rfl rfl rfl)<|vAz<|nNz<|zK<|thenR ?_)
  rw [beginG_none2 hI hJ hA1 hN1 hA2 hN2 hR hR2]
  exact fin (vs:=[frv zeroF,clv zeroC,.bool false]) [] (.inl rfl) rfl rfl (by (apply zD;apply zH;rfl;apply qE;apply zX;apply zZ;apply zX;apply zX;apply zY;exact qF rfl;apply zD;apply zH;rfl;apply qE;apply zX;apply zZ;apply zX;apply zY;exact qF rfl;apply zD;exact zG rfl;exact zF)) (List.nil_sublist _) ⟨rfl,rfl⟩
 rw [hR2] at hT2
 obtain ⟨g2,L2⟩:=z2
 have hF2:=okF_reach (c:=d1) (s:=d2) (m:=d3) (i:=d4) (b:=d5) hF hR
 have hF3:g2≤20000:=by
  have h1:g1≤20000:=hF2.1.2.2
  obtain ⟨_,h2,_⟩:=reachG_some hR2
  omega
 obtain ⟨f1,f2,f3,f4,f5,rfl,hfr2⟩:=hT2
 have hsl2:=hfr2.sl
 obtain ⟨us2,hbl2,hin2,hrows2⟩:=hfr2.lie
 obtain ⟨hm2,hr1,hsame⟩:=reach_same hF hR hR2
 have hK:=rCall_calls cold false new
 have hkl:callV cold false new < 18446744073709551616:=by
  unfold callV
  cases cold<;>cases new<;>cases false<;>decide
 obtain ⟨k,hk⟩:∃ k,callV cold false new=k:=⟨_,rfl⟩
 rw [hk] at hK hkl
 dsimp only [FrV.rowsG] at hsl2 hbl2 hrows2 ⊢
 (try simp only [markAll_cons,markAll_app,markAll_tsOf,markAll_tag,markAll_new,markAll_nil])
 ((try simp only [tsOf_cons,tsOf_nil,tsOf_app]);refine dvz (.move rfl) ?_;refine dvz (.extractN rfl rfl) ?_;refine dvz (.extractN rfl rfl) ?_;apply DW.store;rfl;rfl;exact zC;rfl;rfl;apply TSet.app;apply TSet.head;exact zN;kernel_rfl;apply fr_wrW;rfl;assumption;apply DW.nil;simp only [fsOf_cons,fsOf_nil,fsOf_app,fsOf_tsOf,fsOf_new])
 try simp only [fsOf_mark,fsOf_cons,fsOf_nil,fsOf_app,fsOf_tsOf,fsOf_new,fsOf_tag,List.append_eq,List.nil_append]
 rcases Nat.lt_or_ge g2 k with hkg|hkg
 ·rw [beginG_few hI hJ hA1 hN1 hA2 hN2 hwho hk hR hR2 (Nat.not_le.2 hkg)]
  (refine vAz<|nSz<|vMz ?_;refine lvz (.notT rfl (by with_reducible rfl)) ?_;refine nNz<|cFz<|zJ<|thenN<|sRz<|vFz<|ldz rfl (.app (.tail (.app (.tail (.tail (.tail .head)))))) (Rd.one' rfl)<|vFz<|ldz rfl (.app (.tail (.app .head))) (Rd.one' rfl)<|vFz<|ldz rfl (.app (.tail (.app (.tail (.tail (.tail .head)))))) (Rd.one' rfl) ?_;apply LW.v0;rfl;rfl;apply zW;infer_instance;infer_instance;apply zA;rfl;apply zA;rfl;apply zA;rfl;exact zB;rfl;simp only [fillP,wrCells,Value.cells,qH,qI,qJ,qG,qL,qK,Nat.reduceAdd,qN];rfl;apply zS;rfl;rfl;infer_instance;exact .cons rfl .nil;intro w _;exact hK w;refine vAz<|nNz<|zI<|sRz<|vMz<|vFz<|ldz rfl (.app .head) fr_rd4 ?_;refine lvz (.gtrT rfl rfl (by omega)) ?_;refine nNz<|cTz<|sRz ?_;apply LW.v0;rfl;rfl;apply zW;infer_instance;infer_instance;exact zB;rfl;simp only [fillP,wrCells,Value.cells,qH,qI,qJ,qG,qL,qK,Nat.reduceAdd,qN];rfl;apply LW.v0;rfl;rfl;apply zW;infer_instance;infer_instance;exact zB;rfl;simp only [fillP,wrCells,Value.cells,qH,qI,qJ,qG,qL,qK,Nat.reduceAdd,qN];rfl;refine zR rfl rfl (.app (.tail (.app (.tail (.tail .head))))) (.whole rfl rfl rfl) ?_;refine zR rfl rfl (.app (.tail (.app (.tail .head)))) (.whole rfl rfl rfl)<|vAz<|nNz<|zK<|thenR ?_)
  exact fin (vs:=[frv zeroF,clv zeroC,.bool false]) [] (.inl rfl) rfl rfl (by (apply zD;apply zH;rfl;apply qE;apply zZ;apply zX;apply zZ;apply zX;apply zX;apply zY;exact qF rfl;apply zD;apply zH;rfl;apply qE;apply zZ;apply zX;apply zZ;apply zX;apply zY;exact qF rfl;apply zD;exact zG rfl;exact zF)) (List.nil_sublist _) ⟨rfl,rfl⟩
 have l0:ws.getD 0 0 < M256:=wordI_lt hM 0
 have hLd:∀ w,Calls Tryz.prog 92 #[.int .u64 ((g2 - k:Nat):Int),wv (ws.getD 0 0)] w (Ret w (.int .u64 ((lentG g2 k (ws.getD 0 0):Nat):Int))):=fun w=>rlend_calls (g2 - k) (ws.getD 0 0) (by omega) l0 w
 have hle:lentG g2 k (ws.getD 0 0)≤g2 - k:=by unfold lentG;omega
 obtain ⟨y,hy⟩:∃ y,lentG g2 k (ws.getD 0 0)=y:=⟨_,rfl⟩
 rw [hy] at hLd hle
 have hfr3:FrO ⟨f1,pc,f2,f3,g2 - k - y,self,frm,val,f4,f5,stat⟩ L2 gT2:=hfr2
 have hsl3:FrSl ⟨f1,pc,f2,f3,g2 - k - y,self,frm,val,f4,f5,stat⟩:=⟨hsl2.c,hsl2.s,hsl2.m,hsl2.i,hsl2.b⟩
 rw [beginG_ok hI hJ hA1 hN1 hA2 hN2 hwho hk hy hR hR2 hkg]
 (refine vAz<|nSz<|vMz ?_;refine lvz (.notT rfl (by with_reducible rfl)) ?_;refine nNz<|cFz<|zJ<|thenN<|sRz<|vFz<|ldz rfl (.app (.tail (.app (.tail (.tail (.tail .head)))))) (Rd.one' rfl)<|vFz<|ldz rfl (.app (.tail (.app .head))) (Rd.one' rfl)<|vFz<|ldz rfl (.app (.tail (.app (.tail (.tail (.tail .head)))))) (Rd.one' rfl) ?_;apply LW.v0;rfl;rfl;apply zW;infer_instance;infer_instance;apply zA;rfl;apply zA;rfl;apply zA;rfl;exact zB;rfl;simp only [fillP,wrCells,Value.cells,qH,qI,qJ,qG,qL,qK,Nat.reduceAdd,qN];rfl;apply zS;rfl;rfl;infer_instance;exact .cons rfl .nil;intro w _;exact hK w;refine vAz<|nNz<|zI<|sRz<|vMz<|vFz<|ldz rfl (.app .head) fr_rd4 ?_;refine lvz (.gtrF rfl rfl (by omega)) ?_;refine nNz<|cFz<|zJ<|thenN<|zI ?_)
 apply CW.pre
 (refine AnyW.anyM [] 7 mixed (by decide +kernel) ?_)
 ((try simp only [tsOf_cons,tsOf_nil,tsOf_app]);refine dvz (.fieldAddr rfl rfl) ?_;apply qD;rfl;rfl;rfl;exact zC;rfl;apply zQ;apply zP;exact zN;exact fr_rd4;refine dvz (.move rfl) ?_;refine dvz (.subN rfl rfl (by omega) (by omega)) ?_;refine dvz (.move rfl) ?_;refine dvz (.indexAddrSL rfl rfl (by decide) (by omega)) ?_;apply DW.loadX;rfl;rfl;rfl;exact zC;rfl;assumption;simp;exact hrd0;apply DW.nil;simp only [fsOf_cons,fsOf_nil,fsOf_app,fsOf_tsOf,fsOf_new])
 (apply zS;rfl;rfl;infer_instance;exact .cons rfl (.cons rfl .nil);intro w _;exact hLd w;refine vAz<|nSz<|vFz<|ldz rfl (.app .head) fr_rd4<|vMz ?_;refine lvz (.subN rfl rfl (by omega) (by omega)) ?_;refine vMz ?_;refine lvz (.subN rfl rfl (by omega) (by omega)) ?_;refine vFz ?_;refine zR rfl rfl (.app .head) fr_wr4<|nNz<|zI<|sRz<|vMz<|vFz ?_;apply zR;rfl;rfl;apply qC;apply qB;apply qC;apply qA;apply Wr.cells;rfl;rfl;simp only [wc,List.size_toArray,List.length_cons,List.length_nil];omega;simp only [fillC,wc,wrCells,Value.cells,qJ,qG,qL,qK,Nat.reduceAdd,Nat.reduceMul,qN,Nat.mul_one];rfl;refine nSz<|vFz<|ldz rfl (.app (.tail (.app .head))) (Rd.one' rfl)<|nNz<|cFz<|zJ<|thenN<|zI ?_)
 apply CW.pre
 (refine AnyW.anyM [] 7 mixed (by decide +kernel) ?_)
 ((try simp only [tsOf_cons,tsOf_nil,tsOf_app]);apply qD;rfl;rfl;rfl;exact zC;rfl;apply zQ;apply zP;exact zN;exact fr_rdW;refine dvz (.move rfl) ?_;refine dvz (.indexAddrSL rfl rfl (by decide) (by omega)) ?_;apply DW.loadX;rfl;rfl;rfl;exact zC;rfl;assumption;simp;exact hrd3;refine dvz (.move rfl) ?_;refine dvz (.indexAddrSL rfl rfl (by decide) (by omega)) ?_;apply DW.loadX;rfl;rfl;rfl;exact zC;rfl;assumption;simp;exact hrd4;apply DW.nil;simp only [fsOf_cons,fsOf_nil,fsOf_app,fsOf_tsOf,fsOf_new])
 (apply LW.callR;rfl;rfl;infer_instance;exact .cons rfl (.cons rfl (.cons rfl .nil));intro w hs)
 have hby:=rbytes_calls ⟨f1,pc,f2,f3,g2 - k - y,self,frm,val,f4,f5,stat⟩ L2 a1 n1 la1 ln1 hr1 hm2 w (by have h:=hrows2 w (fun p hp=>(hs.own p (by have:=hin2 p hp;simp [this])).2);exact ⟨h.c,h.s,h.m,h.i,h.b⟩)
 rw [hsame] at hby
 exact hby
 intro vB gB hB
 have hB':=hB
 unfold bM at hB'
 obtain ⟨q9,j9,rfl⟩:=id hB'.form
 obtain ⟨bl,hblb⟩:∃ bl,(L1.ms.drop a1).take n1=bl:=⟨_,rfl⟩
 rw [hblb] at hB hB' ⊢
 (refine vFz ?_;apply zR;rfl;rfl;apply qC;apply qC;apply qB;apply qC;apply qA;apply Wr.cells;rfl;rfl;simp only [wc,List.size_toArray,List.length_cons,List.length_nil];omega;simp only [fillC,wc,wrCells,Value.cells,qJ,qG,qL,qK,Nat.reduceAdd,Nat.reduceMul,qN,Nat.mul_one];rfl;refine nNz<|zI<|sRz<|vMz ?_;refine lvz (.indexAddrSL rfl rfl (by decide) (by omega)) ?_;apply LW.load;rfl;rfl;exact Known.ext (by assumption) (by simp);exact hrd6;apply LW.v0;rfl;rfl;exact ValP.buildW0;refine lvz (.neW rfl rfl (by assumption) (by omega)) ?_;refine nNz ?_)
 by_cases hn20:n2=0
 ·rw [decide_eq_true hn20]
  rw [if_pos hn20,hn20]
  (apply CW.condF;rfl;simp only [Bool.not_true,Bool.not_false];refine zJ<|thenN<|zI ?_;apply CW.pre;refine AnyW.any 3 mixed (by decide +kernel) ?_;(try simp only [tsOf_cons,tsOf_nil,tsOf_app]);apply qD;rfl;rfl;rfl;exact zC;rfl;apply zQ;apply zQ;apply zP;exact zN;exact fr_rdW;apply qD;rfl;rfl;rfl;exact zC;rfl;apply zQ;apply zQ;apply zO;apply zQ;apply zP;exact zN;exact qF rfl;apply DW.store;rfl;rfl;exact zC;rfl;rfl;apply TSet.app;apply TSet.app;apply TSet.tail;apply TSet.app;apply TSet.tail;apply TSet.tail;apply TSet.head;exact zN;exact zN;apply fr_wrW;rfl;assumption;apply DW.nil;simp only [fsOf_cons,fsOf_nil,fsOf_app,fsOf_tsOf,fsOf_new];refine zR rfl rfl (.app (.app (.tail (.app (.tail .head))))) (.whole rfl rfl rfl)<|vAz<|nNz<|zK ?_)
  exact finS (vs:=[frv ⟨f1,pc,f2,f3,g2 - k - y,self,frm,val,f4,f5,stat⟩,(.agg #[.int .u8 ((250:Nat):Int),.int .u64 (t:Int),.int .u64 (t:Int),.int .u64 (self:Int),.int .u64 0,.int .u64 0,.int .u64 0,.int .u64 0,.bool false,.int .u64 (y:Int),.slice q9 bl.length j9,.slice none 0 0,.int .u64 ((0:Nat):Int),.int .u64 ((0:Nat):Int),.bool true]),.bool true]) (gT2++gB) (.inl rfl) rfl rfl (by (apply zD;apply zH;rfl;apply qE;apply zZ;apply zZ;apply zX;apply zZ;apply zX;apply zX;apply zY;exact fr_rdW;apply zD;apply zH;rfl;apply qE;apply zZ;apply zZ;apply zX;apply zZ;apply zX;apply zY;exact qF rfl;apply zD;exact zG rfl;exact zF)) (subS _ _ _) ⟨f1,f2,f3,f4,f5,.slice q9 bl.length j9,gT2,gB,(by rw [clv250 t self y];rfl),rfl,hfr3,hB⟩
 ·rw [decide_eq_false hn20]
  rw [if_neg hn20]
  have hlo:=(reach_range hF2 hR2).2.2.2 (Nat.pos_of_ne_zero hn20)
  have ha2m:a2 % 18446744073709551616=a2:=Nat.mod_eq_of_lt (by omega)
  have hn2m:n2 % 18446744073709551616=n2:=Nat.mod_eq_of_lt (by omega)
  rw [ha2m] at hrd50
  rw [hn2m] at hrd60
  (apply CW.condT;rfl;simp only [Bool.not_true,Bool.not_false];apply CW.pre;refine AnyW.any 10 mixed (by decide +kernel) ?_;(try simp only [tsOf_cons,tsOf_nil,tsOf_app]);refine dvz (.move rfl) ?_;refine dvz (.indexAddrSL rfl rfl (by decide) (by omega)) ?_;refine dvz (.indexAddrL rfl rfl rfl) ?_;apply DW.loadX;rfl;rfl;rfl;exact zC;rfl;assumption;simp;exact hrd50;refine dvz (.move rfl) ?_;refine dvz (.indexAddrSL rfl rfl (by decide) (by omega)) ?_;refine dvz (.indexAddrL rfl rfl rfl) ?_;apply DW.loadX;rfl;rfl;rfl;exact zC;rfl;assumption;simp;exact hrd60;refine dvz (.fieldAddr rfl rfl) ?_;apply DW.store;rfl;rfl;exact zC;rfl;rfl;apply TSet.app;apply TSet.app;apply TSet.tail;apply TSet.app;apply TSet.head;exact zN;exact zN;apply Wr.cells;rfl;rfl;simp only [wc,List.size_toArray,List.length_cons,List.length_nil];omega;simp only [fillC,wc,wrCells,Value.cells,qJ,qG,qL,qK,Nat.reduceAdd,Nat.reduceMul,qN,Nat.mul_one];rfl;apply DW.nil;simp only [fsOf_cons,fsOf_nil,fsOf_app,fsOf_tsOf,fsOf_new];refine vFz ?_;apply zR;rfl;rfl;apply qC;apply qC;apply qB;apply qC;apply qA;apply Wr.cells;rfl;rfl;simp only [wc,List.size_toArray,List.length_cons,List.length_nil];omega;simp only [fillC,wc,wrCells,Value.cells,qJ,qG,qL,qK,Nat.reduceAdd,Nat.reduceMul,qN,Nat.mul_one];rfl;refine nNz<|zI ?_;apply CW.pre;refine AnyW.any 3 mixed (by decide +kernel) ?_;(try simp only [tsOf_cons,tsOf_nil,tsOf_app]);apply qD;rfl;rfl;rfl;exact zC;rfl;apply zQ;apply zQ;apply zP;exact zN;exact fr_rdW;apply qD;rfl;rfl;rfl;exact zC;rfl;apply zQ;apply zQ;apply zO;apply zQ;apply zP;exact zN;exact qF rfl;apply DW.store;rfl;rfl;exact zC;rfl;rfl;apply TSet.app;apply TSet.app;apply TSet.tail;apply TSet.app;apply TSet.tail;apply TSet.tail;apply TSet.head;exact zN;exact zN;apply fr_wrW;rfl;assumption;apply DW.nil;simp only [fsOf_cons,fsOf_nil,fsOf_app,fsOf_tsOf,fsOf_new];refine zR rfl rfl (.app (.app (.tail (.app (.tail .head))))) (.whole rfl rfl rfl)<|vAz<|nNz<|zK ?_)
  exact finS (vs:=[frv ⟨f1,pc,f2,f3,g2 - k - y,self,frm,val,f4,f5,stat⟩,(.agg #[.int .u8 ((250:Nat):Int),.int .u64 (t:Int),.int .u64 (t:Int),.int .u64 (self:Int),.int .u64 0,.int .u64 0,.int .u64 0,.int .u64 0,.bool false,.int .u64 (y:Int),.slice q9 bl.length j9,.slice none 0 0,.int .u64 (a2:Int),.int .u64 (n2:Int),.bool true]),.bool true]) (gT2++gB) (.inl rfl) rfl rfl (by (apply zD;apply zH;rfl;apply qE;apply zZ;apply zZ;apply zX;apply zZ;apply zX;apply zX;apply zY;exact fr_rdW;apply zD;apply zH;rfl;apply qE;apply zZ;apply zZ;apply zX;apply zZ;apply zX;apply zY;exact qF rfl;apply zD;exact zG rfl;exact zF)) (subS _ _ _) ⟨f1,f2,f3,f4,f5,.slice q9 bl.length j9,gT2,gB,(by rw [clv250 t self y];rfl),rfl,hfr3,hB⟩
theorem rcalls_calls (f:FrV) (L:FrL) (A:AkV) (ws:List Nat) (hM:∀ x∈ws,x < M256) (hd:∃ p n c,A.dt=.slice p n c) (hask:askB A.kind A.op ws.length=true) (hne:¬ A.op=245) (hF:okF f L) (w:World) (h:FrRows w f L) (hv:RowAt w 4 A.ws ws.length (wcs ws)) :
  Calls Tryz.prog 60 #[frv f,.agg (aska A.kind A.op A.ws A.dt),.agg #[.bool A.cold,.bool A.vl,.bool A.new]] w (RetG w [] (BegR f (beginG f L A ws))):=by
 have hq:=hask
 unfold askB at hq
 rw [Bool.and_eq_true] at hq
 rcases shq_ok hq.1 with ⟨ho,_⟩|⟨ho,_⟩|⟨ho,_⟩
 ·exact rcalls241 f L A ws hM hd hask ho hF w h hv
 ·rcases ho with ho|ho
  ·exact rcalls244 f L A ws hM hd hask ho hF w h hv
  ·exact rcalls250 f L A ws hM hd hask ho hF w h hv
 ·exact absurd ho hne
end Go.Proofs.YtpgdnfgjbhdbpaaGreatDoor
namespace Go.Proofs.YtpgdnfgjbhdbpaaGreatDoor.SK
open Go Go.RowKit SL
set_option maxRecDepth 8000
set_option linter.unusedSimpArgs false
set_option linter.unusedVariables false
theorem pad1_get (b:List UInt8) (i:Nat) (hi:i < padN b.length):(pad1 b).getD i 0=if i=b.length then 1 else b.getD i 0:=by
 have hlt:=padN_lt b.length
 unfold pad1
 rw [List.getD_eq_getElem?_getD,List.getElem?_set]
 split
 ·rename_i h
  subst h
  rw [if_pos (by simp;omega),if_pos rfl];rfl
 ·rename_i h
  rw [if_neg (fun e=>h e.symm),List.getElem?_append]
  split
  ·rw [List.getD_eq_getElem?_getD]
  ·rename_i hge
   rw [List.getElem?_replicate]
   have:b[i]?=none:=List.getElem?_eq_none (by omega)
   rw [List.getD_eq_getElem?_getD,this]
   split<;>rfl
end Go.Proofs.YtpgdnfgjbhdbpaaGreatDoor.SK
namespace Go.Proofs.YtpgdnfgjbhdbpaaGreatDoor.SK
open Go Go.RowKit SL
set_option maxRecDepth 8000
set_option maxHeartbeats 4000000
set_option linter.unusedSimpArgs false
set_option linter.unusedVariables false
attribute [local irreducible] SL.CW SL.LW SL.DW Calls SL.Ret SL.RetG SL.beginQ SL.roundQ SL.rangeQ SL.RW SL.AnyW SL.thenQ SL.thenC SL.thenW SL.blkQ SL.finQ SL.ValP SL.NewP SL.SetP SL.CallP SL.Rd SL.Wr SL.Known
def padK (b:List UInt8) (k:Nat):List UInt8:=b++1::List.replicate k 0
theorem padK_zero (b:List UInt8):padK b 0=b++[1]:=rfl
theorem padK_succ (b:List UInt8) (k:Nat):padK b (k+1)=padK b k++[0]:=by
 simp [padK,List.replicate_succ']
theorem padK_all (b:List UInt8):padK b (padN b.length - b.length - 1)=pad1 b:=by
 have hlt:=padN_lt b.length
 unfold padK pad1
 rw [List.set_append_right _ _ (Nat.le_refl _),Nat.sub_self,show padN b.length - b.length=(padN b.length - b.length - 1)+1 by omega,List.replicate_succ]
 rfl
theorem last_byte (b:List UInt8):((pad1 b).getD (padN b.length - 1) 0=0∨(pad1 b).getD (padN b.length - 1) 0=1):=by
 have hlt:=padN_lt b.length
 rw [pad1_get b _ (by omega)]
 split
 ·exact .inr rfl
 ·left
  rw [List.getD_eq_getElem?_getD,List.getElem?_eq_none (by omega)];rfl
theorem pad_last (b:List UInt8):padB b=(pad1 b).set (padN b.length - 1) (UInt8.ofNat ((((pad1 b).getD (padN b.length - 1) 0).toNat+128) % 256)):=by
 unfold padB
 rcases last_byte b with h|h<;>rw [h]<;>rfl
structure PX where
 k:Nat
 v:Value
 seg:Fs
theorem rPad_calls (b:List UInt8) (v:Value) (w:World) (hv:RowAt w 1 v b.length (ucs b)) (hb:b.length≤100000):Calls Tryz.prog 128 #[v] w (RetG w [] (RowR (padB b))):=by
 have hlt:=padN_lt b.length
 have hN:padN b.length=(b.length / 136+1) * 136:=rfl
 refine enter (args:=[_]) _ [] [] Tryz.func128 rfl Tryz.ntmps128 rfl (by simp) .nil ?_
 (refine sRz<|vAz<|nSz ?_)
 refine LW.lay0 rfl inferInstance inferInstance fun v0 seg0 hrow=>?_
 obtain ⟨p0,c0,rfl⟩:=hrow.form
 (refine vMz ?_)
 (apply LW.appendAny;(case hrow=>assumption);rfl;rfl;infer_instance;infer_instance;infer_instance;rfl;rfl;rfl;exact AtSeg.head)
 ·exact fun w hs=>hv.st hs
 ·exact ucs_cells b
 ·simp only [maxLen];omega
 ·omega
 intro v1 seg1 hrow1
 obtain ⟨p1,c1,rfl⟩:=hrow1.form
 refine ⟨_,(by (exact AtSeg.head)),?_⟩
 simp only [List.nil_append,qN] at hrow1 ⊢
 clear hrow
 have hrow:=hrow1
 (refine vAz<|nSz<|vMz ?_;apply LW.lay1;rfl;infer_instance;infer_instance;rfl;rfl;rfl;rfl;rfl;rfl;intro _)
 (apply LW.append;rfl;rfl;infer_instance;infer_instance;infer_instance;rfl;rfl;rfl;(case hrow=>assumption);apply AtSeg.cons;exact AtSeg.head;apply qE;apply zY;rfl;rfl;rfl;omega;simp only [maxLen];omega;omega;intro v' seg' hrow';obtain ⟨p',c',rfl⟩:=hrow'.form;(refine ⟨_,(by (repeat (first|exact AtSeg.head|apply AtSeg.cons|apply AtSeg.app))),?_⟩);(try simp only [List.cons_append,List.nil_append]))
 (apply LW.drop;exact qQ _ (qM _))
 (refine vAz<|nNz<|zI<|zM ?_)
 obtain ⟨K,hK⟩:∃ K,K=padN b.length - b.length - 1:=⟨_,rfl⟩
 refine CW.loop (fun x:PX=>([(3,x.v)],x.seg++[]))
  (fun x=>x.k≤K∧IsRow 5 1 x.v (b.length+1+x.k) (ucs (padK b x.k)) x.seg) (fun x=>K - x.k) ⟨0,_,_⟩ ⟨Nat.zero_le _,by rw [padK_zero,ucs_app];exact hrow'⟩ ⟨rfl,trivial⟩ (qM _) ?_
 rintro ⟨k,v2,seg2⟩ ⟨hk,hrow2⟩
 clear hrow hrow1 hrow'
 dsimp only at hk hrow2 ⊢
 obtain ⟨p2,c2,rfl⟩:=hrow2.form
 rcases Nat.lt_or_ge k K with hkK|hkK
 ·have hrow:=hrow2
  (refine zI<|sRz<|vMz<|lvz (.lenR rfl inferInstance rfl) ?_;refine lvz (.remZL rfl rfl (by decide) (by omega)) ?_;refine lvz (.neT rfl rfl (by omega)) ?_;refine nNz<|cTz<|zJ<|thenN<|zM<|zL<|vMz ?_;apply LW.lay1;rfl;infer_instance;infer_instance;rfl;rfl;rfl;rfl;rfl;rfl;intro _)
  (apply LW.append;rfl;rfl;infer_instance;infer_instance;infer_instance;rfl;rfl;rfl;(case hrow=>assumption);apply AtSeg.cons;exact AtSeg.head;apply qE;apply zY;rfl;rfl;rfl;omega;simp only [maxLen];omega;omega;intro v' seg' hrow';obtain ⟨p',c',rfl⟩:=hrow'.form;(refine ⟨_,(by (repeat (first|exact AtSeg.head|apply AtSeg.cons|apply AtSeg.app))),?_⟩);(try simp only [List.cons_append,List.nil_append]))
  (apply LW.drop;exact qQ _ (qM _))
  (refine vAz ?_;apply zV;refine blkN ?_)
  refine thenX ⟨rfl,⟨k+1,_,seg'⟩,⟨hkK,?_⟩,?_,⟨rfl,trivial⟩,qM _⟩
  ·dsimp only
   rw [padK_succ,ucs_app]
   exact hrow'
  ·dsimp only
   omega
 ·obtain rfl:k=K:=by omega
  have hn:b.length+1+k=padN b.length:=by omega
  have hpk:padK b k=pad1 b:=by rw [hK];exact padK_all b
  rw [hn,hpk] at hrow2
  obtain ⟨g,cur,rfl,rfl,hc1,hmx,hsz,ht⟩:=hrow2.pos (by omega)
  have hl1:=pad1_len b
  have hu:=UInt8.toNat_lt ((pad1 b).getD (padN b.length - 1) 0)
  have hcg:cur[padN b.length - 1]?=some (.int .u8 (((pad1 b).getD (padN b.length - 1) 0).toNat:Int)):=by
   have h1:=congrArg (·[padN b.length - 1]?) ht
   simp only [Nat.mul_one] at h1
   rw [List.getElem?_take,if_pos (by omega)] at h1
   have h2:=uca_get (pad1 b) (padN b.length - 1) (by omega)
   rw [← Array.getElem?_toList,h1]
   simpa [uca] using h2
  have hrd:Rd Tryz.prog 5 (.cells cur 5 (0,0)) (0+(padN b.length - 1) * 1) (.int .u8 (((pad1 b).getD (padN b.length - 1) 0).toNat:Int)):=Rd.one (by rw [qN,Nat.mul_one];exact hcg)
  have hW:Wr Tryz.prog 5 (.cells cur 5 (0,0)) (0+(padN b.length - 1) * 1) (.int .u8 (((((pad1 b).getD (padN b.length - 1) 0).toNat+128) % 256:Nat):Int)) (.cells (wrCells cur ((padN b.length - 1) * 1) [.int .u8 (((((pad1 b).getD (padN b.length - 1) 0).toNat+128) % 256:Nat):Int)]) 5 (0,0)):=Wr.cells rfl rfl (by rw [hsz];show 0+(padN b.length - 1) * 1+1≤c2 * 1;omega) (by rw [qN];rfl)
  obtain ⟨w1,w2⟩:=wr_take (i:=padN b.length - 1) (vs:=[Value.int .u8 (((((pad1 b).getD (padN b.length - 1) 0).toNat+128) % 256:Nat):Int)]) ht rfl (by omega) (by omega)
  rw [hn]
  (refine zI<|sRz<|vMz<|lvz (.lenR rfl inferInstance rfl) ?_;refine lvz (.remZL rfl rfl (by decide) (by omega)) ?_;refine lvz (.neF rfl rfl (by omega)) ?_;refine nNz<|cFz<|CW.exit<|thenE<|thenE<|blkE rfl<|thenN<|sRz<|vMz<|vMz<|lvz (.lenR rfl inferInstance rfl) ?_;refine lvz (.subZL rfl rfl (by decide) (by omega) (by omega)) ?_;refine lvz (.indexAddrS rfl rfl rfl (by omega)) ?_;refine ldz rfl .head (by assumption) ?_;refine lvz (.addBL rfl rfl (by decide)) ?_;refine lvz (.indexAddrS rfl rfl rfl (by omega)) ?_;apply zR;rfl;rfl;apply qA;assumption;refine nSz<|vMz<|vAz<|nNz<|zK ?_)
  refine fin [(g,.cells (wrCells cur ((padN b.length - 1) * 1) [.int .u8 (((((pad1 b).getD (padN b.length - 1) 0).toNat+128) % 256:Nat):Int)]) 5 (0,0))] (.inl rfl) rfl rfl (by (apply zD;exact zG rfl;exact zF)) (by (exact qM _)) ?_
  show IsRow 5 1 (.slice (some ⟨g,0,none⟩) (padN b.length) c2) (padB b).length (ucs (padB b)) _
  rw [padB_len]
  refine .own hc1 hmx (by rw [w2,hsz]) ?_ (by rw [ucs_len,padB_len,Nat.mul_one])
  rw [w1,pad_last]
  have e:((((pad1 b).getD (padN b.length - 1) 0).toNat+128) % 256)=(UInt8.ofNat ((((pad1 b).getD (padN b.length - 1) 0).toNat+128) % 256)).toNat:=by rw [UInt8.toNat_ofNat'];omega
  generalize (((pad1 b).getD (padN b.length - 1) 0).toNat+128) % 256=q at *
  generalize UInt8.ofNat q=u at *
  subst e
  have hlen:(pad1 b).length=padN b.length:=hl1
  rw [ucs_map,ucs_map,Nat.mul_one,Nat.mul_one,List.set_eq_take_append_cons_drop,if_pos (by omega)]
  simp [List.map_take,List.map_drop]
theorem rotl_zero (x:Nat) (hx:x < 18446744073709551616):rotl x 0=x:=by
 unfold rotl
 rw [Nat.pow_zero,Nat.mul_one,Nat.sub_zero,Nat.mod_eq_of_lt hx,Nat.div_eq_of_lt (show x < 2 ^ 64 from hx),Nat.or_zero]
theorem Left_calls (x n:Nat) (hx:x < 18446744073709551616) (hn:n < 100000) (w:World):Calls Tryz.prog 169 #[.int .u64 (x:Int),.int .i64 (n:Int)] w (Ret w (.int .u64 ((rotl x (n % 64):Nat):Int))):=by
 rcases Nat.eq_zero_or_pos (n % 64) with h0|h0
 ·rw [h0,rotl_zero x hx]
  refine enter (args:=[_,_]) _ [] [] Tryz.func169 rfl Tryz.ntmps169 rfl (by simp) .nil ?_
  (refine sRz<|vAz<|nSz<|vMz ?_;refine lvz (.remZL rfl rfl (by decide) (by omega)) ?_;refine vAz<|nNz<|zI<|sRz<|vMz ?_;refine lvz (.eqT rfl rfl (by omega)) ?_;refine nNz<|cTz<|sRz<|vMz<|vAz<|nNz<|zK<|thenR ?_)
  (apply finR;exact .inl rfl;rfl;rfl;rfl;apply zD;exact zG rfl;exact zF)
  rfl
 ·have hm:n % 64 < 64:=Nat.mod_lt _ (by decide)
  refine enter (args:=[_,_]) _ [] [] Tryz.func169 rfl Tryz.ntmps169 rfl (by simp) .nil ?_
  (refine sRz<|vAz<|nSz<|vMz ?_;refine lvz (.remZL rfl rfl (by decide) (by omega)) ?_;refine vAz<|nNz<|zI<|sRz<|vMz ?_;refine lvz (.eqF rfl rfl (by omega)) ?_;refine nNz<|cFz<|zJ<|thenN<|zI ?_;apply CW.pre;refine AnyW.any 7 mixed (by decide +kernel) ?_;(try simp only [tsOf_cons,tsOf_nil,tsOf_app]);refine dvz (.move rfl)<|dvz (.move rfl) ?_;refine dvz (.shlU rfl rfl (by omega)) ?_;refine dvz (.move rfl)<|dvz (.move rfl) ?_;refine dvz (.subZK rfl rfl (by decide) (by omega) (by omega)) ?_;refine dvz (.shrU rfl rfl (by omega)) ?_;apply DW.nil;simp only [fsOf_cons,fsOf_nil,fsOf_app,fsOf_tsOf,fsOf_new];apply LW.v0;rfl;rfl;apply ValP.orU;rfl;rfl;exact Nat.mod_lt _ (by decide);exact Nat.lt_of_le_of_lt (Nat.div_le_self _ _) hx;refine vAz<|nNz<|zK ?_)
  (apply finR;exact .inl rfl;rfl;rfl;rfl;apply zD;exact zG rfl;exact zF)
  rfl
theorem cF_at (L:List Nat) (k:Nat) (hk:k < 25):cF L (k+1)=(cF L k).set (k % 5) ((cF L k).getD (k % 5) 0 ^^^ L.getD k 0):=by
 rw [cF,show 5 * (k / 5 % 5)+k % 5 % 5=k by omega]
def dF (L C:List Nat):Nat→List Nat
 |0=>L
 |k+1=>(dF L C k).set k ((dF L C k).getD k 0 ^^^ (C.getD ((k % 5+4) % 5) 0 ^^^ rotl (C.getD ((k % 5+1) % 5) 0) 1))
theorem dF_zero (L C:List Nat):dF L C 0=L:=rfl
theorem dF_succ (L C:List Nat) (k:Nat):dF L C (k+1)=(dF L C k).set k ((dF L C k).getD k 0 ^^^ (C.getD ((k % 5+4) % 5) 0 ^^^ rotl (C.getD ((k % 5+1) % 5) 0) 1)):=rfl
theorem dF_len (L C:List Nat) (k:Nat):(dF L C k).length=L.length:=by
 induction k with
 |zero=>rfl
 |succ k ih=>simp [dF,ih]
theorem dF_lt (L C:List Nat) (hb:∀ i,L.getD i 0 < 18446744073709551616) (hc:∀ i,C.getD i 0 < 18446744073709551616) (k:Nat):∀ i,(dF L C k).getD i 0 < 18446744073709551616:=by
 induction k with
 |zero=>exact hb
 |succ k ih=>exact getD_set_lt ih (xor_lt (ih _) (xor_lt (hc _) (rotl_lt (hc _))))
def xyF:Nat→Nat × Nat
 |0=>(1,0)
 |t+1=>((xyF t).2,(2 * (xyF t).1+3 * (xyF t).2) % 5)
def nowF (L:List Nat):Nat→Nat × List Nat
 |0=>(L.getD 1 0,L)
 |t+1=>((nowF L t).2.getD (5 * (xyF (t+1)).2+(xyF (t+1)).1) 0,(nowF L t).2.set (5 * (xyF (t+1)).2+(xyF (t+1)).1) (rotl (nowF L t).1 ((t+1) * (t+2) / 2 % 64)))
theorem xyF_zero:xyF 0=(1,0):=rfl
theorem xyF_succ (t:Nat):xyF (t+1)=((xyF t).2,(2 * (xyF t).1+3 * (xyF t).2) % 5):=rfl
theorem xyF_lt (t:Nat):(xyF t).1 < 5∧(xyF t).2 < 5:=by
 induction t with
 |zero=>decide
 |succ t ih=>exact ⟨ih.2,Nat.mod_lt _ (by decide)⟩
theorem nowF_zero (L:List Nat):nowF L 0=(L.getD 1 0,L):=rfl
theorem nowF_succ (L:List Nat) (t:Nat):nowF L (t+1)=((nowF L t).2.getD (5 * (xyF (t+1)).2+(xyF (t+1)).1) 0,(nowF L t).2.set (5 * (xyF (t+1)).2+(xyF (t+1)).1) (rotl (nowF L t).1 ((t+1) * (t+2) / 2 % 64))):=rfl
theorem nowF_len (L:List Nat) (t:Nat):(nowF L t).2.length=L.length:=by
 induction t with
 |zero=>rfl
 |succ t ih=>simp [nowF,ih]
theorem nowF_lt (L:List Nat) (hb:∀ i,L.getD i 0 < 18446744073709551616) (t:Nat):(nowF L t).1 < 18446744073709551616∧∀ i,(nowF L t).2.getD i 0 < 18446744073709551616:=by
 induction t with
 |zero=>exact ⟨hb 1,hb⟩
 |succ t ih=>exact ⟨ih.2 _,getD_set_lt ih.2 (rotl_lt ih.1)⟩
def rmixL (L:List Nat):List Nat:=(nowF (dF L (cF L 25) 25) 24).2
theorem len25 {L:List Nat} (h:L.length=25):∃ a0 a1 a2 a3 a4 a5 a6 a7 a8 a9 a10 a11 a12 a13 a14 a15 a16 a17 a18 a19 a20 a21 a22 a23 a24,L=[a0,a1,a2,a3,a4,a5,a6,a7,a8,a9,a10,a11,a12,a13,a14,a15,a16,a17,a18,a19,a20,a21,a22,a23,a24]:=by
 match L,h with
 |[a0,a1,a2,a3,a4,a5,a6,a7,a8,a9,a10,a11,a12,a13,a14,a15,a16,a17,a18,a19,a20,a21,a22,a23,a24],_=>exact ⟨a0,a1,a2,a3,a4,a5,a6,a7,a8,a9,a10,a11,a12,a13,a14,a15,a16,a17,a18,a19,a20,a21,a22,a23,a24,rfl⟩
theorem mix_vars (a0 a1 a2 a3 a4 a5 a6 a7 a8 a9 a10 a11 a12 a13 a14 a15 a16 a17 a18 a19 a20 a21 a22 a23 a24:Nat):mixL [a0,a1,a2,a3,a4,a5,a6,a7,a8,a9,a10,a11,a12,a13,a14,a15,a16,a17,a18,a19,a20,a21,a22,a23,a24]=(rmixL [a0,a1,a2,a3,a4,a5,a6,a7,a8,a9,a10,a11,a12,a13,a14,a15,a16,a17,a18,a19,a20,a21,a22,a23,a24]).set 0 (rotl ((rmixL [a0,a1,a2,a3,a4,a5,a6,a7,a8,a9,a10,a11,a12,a13,a14,a15,a16,a17,a18,a19,a20,a21,a22,a23,a24]).getD 0 0) 0):=by kernel_rfl
theorem rmix_mix (L:List Nat) (hL:L.length=25) (hb:∀ i,L.getD i 0 < 18446744073709551616):rmixL L=mixL L:=by
 have h0:(rmixL L).getD 0 0 < 18446744073709551616:=(nowF_lt _ (dF_lt L _ hb (cF_lt L hb 25) 25) 24).2 0
 have hl:(rmixL L).length=25:=by unfold rmixL;rw [nowF_len,dF_len,hL]
 have h:mixL L=(rmixL L).set 0 (rotl ((rmixL L).getD 0 0) 0):=by
  obtain ⟨a0,a1,a2,a3,a4,a5,a6,a7,a8,a9,a10,a11,a12,a13,a14,a15,a16,a17,a18,a19,a20,a21,a22,a23,a24,rfl⟩:=len25 hL
  exact mix_vars a0 a1 a2 a3 a4 a5 a6 a7 a8 a9 a10 a11 a12 a13 a14 a15 a16 a17 a18 a19 a20 a21 a22 a23 a24
 rw [h,rotl_zero _ h0]
 generalize rmixL L=M at *
 match M,hl with
 |a::r,_=>rfl
def rrF (L:List Nat):Nat→List Nat
 |0=>L
 |k+1=>(rrF L k).set k (L.getD k 0 ^^^ ((18446744073709551615 - L.getD (5 * (k / 5)+(k % 5+1) % 5) 0) &&& L.getD (5 * (k / 5)+(k % 5+2) % 5) 0))
theorem rrF_len (L:List Nat) (k:Nat):(rrF L k).length=L.length:=by
 induction k with
 |zero=>rfl
 |succ k ih=>simp [rrF,ih]
theorem rrF_zero (L:List Nat):rrF L 0=L:=rfl
theorem rrF_step (L:List Nat) (x y:Nat) (hx:x < 5):rrF L (5 * y+x+1)=(rrF L (5 * y+x)).set (5 * y+x) (L.getD (5 * y+x) 0 ^^^ ((18446744073709551615 - L.getD (5 * y+(x+1) % 5) 0) &&& L.getD (5 * y+(x+2) % 5) 0)):=by
 rw [rrF,show (5 * y+x) / 5=y by omega,show (5 * y+x) % 5=x by omega]
theorem rows_vars (a0 a1 a2 a3 a4 a5 a6 a7 a8 a9 a10 a11 a12 a13 a14 a15 a16 a17 a18 a19 a20 a21 a22 a23 a24:Nat):rowsF [a0,a1,a2,a3,a4,a5,a6,a7,a8,a9,a10,a11,a12,a13,a14,a15,a16,a17,a18,a19,a20,a21,a22,a23,a24] 25=rrF [a0,a1,a2,a3,a4,a5,a6,a7,a8,a9,a10,a11,a12,a13,a14,a15,a16,a17,a18,a19,a20,a21,a22,a23,a24] 25:=by kernel_rfl
theorem rr_rows (L:List Nat) (hL:L.length=25):rrF L 25=rowsL L:=by
 obtain ⟨a0,a1,a2,a3,a4,a5,a6,a7,a8,a9,a10,a11,a12,a13,a14,a15,a16,a17,a18,a19,a20,a21,a22,a23,a24,rfl⟩:=len25 hL
 exact (rows_vars a0 a1 a2 a3 a4 a5 a6 a7 a8 a9 a10 a11 a12 a13 a14 a15 a16 a17 a18 a19 a20 a21 a22 a23 a24).symm
section
attribute [local irreducible] cF dF nowF xyF rrF mixL rowsL numL
theorem rd_nca1 {P:Program} {T E:TypeId} {fr:Nat × Nat} {L:List Nat} [AgI P T false] (hi:1 < L.length):Rd P T (.cells (nca L) E fr) (0+1 * 1) (.int .u64 ((L.getD 1 0:Nat):Int)):=rd_nca hi
theorem rMix_calls (L:List Nat) (hL:L.length=25) (hb:∀ i,L.getD i 0 < 18446744073709551616) (w:World):Calls Tryz.prog 161 #[.agg (nca L)] w (Ret w (.agg (nca (mixL L)))):=by
 rw [← rmix_mix L hL hb]
 obtain ⟨C,hC⟩:∃ C,C=cF L 25:=⟨_,rfl⟩
 have hCb:∀ i,C.getD i 0 < 18446744073709551616:=fun i=>by rw [hC];exact cF_lt L hb 25 i
 have hCl:C.length=5:=by rw [hC];exact cF_len L 25
 have hr1:∀ i,rotl (C.getD i 0) 1 < 18446744073709551616:=fun i=>rotl_lt (hCb i)
 have hk1:∀ i w,Calls Tryz.prog 169 #[.int .u64 ((C.getD i 0:Nat):Int),.int .i64 1] w (Ret w (.int .u64 ((rotl (C.getD i 0) 1:Nat):Int))):=fun i w=>Left_calls _ 1 (hCb i) (by decide) w
 refine enter (args:=[_]) _ [] [] Tryz.func161 rfl Tryz.ntmps161 rfl (by simp) .nil ?_
 (refine sRz ?_;apply zT;rfl;rfl;intro _;apply zU;rfl;intro _;refine nSz ?_;apply zU;rfl;intro _;refine nNz<|zI<|sRz ?_;apply LW.load;rfl;rfl;apply qE;apply zX;apply zX;apply zY;apply rd_ncaW;assumption;refine vMz<|nNz<|zM ?_)
 rename_i b1 b2 b3
 refine CW.loop (fun k:Nat=>([(13,.int .i64 (k:Int)),(12,.agg (nca L)),(3,.pointer (some ⟨b3,0,none⟩)),(2,.pointer (some ⟨b2,0,none⟩)),(1,.pointer (some ⟨b1,0,none⟩))],
  [(b3,.cells (nca (cF L k)) 197 (0,0)),(b2,.cells (nca (List.replicate 25 0)) 140 (0,0)),(b1,.cells (nca L) 140 (0,0))]))
  (fun k=>k≤25) (fun k=>25 - k) 0 (Nat.zero_le _) ⟨rfl,rfl,rfl,rfl,rfl,trivial⟩ (by dsimp only;rw [cF_zero];exact qM _) ?_
 intro k hk
 dsimp only at hk ⊢
 have hcl:=cF_len L k
 have hcb:=cF_lt L hb k
 rcases Nat.lt_or_ge k 25 with hk5|hk5
 ·(refine sRz ?_;refine lvz (.lssT rfl rfl (by omega)) ?_;refine nNz<|zI<|cTz<|zJ<|thenN<|zI<|zM<|sRz<|vMz ?_;apply LW.v0;rfl;rfl;apply ValP.indexA;rfl;rfl;rfl;rfl;omega;apply nth_nca;omega;refine vAz<|vAz<|nNz<|zL<|vMz ?_;refine lvz (.remZL rfl rfl (by decide) (by omega)) ?_;refine lvz (.indexAddrA rfl rfl rfl (by omega)) ?_;apply LW.load;rfl;rfl;apply qE;apply zY;apply rd_nca;omega;refine vMz ?_;apply LW.v0;rfl;rfl;apply ValP.xorU;rfl;rfl;exact hcb _;exact hb _;refine lvz (.indexAddrA rfl rfl rfl (by omega)) ?_;apply zR;rfl;rfl;apply qA;apply wr_nca;omega;apply zV;refine blkN<|thenN<|zL ?_;refine lvz (.addZL rfl rfl (by decide) (by omega)) ?_;refine vMz ?_;apply zV)
  refine thenX ⟨rfl,k+1,hk5,by omega,⟨rfl,rfl,rfl,rfl,rfl,trivial⟩,?_⟩
  rw [cF_at L k hk5]
  exact qM _
 ·obtain rfl:k=25:=by omega
  rw [← hC]
  (refine sRz ?_;refine lvz (.lssF rfl rfl (by omega)) ?_;refine nNz<|zI<|cFz<|CW.exit<|thenE<|thenE<|blkE rfl<|thenN<|zI<|sRz<|vMz<|nNz<|zM ?_)
  refine CW.loop (fun k:Nat=>([(25,.int .i64 (k:Int)),(3,.pointer (some ⟨b3,0,none⟩)),(2,.pointer (some ⟨b2,0,none⟩)),(1,.pointer (some ⟨b1,0,none⟩))],
   [(b3,.cells (nca C) 197 (0,0)),(b2,.cells (nca (List.replicate 25 0)) 140 (0,0)),(b1,.cells (nca (dF L C k)) 140 (0,0))]))
   (fun k=>k≤25) (fun k=>25 - k) 0 (Nat.zero_le _) ⟨rfl,rfl,rfl,rfl,trivial⟩ (by dsimp only;rw [dF_zero];exact qM _) ?_
  intro k hk
  dsimp only at hk ⊢
  have hdl:=dF_len L C k
  have hdb:=dF_lt L C hb hCb k
  rcases Nat.lt_or_ge k 25 with hk5|hk5
  ·(refine sRz ?_;refine lvz (.lssT rfl rfl (by omega)) ?_;refine nNz<|zI<|cTz<|zJ<|thenN<|zI<|zM<|sRz<|vMz<|vAz<|nSz<|vMz ?_;refine lvz (.remZL rfl rfl (by decide) (by omega)) ?_;refine vAz<|nNz ?_;apply CW.pre;refine AnyW.any 15 mixed (by decide +kernel) ?_;(try simp only [tsOf_cons,tsOf_nil,tsOf_app]);refine dvz (.move rfl) ?_;refine dvz (.indexAddrA rfl rfl rfl (by omega)) ?_;apply qD;rfl;rfl;rfl;exact zC;rfl;apply zO;apply zO;apply zP;exact zN;apply rd_nca;omega;refine dvz (.move rfl) ?_;refine dvz (.addZL rfl rfl (by decide) (by omega)) ?_;refine dvz (.remZL rfl rfl (by decide) (by omega)) ?_;refine dvz (.indexAddrA rfl rfl rfl (by omega)) ?_;apply qD;rfl;rfl;rfl;exact zC;rfl;apply zP;exact zN;apply rd_nca;omega;refine dvz (.move rfl) ?_;refine dvz (.addZL rfl rfl (by decide) (by omega)) ?_;refine dvz (.remZL rfl rfl (by decide) (by omega)) ?_;refine dvz (.indexAddrA rfl rfl rfl (by omega)) ?_;apply qD;rfl;rfl;rfl;exact zC;rfl;apply zP;exact zN;apply rd_nca;omega;apply DW.callE;rfl;rfl;rfl;exact zC;rfl;infer_instance;exact .cons rfl (.cons rfl .nil);rfl;exact ReadAll.nil;intro w _ _;exact hk1 _ w;apply DW.v0;rfl;rfl;rfl;exact zC;rfl;apply ValP.xorU;rfl;rfl;exact hCb _;exact hr1 _;apply DW.nil;simp only [fsOf_cons,fsOf_nil,fsOf_app,fsOf_tsOf,fsOf_new];apply LW.v0;rfl;rfl;apply ValP.xorU;rfl;rfl;exact hdb _;apply xor64;exact hCb _;exact hr1 _;refine lvz (.indexAddrA rfl rfl rfl (by omega)) ?_;apply zR;rfl;rfl;apply qB;apply qB;apply qA;apply wr_nca;omega;apply zV;refine blkN<|thenN<|zL ?_;refine lvz (.addZL rfl rfl (by decide) (by omega)) ?_;refine vMz ?_;apply zV)
   refine thenX ⟨rfl,k+1,hk5,by omega,⟨rfl,rfl,rfl,rfl,trivial⟩,?_⟩
   rw [dF_succ]
   exact qM _
  ·obtain rfl:k=25:=by omega
   obtain ⟨D,hD⟩:∃ D,D=dF L C 25:=⟨_,rfl⟩
   rw [← hD] at hdl hdb ⊢
   have hRm:rmixL L=(nowF D 24).2:=by rw [hD,hC];rfl
   have hDl:D.length=25:=by omega
   (refine sRz ?_;refine lvz (.lssF rfl rfl (by omega)) ?_;refine nNz<|zI<|cFz<|CW.exit<|thenE<|thenE<|blkE rfl<|thenN<|sRz<|vAz<|vAz<|nSz<|lvz (.indexAddrL rfl rfl rfl) ?_;apply LW.load;rfl;rfl;apply qE;apply zX;apply zX;apply zY;apply rd_nca1;omega;refine vAz<|nNz<|zI<|sRz<|vMz<|nNz<|zM ?_)
   refine CW.loop (fun t:Nat=>([(50,.int .i64 (t:Int)),(8,.int .i64 ((xyF t).1:Int)),(9,.int .i64 ((xyF t).2:Int)),(10,.int .u64 ((nowF D t).1:Int)),(2,.pointer (some ⟨b2,0,none⟩)),(1,.pointer (some ⟨b1,0,none⟩))],
    [(b2,.cells (nca (List.replicate 25 0)) 140 (0,0)),(b1,.cells (nca (nowF D t).2) 140 (0,0))]))
    (fun t=>t≤24) (fun t=>24 - t) 0 (Nat.zero_le _) ?_ ?_ ?_
   ·dsimp only
    rw [xyF_zero,nowF_zero]
    exact ⟨rfl,rfl,rfl,rfl,rfl,rfl,trivial⟩
   ·dsimp only
    rw [nowF_zero]
    (apply qQ;exact qM _)
   intro t ht
   dsimp only at ht ⊢
   obtain ⟨hx5,hy5⟩:=xyF_lt t
   have hnl:=nowF_len D t
   obtain ⟨hn1,hn2⟩:=nowF_lt D hdb t
   rcases Nat.lt_or_ge t 24 with ht4|ht4
   ·have e1:=xyF_succ t
    have e2:=nowF_succ D t
    rw [e1] at e2
    dsimp only at e2
    have hq:(t+1) * (t+2) / 2 < 100000:=by
     have:(t+1) * (t+2)≤25 * 26:=Nat.mul_le_mul (by omega) (by omega)
     omega
    have hq2:(t+1) * (t+2)≤650:=Nat.mul_le_mul (show t+1≤25 by omega) (show t+2≤26 by omega)
    have hm5:(2 * (xyF t).1+3 * (xyF t).2) % 5 < 5:=Nat.mod_lt _ (by decide)
    have hk2:∀ w,Calls Tryz.prog 169 #[.int .u64 ((nowF D t).1:Int),.int .i64 (((t+1) * (t+2) / 2:Nat):Int)] w (Ret w (.int .u64 ((rotl (nowF D t).1 ((t+1) * (t+2) / 2 % 64):Nat):Int))):=fun w=>Left_calls _ _ hn1 hq w
    (refine sRz ?_;refine lvz (.lssT rfl rfl (by omega)) ?_;refine nNz<|zI<|cTz<|zJ<|thenN<|zI<|zM<|sRz<|vMz<|vAz<|nSz<|vMz<|vMz ?_;refine lvz (.mulZK rfl rfl (by decide) (by omega)) ?_;refine vMz ?_;refine lvz (.mulZK rfl rfl (by decide) (by omega)) ?_;refine lvz (.addZ rfl rfl (by omega)) ?_;refine lvz (.remZL rfl rfl (by decide) (by omega)) ?_;refine vAz<|vAz<|nNz ?_;apply CW.pre;refine AnyW.any 19 mixed (by decide +kernel) ?_;(try simp only [tsOf_cons,tsOf_nil,tsOf_app]);refine dvz (.move rfl) ?_;refine dvz (.mulZK rfl rfl (by decide) (by omega)) ?_;refine dvz (.move rfl) ?_;refine dvz (.addZ rfl rfl (by omega)) ?_;refine dvz (.move rfl) ?_;refine dvz (.mulZK rfl rfl (by decide) (by omega)) ?_;refine dvz (.move rfl) ?_;refine dvz (.addZ rfl rfl (by omega)) ?_;refine dvz (.indexAddrA rfl rfl rfl (by omega)) ?_;apply qD;rfl;rfl;rfl;exact zC;rfl;apply zO;apply zP;exact zN;apply rd_nca;omega;refine dvz (.move rfl)<|dvz (.move rfl) ?_;refine dvz (.addZL rfl rfl (by decide) (by omega)) ?_;refine dvz (.move rfl) ?_;refine dvz (.addZL rfl rfl (by decide) (by omega)) ?_;refine dvz (.mulZ rfl rfl (by omega)) ?_;refine dvz (.quoZL rfl rfl (by decide) (by omega) (by omega)) ?_;apply DW.callE;rfl;rfl;rfl;exact zC;rfl;infer_instance;exact .cons rfl (.cons rfl .nil);rfl;exact ReadAll.nil;intro w _ _;exact hk2 w;refine dvz (.assign rfl) ?_;apply DW.nil;simp only [fsOf_cons,fsOf_nil,fsOf_app,fsOf_tsOf,fsOf_new];refine lvz (.indexAddrA rfl rfl rfl (by omega)) ?_;apply zR;rfl;rfl;apply qB;apply qA;apply wr_nca;omega;apply zV;refine blkN<|thenN<|zL ?_;refine lvz (.addZL rfl rfl (by decide) (by omega)) ?_;refine vMz ?_;apply zV)
    refine thenX ⟨rfl,t+1,ht4,by omega,?_,?_⟩
    ·rw [e1,e2]
     exact ⟨rfl,rfl,rfl,rfl,rfl,rfl,trivial⟩
    ·rw [e2]
     exact qM _
   ·obtain rfl:t=24:=by omega
    have hrl:(List.replicate 25 0:List Nat).length=25:=rfl
    have hnl2:(nowF D 24).2.length=25:=by omega
    (refine sRz ?_;refine lvz (.lssF rfl rfl (by omega)) ?_;refine nNz<|zI<|cFz<|CW.exit<|thenE<|thenE<|blkE rfl<|thenN<|sRz ?_;apply LW.load;rfl;rfl;apply qE;apply zX;apply zY;apply rd_ncaW;assumption;apply zR;rfl;rfl;apply qA;apply wr_ncaW;assumption;assumption;refine nNz<|zK ?_)
    (apply finR;exact .inl rfl;rfl;rfl;rfl;apply zD;apply zH;rfl;apply qE;apply zY;apply rd_ncaW;assumption;exact zF)
    rw [hRm]
    rfl
end
section
def inN (r:Nat):Nat→Nat × Nat
 |0=>(r,0)
 |j+1=>((if 255 < (inN r j).1 * 2 then ((inN r j).1 * 2 - 256) ^^^ 113 else (inN r j).1 * 2),(if (if 255 < (inN r j).1 * 2 then ((inN r j).1 * 2 - 256) ^^^ 113 else (inN r j).1 * 2) / 2 % 2=1 then (inN r j).2 |||2 ^ (2 ^ j - 1) else (inN r j).2))
def outN:Nat→Nat × Nat
 |0=>(1,0)
 |i+1=>inN (outN i).1 7
theorem num_doc:∀ n,n < 24→(outN (n+1)).2=numL.getD n 0:=by decide +kernel
theorem inN_zero (r:Nat):inN r 0=(r,0):=rfl
theorem inN_succ (r j:Nat):inN r (j+1)=((if 255 < (inN r j).1 * 2 then ((inN r j).1 * 2 - 256) ^^^ 113 else (inN r j).1 * 2),(if (if 255 < (inN r j).1 * 2 then ((inN r j).1 * 2 - 256) ^^^ 113 else (inN r j).1 * 2) / 2 % 2=1 then (inN r j).2 |||2 ^ (2 ^ j - 1) else (inN r j).2)):=rfl
theorem outN_zero:outN 0=(1,0):=rfl
theorem outN_succ (i:Nat):outN (i+1)=inN (outN i).1 7:=rfl
theorem inN_lt (r:Nat) (hr:r < 256) (j:Nat):(inN r j).1 < 256:=by
 induction j with
 |zero=>exact hr
 |succ j ih =>
  rw [inN_succ]
  show (if _ then _ else _) < _
  by_cases h:255 < (inN r j).1 * 2
  ·rw [if_pos h]
   exact Nat.xor_lt_two_pow (n:=8) (by omega) (by decide)
  ·rw [if_neg h]
   omega
theorem pow64 {j:Nat} (hj:j < 7):2 ^ j≤64:=Nat.le_trans (Nat.pow_le_pow_right (by decide) (show j≤6 by omega)) (by decide)
theorem pos2 (j:Nat):1≤2 ^ j:=Nat.pow_pos (by decide)
theorem bit64 {j:Nat} (hj:j < 7):2 ^ (2 ^ j - 1) < 18446744073709551616:=by
 have h:=pow64 hj
 have h0:1≤2 ^ j:=Nat.pow_pos (by decide)
 exact Nat.lt_of_le_of_lt (Nat.pow_le_pow_right (by decide) (show 2 ^ j - 1≤63 by omega)) (by decide)
theorem inN_x (r:Nat) (j:Nat) (hj:j≤7):(inN r j).2 < 18446744073709551616:=by
 induction j with
 |zero=>exact Nat.zero_lt_succ _
 |succ j ih =>
  have ih:=ih (by omega)
  rw [inN_succ]
  show (if (if 255 < (inN r j).1 * 2 then ((inN r j).1 * 2 - 256) ^^^ 113 else (inN r j).1 * 2) / 2 % 2=1 then (inN r j).2 |||2 ^ (2 ^ j - 1) else (inN r j).2) < _
  generalize (if 255 < (inN r j).1 * 2 then ((inN r j).1 * 2 - 256) ^^^ 113 else (inN r j).1 * 2) / 2 % 2=q
  by_cases h:q=1
  ·rw [if_pos h]
   exact Nat.or_lt_two_pow (n:=64) ih (bit64 (by omega))
  ·rw [if_neg h]
   exact ih
theorem outN_lt (i:Nat):(outN i).1 < 256:=by
 induction i with
 |zero=>decide
 |succ i ih=>rw [outN_succ];exact inN_lt _ ih 7
attribute [local irreducible] inN outN
theorem ValP.shlOne {P:Program} {e:Env} {T ty:TypeId} {x y:Operand} {s:Nat} {ik:IntKind} (hx:e.ev x=some (.int .u64 1)) (hy:e.ev y=some (.int ik (s:Int))) (hs:s≤63):ValP P e [] (.binOp .shl T x y ty) (.int .u64 ((2 ^ s:Nat):Int)):=by
 have h:=ValP.shlU (P:=P) (T:=T) (ty:=ty) (m:=1) hx hy (by omega)
 have hb:2 ^ s < 18446744073709551616:=Nat.lt_of_le_of_lt (Nat.pow_le_pow_right (by decide) hs) (by decide)
 rwa [Nat.one_mul,Nat.mod_eq_of_lt hb] at h
theorem Number_calls (n:Nat) (hn:n < 24) (w:World):Calls Tryz.prog 162 #[.int .i64 (n:Int)] w (Ret w (.int .u64 ((numL.getD n 0:Nat):Int))):=by
 rw [← num_doc n hn]
 refine enter (args:=[_]) _ [] [] Tryz.func162 rfl Tryz.ntmps162 rfl (by simp) .nil ?_
 (refine sRz<|vAz<|nSz<|vAz<|nSz<|vAz<|nNz<|zI<|sRz<|vMz ?_;refine lvz (.addZL rfl rfl (by decide) (by omega)) ?_;refine vMz<|nNz<|zM ?_)
 refine CW.loop (fun i:Nat=>([(9,.int .i64 (i:Int)),(8,.int .i64 ((n+1:Nat):Int)),(3,.int .i64 ((outN i).1:Int)),(0,.int .i64 (n:Int))],[]))
  (fun i=>i≤n) (fun i=>n - i) 0 (Nat.zero_le _) ?_ (List.nil_sublist _) ?_
 ·dsimp only
  rw [outN_zero]
  exact ⟨rfl,rfl,rfl,rfl,trivial⟩
 intro i hi
 dsimp only at hi ⊢
 have hol:=outN_lt i
 obtain ⟨r,hr⟩:∃ r,r=(outN i).1:=⟨_,rfl⟩
 have ho:=outN_succ i
 rw [← hr] at hol ho ⊢
 (refine sRz ?_;refine lvz (.lssT rfl rfl (by omega)) ?_;refine nNz<|zI<|cTz<|zJ<|thenN<|zI<|zM<|sRz<|vMz<|vAz<|nSz<|vAz<|nNz<|zI ?_;refine sRz<|vMz<|nNz<|zM ?_)
 refine CW.loop (fun j:Nat=>([(12,.int .i64 (j:Int)),(3,.int .i64 ((inN r j).1:Int)),(4,.int .u64 ((inN r j).2:Int)),(5,.int .i64 (i:Int)),(9,.int .i64 (i:Int)),(8,.int .i64 ((n+1:Nat):Int)),(0,.int .i64 (n:Int))],[]))
  (fun j=>j≤7) (fun j=>7 - j) 0 (Nat.zero_le _) ?_ (List.nil_sublist _) ?_
 ·dsimp only
  rw [inN_zero]
  exact ⟨rfl,rfl,rfl,rfl,rfl,rfl,rfl,trivial⟩
 intro j hj
 dsimp only at hj ⊢
 have hlt:=inN_lt r hol j
 have hx:=inN_x r j hj
 have hs:=inN_succ r j
 rcases Nat.lt_or_ge j 7 with hj7|hj7
 ·have hp:=pow64 hj7
  have hp0:=pos2 j
  have hb:=bit64 hj7
  generalize (inN r j).1=a at *
  generalize (inN r j).2=x at *
  have hp63:2 ^ j - 1≤63:=by omega
  have hj63:j≤63:=by omega
  by_cases h1:255 < a * 2
  ·rw [if_pos h1] at hs
   have hx8:(a * 2 - 256) ^^^ 113 < 256:=Nat.xor_lt_two_pow (n:=8) (by omega) (by decide)
   by_cases h2:((a * 2 - 256) ^^^ 113) / 2 % 2=1
   ·rw [if_pos h2] at hs
    (refine sRz ?_;refine lvz (.lssT rfl rfl (by omega)) ?_;refine nNz<|zI<|cTz<|zJ<|thenN<|zI<|zM<|sRz<|vMz<|vAz<|nSz<|vMz ?_;refine lvz (.mulZL rfl rfl (by decide) (by omega)) ?_;refine vAz<|nNz<|zI<|sRz<|vMz ?_;refine lvz (.gtrT rfl rfl (by omega)) ?_;refine nNz<|cTz<|zL<|vMz ?_;refine lvz (.subZL rfl rfl (by decide) (by omega) (by omega)) ?_;apply LW.v0;rfl;rfl;apply ValP.xorIL;rfl;rfl;decide;omega;decide;refine vAz<|nSz<|vMz ?_;refine lvz (.quoZL rfl rfl (by decide) (by omega) (by omega)) ?_;refine lvz (.remZL rfl rfl (by decide) (by omega)) ?_;refine lvz (.eqT rfl rfl (by omega)) ?_;refine nNz<|cTz<|zL<|vMz<|vMz ?_;apply LW.v0;rfl;rfl;apply ValP.shlOne;rfl;rfl;assumption;refine lvz (.subNL rfl rfl (by decide) (by omega) (by omega)) ?_;apply LW.v0;rfl;rfl;apply ValP.shlOne;rfl;rfl;assumption;refine lvz (.orU rfl rfl (by assumption) (by assumption)) ?_;refine vAz ?_;apply zV;refine blkN<|thenN<|zL ?_;refine lvz (.addZL rfl rfl (by decide) (by omega)) ?_;refine vMz ?_;apply zV)
    refine thenX ⟨rfl,j+1,hj7,by omega,?_,List.nil_sublist _⟩
    rw [hs]
    exact ⟨rfl,rfl,rfl,rfl,rfl,rfl,rfl,trivial⟩
   ·rw [if_neg h2] at hs
    (refine sRz ?_;refine lvz (.lssT rfl rfl (by omega)) ?_;refine nNz<|zI<|cTz<|zJ<|thenN<|zI<|zM<|sRz<|vMz<|vAz<|nSz<|vMz ?_;refine lvz (.mulZL rfl rfl (by decide) (by omega)) ?_;refine vAz<|nNz<|zI<|sRz<|vMz ?_;refine lvz (.gtrT rfl rfl (by omega)) ?_;refine nNz<|cTz<|zL<|vMz ?_;refine lvz (.subZL rfl rfl (by decide) (by omega) (by omega)) ?_;apply LW.v0;rfl;rfl;apply ValP.xorIL;rfl;rfl;decide;omega;decide;refine vAz<|nSz<|vMz ?_;refine lvz (.quoZL rfl rfl (by decide) (by omega) (by omega)) ?_;refine lvz (.remZL rfl rfl (by decide) (by omega)) ?_;refine lvz (.eqF rfl rfl (by omega)) ?_;refine nNz<|cFz<|zJ<|blkN<|thenN<|zL ?_;refine lvz (.addZL rfl rfl (by decide) (by omega)) ?_;refine vMz ?_;apply zV)
    refine thenX ⟨rfl,j+1,hj7,by omega,?_,List.nil_sublist _⟩
    rw [hs]
    exact ⟨rfl,rfl,rfl,rfl,rfl,rfl,rfl,trivial⟩
  ·rw [if_neg h1] at hs
   by_cases h2:a * 2 / 2 % 2=1
   ·rw [if_pos h2] at hs
    (refine sRz ?_;refine lvz (.lssT rfl rfl (by omega)) ?_;refine nNz<|zI<|cTz<|zJ<|thenN<|zI<|zM<|sRz<|vMz<|vAz<|nSz<|vMz ?_;refine lvz (.mulZL rfl rfl (by decide) (by omega)) ?_;refine vAz<|nNz<|zI<|sRz<|vMz ?_;refine lvz (.gtrF rfl rfl (by omega)) ?_;refine nNz<|cFz<|zJ<|thenN<|sRz<|vMz ?_;refine lvz (.quoZL rfl rfl (by decide) (by omega) (by omega)) ?_;refine lvz (.remZL rfl rfl (by decide) (by omega)) ?_;refine lvz (.eqT rfl rfl (by omega)) ?_;refine nNz<|cTz<|zL<|vMz<|vMz ?_;apply LW.v0;rfl;rfl;apply ValP.shlOne;rfl;rfl;assumption;refine lvz (.subNL rfl rfl (by decide) (by omega) (by omega)) ?_;apply LW.v0;rfl;rfl;apply ValP.shlOne;rfl;rfl;assumption;refine lvz (.orU rfl rfl (by assumption) (by assumption)) ?_;refine vAz ?_;apply zV;refine blkN<|thenN<|zL ?_;refine lvz (.addZL rfl rfl (by decide) (by omega)) ?_;refine vMz ?_;apply zV)
    refine thenX ⟨rfl,j+1,hj7,by omega,?_,List.nil_sublist _⟩
    rw [hs]
    exact ⟨rfl,rfl,rfl,rfl,rfl,rfl,rfl,trivial⟩
   ·rw [if_neg h2] at hs
    (refine sRz ?_;refine lvz (.lssT rfl rfl (by omega)) ?_;refine nNz<|zI<|cTz<|zJ<|thenN<|zI<|zM<|sRz<|vMz<|vAz<|nSz<|vMz ?_;refine lvz (.mulZL rfl rfl (by decide) (by omega)) ?_;refine vAz<|nNz<|zI<|sRz<|vMz ?_;refine lvz (.gtrF rfl rfl (by omega)) ?_;refine nNz<|cFz<|zJ<|thenN<|sRz<|vMz ?_;refine lvz (.quoZL rfl rfl (by decide) (by omega) (by omega)) ?_;refine lvz (.remZL rfl rfl (by decide) (by omega)) ?_;refine lvz (.eqF rfl rfl (by omega)) ?_;refine nNz<|cFz<|zJ<|blkN<|thenN<|zL ?_;refine lvz (.addZL rfl rfl (by decide) (by omega)) ?_;refine vMz ?_;apply zV)
    refine thenX ⟨rfl,j+1,hj7,by omega,?_,List.nil_sublist _⟩
    rw [hs]
    exact ⟨rfl,rfl,rfl,rfl,rfl,rfl,rfl,trivial⟩
 ·obtain rfl:j=7:=by omega
  rw [← ho]
  by_cases h:i=n
  ·subst h
   (refine sRz ?_;refine lvz (.lssF rfl rfl (by omega)) ?_;refine nNz<|zI<|cFz<|CW.exit<|thenE<|thenE<|blkE rfl<|thenN<|sRz<|vMz<|vMz ?_;refine lvz (.eqT rfl rfl (by omega)) ?_;refine nNz<|cTz<|CW.exit<|blkO rfl<|thenE<|thenE<|blkE rfl<|thenN<|sRz<|vMz<|vAz<|nNz<|zK ?_)
   (apply finR;exact .inl rfl;rfl;rfl;rfl;apply zD;exact zG rfl;exact zF)
   rfl
  ·(refine sRz ?_;refine lvz (.lssF rfl rfl (by omega)) ?_;refine nNz<|zI<|cFz<|CW.exit<|thenE<|thenE<|blkE rfl<|thenN<|sRz<|vMz<|vMz ?_;refine lvz (.eqF rfl rfl (by omega)) ?_;refine nNz<|cFz<|zJ<|blkN<|thenN<|zL ?_;refine lvz (.addZL rfl rfl (by decide) (by omega)) ?_;refine vMz ?_;apply zV)
   exact thenX ⟨rfl,i+1,by omega,by omega,⟨rfl,rfl,rfl,rfl,trivial⟩,List.nil_sublist _⟩
end
section
attribute [local irreducible] rrF mixL rowsL numL roundL permF
theorem rRows_calls (L:List Nat) (hL:L.length=25) (hb:∀ i,L.getD i 0 < 18446744073709551616) (w:World):Calls Tryz.prog 160 #[.agg (nca L)] w (Ret w (.agg (nca (rowsL L)))):=by
 rw [← rr_rows L hL]
 refine enter (args:=[_]) _ [] [] Tryz.func160 rfl Tryz.ntmps160 rfl (by simp) .nil ?_
 (refine sRz ?_;apply zT;rfl;rfl;intro _;apply zU;rfl;intro _;refine nSz ?_;apply LW.load;rfl;rfl;apply qE;apply zX;apply zY;apply rd_ncaW;assumption;apply zU;rfl;intro _;apply zR;rfl;rfl;apply qA;apply wr_ncaO;rfl;assumption;refine nNz<|zI<|sRz<|vMz<|nNz<|zM ?_)
 rename_i b1 b2 b3
 refine CW.loop (fun y:Nat=>([(7,.int .i64 (y:Int)),(3,.pointer (some ⟨b3,0,none⟩)),(2,.pointer (some ⟨b2,0,none⟩)),(1,.pointer (some ⟨b1,0,none⟩))],
  [(b3,.cells (nca L) 140 (0,0)),(b2,.cells (nca (List.replicate 25 0)) 140 (0,0)),(b1,.cells (nca (rrF L (5 * y))) 140 (0,0))]))
  (fun y=>y≤5) (fun y=>5 - y) 0 (Nat.zero_le _) ⟨rfl,rfl,rfl,rfl,trivial⟩ (by dsimp only;rw [Nat.mul_zero,rrF_zero];exact qM _) ?_
 intro y hy
 dsimp only at hy ⊢
 rcases Nat.lt_or_ge y 5 with hy5|hy5
 ·(refine sRz ?_;refine lvz (.lssT rfl rfl (by omega)) ?_;refine nNz<|zI<|cTz<|zJ<|thenN<|zI<|zM<|sRz<|vMz<|vAz<|nSz<|vMz<|nNz<|zM ?_)
  refine CW.loop (fun x:Nat=>([(10,.int .i64 (x:Int)),(4,.int .i64 (y:Int)),(7,.int .i64 (y:Int)),(3,.pointer (some ⟨b3,0,none⟩)),(2,.pointer (some ⟨b2,0,none⟩)),(1,.pointer (some ⟨b1,0,none⟩))],
   [(b3,.cells (nca L) 140 (0,0)),(b2,.cells (nca (List.replicate 25 0)) 140 (0,0)),(b1,.cells (nca (rrF L (5 * y+x))) 140 (0,0))]))
   (fun x=>x≤5) (fun x=>5 - x) 0 (Nat.zero_le _) ⟨rfl,rfl,rfl,rfl,rfl,rfl,trivial⟩ (qM _) ?_
  intro x hx
  dsimp only at hx ⊢
  have hrl:=rrF_len L (5 * y+x)
  rcases Nat.lt_or_ge x 5 with hx5|hx5
  ·(refine sRz ?_;refine lvz (.lssT rfl rfl (by omega)) ?_;refine nNz<|zI<|cTz<|zJ<|thenN<|zI<|zM<|sRz<|vMz<|vAz<|nNz ?_;apply CW.pre;refine AnyW.any 28 mixed (by decide +kernel) ?_;(try simp only [tsOf_cons,tsOf_nil,tsOf_app]);refine dvz (.move rfl) ?_;refine dvz (.mulZK rfl rfl (by decide) (by omega)) ?_;refine dvz (.move rfl) ?_;refine dvz (.addZ rfl rfl (by omega)) ?_;refine dvz (.move rfl) ?_;refine dvz (.mulZK rfl rfl (by decide) (by omega)) ?_;refine dvz (.move rfl) ?_;refine dvz (.addZ rfl rfl (by omega)) ?_;refine dvz (.indexAddrA rfl rfl rfl (by omega)) ?_;apply qD;rfl;rfl;rfl;exact zC;rfl;apply zP;exact zN;apply rd_nca;omega;refine dvz (.move rfl) ?_;refine dvz (.mulZK rfl rfl (by decide) (by omega)) ?_;refine dvz (.move rfl) ?_;refine dvz (.addZL rfl rfl (by decide) (by omega)) ?_;refine dvz (.remZL rfl rfl (by decide) (by omega)) ?_;refine dvz (.addZ rfl rfl (by omega)) ?_;refine dvz (.indexAddrA rfl rfl rfl (by omega)) ?_;apply qD;rfl;rfl;rfl;exact zC;rfl;apply zP;exact zN;apply rd_nca;omega;refine dvz (.move rfl) ?_;refine dvz (.mulZK rfl rfl (by decide) (by omega)) ?_;refine dvz (.move rfl) ?_;refine dvz (.addZL rfl rfl (by decide) (by omega)) ?_;refine dvz (.remZL rfl rfl (by decide) (by omega)) ?_;refine dvz (.addZ rfl rfl (by omega)) ?_;refine dvz (.indexAddrA rfl rfl rfl (by omega)) ?_;apply qD;rfl;rfl;rfl;exact zC;rfl;apply zP;exact zN;apply rd_nca;omega;apply DW.v0;rfl;rfl;rfl;exact zC;rfl;apply ValP.andNotU;rfl;rfl;exact hb _;exact hb _;apply DW.v0;rfl;rfl;rfl;exact zC;rfl;apply ValP.xorU;rfl;rfl;exact hb _;apply and64;omega;apply DW.nil;simp only [fsOf_cons,fsOf_nil,fsOf_app,fsOf_tsOf,fsOf_new];refine lvz (.indexAddrA rfl rfl rfl (by omega)) ?_;apply zR;rfl;rfl;apply qB;apply qB;apply qA;apply wr_nca;omega;apply zV;refine blkN<|thenN<|zL ?_;refine lvz (.addZL rfl rfl (by decide) (by omega)) ?_;refine vMz ?_;apply zV)
   refine thenX ⟨rfl,x+1,hx5,by omega,⟨rfl,rfl,rfl,rfl,rfl,rfl,trivial⟩,?_⟩
   rw [← Nat.add_assoc,rrF_step L x y hx5]
   exact qM _
  ·obtain rfl:x=5:=by omega
   (refine sRz ?_;refine lvz (.lssF rfl rfl (by omega)) ?_;refine nNz<|zI<|cFz<|CW.exit<|thenE<|thenE<|blkE rfl<|blkN<|thenN<|zL ?_;refine lvz (.addZL rfl rfl (by decide) (by omega)) ?_;refine vMz ?_;apply zV)
   refine thenX ⟨rfl,y+1,hy5,by omega,⟨rfl,rfl,rfl,rfl,trivial⟩,?_⟩
   rw [show 5 * (y+1)=5 * y+5 by omega]
   exact qM _
 ·obtain rfl:y=5:=by omega
  have hrl:=rrF_len L (5 * 5)
  have hrl2:(rrF L (5 * 5)).length=25:=by omega
  have hz:(List.replicate 25 0:List Nat).length=25:=rfl
  (refine sRz ?_;refine lvz (.lssF rfl rfl (by omega)) ?_;refine nNz<|zI<|cFz<|CW.exit<|thenE<|thenE<|blkE rfl<|thenN<|sRz ?_;apply LW.load;rfl;rfl;apply qE;apply zX;apply zX;apply zY;apply rd_ncaW;assumption;apply zR;rfl;rfl;apply qB;apply qA;apply wr_ncaW;assumption;assumption;refine nNz<|zK ?_)
  (apply finR;exact .inl rfl;rfl;rfl;rfl;apply zD;apply zH;rfl;apply qE;apply zX;apply zY;apply rd_ncaW;assumption;exact zF)
  rfl
theorem rRound_calls (L:List Nat) (n:Nat) (hn:n < 24) (hL:L.length=25) (hb:∀ i,L.getD i 0 < 18446744073709551616) (w:World):Calls Tryz.prog 152 #[.agg (nca L),.int .i64 (n:Int)] w (Ret w (.agg (nca (roundL L (numL.getD n 0))))):=by
 have hM:∀ w',Calls Tryz.prog 161 #[.agg (nca L)] w' (Ret w' (.agg (nca (mixL L)))):=rMix_calls L hL hb
 have hR:∀ w',Calls Tryz.prog 160 #[.agg (nca (mixL L))] w' (Ret w' (.agg (nca (rowsL (mixL L))))):=rRows_calls _ (mixL_len L) (mixL_lt L hb)
 have hNu:=Number_calls n hn
 have hnb:=numL_lt n hn
 have hrb:=rowsL_lt _ (mixL_lt L hb)
 have hl1:=mixL_len L
 have hl2:=rowsL_len (mixL L)
 have hl3:((rowsL (mixL L)).set 0 ((rowsL (mixL L)).getD 0 0 ^^^ numL.getD n 0)).length=25:=by rw [List.length_set,hl2]
 have he:roundL L (numL.getD n 0)=(rowsL (mixL L)).set 0 ((rowsL (mixL L)).getD 0 0 ^^^ numL.getD n 0):=by unfold roundL;rfl
 rw [he]
 refine enter (args:=[_,_]) _ [] [] Tryz.func152 rfl Tryz.ntmps152 rfl (by simp) .nil ?_
 (refine sRz ?_;apply zT;rfl;rfl;intro _;apply zU;rfl;intro _;refine nSz ?_;apply LW.load;rfl;rfl;apply qE;apply zX;apply zY;apply rd_ncaW;assumption;apply zS;rfl;rfl;infer_instance;exact .cons rfl .nil;intro w _;exact hM w;apply zS;rfl;rfl;infer_instance;exact .cons rfl .nil;intro w _;exact hR w;apply zR;rfl;rfl;apply qB;apply qA;apply wr_ncaW;assumption;assumption;refine nNz<|zI ?_;apply CW.pre;refine AnyW.any 4 mixed (by decide +kernel) ?_;(try simp only [tsOf_cons,tsOf_nil,tsOf_app]);refine dvz (.indexAddrL rfl rfl rfl) ?_;apply qD;rfl;rfl;rfl;exact zC;rfl;apply zO;apply zP;exact zN;apply rd_nca0;omega;refine dvz (.move rfl) ?_;apply DW.callE;rfl;rfl;rfl;exact zC;rfl;infer_instance;exact .cons rfl .nil;rfl;exact ReadAll.nil;intro w _ _;exact hNu w;apply DW.nil;simp only [fsOf_cons,fsOf_nil,fsOf_app,fsOf_tsOf,fsOf_new];apply LW.v0;rfl;rfl;apply ValP.xorU;rfl;rfl;exact hrb _;assumption;refine lvz (.indexAddrL rfl rfl rfl) ?_;apply zR;rfl;rfl;apply qB;apply qA;apply wr_nca0;omega;refine nSz ?_;apply LW.load;rfl;rfl;apply qE;apply zX;apply zY;apply rd_ncaW;assumption;apply zR;rfl;rfl;apply qA;apply wr_ncaO;rfl;assumption;refine nNz<|zK ?_)
 (apply finR;exact .inl rfl;rfl;rfl;rfl;apply zD;apply zH;rfl;apply qE;apply zY;apply rd_ncaW;assumption;exact zF)
 rfl
theorem permF_z (L:List Nat):permF L 0=L:=by unfold permF;rfl
theorem rPermute_calls (L:List Nat) (hL:L.length=25) (hb:∀ i,L.getD i 0 < 18446744073709551616) (w:World):Calls Tryz.prog 129 #[.agg (nca L)] w (Ret w (.agg (nca (permL L)))):=by
 refine enter (args:=[_]) _ [] [] Tryz.func129 rfl Tryz.ntmps129 rfl (by simp) .nil ?_
 (refine sRz ?_;apply zT;rfl;rfl;intro _;apply zU;rfl;intro _;refine nNz<|zI<|sRz<|vMz<|nNz<|zM ?_)
 rename_i b1 b2
 refine CW.loop (fun k:Nat=>([(4,.int .i64 (k:Int)),(2,.pointer (some ⟨b2,0,none⟩)),(1,.pointer (some ⟨b1,0,none⟩))],
  [(b2,.cells (nca (List.replicate 25 0)) 140 (0,0)),(b1,.cells (nca (permF L k)) 140 (0,0))]))
  (fun k=>k≤24) (fun k=>24 - k) 0 (Nat.zero_le _) ⟨rfl,rfl,rfl,trivial⟩ (by dsimp only;rw [permF_z];exact qM _) ?_
 intro k hk
 dsimp only at hk ⊢
 have hlen:=permF_len L hL k
 rcases Nat.lt_or_ge k 24 with hk4|hk4
 ·have hRd:∀ w',Calls Tryz.prog 152 #[.agg (nca (permF L k)),.int .i64 (k:Int)] w' (Ret w' (.agg (nca (roundL (permF L k) (numL.getD k 0))))):=rRound_calls _ k hk4 hlen (permF_lt L hb k hk)
  have hlen':=roundL_len (permF L k) (numL.getD k 0)
  (refine sRz ?_;refine lvz (.lssT rfl rfl (by omega)) ?_;refine nNz<|zI<|cTz<|zJ<|thenN<|zI<|zM<|sRz<|vMz<|vAz<|nNz<|zL ?_;apply LW.load;rfl;rfl;apply qE;apply zX;apply zY;apply rd_ncaW;assumption;refine vMz ?_;apply zS;rfl;rfl;infer_instance;exact .cons rfl (.cons rfl .nil);intro w _;exact hRd w;apply zR;rfl;rfl;apply qB;apply qA;apply wr_ncaW;assumption;assumption;apply zV;refine blkN<|thenN<|zL ?_;refine lvz (.addZL rfl rfl (by decide) (by omega)) ?_;refine vMz ?_;apply zV)
  refine thenX ⟨rfl,k+1,hk4,by omega,⟨rfl,rfl,rfl,trivial⟩,?_⟩
  rw [permF_step]
  exact qM _
 ·obtain rfl:k=24:=by omega
  have hlr:(List.replicate 25 0:List Nat).length=25:=rfl
  have hpe:permL L=permF L 24:=by unfold permL;rfl
  rw [hpe]
  (refine sRz ?_;refine lvz (.lssF rfl rfl (by omega)) ?_;refine nNz<|zI<|cFz<|CW.exit<|thenE<|thenE<|blkE rfl<|thenN<|sRz ?_;apply LW.load;rfl;rfl;apply qE;apply zX;apply zY;apply rd_ncaW;assumption;apply zR;rfl;rfl;apply qA;apply wr_ncaW;assumption;assumption;refine nNz<|zK ?_)
  (apply finR;exact .inl rfl;rfl;rfl;rfl;apply zD;apply zH;rfl;apply qE;apply zY;apply rd_ncaW;assumption;exact zF)
  rfl
end
end Go.Proofs.YtpgdnfgjbhdbpaaGreatDoor.SK
namespace Go.Proofs.YtpgdnfgjbhdbpaaGreatDoor.SK
open Go Go.RowKit SL
set_option maxRecDepth 8000
set_option linter.unusedSimpArgs false
set_option linter.unusedVariables false
def litO (p:List UInt8) (o:Nat):Nat→Nat
 |0=>0
 |k+1=>litO p o k |||((p.getD (o+k) 0).toNat * 2 ^ (8 * k) % 18446744073709551616)
theorem litO_lt (p:List UInt8) (o:Nat):∀ k,k≤8→litO p o k < 2 ^ (8 * k)
 |0,_=>by simp [litO]
 |k+1,hk=>by
  have ih:=litO_lt p o k (by omega)
  have hu:=(p.getD (o+k) 0).toNat_lt
  have h1:(p.getD (o+k) 0).toNat * 2 ^ (8 * k) < 2 ^ (8 * (k+1)):=by
   rw [show 8 * (k+1)=8+8 * k by omega,Nat.pow_add]
   exact Nat.mul_lt_mul_of_pos_right hu (Nat.pow_pos (by decide))
  rw [litO]
  exact Nat.or_lt_two_pow (Nat.lt_of_lt_of_le ih (Nat.pow_le_pow_right (by decide) (by omega))) (Nat.lt_of_le_of_lt (Nat.mod_le _ _) h1)
theorem or_xor {a b k:Nat} (h:a < 2 ^ k):a |||(b * 2 ^ k)=a ^^^ (b * 2 ^ k):=by
 apply Nat.eq_of_testBit_eq
 intro i
 rw [Nat.testBit_or,Nat.testBit_xor]
 rcases Nat.lt_or_ge i k with hi|hi
 ·have:(b * 2 ^ k).testBit i=false:=by
   rw [Nat.testBit_mul_two_pow]
   have:¬ k≤i:=by omega
   simp [this]
  rw [this];simp
 ·have:a.testBit i=false:=Nat.testBit_lt_two_pow (Nat.lt_of_lt_of_le h (Nat.pow_le_pow_right (by decide) hi))
  rw [this];simp
theorem byte_small {u k:Nat} (hu:u < 256) (hk:k < 8):u * 2 ^ (8 * k) % 18446744073709551616=u * 2 ^ (8 * k):=by
 apply Nat.mod_eq_of_lt
 have h1:u * 2 ^ (8 * k) < 2 ^ 8 * 2 ^ (8 * k):=Nat.mul_lt_mul_of_pos_right hu (Nat.pow_pos (by decide))
 rw [← Nat.pow_add] at h1
 exact Nat.lt_of_lt_of_le h1 (show 2 ^ (8+8 * k)≤2 ^ 64 from Nat.pow_le_pow_right (by decide) (by omega))
theorem litO_xor (p:List UInt8) (o k:Nat) (hk:k < 8):litO p o (k+1)=litO p o k ^^^ ((p.getD (o+k) 0).toNat * 2 ^ (8 * k) % 18446744073709551616):=by
 have hu:=(p.getD (o+k) 0).toNat_lt
 rw [litO,byte_small hu hk]
 exact or_xor (litO_lt p o k (by omega))
def litS (L:List Nat) (p:List UInt8) (o:Nat):Nat→List Nat
 |0=>L
 |i+1=>(litS L p o i).set i ((litS L p o i).getD i 0 ^^^ litO p (o+8 * i) 8)
theorem litS_len (L:List Nat) (p:List UInt8) (o k:Nat):(litS L p o k).length=L.length:=by
 induction k with
 |zero=>rfl
 |succ k ih=>simp [litS,ih]
theorem soak_eight (L:List Nat) (p:List UInt8) (o i:Nat) (hi:i < L.length):∀ k,k≤8→soakF L p o (8 * i+k)=(soakF L p o (8 * i)).set i ((soakF L p o (8 * i)).getD i 0 ^^^ litO p (o+8 * i) k)
 |0,_=>by
  have hl:=soakF_len L p o (8 * i)
  rw [show litO p (o+8 * i) 0=0 from rfl,Nat.xor_zero,Nat.add_zero]
  apply List.ext_getElem?
  intro j
  rw [List.getElem?_set]
  split
  ·rename_i h;subst h
   rw [if_pos (by omega),List.getD_eq_getElem?_getD,List.getElem?_eq_getElem (by omega)];rfl
  ·rfl
 |k+1,hk=>by
  have ih:=soak_eight L p o i hi k (by omega)
  have hl:=soakF_len L p o (8 * i)
  rw [← Nat.add_assoc,soakF_succ,ih,show (8 * i+k) / 8=i by omega,show (8 * i+k) % 8=k by omega,litO_xor p _ k (by omega),List.set_set]
  have hg:∀ x:Nat,((soakF L p o (8 * i)).set i x).getD i 0=x:=fun x=>by
   rw [List.getD_eq_getElem?_getD,List.getElem?_set_self (by omega)];rfl
  rw [hg,Nat.xor_assoc,show o+(8 * i+k)=o+8 * i+k by omega]
theorem litS_soak (L:List Nat) (p:List UInt8) (o:Nat):∀ i,i≤L.length→litS L p o i=soakF L p o (8 * i)
 |0,_=>rfl
 |i+1,hi=>by
  rw [litS,litS_soak L p o i (by omega),show 8 * (i+1)=8 * i+8 by omega,soak_eight L p o i hi 8 (Nat.le_refl _)]
theorem or_add {a b k:Nat} (h:a < 2 ^ k):a |||(b * 2 ^ k)=b * 2 ^ k+a:=by
 rw [Nat.or_comm,Nat.mul_comm]
 exact (Nat.two_pow_add_eq_or_of_lt h b).symm
end Go.Proofs.YtpgdnfgjbhdbpaaGreatDoor.SK
namespace Go.Proofs.YtpgdnfgjbhdbpaaGreatDoor.SK
open Go Go.RowKit SL
set_option maxRecDepth 8000
set_option maxHeartbeats 4000000
set_option linter.unusedSimpArgs false
set_option linter.unusedVariables false
attribute [local irreducible] SL.CW SL.LW SL.DW Calls SL.Ret SL.RetG SL.beginQ SL.roundQ SL.rangeQ SL.RW SL.AnyW SL.thenQ SL.thenC SL.thenW SL.blkQ SL.finQ SL.ValP SL.NewP SL.SetP SL.CallP SL.Rd SL.Wr SL.Known
section
def yF (p:List UInt8) (o:Nat):Nat→Nat
 |0=>0
 |m+1=>(256 * yF p o m % 18446744073709551616+(p.getD (o+(7 - m)) 0).toNat) % 18446744073709551616
theorem yF_zero (p:List UInt8) (o:Nat):yF p o 0=0:=rfl
theorem yF_succ (p:List UInt8) (o m:Nat):yF p o (m+1)=(256 * yF p o m % 18446744073709551616+(p.getD (o+(7 - m)) 0).toNat) % 18446744073709551616:=rfl
theorem yF_lt (p:List UInt8) (o m:Nat):yF p o m < 18446744073709551616:=by
 cases m with
 |zero=>exact Nat.zero_lt_succ _
 |succ m=>exact Nat.mod_lt _ (by decide)
theorem litO_sum (p:List UInt8) (o k:Nat) (hk:k < 8):litO p o (k+1)=(p.getD (o+k) 0).toNat * 2 ^ (8 * k)+litO p o k:=by
 rw [litO,byte_small (p.getD (o+k) 0).toNat_lt hk]
 exact or_add (litO_lt p o k (by omega))
theorem yF_lit (p:List UInt8) (o:Nat):∀ m,m≤8→yF p o m < 256 ^ m∧litO p o 8=yF p o m * 256 ^ (8 - m)+litO p o (8 - m)
 |0,_=>⟨by simp [yF],by simp [yF]⟩
 |m+1,hm=>by
  obtain ⟨h1,h2⟩:=yF_lit p o m (by omega)
  have hu:=(p.getD (o+(7 - m)) 0).toNat_lt
  have hp:256 ^ m≤256 ^ 7:=Nat.pow_le_pow_right (by decide) (by omega)
  have hp7:(256:Nat) ^ 7=72057594037927936:=by decide
  have hy:yF p o (m+1)=256 * yF p o m+(p.getD (o+(7 - m)) 0).toNat:=by
   rw [yF]
   have:256 * yF p o m < 18446744073709551616:=by omega
   rw [Nat.mod_eq_of_lt this]
   apply Nat.mod_eq_of_lt
   have h3:256 * yF p o m+256≤256 * 256 ^ m:=by
    have:=Nat.mul_le_mul_left 256 h1
    omega
   omega
  constructor
  ·rw [hy,Nat.pow_succ]
   have:=Nat.mul_le_mul_left 256 h1
   omega
  ·have e1:8 - m=(7 - m)+1:=by omega
   have hs:=litO_sum p o (7 - m) (by omega)
   rw [← e1] at hs
   rw [h2,hs,hy,show 8 - (m+1)=7 - m by omega,e1,Nat.pow_succ,show 2 ^ (8 * (7 - m))=256 ^ (7 - m) by rw [Nat.pow_mul]]
   generalize 256 ^ (7 - m)=q
   generalize yF p o m=y
   generalize (p.getD (o+(7 - m)) 0).toNat=u
   rw [Nat.add_mul,Nat.add_assoc]
   congr 1
   rw [Nat.mul_comm q 256,← Nat.mul_assoc,Nat.mul_comm y 256]
theorem yF_all (p:List UInt8) (o:Nat):yF p o 8=litO p o 8:=by
 have:=(yF_lit p o 8 (Nat.le_refl _)).2
 simpa [litO] using this.symm
structure QX where
 k:Nat
 o:Nat
theorem ValP.cutFromAny {P:Program} {e:Env} {T E:TypeId} {x lo:Operand} {b o n c k:Nat} {il:IntKind} {z:Value} (hU:UnI P T (.slice E)) (hI:InfoI P E 1 z) (hx:e.ev x=some (.slice (some ⟨b,o,none⟩) n c)) (hl:e.ev lo=some (.int il (OfNat.ofNat k))) (_:k=k) (hk:(OfNat.ofNat k:Nat)≤n):ValP P e [] (.slice T x (some lo) none none) (.slice (some ⟨b,if c=(OfNat.ofNat k:Nat) then o else o+(OfNat.ofNat k:Nat),none⟩) (n - (OfNat.ofNat k:Nat)) (c - (OfNat.ofNat k:Nat))):=by
 have h:=ValP.cutFrom (P:=P) (k:=(OfNat.ofNat k:Nat)) hU hI hx hl hk
 have e1:cutAt (some ⟨b,o,none⟩) (OfNat.ofNat k:Nat) n c 1=.slice (some ⟨b,if c=(OfNat.ofNat k:Nat) then o else o+(OfNat.ofNat k:Nat),none⟩) (n - (OfNat.ofNat k:Nat)) (c - (OfNat.ofNat k:Nat)):=by
  unfold cutAt
  split<;>simp [Addr.add]
 rwa [e1] at h
theorem litS_z (L:List Nat) (p:List UInt8) (o:Nat):litS L p o 0=L:=rfl
theorem litS_s (L:List Nat) (p:List UInt8) (o i:Nat):litS L p o (i+1)=(litS L p o i).set i ((litS L p o i).getD i 0 ^^^ litO p (o+8 * i) 8):=rfl
attribute [local irreducible] padB sumB permL soakF sumF litS litO idF yF
theorem rSum_calls (b:List UInt8) (v:Value) (w:World) (hv:RowAt w 1 v b.length (ucs b)) (hb:b.length≤100000):Calls Tryz.prog 98 #[v] w (Ret w (.agg (uca (sumB b)))):=by
 have hPad:∀ w' {fs},St w [] fs w'→Calls Tryz.prog 128 #[v] w' (RetG w' [] (RowR (padB b))):=fun w' fs hst=>rPad_calls b v w' (hv.st hst) hb
 obtain ⟨p0,c0,rfl,_,_⟩:=hv.form
 obtain ⟨P,hPe⟩:∃ P,P=padB b:=⟨_,rfl⟩
 obtain ⟨N,hNe⟩:∃ N,N=padC b.length:=⟨_,rfl⟩
 have hlP:P.length=136 * N:=by rw [hPe,hNe,padB_len,padN,padC];omega
 have hNb:0 < N∧N≤1000:=by rw [hNe,padC];omega
 refine enter (args:=[_]) _ [] [] Tryz.func98 rfl Tryz.ntmps98 rfl (by simp) .nil ?_
 (refine sRz ?_;apply zU;rfl;intro _;refine nSz ?_;apply zU;rfl;intro _;refine nSz<|vMz ?_)
 refine LW.callR rfl rfl inferInstance (by (exact .cons rfl .nil)) (fun w hst=>hPad w hst) ?_
 intro v1 gs1 hrow
 replace hrow:IsRow 5 1 v1 (padB b).length (ucs (padB b)) gs1:=hrow
 rw [← hPe] at hrow
 obtain ⟨p1,c1,rfl⟩:=hrow.form
 obtain ⟨g,cur,rfl,rfl,hc1,hmx,hsz,ht⟩:=hrow.pos (by omega)
 simp only [maxLen] at hmx
 have hcg:∀ j,j < P.length→cur[j]?=some (.int .u8 ((P.getD j 0).toNat:Int)):=fun j hj=>by
  have h1:=congrArg (·[j]?) ht
  simp only [Nat.mul_one] at h1
  rw [List.getElem?_take,if_pos hj] at h1
  have h2:=uca_get P j hj
  rw [← Array.getElem?_toList,h1]
  simpa [uca] using h2
 simp only [List.cons_append,List.nil_append]
 (refine vAz<|nNz<|zI<|zM ?_)
 rename_i bi bl
 refine CW.loop (fun x:QX=>([(4,.slice (some ⟨g,x.o,none⟩) (P.length - 136 * x.k) (c1 - 136 * x.k)),(3,.pointer (some ⟨bl,0,none⟩)),(2,.pointer (some ⟨bi,0,none⟩))],
  [(g,.cells cur 5 (0,0)),(bl,.cells (nca (sumF P x.k)) 140 (0,0)),(bi,.cells (uca (List.replicate 32 0)) 107 (0,0))]))
  (fun x=>x.k≤N∧(x.k < N→x.o=136 * x.k)) (fun x=>N - x.k) ⟨0,0⟩ ⟨Nat.zero_le _,fun _=>rfl⟩ ⟨rfl,rfl,rfl,trivial⟩ (by dsimp only;rw [sumF_zero];exact qM _) ?_
 rintro ⟨c,o⟩ ⟨hc,ho⟩
 dsimp only at hc ho ⊢
 have hls':=sumF_len P c
 rcases Nat.lt_or_ge c N with hcN|hcN
 ·obtain rfl:=ho hcN
  (refine zI<|sRz<|vMz<|lvz (.lenR rfl inferInstance rfl) ?_;refine lvz (.gtrT rfl rfl (by omega)) ?_;refine nNz<|cTz<|zJ<|thenN<|zM<|zI<|sRz<|vMz<|nNz<|zM ?_)
  refine CW.loop (fun i:Nat=>([(17,.int .i64 (i:Int)),(4,.slice (some ⟨g,136 * c,none⟩) (P.length - 136 * c) (c1 - 136 * c)),(3,.pointer (some ⟨bl,0,none⟩)),(2,.pointer (some ⟨bi,0,none⟩))],
   [(g,.cells cur 5 (0,0)),(bl,.cells (nca (litS (sumF P c) P (136 * c) i)) 140 (0,0)),(bi,.cells (uca (List.replicate 32 0)) 107 (0,0))]))
   (fun i=>i≤17) (fun i=>17 - i) 0 (Nat.zero_le _) ⟨rfl,rfl,rfl,rfl,trivial⟩ ?_ ?_
  ·dsimp only
   rw [litS_z]
   exact qM _
  intro i hi
  dsimp only at hi ⊢
  have hls:=litS_len (sumF P c) P (136 * c) i
  have hso:=litS_soak (sumF P c) P (136 * c) i (by omega)
  have hsb:∀ j,(litS (sumF P c) P (136 * c) i).getD j 0 < 18446744073709551616:=by rw [hso];exact soakF_lt _ P (136 * c) (sumF_lt P c) (8 * i)
  rcases Nat.lt_or_ge i 17 with hi7|hi7
  ·(refine sRz ?_;refine lvz (.lssT rfl rfl (by omega)) ?_;refine nNz<|zI<|cTz<|zJ<|thenN<|zI<|zM<|sRz<|vMz<|vAz<|nSz<|vAz<|nNz<|zI ?_;refine sRz<|vAz<|nNz<|zM ?_)
   refine CW.loop (fun m:Nat=>([(7,.int .i64 ((7:Int) - (m:Int))),(6,.int .u64 (yF P (136 * c+8 * i) m:Int)),(5,.int .i64 (i:Int)),(17,.int .i64 (i:Int)),(4,.slice (some ⟨g,136 * c,none⟩) (P.length - 136 * c) (c1 - 136 * c)),(3,.pointer (some ⟨bl,0,none⟩)),(2,.pointer (some ⟨bi,0,none⟩))],
    [(g,.cells cur 5 (0,0)),(bl,.cells (nca (litS (sumF P c) P (136 * c) i)) 140 (0,0)),(bi,.cells (uca (List.replicate 32 0)) 107 (0,0))]))
    (fun m=>m≤8) (fun m=>8 - m) 0 (Nat.zero_le _) ?_ (qM _) ?_
   ·dsimp only
    rw [yF_zero]
    exact ⟨rfl,rfl,rfl,rfl,rfl,rfl,rfl,trivial⟩
   intro m hm
   dsimp only at hm ⊢
   have hyl:=yF_lt P (136 * c+8 * i) m
   rcases Nat.lt_or_ge m 8 with hm8|hm8
   ·have e0:((7:Int) - (m:Int))=((7 - m:Nat):Int):=by omega
    have e2:((7 - m:Nat):Int) - 1=(7:Int) - ((m+1:Nat):Int):=by omega
    rw [e0]
    have hbt:(P.getD (136 * c+8 * i+(7 - m)) 0).toNat < 256:=UInt8.toNat_lt _
    have hrd:Rd Tryz.prog 5 (.cells cur 5 (0,0)) (136 * c+(8 * i+(7 - m)) * 1) (.int .u8 ((P.getD (136 * c+8 * i+(7 - m)) 0).toNat:Int)):=Rd.one (by rw [Nat.mul_one,← Nat.add_assoc];exact hcg _ (by omega))
    (refine zI<|sRz<|vMz ?_;refine lvz (.geqT rfl rfl (by omega)) ?_;refine nNz<|cTz<|zJ<|thenN<|zI<|zM<|zL<|vMz ?_;refine lvz (.mulNK rfl rfl (by decide)) ?_;refine vMz<|vMz ?_;refine lvz (.mulZK rfl rfl (by decide) (by omega)) ?_;refine vMz ?_;refine lvz (.addZ rfl rfl (by omega)) ?_;refine lvz (.indexAddrS rfl rfl rfl (by omega)) ?_;refine ldz rfl .head (by assumption) ?_;refine lvz (.convN rfl (by omega) (by omega)) ?_;refine lvz (.addN rfl rfl)<|vAz ?_;apply zV;refine blkN<|thenN<|zL<|vMz ?_;refine lvz (.subI rfl rfl (by omega) (by omega)) ?_;refine vAz ?_;apply zV)
    refine thenX ⟨rfl,m+1,hm8,by omega,?_,qM _⟩
    rw [yF_succ,← e2]
    exact ⟨rfl,rfl,rfl,rfl,rfl,rfl,rfl,trivial⟩
   ·obtain rfl:m=8:=by omega
    rw [yF_all] at hyl ⊢
    (refine zI<|sRz<|vMz ?_;refine lvz (.geqF rfl rfl (by omega)) ?_;refine nNz<|cFz<|CW.exit<|thenE<|thenE<|blkE rfl<|thenN<|zL<|vMz ?_;refine lvz (.indexAddrA rfl rfl rfl (by omega)) ?_;apply LW.load;rfl;rfl;apply qE;apply zX;apply zY;apply rd_nca;omega;refine vMz ?_;apply LW.v0;rfl;rfl;apply ValP.xorU;rfl;rfl;exact hsb _;assumption;refine lvz (.indexAddrA rfl rfl rfl (by omega)) ?_;apply zR;rfl;rfl;apply qB;apply qA;apply wr_nca;omega;apply zV;refine blkN<|thenN<|zL ?_;refine lvz (.addZL rfl rfl (by decide) (by omega)) ?_;refine vMz ?_;apply zV)
    refine thenX ⟨rfl,i+1,hi7,by omega,⟨rfl,rfl,rfl,rfl,trivial⟩,?_⟩
    rw [litS_s]
    exact qM _
  ·obtain rfl:i=17:=by omega
   rw [show 8 * 17=136 from rfl] at hso
   rw [hso] at hsb hls ⊢
   have hls2:(soakF (sumF P c) P (136 * c) 136).length=25:=by omega
   have hPerm:∀ w',Calls Tryz.prog 129 #[.agg (nca (soakF (sumF P c) P (136 * c) 136))] w' (Ret w' (.agg (nca (permL (soakF (sumF P c) P (136 * c) 136))))):=rPermute_calls _ hls2 hsb
   have hlp:=permL_len (soakF (sumF P c) P (136 * c) 136) hls2
   have e3:P.length - 136 * c - 136=P.length - 136 * (c+1):=by omega
   have e4:c1 - 136 * c - 136=c1 - 136 * (c+1):=by omega
   (refine sRz ?_;refine lvz (.lssF rfl rfl (by omega)) ?_;refine nNz<|zI<|cFz<|CW.exit<|thenE<|thenE<|blkE rfl<|thenN<|sRz ?_;apply LW.load;rfl;rfl;apply qE;apply zX;apply zY;apply rd_ncaW;assumption;apply zS;rfl;rfl;infer_instance;exact .cons rfl .nil;intro w _;exact hPerm w;apply zR;rfl;rfl;apply qB;apply qA;apply wr_ncaW;assumption;assumption;refine nNz<|zL<|vMz ?_;apply LW.v0;rfl;rfl;apply ValP.cutFromAny;infer_instance;infer_instance;rfl;rfl;decide;omega;refine vAz ?_;apply zV;refine blkN ?_)
   refine thenX ⟨rfl,⟨c+1,if c1 - 136 * c=136 then 136 * c else 136 * c+136⟩,⟨hcN,fun h=>?_⟩,?_,?_,?_⟩
   ·dsimp only at h ⊢
    rw [if_neg (by omega)]
    omega
   ·dsimp only
    omega
   ·dsimp only
    rw [← e3,← e4]
    exact ⟨rfl,rfl,rfl,trivial⟩
   ·dsimp only
    rw [sumF_succ]
    exact qM _
 ·obtain rfl:c=N:=by omega
  have hLb:=sumF_lt P c
  have hI:sumB b=idF (sumF P c) 32:=by rw [hPe,hNe];unfold sumB;rfl
  rw [hI]
  generalize sumF P c=L at *
  (refine zI<|sRz<|vMz<|lvz (.lenR rfl inferInstance rfl) ?_;refine lvz (.gtrF rfl rfl (by omega)) ?_;refine nNz<|cFz<|CW.exit<|thenE<|thenE<|blkE rfl<|thenN<|sRz ?_;apply zU;rfl;intro _;refine nNz<|zI<|sRz<|vMz<|nNz<|zM ?_)
  rename_i bd
  refine CW.loop (fun i:Nat=>([(46,.int .i64 (i:Int)),(8,.pointer (some ⟨bd,0,none⟩)),(3,.pointer (some ⟨bl,0,none⟩)),(2,.pointer (some ⟨bi,0,none⟩))],
   [(bd,.cells (uca (idF L (8 * i))) 107 (0,0)),(bl,.cells (nca L) 140 (0,0)),(bi,.cells (uca (List.replicate 32 0)) 107 (0,0))]))
   (fun i=>i≤4) (fun i=>4 - i) 0 (Nat.zero_le _) ⟨rfl,rfl,rfl,rfl,trivial⟩ ?_ ?_
  ·dsimp only
   rw [Nat.mul_zero,idF_zero]
   (apply List.Sublist.cons_cons;apply qQ;exact qM _)
  intro i hi
  dsimp only at hi ⊢
  rcases Nat.lt_or_ge i 4 with hi4|hi4
  ·(refine sRz ?_;refine lvz (.lssT rfl rfl (by omega)) ?_;refine nNz<|zI<|cTz<|zJ<|thenN<|zI<|zM<|sRz<|vMz<|vAz<|nSz<|vMz ?_;refine lvz (.indexAddrA rfl rfl rfl (by omega)) ?_;apply LW.load;rfl;rfl;apply qE;apply zX;apply zY;apply rd_nca;omega;refine vAz<|nSz<|vMz<|nNz<|zM ?_)
   refine CW.loop (fun k:Nat=>([(52,.int .i64 (k:Int)),(10,.int .u64 ((L.getD i 0 / 2 ^ (8 * k):Nat):Int)),(9,.int .i64 (i:Int)),(46,.int .i64 (i:Int)),(8,.pointer (some ⟨bd,0,none⟩)),(3,.pointer (some ⟨bl,0,none⟩)),(2,.pointer (some ⟨bi,0,none⟩))],
    [(bd,.cells (uca (idF L (8 * i+k))) 107 (0,0)),(bl,.cells (nca L) 140 (0,0)),(bi,.cells (uca (List.replicate 32 0)) 107 (0,0))]))
    (fun k=>k≤8) (fun k=>8 - k) 0 (Nat.zero_le _) ?_ (qM _) ?_
   ·dsimp only
    rw [Nat.mul_zero,Nat.pow_zero,Nat.div_one]
    exact ⟨rfl,rfl,rfl,rfl,rfl,rfl,rfl,trivial⟩
   intro k hk
   dsimp only at hk ⊢
   have hil:=idF_len L (8 * i+k)
   have hxl:L.getD i 0 / 2 ^ (8 * k) < 18446744073709551616:=Nat.lt_of_le_of_lt (Nat.div_le_self _ _) (hLb i)
   rcases Nat.lt_or_ge k 8 with hk8|hk8
   ·have hstep:=idF_succ L (8 * i+k)
    rw [show (8 * i+k) / 8=i by omega,show (8 * i+k) % 8=k by omega] at hstep
    have hdiv:L.getD i 0 / 2 ^ (8 * (k+1))=L.getD i 0 / 2 ^ (8 * k) / 256:=by
     rw [Nat.div_div_eq_div_mul,show 8 * (k+1)=8 * k+8 by omega,Nat.pow_add]
    generalize L.getD i 0 / 2 ^ (8 * k)=x at *
    (refine sRz ?_;refine lvz (.lssT rfl rfl (by omega)) ?_;refine nNz<|zI<|cTz<|zJ<|thenN<|zI<|zM<|sRz<|vMz<|vAz<|nSz<|vMz ?_;refine lvz (.mulZK rfl rfl (by decide) (by omega)) ?_;refine vMz ?_;refine lvz (.addZ rfl rfl (by omega)) ?_;refine vMz ?_;refine lvz (.remNL rfl rfl (by decide) (by omega)) ?_;refine lvz (.convB rfl) ?_;refine lvz (.indexAddrA rfl rfl rfl (by omega)) ?_;apply zR;rfl;rfl;apply qA;apply wr_uca;omega;exact Nat.mod_lt _ (by decide);refine nNz<|zL<|vMz ?_;refine lvz (.quoNL rfl rfl (by decide) (by omega) (by omega)) ?_;refine vAz ?_;apply zV;refine blkN<|thenN<|zL ?_;refine lvz (.addZL rfl rfl (by decide) (by omega)) ?_;refine vMz ?_;apply zV)
    refine thenX ⟨rfl,k+1,hk8,by omega,?_,?_⟩
    ·rw [hdiv]
     exact ⟨rfl,rfl,rfl,rfl,rfl,rfl,rfl,trivial⟩
    ·rw [← Nat.add_assoc,hstep,Nat.mod_mod]
     exact qM _
   ·obtain rfl:k=8:=by omega
    (refine sRz ?_;refine lvz (.lssF rfl rfl (by omega)) ?_;refine nNz<|zI<|cFz<|CW.exit<|thenE<|thenE<|blkE rfl<|blkN<|thenN<|zL ?_;refine lvz (.addZL rfl rfl (by decide) (by omega)) ?_;refine vMz ?_;apply zV)
    refine thenX ⟨rfl,i+1,hi4,by omega,⟨rfl,rfl,rfl,rfl,trivial⟩,?_⟩
    rw [show 8 * (i+1)=8 * i+8 by omega]
    exact qM _
  ·obtain rfl:i=4:=by omega
   have hil:=idF_len L (8 * 4)
   have hz:(List.replicate 32 (0:UInt8)).length=32:=rfl
   (refine sRz ?_;refine lvz (.lssF rfl rfl (by omega)) ?_;refine nNz<|zI<|cFz<|CW.exit<|thenE<|thenE<|blkE rfl<|thenN<|sRz ?_;apply LW.load;rfl;rfl;apply qE;apply zY;apply rd_ucaW;assumption;apply zR;rfl;rfl;apply qB;apply qB;apply qA;apply wr_ucaW;assumption;assumption;refine nNz<|zK ?_)
   (apply finR;exact .inl rfl;rfl;rfl;rfl;apply zD;apply zH;rfl;apply qE;apply zX;apply zX;apply zY;apply rd_ucaW;assumption;exact zF)
   rfl
end
end Go.Proofs.YtpgdnfgjbhdbpaaGreatDoor.SK
namespace Go.Proofs.YtpgdnfgjbhdbpaaGreatDoor
open Go Go.RowKit SL
set_option maxRecDepth 8000
set_option maxHeartbeats 4000000
set_option linter.unusedSimpArgs false
set_option linter.unusedVariables false
attribute [local irreducible] SL.CW SL.LW SL.DW Calls SL.Ret SL.RetG SL.beginQ SL.roundQ SL.rangeQ SL.RW SL.AnyW SL.thenQ SL.thenC SL.thenW SL.blkQ SL.finQ SL.ValP SL.NewP SL.SetP SL.CallP SL.Rd SL.Wr SL.Known
section
open SK (sumB rSum_calls)
open UK (adr rARead_calls)
attribute [local irreducible] SK.padB SK.sumB
theorem beb8_u8 (a k:Nat) (hk:k < 8):((a / 2 ^ (8 * (8 - 1 - k)) % 256:Nat):Int)=(((UInt8.ofNat (a / 256 ^ (8 - 1 - k))).toNat:Nat):Int):=by
 rw [UInt8.toNat_ofNat',Nat.pow_mul]
theorem raBytes_calls (a:Nat) (ha:a < 18446744073709551616) (w:World):Calls Tryz.prog 99 #[.int .u64 (a:Int)] w (RetG w [] (bM (beb 8 a))):=by
 refine enter (args:=[_]) _ [] [] Tryz.func99 rfl Tryz.ntmps99 rfl (by simp) .nil ?_
 (refine sRz<|vAz<|nSz<|vAz<|nNz<|zI<|sRz<|vAz<|nNz<|zM ?_)
 refine CW.loop (fun x:CX=>([(4,.int .i64 (7 - (x.k:Int))),(3,x.v),(0,.int .u64 (a:Int))],x.seg++[]))
  (fun x=>x.k≤8∧IsRow 5 1 x.v x.k (ucs ((beb 8 a).take x.k)) x.seg) (fun x=>8 - x.k) ⟨0,.slice none 0 0,[]⟩ ⟨Nat.zero_le _,.nil⟩ ⟨rfl,rfl,rfl,trivial⟩ (qM _) ?_
 rintro ⟨k,v,seg⟩ ⟨hk,hrow⟩
 dsimp only at hk hrow ⊢
 obtain ⟨p,c,rfl⟩:=hrow.form
 rcases Nat.lt_or_ge k 8 with hlt|hge
 ·have e0:(7 - (k:Int))=((8 - 1 - k:Nat):Int):=by omega
  have e1:(7 - ((k+1:Nat):Int))=((8 - 1 - k:Nat):Int) - 1:=by omega
  rw [e0]
  have hu:=beb_get 8 a k hlt
  have hval:=beb8_u8 a k hlt
  obtain ⟨u,hu'⟩:∃ u,u=UInt8.ofNat (a / 256 ^ (8 - 1 - k)):=⟨_,rfl⟩
  rw [← hu'] at hu hval
  have hn8:8 - 1 - k < 8:=by omega
  obtain ⟨n,hn⟩:∃ n,n=8 - 1 - k:=⟨_,rfl⟩
  rw [← hn] at hval hn8 e1 ⊢
  (refine zI<|sRz<|vMz ?_;refine lvz (.geqT rfl rfl (by omega)) ?_;refine nNz<|cTz<|zJ<|thenN<|zI<|zM<|zL<|vMz<|vMz<|vMz ?_;refine lvz (.mulZK rfl rfl (by decide) (by omega)) ?_;refine lvz (.shrU rfl rfl (by omega)) ?_;refine lvz (.convB rfl) ?_;apply LW.lay1;rfl;infer_instance;infer_instance;rfl;rfl;rfl;rfl;rfl;rfl;intro _)
  rw [hval]
  skip
  (apply LW.append;rfl;rfl;infer_instance;infer_instance;infer_instance;rfl;rfl;rfl;(case hrow=>assumption);apply AtSeg.cons;exact AtSeg.head;apply qE;apply zY;rfl;rfl;rfl;omega;simp only [maxLen];omega;omega;intro v' seg' hrow';obtain ⟨p',c',rfl⟩:=hrow'.form;(refine ⟨_,(by (repeat (first|exact AtSeg.head|apply AtSeg.cons|apply AtSeg.app))),?_⟩);(try simp only [List.cons_append,List.nil_append]))
  (refine vAz ?_;apply zV;refine blkN<|thenN<|zL<|vMz ?_;refine lvz (.subI rfl rfl (by omega) (by omega)) ?_;refine vAz ?_;apply zV)
  apply thenX
  refine ⟨rfl,⟨k+1,_,seg'⟩,⟨hlt,?_⟩,by show 8 - (k+1) < 8 - k;omega,⟨congrArg (fun z=>some (Value.int .i64 z)) e1.symm,rfl,rfl,trivial⟩,by (apply qQ;exact qM _)⟩
  obtain ⟨h1,h2⟩:=List.getElem?_eq_some_iff.1 hu
  rw [List.take_succ_eq_append_getElem h1,h2,ucs_app]
  exact hrow'
 ·obtain rfl:k=8:=by omega
  rw [List.take_of_length_le (by rw [beb_len];exact Nat.le_refl _)] at hrow
  (refine zI<|sRz<|vMz ?_;refine lvz (.geqF rfl rfl (by omega)) ?_;refine nNz<|cFz<|CW.exit<|thenE<|thenE<|blkE rfl<|thenN<|sRz<|vMz<|vAz<|nNz<|zK ?_)
  apply finM seg;(exact .inl rfl);(exact Shut.nil);rfl;(apply zD;exact zG rfl;exact zF);exact qP _ _
  unfold bM
  rw [beb_len]
  exact hrow
theorem rCreated_calls (a salt:Nat) (b:List UInt8) (ha:a < 18446744073709551616) (hs:salt < M256) (v:Value) (w:World) (hv:RowAt w 1 v b.length (ucs b)) (hb:b.length≤100000) :
  Calls Tryz.prog 64 #[.int .u64 (a:Int),wv salt,v] w (Ret w (.int .u64 (createdA a salt b:Int))):=by
 have hlen:=sum_len b
 have hcr:createdA a salt b=adr (sumB (crL a salt (sumB b))):=rfl
 have hSum0:∀ w' {fs},St w [] fs w'→Calls Tryz.prog 98 #[v] w' (Ret w' (.agg (uca (sumB b)))):=fun w' fs hst=>rSum_calls b v w' (hv.st hst) hb
 obtain ⟨D,hD⟩:∃ D,sumB b=D:=⟨_,rfl⟩
 have hSum:=@hSum0
 rw [hD] at hSum hlen hcr
 rw [hcr]
 have hlen2:=sum_len (crL a salt D)
 have hT:∀ (v:Value) (w:World),RowAt w 1 v (crL a salt D).length (ucs (crL a salt D))→Calls Tryz.prog 98 #[v] w (Ret w (.agg (uca (sumB (crL a salt D))))):=fun v w h=>rSum_calls _ v w h (by unfold crL;simp only [List.length_cons,List.length_append,beb_len,hlen];omega)
 obtain ⟨D2,hD2⟩:∃ D2,sumB (crL a salt D)=D2:=⟨_,rfl⟩
 rw [hD2] at hlen2 hT ⊢
 have hRead:∀ (g:Nat) (w':World) {fs:Fs},St w [] fs w'→w'.heap[g]?=some (.cells (uca D2) 107 (0,0))→Calls Tryz.prog 101 #[.slice (some ⟨g,0,none⟩) 32 32] w' (Ret w' (.int .u64 (adr D2:Int))):=fun g w' fs _ h=>by
  have h2:=own_row (off:=0) (n:=32) (c:=32) h (by omega) (Nat.le_refl _) (by simp only [maxLen];omega)
  rw [List.drop_zero,List.take_of_length_le (by omega)] at h2
  exact rARead_calls D2 _ w' (by rw [hlen2];exact h2) (by omega)
 refine enter (args:=[_,_,_]) _ [] [] Tryz.func64 rfl Tryz.ntmps64 rfl (by simp) .nil ?_
 (refine sRz ?_;apply zT;rfl;rfl;intro _;refine vAz<|nSz<|vMz ?_;apply zS;rfl;rfl;infer_instance;exact .cons rfl .nil;intro w _;rename_i hst;exact hSum w hst;apply zU;rfl;intro _;apply zR;rfl;rfl;apply qA;apply wr_ucaO;rfl;assumption;refine nSz ?_;apply LW.lay1;rfl;infer_instance;infer_instance;rfl;rfl;rfl;rfl;rfl;rfl;intro _;refine vMz ?_)
 rename_i bW bD bL
 refine LW.callR rfl rfl inferInstance (by (exact .cons rfl .nil)) (fun w hst=>raBytes_calls a ha w) ?_
 intro v1 g1 h1
 replace h1:IsRow 5 1 v1 (beb 8 a).length (ucs (beb 8 a)) g1:=h1
 rw [beb_len] at h1
 skip
 have h0:IsRow 5 1 (.slice (some ⟨bL,0,none⟩) 1 1) 1 (ucs [255]) [(bL,.cells #[.int .u8 255] 5 (0,0))]:=.own (by decide) (by decide) rfl rfl rfl
 refine LW.appendAny (n:=1) (m:=8) (news:=ucs (beb 8 a)) rfl rfl inferInstance inferInstance inferInstance rfl rfl rfl (by exact .app (.head (seg:=[_]))) h0 (fun w hs=>h1.atSeg (by (exact AtSeg.head)) hs) (ucs_cells _) (by simp only [maxLen];omega) (by omega) ?_
 intro v2 g2 h2
 refine ⟨_,(by (apply AtSeg.app;exact AtSeg.head)),?_⟩
 rw [← ucs_app] at h2
 (refine vAz<|nSz<|vMz<|ldz rfl (.app (.app (.tail .head))) (qF rfl) ?_)
 refine LW.callR rfl rfl inferInstance (by (exact .cons rfl .nil)) (fun w hst=>rBytes_calls salt hs w) ?_
 intro v3 g3 h3
 replace h3:IsRow 5 1 v3 32 (ucs (beb 32 salt)) g3:=h3
 skip
 refine LW.appendAny (n:=1+8) (m:=32) (news:=ucs (beb 32 salt)) rfl rfl inferInstance inferInstance inferInstance rfl rfl rfl (by (apply AtSeg.app;apply AtSeg.app;exact AtSeg.head)) h2 (fun w hs=>h3.atSeg (by (exact AtSeg.head)) hs) (ucs_cells _) (by simp only [maxLen];omega) (by omega) ?_
 intro v4 g4 h4
 refine ⟨_,(by (apply AtSeg.app;apply AtSeg.app;exact AtSeg.head)),?_⟩
 rw [← ucs_app] at h4
 (refine vAz<|nSz<|vMz<|lvz (.cutArrAll inferInstance inferInstance rfl) ?_)
 have hcl:(crL a salt D).length=1+8+32+32:=by unfold crL;simp only [List.length_cons,List.length_append,beb_len,hlen]
 have hce:([255]++beb 8 a++beb 32 salt)++D=crL a salt D:=by unfold crL;simp
 refine LW.appendAny (n:=1+8+32) (m:=32) (news:=ucs D) rfl rfl inferInstance inferInstance inferInstance rfl rfl rfl (by (apply AtSeg.app;apply AtSeg.app;exact AtSeg.head)) h4 (fun w hs=>by
  have h:=own_row (off:=0) (n:=32) (c:=32) (hs.own (bD,.cells (uca D) 107 (0,0)) (by simp)).2 (by omega) (Nat.le_refl _) (by simp only [maxLen];omega)
  rwa [List.drop_zero,List.take_of_length_le (by omega)] at h) (ucs_cells _) (by simp only [maxLen];omega) (by omega) ?_
 intro v5 g5 h5
 refine ⟨_,(by (apply AtSeg.app;apply AtSeg.app;exact AtSeg.head)),?_⟩
 rw [← ucs_app,hce,← hcl] at h5
 (refine vAz<|nSz<|vMz ?_;apply zS;rfl;rfl;infer_instance;exact .cons rfl .nil;intro w _;rename_i hst;(exact hT _ _ (h5.atSeg (by (repeat (first|exact AtSeg.head|apply AtSeg.cons|apply AtSeg.app))) hst));apply zU;rfl;intro _;apply zR;rfl;rfl;apply qA;apply wr_ucaO;rfl;assumption;refine nSz<|lvz (.cutArrAll inferInstance inferInstance rfl) ?_;apply zS;rfl;rfl;infer_instance;exact .cons rfl .nil;intro w _;rename_i hst;(exact hRead _ w hst ((hst.own (_,.cells (uca D2) 107 (0,0)) (by (repeat (first|exact List.Mem.head _|apply List.Mem.tail)))).2));refine vAz<|nNz<|zK ?_)
 (apply finR;exact .inl rfl;rfl;rfl;rfl;apply zD;exact zG rfl;exact zF)
 rfl
end
section
theorem reach_in {f:FrV} {L L1:FrL} {a n g:Nat} (hF:okF f L) (hR:reachG f.gas L a n=some (g,L1)):L1.ms.length≤100000∧(0 < n→a+n≤L1.ms.length)∧g≤20000:=by
 obtain ⟨h1,h2,_,h3⟩:=reach_range hF hR
 have:=hF.1.2.2
 exact ⟨by omega,fun h=>(h3 h).2,by omega⟩
theorem whoC245 (f:FrV) (ws:List Nat):whoC f 245 ws=⟨245,0,0,f.self,ws.getD 0 0,!decide (ws.getD 0 0=0),0,.slice none 0 0,.slice none 0 0,0,0,f.stat⟩:=by
 have h:f.stat=(f.stat ||decide ((245:Nat)=250)):=by cases f.stat<;>rfl
 conv=>rhs;rw [h]
 rfl
theorem subS2 (a b c:Fs) (x:Nat × Obj):SubP (a++b) (b++(x::(a++c))):=by
 obtain ⟨m,h1,h2⟩:=subS a b (x::c)
 exact ⟨m,h1,h2.trans (List.Perm.append_left b List.perm_middle)⟩
theorem crC_eq (cr self x g:Nat) (v:Value) (mb stat:Bool):(((((wrCells #[.int .u8 ((245:Nat):Int),.int .u64 (cr:Int),.int .u64 (cr:Int),.int .u64 (self:Int),.int .u64 0,.int .u64 0,.int .u64 0,.int .u64 0,.bool false,.int .u64 0,.slice none 0 0,.slice none 0 0,.int .u64 0,.int .u64 0,.bool false] 4 (wc x).toList).setIfInBounds 8 (.bool mb)).setIfInBounds 9 (.int .u64 (g:Int))).setIfInBounds 11 v).setIfInBounds 14 (.bool stat))=cla ⟨245,cr,cr,self,x,mb,g,.slice none 0 0,v,0,0,stat⟩:=by
 simp [wrCells,cla,clc,wc]
theorem creV_def (n:Nat):min (timesV ((n+31) / 32) 6+3200) NOG=creV n:=by unfold creV;rfl
attribute [local irreducible] createdA creV keepV whoC
theorem rBegin_none (f:FrV) (L:FrL) (A:AkV) (ws:List Nat) (hd:∃ p n c,A.dt=.slice p n c) (hask:askB A.kind A.op ws.length=false) (w:World) (h:FrRows w f L) (hv:RowAt w 4 A.ws ws.length (wcs ws)) :
  Calls Tryz.prog 27 #[frv f,.agg (aska A.kind A.op A.ws A.dt),.agg #[.bool A.cold,.bool A.vl,.bool A.new]] w (RetG w [] (BegA f none)):=by
 obtain ⟨kind,op,aws,dt,cold,vl,new⟩:=A
 obtain ⟨q,d,e,hd⟩:=hd
 dsimp only at hd hask hv ⊢
 subst hd
 obtain ⟨pw,cw,rfl,hc7,_⟩:=id hv.form
 obtain ⟨code,pc,stk,mem,gas,self,frm,val,inp,back,stat⟩:=f
 have hrow:=h
 obtain ⟨h0,h2,h3,h11,h12⟩:=h
 dsimp only at h0 h2 h3 h11 h12
 obtain ⟨p0,c0,rfl,_,_⟩:=id h0.form
 obtain ⟨p2,c2,rfl,_,_⟩:=id h2.form
 obtain ⟨p3,c3,rfl,_,_⟩:=id h3.form
 obtain ⟨p11,c11,rfl,_,_⟩:=id h11.form
 obtain ⟨p12,c12,rfl,_,_⟩:=id h12.form
 have hzs:=zero_sl
 have hcy:=zeroC_o.cells
 have hAs:=rAsked_calls kind op ws.length cw pw q d e
 rw [hask] at hAs
 refine enter (args:=[_,_,_]) _ [] [] Tryz.func27 rfl Tryz.ntmps27 rfl (by simp) .nil ?_
 (refine sRz ?_;apply zT;rfl;rfl;intro _;apply zT;rfl;rfl;intro _;apply zT;rfl;rfl;intro _;apply zU;rfl;intro _;apply zU;rfl;intro _;refine vAz<|nNz<|zI<|sRz<|ldz rfl (.tail (.tail (.tail .head))) ask_rdW ?_;apply zS;rfl;rfl;infer_instance;exact .cons rfl .nil;intro w _;exact hAs w;refine lvz (.notF rfl (by with_reducible rfl)) ?_;refine nNz<|cTz<|sRz ?_;apply LW.v0;rfl;rfl;apply zW;infer_instance;infer_instance;exact zB;rfl;simp only [fillP,wrCells,Value.cells,qH,qI,qJ,qG,qL,qK,Nat.reduceAdd,qN];rfl;apply LW.v0;rfl;rfl;apply zW;infer_instance;infer_instance;exact zB;rfl;simp only [fillP,wrCells,Value.cells,qH,qI,qJ,qG,qL,qK,Nat.reduceAdd,qN];rfl;refine zR rfl rfl (.tail .head) (.whole rfl rfl rfl) ?_;refine zR rfl rfl .head (.whole rfl rfl rfl)<|vAz<|nNz<|zK<|thenR ?_)
 exact fin (vs:=[frv zeroF,clv zeroC,.bool false]) [] (.inl rfl) rfl rfl (by (apply zD;apply zH;rfl;apply qE;apply zX;apply zY;exact qF rfl;apply zD;apply zH;rfl;apply qE;apply zY;exact qF rfl;apply zD;exact zG rfl;exact zF)) (List.nil_sublist _) ⟨rfl,rfl⟩
theorem BegR.sl {f:FrV} {R:Option (Nat × FrL × List UInt8 × ClV)} {v:Value} {gs:Fs} (h:BegR f R v gs) (hR:∀ g L' l c,R=some (g,L',l,c)→c.code=.slice none 0 0):∃ y c ok,v=.tuple #[frv y,clv c,.bool ok]∧FrSl y∧(cla c).toList.all Value.oneCell'=true:=by
 cases R with
 |none=>exact ⟨_,_,_,h.1,zero_sl,zeroC_o.cells⟩
 |some x =>
  obtain ⟨g,L',l,c⟩:=x
  obtain ⟨cc,s,m,i,b,lv,g1,g2,rfl,_,h1,h2⟩:=h
  have h2':=h2
  unfold bM at h2'
  obtain ⟨q,k,rfl⟩:=h2'.form
  exact ⟨_,_,_,rfl,h1.sl,cl_cells ⟨_,_,_,rfl⟩ ⟨_,_,_,hR g L' l c rfl⟩⟩
theorem beginG_code {f:FrV} {L:FrL} {A:AkV} {ws:List Nat} {g:Nat} {L':FrL} {l:List UInt8} {c:ClV} (hR:beginG f L A ws=some (g,L',l,c)):c.code=.slice none 0 0:=by
 unfold beginG at hR
 dsimp only at hR
 split at hR
 ·cases hR
 ·split at hR
  ·cases hR
  ·split at hR
   ·cases hR
    exact (whoC_nil f A.op ws).1
   ·cases hR
theorem rBegin_call (f:FrV) (L:FrL) (A:AkV) (ws:List Nat) (hM:∀ x∈ws,x < M256) (hd:∃ p n c,A.dt=.slice p n c) (hask:askB A.kind A.op ws.length=true) (hne:¬ A.op=245) (hF:okF f L) (w:World) (h:FrRows w f L) (hv:RowAt w 4 A.ws ws.length (wcs ws)) :
  Calls Tryz.prog 27 #[frv f,.agg (aska A.kind A.op A.ws A.dt),.agg #[.bool A.cold,.bool A.vl,.bool A.new]] w (RetG w [] (BegR f (beginG f L A ws))):=by
 have hcode:=fun g L' l c=>beginG_code (f:=f) (L:=L) (A:=A) (ws:=ws) (g:=g) (L':=L') (l:=l) (c:=c)
 have hcl0:=rcalls_calls f L A ws hM hd hask hne hF
 obtain ⟨R,hR⟩:∃ R,beginG f L A ws=R:=⟨_,rfl⟩
 rw [hR] at hcode hcl0 ⊢
 clear hR
 obtain ⟨kind,op,aws,dt,cold,vl,new⟩:=A
 obtain ⟨q,d,e,hd⟩:=hd
 dsimp only at hd hask hv ⊢
 subst hd
 obtain ⟨pw,cw,rfl,hc7,_⟩:=id hv.form
 obtain ⟨code,pc,stk,mem,gas,self,frm,val,inp,back,stat⟩:=f
 have hrow:=h
 obtain ⟨h0,h2,h3,h11,h12⟩:=h
 dsimp only at h0 h2 h3 h11 h12
 obtain ⟨p0,c0,rfl,_,_⟩:=id h0.form
 obtain ⟨p2,c2,rfl,_,_⟩:=id h2.form
 obtain ⟨p3,c3,rfl,_,_⟩:=id h3.form
 obtain ⟨p11,c11,rfl,_,_⟩:=id h11.form
 obtain ⟨p12,c12,rfl,_,_⟩:=id h12.form
 have hzs:=zero_sl
 have hcy:=zeroC_o.cells
 dsimp only at hne hcl0
 have hAs:=rAsked_calls kind op ws.length cw pw q d e
 rw [hask] at hAs
 refine enter (args:=[_,_,_]) _ [] [] Tryz.func27 rfl Tryz.ntmps27 rfl (by simp) .nil ?_
 (refine sRz ?_;apply zT;rfl;rfl;intro _;apply zT;rfl;rfl;intro _;apply zT;rfl;rfl;intro _;apply zU;rfl;intro _;apply zU;rfl;intro _;refine vAz<|nNz<|zI<|sRz<|ldz rfl (.tail (.tail (.tail .head))) ask_rdW ?_;apply zS;rfl;rfl;infer_instance;exact .cons rfl .nil;intro w _;exact hAs w;refine lvz (.notT rfl (by with_reducible rfl)) ?_;refine nNz<|cFz<|zJ<|thenN<|zI<|sRz<|vFz<|ldz rfl (.tail (.tail (.tail .head))) ask_rd1 ?_;refine lvz (.neT rfl rfl (by omega)) ?_;refine nNz<|cTz<|sRz<|ldz rfl (.tail (.tail (.tail (.tail .head)))) fr_rdW<|ldz rfl (.tail (.tail (.tail .head))) ask_rdW<|ldz rfl (.tail (.tail .head)) (qF rfl) ?_)
 (apply LW.callR;rfl;rfl;infer_instance;exact .cons rfl (.cons rfl (.cons rfl .nil));intro w hs)
 exact hcl0 w (hrow.bel hs.bel) (hv.bel hs.bel)
 intro vR gR hB
 obtain ⟨y,c,ok,rfl,hsy,hcy2⟩:=hB.sl hcode
 clear hcy
 have hcy:=hcy2
 (refine vEz ?_;refine vEz ?_;refine vEz ?_;apply zR;rfl;rfl;apply qC;apply qB;apply qA;apply fr_wrW;rfl;assumption;apply zR;rfl;rfl;apply qC;apply qA;apply cl_wrW;rfl;exact hcy;refine vAz<|nNz<|zK<|thenR ?_)
 exact fin (vs:=[frv y,clv c,.bool ok]) gR (.inl rfl) rfl rfl (by (apply zD;apply zH;rfl;apply qE;apply zZ;apply zX;apply zY;exact fr_rdW;apply zD;apply zH;rfl;apply qE;apply zZ;apply zY;exact qF rfl;apply zD;exact zG rfl;exact zF)) (qP _ _) hB
theorem rBegin245 (f:FrV) (L:FrL) (A:AkV) (ws:List Nat) (hM:∀ x∈ws,x < M256) (hd:∃ p n c,A.dt=.slice p n c) (hask:askB A.kind A.op ws.length=true) (he:A.op=245) (hF:okF f L) (hsf:f.self < 18446744073709551616) (w:World) (h:FrRows w f L) (hv:RowAt w 4 A.ws ws.length (wcs ws)) :
  Calls Tryz.prog 27 #[frv f,.agg (aska A.kind A.op A.ws A.dt),.agg #[.bool A.cold,.bool A.vl,.bool A.new]] w (RetG w [] (BegA f (beginX f L ws))):=by
 obtain ⟨kind,op,aws,dt,cold,vl,new⟩:=A
 obtain ⟨q,d,e,hd⟩:=hd
 dsimp only at hd hask hv ⊢
 subst hd
 obtain ⟨pw,cw,rfl,hc7,_⟩:=id hv.form
 obtain ⟨code,pc,stk,mem,gas,self,frm,val,inp,back,stat⟩:=f
 have hrow:=h
 obtain ⟨h0,h2,h3,h11,h12⟩:=h
 dsimp only at h0 h2 h3 h11 h12
 obtain ⟨p0,c0,rfl,_,_⟩:=id h0.form
 obtain ⟨p2,c2,rfl,_,_⟩:=id h2.form
 obtain ⟨p3,c3,rfl,_,_⟩:=id h3.form
 obtain ⟨p11,c11,rfl,_,_⟩:=id h11.form
 obtain ⟨p12,c12,rfl,_,_⟩:=id h12.form
 have hzs:=zero_sl
 have hcy:=zeroC_o.cells
 dsimp only at he hsf
 subst he
 have hlen:ws.length=4:=by
  have hh:=hask
  unfold askB at hh
  simp only [Bool.and_eq_true,decide_eq_true_eq] at hh
  have h2:=hh.2.2
  have:(shq 245).1=4:=rfl
  omega
 obtain ⟨bw,off,cc,cs,E,fr,heq,hbw,hx⟩:=hv.pos (by omega)
 cases heq
 have hrd0:=word_rd (P:=Tryz.prog) (T:=29) (E:=E) (fr:=fr) hx 0 (by omega)
 have hrd1:=word_rd (P:=Tryz.prog) (T:=29) (E:=E) (fr:=fr) hx 1 (by omega)
 have hrd2:=word_rd (P:=Tryz.prog) (T:=29) (E:=E) (fr:=fr) hx 2 (by omega)
 have hrd3:=word_rd (P:=Tryz.prog) (T:=29) (E:=E) (fr:=fr) hx 3 (by omega)
 have hcw:ws.length≤cw:=hc7
 obtain ⟨x,hxe⟩:∃ a,ws.getD 0 0=a:=⟨_,rfl⟩
 rw [hxe] at hrd0
 have lx:x < M256:=hxe ▸ wordI_lt hM 0
 obtain ⟨a1,ha1⟩:∃ a,ws.getD 1 0=a:=⟨_,rfl⟩
 rw [ha1] at hrd1
 have la1:a1 < M256:=ha1 ▸ wordI_lt hM 1
 obtain ⟨n1,hn1⟩:∃ a,ws.getD 2 0=a:=⟨_,rfl⟩
 rw [hn1] at hrd2
 have ln1:n1 < M256:=hn1 ▸ wordI_lt hM 2
 obtain ⟨sl,hsl⟩:∃ a,ws.getD 3 0=a:=⟨_,rfl⟩
 rw [hsl] at hrd3
 have lsl:sl < M256:=hsl ▸ wordI_lt hM 3
 have hAs:=rAsked_calls kind 245 ws.length cw (some ⟨bw,off,none⟩) q d e
 rw [hask] at hAs
 have hA1:wordI ws 1=a1:=by rw [← ha1];rfl
 have hN1:wordI ws 2=n1:=by rw [← hn1];rfl
 have hX1:=beginX_no1 (f:=(FrV.mk (.slice p0 L.cl.length c0) pc (.slice p2 L.ws.length c2) (.slice p3 L.ms.length c3) gas self frm val (.slice p11 L.il.length c11) (.slice p12 L.bl.length c12) stat)) (L:=L) (ws:=ws)
 have hX2:=fun L1 g1=>beginX_no2 (f:=(FrV.mk (.slice p0 L.cl.length c0) pc (.slice p2 L.ws.length c2) (.slice p3 L.ms.length c3) gas self frm val (.slice p11 L.il.length c11) (.slice p12 L.bl.length c12) stat)) (L:=L) (L1:=L1) (ws:=ws) (g1:=g1)
 have hX3:=fun L1 g1=>beginX_some (f:=(FrV.mk (.slice p0 L.cl.length c0) pc (.slice p2 L.ws.length c2) (.slice p3 L.ms.length c3) gas self frm val (.slice p11 L.il.length c11) (.slice p12 L.bl.length c12) stat)) (L:=L) (L1:=L1) (ws:=ws) (g1:=g1)
 rw [hA1,hN1] at hX1 hX2 hX3
 rw [hsl,whoC245,hxe] at hX3
 obtain ⟨us,hbl,hin,hrows⟩:=FrA.lie (w0:=w) (f:=(FrV.mk (.slice p0 L.cl.length c0) pc (.slice p2 L.ws.length c2) (.slice p3 L.ms.length c3) gas self frm val (.slice p11 L.il.length c11) (.slice p12 L.bl.length c12) stat)) (L:=L) (gs:=[]) (.inl ⟨rfl,hrow⟩)
 refine enter (args:=[_,_,_]) _ [] [] Tryz.func27 rfl Tryz.ntmps27 rfl (by simp) .nil ?_
 (refine sRz ?_;apply zT;rfl;rfl;intro _;apply zT;rfl;rfl;intro _;apply zT;rfl;rfl;intro _;apply zU;rfl;intro _;apply zU;rfl;intro _;refine vAz<|nNz<|zI<|sRz<|ldz rfl (.tail (.tail (.tail .head))) ask_rdW ?_;apply zS;rfl;rfl;infer_instance;exact .cons rfl .nil;intro w _;exact hAs w;refine lvz (.notT rfl (by with_reducible rfl)) ?_;refine nNz<|cFz<|zJ<|thenN<|zI<|sRz<|vFz<|ldz rfl (.tail (.tail (.tail .head))) ask_rd1 ?_;refine lvz (.neF rfl rfl (by omega)) ?_;refine nNz<|cFz<|zJ<|thenN<|sRz<|vFz<|ldz rfl (.tail (.tail (.tail .head))) ask_rd2<|vAz<|nNz<|zI ?_)
 apply CW.pre
 (refine AnyW.anyM [(7,ToldR (FrV.mk (.slice p0 L.cl.length c0) pc (.slice p2 L.ws.length c2) (.slice p3 L.ms.length c3) gas self frm val (.slice p11 L.il.length c11) (.slice p12 L.bl.length c12) stat) (reachR (FrV.mk (.slice p0 L.cl.length c0) pc (.slice p2 L.ws.length c2) (.slice p3 L.ms.length c3) gas self frm val (.slice p11 L.il.length c11) (.slice p12 L.bl.length c12) stat) L a1 n1))] 13 mixed (by decide +kernel) ?_)
 ((try simp only [tsOf_cons,tsOf_nil,tsOf_app]);apply qD;rfl;rfl;rfl;exact zC;rfl;apply zO;apply zO;apply zO;apply zO;apply zP;exact zN;exact fr_rdW;refine dvz (.move rfl) ?_;refine dvz (.indexAddrSL rfl rfl (by decide) (by omega)) ?_;apply DW.loadX;rfl;rfl;rfl;exact zC;rfl;assumption;simp;exact hrd1;refine dvz (.move rfl) ?_;refine dvz (.indexAddrSL rfl rfl (by decide) (by omega)) ?_;apply DW.loadX;rfl;rfl;rfl;exact zC;rfl;assumption;simp;exact hrd2)
 refine DW.manyA us rfl rfl rfl (by (exact zC)) rfl inferInstance (by (exact .cons rfl (.cons rfl (.cons rfl .nil)))) (by rw [List.flatMap_cons,hbl];exact List.append_nil _) (fun p hp=>?_) (fun w hb hu=>?_) ?_
 ·rcases hin p hp with h|h
  ·cases h
  ·exact .inr ⟨h,by simp⟩
 ·exact rReach_calls (FrV.mk (.slice p0 L.cl.length c0) pc (.slice p2 L.ws.length c2) (.slice p3 L.ms.length c3) gas self frm val (.slice p11 L.il.length c11) (.slice p12 L.bl.length c12) stat) L a1 n1 la1 ln1 hF w (hrows w hb hu)
 intro vT gT hT
 rcases hR:reachR (FrV.mk (.slice p0 L.cl.length c0) pc (.slice p2 L.ws.length c2) (.slice p3 L.ms.length c3) gas self frm val (.slice p11 L.il.length c11) (.slice p12 L.bl.length c12) stat) L a1 n1 with _|z
 ·rw [hR] at hT
  obtain ⟨rfl,rfl⟩:=hT
  rw [hX1 hR]
  ((try simp only [tsOf_cons,tsOf_nil,tsOf_app]);refine dvz (.move rfl) ?_;refine dvz (.extractN rfl rfl) ?_;refine dvz (.extractN rfl rfl) ?_;apply DW.allocA;rfl;rfl;rfl;exact zC;intro _;apply DW.store;rfl;rfl;exact zC;rfl;rfl;apply TSet.head;kernel_rfl;exact zN;apply fr_wrW;rfl;assumption;apply DW.nil;simp only [fsOf_cons,fsOf_nil,fsOf_app,fsOf_tsOf,fsOf_new])
  simp only [fsOf_mark,fsOf_cons,fsOf_nil,fsOf_app,fsOf_tsOf,fsOf_new,List.append_eq,List.nil_append]
  (refine vAz<|nNz<|zI<|sRz<|vMz ?_;refine lvz (.notF rfl (by with_reducible rfl)) ?_;refine nNz<|cTz<|sRz ?_;apply LW.v0;rfl;rfl;apply zW;infer_instance;infer_instance;exact zB;rfl;simp only [fillP,wrCells,Value.cells,qH,qI,qJ,qG,qL,qK,Nat.reduceAdd,qN];rfl;apply LW.v0;rfl;rfl;apply zW;infer_instance;infer_instance;exact zB;rfl;simp only [fillP,wrCells,Value.cells,qH,qI,qJ,qG,qL,qK,Nat.reduceAdd,qN];rfl;refine zR rfl rfl (.tail (.tail .head)) (.whole rfl rfl rfl) ?_;refine zR rfl rfl (.tail .head) (.whole rfl rfl rfl)<|vAz<|nNz<|zK<|thenR ?_)
  exact fin (vs:=[frv zeroF,clv zeroC,.bool false]) [] (.inl rfl) rfl rfl (by (apply zD;apply zH;rfl;apply qE;apply zX;apply zX;apply zY;exact qF rfl;apply zD;apply zH;rfl;apply qE;apply zX;apply zY;exact qF rfl;apply zD;exact zG rfl;exact zF)) (List.nil_sublist _) ⟨rfl,rfl⟩
 rw [hR] at hT
 obtain ⟨g1,L1⟩:=z
 obtain ⟨f1,f2,f3,f4,f5,rfl,hfr1⟩:=hT
 have hsl1:=hfr1.sl
 obtain ⟨us1,hbl1,hin1,hrows1⟩:=hfr1.lie
 obtain ⟨hm1,hr1,hg1⟩:=reach_in hF hR
 dsimp only [FrV.rowsG] at hsl1 hbl1 hrows1 hm1 hr1 hg1 ⊢
 ((try simp only [tsOf_cons,tsOf_nil,tsOf_app]);refine dvz (.move rfl) ?_;refine dvz (.extractN rfl rfl) ?_;refine dvz (.extractN rfl rfl) ?_;apply DW.allocA;rfl;rfl;rfl;exact zC;intro _;apply DW.store;rfl;rfl;exact zC;rfl;rfl;apply TSet.head;kernel_rfl;exact zN;apply fr_wrW;rfl;assumption;apply DW.nil;simp only [fsOf_cons,fsOf_nil,fsOf_app,fsOf_tsOf,fsOf_new])
 simp only [fsOf_mark,fsOf_cons,fsOf_nil,fsOf_app,fsOf_tsOf,fsOf_new,List.append_eq,List.nil_append]
 (refine vAz<|nNz<|zI<|sRz<|vMz ?_;refine lvz (.notT rfl (by with_reducible rfl)) ?_;refine nNz<|cFz<|zJ<|thenN<|zI ?_)
 apply CW.pre
 (refine AnyW.anyM [] 7 mixed (by decide +kernel) ?_)
 ((try simp only [tsOf_cons,tsOf_nil,tsOf_app]);apply qD;rfl;rfl;rfl;exact zC;rfl;apply zP;exact zN;exact fr_rdW;refine dvz (.move rfl) ?_;refine dvz (.indexAddrSL rfl rfl (by decide) (by omega)) ?_;apply DW.loadX;rfl;rfl;rfl;exact zC;rfl;assumption;simp;exact hrd1;refine dvz (.move rfl) ?_;refine dvz (.indexAddrSL rfl rfl (by decide) (by omega)) ?_;apply DW.loadX;rfl;rfl;rfl;exact zC;rfl;assumption;simp;exact hrd2;apply DW.nil;simp only [fsOf_cons,fsOf_nil,fsOf_app,fsOf_tsOf,fsOf_new])
 (apply LW.callR;rfl;rfl;infer_instance;exact .cons rfl (.cons rfl (.cons rfl .nil));intro w hs)
 exact rbytes_calls ⟨f1,pc,f2,f3,g1,self,frm,val,f4,f5,stat⟩ L1 a1 n1 la1 ln1 hr1 hm1 w (hrows1 w (fun p hp=>(hs.own p (by have:=hin1 p hp;simp [this])).2))
 intro vB gB hB
 have hX2:=hX2 L1 g1 hR
 have hX3:=hX3 L1 g1 hR
 obtain ⟨l,hl⟩:∃ l,(L1.ms.drop a1).take n1=l:=⟨_,rfl⟩
 rw [hl] at hB hX2 hX3
 have hll:l.length≤100000:=by rw [← hl,List.length_take,List.length_drop];omega
 have hB':=hB
 unfold bM at hB'
 obtain ⟨q9,j9,rfl⟩:=id hB'.form
 have hCr0:∀ w,Calls Tryz.prog 63 #[.int .u64 (l.length:Int)] w (Ret w (.int .u64 ((creV l.length:Nat):Int))):=fun w=>by
  have h:=rCreate_calls l.length (by omega) w
  rw [creV_def] at h
  exact h
 have hkl:creV l.length < 18446744073709551616:=by unfold creV;exact Nat.lt_of_le_of_lt (Nat.min_le_right _ _) (by decide:NOG < 18446744073709551616)
 obtain ⟨k,hk⟩:∃ k,creV l.length=k:=⟨_,rfl⟩
 rw [hk] at hCr0 hX2 hX3 hkl
 have hCr:=hCr0
 by_cases hl2:l.length≤200
 ·rcases Nat.lt_or_ge g1 k with hkg|hkg
  ·rw [hX2 (fun h=>by omega)]
   (refine vAz<|nSz<|vMz<|lvz (.lenR rfl inferInstance rfl) ?_;refine lvz (.convN rfl (by omega) (by omega)) ?_;apply zS;rfl;rfl;infer_instance;exact .cons rfl .nil;intro w _;exact hCr w;refine vAz<|nNz<|zI<|sRz<|vMz<|lvz (.lenR rfl inferInstance rfl) ?_;refine lvz (.gtrF rfl rfl (by omega)) ?_;refine vMz<|gTz<|vMz<|gTz<|vFz<|gTz<|ldz rfl (.app .head) fr_rd4<|gTz ?_;refine lvz (.gtrT rfl rfl (by omega)) ?_;refine pFz<|nNz<|cTz<|sRz ?_;apply LW.v0;rfl;rfl;apply zW;infer_instance;infer_instance;exact zB;rfl;simp only [fillP,wrCells,Value.cells,qH,qI,qJ,qG,qL,qK,Nat.reduceAdd,qN];rfl;apply LW.v0;rfl;rfl;apply zW;infer_instance;infer_instance;exact zB;rfl;simp only [fillP,wrCells,Value.cells,qH,qI,qJ,qG,qL,qK,Nat.reduceAdd,qN];rfl;refine zR rfl rfl (.app (.tail (.app (.tail .head)))) (.whole rfl rfl rfl) ?_;refine zR rfl rfl (.app (.tail (.app .head))) (.whole rfl rfl rfl)<|vAz<|nNz<|zK<|thenR ?_)
   exact fin (vs:=[frv zeroF,clv zeroC,.bool false]) [] (.inl rfl) rfl rfl (by (apply zD;apply zH;rfl;apply qE;apply zZ;apply zX;apply zZ;apply zX;apply zY;exact qF rfl;apply zD;apply zH;rfl;apply qE;apply zZ;apply zX;apply zZ;apply zY;exact qF rfl;apply zD;exact zG rfl;exact zF)) (List.nil_sublist _) ⟨rfl,rfl⟩
  rw [hX3 ⟨hl2,hkg⟩]
  clear hX2 hX3
  (refine vAz<|nSz<|vMz<|lvz (.lenR rfl inferInstance rfl) ?_;refine lvz (.convN rfl (by omega) (by omega)) ?_;apply zS;rfl;rfl;infer_instance;exact .cons rfl .nil;intro w _;exact hCr w;refine vAz<|nNz<|zI<|sRz<|vMz<|lvz (.lenR rfl inferInstance rfl) ?_;refine lvz (.gtrF rfl rfl (by omega)) ?_;refine vMz<|gTz<|vMz<|gTz<|vFz<|gTz<|ldz rfl (.app .head) fr_rd4<|gTz ?_;refine lvz (.gtrF rfl rfl (by omega)) ?_;refine pFz<|nNz<|cFz<|zJ<|thenN<|zI ?_)
  obtain ⟨cr,hcr⟩:∃ cr,createdA self sl l=cr:=⟨_,rfl⟩
  have hCd:∀ w,(∀ q∈gB,w.heap[q.1]?=some q.2)→Calls Tryz.prog 64 #[.int .u64 (self:Int),wv sl,.slice q9 l.length j9] w (Ret w (.int .u64 (cr:Int))):=fun w h=>by
   have h:=rCreated_calls self sl l hsf lsl (.slice q9 l.length j9) w (bM_at hB h) hll
   rwa [hcr] at h
  rw [hcr]
  apply CW.pre
  (refine AnyW.anyM [] 6 mixed (by decide +kernel) ?_)
  ((try simp only [tsOf_cons,tsOf_nil,tsOf_app]);refine dvz (.fieldAddr rfl rfl) ?_;apply qD;rfl;rfl;rfl;exact zC;rfl;apply zQ;apply zO;apply zQ;apply zO;apply zO;apply zO;apply zO;apply zP;exact zN;exact fr_rd5;refine dvz (.move rfl) ?_;refine dvz (.indexAddrSL rfl rfl (by decide) (by omega)) ?_;apply DW.loadX;rfl;rfl;rfl;exact zC;rfl;assumption;simp;exact hrd3;refine dvz (.move rfl) ?_;apply DW.nil;simp only [fsOf_cons,fsOf_nil,fsOf_app,fsOf_tsOf,fsOf_new])
  have hrk:keepV (g1 - k)=g1 - k - (g1 - k) / 64:=by unfold keepV;rfl
  rw [hrk]
  clear hrk
  (apply zS;rfl;rfl;infer_instance;exact .cons rfl (.cons rfl (.cons rfl .nil));intro w _;rename_i hst;(exact hCd w (st_ou hst (by (repeat (first|exact qM _|exact qP _ _|apply qQ|apply List.sublist_append_of_sublist_right)))));refine vAz<|nSz<|vFz<|ldz rfl (.app .head) fr_rd4<|vMz ?_;refine lvz (.subN rfl rfl (by omega) (by omega)) ?_;refine vFz<|ldz rfl (.app .head) fr_rd4<|vMz ?_;refine lvz (.subN rfl rfl (by omega) (by omega)) ?_;refine lvz (.quoNL rfl rfl (by decide) (by omega) (by omega)) ?_;refine lvz (.subN rfl rfl (by omega) (by omega)) ?_;refine vAz<|nSz<|vFz<|ldz rfl (.app .head) fr_rd4<|vMz ?_;refine lvz (.subN rfl rfl (by omega) (by omega)) ?_;refine vMz ?_;refine lvz (.subN rfl rfl (by omega) (by omega)) ?_;refine vFz ?_;refine zR rfl rfl (.app .head) fr_wr4<|nNz<|zI ?_)
  have hfr3:FrO ⟨f1,pc,f2,f3,g1 - k - (g1 - k - (g1 - k) / 64),self,frm,val,f4,f5,stat⟩ L1 gT:=hfr1
  have hsl3:=hfr3.sl
  apply CW.pre
  (refine AnyW.anyM [] 21 mixed (by decide +kernel) ?_)
  ((try simp only [tsOf_cons,tsOf_nil,tsOf_app]);apply qD;rfl;rfl;rfl;exact zC;rfl;apply zQ;apply zP;exact zN;exact fr_rdW;refine dvz (.fieldAddr rfl rfl) ?_;apply qD;rfl;rfl;rfl;exact zC;rfl;apply zQ;apply zO;apply zQ;apply zO;apply zO;apply zO;apply zP;exact zN;exact ask_rd1;refine dvz (.move rfl)<|dvz (.move rfl)<|dvz (.fieldAddr rfl rfl) ?_;apply qD;rfl;rfl;rfl;exact zC;rfl;apply zQ;apply zO;apply zQ;apply zO;apply zO;apply zO;apply zO;apply zP;exact zN;exact fr_rd5;refine dvz (.move rfl) ?_;refine dvz (.indexAddrSL rfl rfl (by decide) (by omega)) ?_;apply DW.loadX;rfl;rfl;rfl;exact zC;rfl;assumption;simp;exact hrd0;refine dvz (.move rfl) ?_;refine dvz (.indexAddrSL rfl rfl (by decide) (by omega)) ?_;apply DW.loadX;rfl;rfl;rfl;exact zC;rfl;assumption;simp;exact hrd0;apply DW.v0;rfl;rfl;rfl;exact zC;rfl;exact ValP.buildW0;refine dvz (.neW rfl rfl (by assumption) (by omega)) ?_;refine dvz (.move rfl)<|dvz (.move rfl)<|dvz (.fieldAddr rfl rfl) ?_;apply qD;rfl;rfl;rfl;exact zC;rfl;apply zQ;apply zO;apply zQ;apply zO;apply zO;apply zO;apply zO;apply zP;exact zN;exact fr_rd13;apply DW.v0;rfl;rfl;rfl;exact zC;rfl;apply zW;infer_instance;infer_instance;apply zA;rfl;apply zA;rfl;apply zA;rfl;apply zA;rfl;apply zA;rfl;apply zA;rfl;apply zA;rfl;apply zA;rfl;apply zA;rfl;exact zB;rfl;simp only [fillP,wrCells,Value.cells,qH,qI,qJ,qG,qL,qK,Nat.reduceAdd,qN];rfl;apply DW.store;rfl;rfl;exact zC;rfl;rfl;apply TSet.app;apply TSet.tail;apply TSet.app;apply TSet.tail;apply TSet.head;exact zN;exact zN;apply fr_wrW;rfl;assumption;apply DW.nil;simp only [fsOf_cons,fsOf_nil,fsOf_app,fsOf_tsOf,fsOf_new])
  rw [crC_eq]
  have hcy2:(cla ⟨245,cr,cr,self,x,!decide (x=0),g1 - k - (g1 - k) / 64,.slice none 0 0,.slice q9 l.length j9,0,0,stat⟩).toList.all Value.oneCell'=true:=cl_cells ⟨_,_,_,rfl⟩ ⟨_,_,_,rfl⟩
  (apply zR;rfl;rfl;apply qC;apply qB;apply qC;apply qA;apply cl_wrW;rfl;exact hcy;refine vAz<|nNz<|zK ?_)
  exact finS (vs:=[frv ⟨f1,pc,f2,f3,g1 - k - (g1 - k - (g1 - k) / 64),self,frm,val,f4,f5,stat⟩,clv ⟨245,cr,cr,self,x,!decide (x=0),g1 - k - (g1 - k) / 64,.slice none 0 0,.slice q9 l.length j9,0,0,stat⟩,.bool true]) (gT++gB) (.inl rfl) rfl rfl (by (apply zD;apply zH;rfl;apply qE;apply zZ;apply zX;apply zZ;apply zX;apply zY;exact fr_rdW;apply zD;apply zH;rfl;apply qE;apply zZ;apply zX;apply zZ;apply zY;exact qF rfl;apply zD;exact zG rfl;exact zF)) (subS2 _ _ _ _) ⟨f1,f2,f3,f4,f5,.slice none 0 0,.slice q9 l.length j9,gT,gB,rfl,rfl,hfr3,[],gB,(List.append_nil _).symm,.nil,hB⟩
 ·rw [hX2 (fun h=>hl2 h.1)]
  (refine vAz<|nSz<|vMz<|lvz (.lenR rfl inferInstance rfl) ?_;refine lvz (.convN rfl (by omega) (by omega)) ?_;apply zS;rfl;rfl;infer_instance;exact .cons rfl .nil;intro w _;exact hCr w;refine vAz<|nNz<|zI<|sRz<|vMz<|lvz (.lenR rfl inferInstance rfl) ?_;refine lvz (.gtrT rfl rfl (by omega)) ?_;refine vMz ?_;(iterate 4 refine gFz ?_);refine pTz<|nNz<|cTz<|sRz ?_;apply LW.v0;rfl;rfl;apply zW;infer_instance;infer_instance;exact zB;rfl;simp only [fillP,wrCells,Value.cells,qH,qI,qJ,qG,qL,qK,Nat.reduceAdd,qN];rfl;apply LW.v0;rfl;rfl;apply zW;infer_instance;infer_instance;exact zB;rfl;simp only [fillP,wrCells,Value.cells,qH,qI,qJ,qG,qL,qK,Nat.reduceAdd,qN];rfl;refine zR rfl rfl (.app (.tail (.app (.tail .head)))) (.whole rfl rfl rfl) ?_;refine zR rfl rfl (.app (.tail (.app .head))) (.whole rfl rfl rfl)<|vAz<|nNz<|zK<|thenR ?_)
  exact fin (vs:=[frv zeroF,clv zeroC,.bool false]) [] (.inl rfl) rfl rfl (by (apply zD;apply zH;rfl;apply qE;apply zZ;apply zX;apply zZ;apply zX;apply zY;exact qF rfl;apply zD;apply zH;rfl;apply qE;apply zZ;apply zX;apply zZ;apply zY;exact qF rfl;apply zD;exact zG rfl;exact zF)) (List.nil_sublist _) ⟨rfl,rfl⟩
theorem rBegin_calls (f:FrV) (L:FrL) (A:AkV) (ws:List Nat) (hM:∀ x∈ws,x < M256) (hd:∃ p n c,A.dt=.slice p n c) (hF:okF f L) (hsf:f.self < 18446744073709551616) (w:World) (h:FrRows w f L) (hv:RowAt w 4 A.ws ws.length (wcs ws)) :
  Calls Tryz.prog 27 #[frv f,.agg (aska A.kind A.op A.ws A.dt),.agg #[.bool A.cold,.bool A.vl,.bool A.new]] w (RetG w [] (BegA f (beginA f L A ws))):=by
 by_cases hq:askB A.kind A.op ws.length=true
 ·have hb:beginA f L A ws=if A.op=245 then beginX f L ws else (beginG f L A ws).map fun x=>(x.1,x.2.1,⟨x.2.2.1,[]⟩,x.2.2.2):=if_pos ⟨hq,hF⟩
  rw [hb]
  by_cases he:A.op=245
  ·rw [if_pos he]
   exact rBegin245 f L A ws hM hd hq he hF hsf w h hv
  ·rw [if_neg he]
   refine Calls.mono (rBegin_call f L A ws hM hd hq he hF w h hv) fun e w' h=>RetG.imp (fun v gs h=>?_) h
   cases hR:beginG f L A ws with
   |none=>rw [hR] at h;exact h
   |some x =>
    obtain ⟨g,L',l,c⟩:=x
    rw [hR] at h
    obtain ⟨cc,s,m,i,b,lv,g1,g2,hv,hg,h1,h2⟩:=h
    have hc:=beginG_code hR
    refine ⟨cc,s,m,i,b,lv,.slice none 0 0,g1,g2,?_,hg,h1,g2,[],rfl,h2,.nil⟩
    rw [hv,← hc]
 ·have hb:beginA f L A ws=none:=if_neg fun h=>hq h.1
  rw [hb]
  exact rBegin_none f L A ws hd (by simpa using hq) w h hv
end
end Go.Proofs.YtpgdnfgjbhdbpaaGreatDoor
namespace Go.Proofs.YtpgdnfgjbhdbpaaGreatDoor
open Go Go.RowKit SL
set_option linter.unusedVariables false
structure BegM (f:FrV) (L:FrL) (L':FrL) (c:ClV):Prop where
 ok:okF f L
 ws:L'.ws=L.ws
 cl:L'.cl=L.cl
 il:L'.il=L.il
 bl:L'.bl=L.bl
 ms:∃ k,L'.ms=L.ms++List.replicate k 0
 at_:c.pl+c.n≤L'.ms.length
theorem reach_mem {L L':FrL} {a n g g':Nat} (hr:reachG g L a n=some (g',L')):L'.ws=L.ws∧L'.cl=L.cl∧L'.il=L.il∧L'.bl=L.bl∧∃ k,L'.ms=L.ms++List.replicate k 0:=by
 obtain ⟨_,_,rfl⟩:=reachG_some hr
 exact ⟨rfl,rfl,rfl,rfl,_,rfl⟩
theorem beginG_M {f:FrV} {L:FrL} {A:AkV} {ws:List Nat} {g:Nat} {L':FrL} {l:List UInt8} {c:ClV} (hask:askB A.kind A.op ws.length=true) (hF:okF f L) (hne:¬ A.op=245) (h:beginG f L A ws=some (g,L',l,c)):BegM f L L' c:=by
 have hq0:=hask
 unfold askB at hq0
 rw [Bool.and_eq_true,Bool.and_eq_true,decide_eq_true_eq,decide_eq_true_eq] at hq0
 obtain ⟨hq1,hq2,hq3⟩:=hq0
 obtain ⟨hw7,hw0,i,j,hqi,hqj,hi,hj⟩:=shq_ij hne hq1 hq3
 unfold beginG at h
 dsimp only at h
 rw [hqi,hqj] at h
 cases hR1:reachG f.gas L (wordI ws (i:Int)) (wordI ws ((i:Int)+1)) with
 |none=>rw [hR1] at h;cases h
 |some x =>
  obtain ⟨g1,L1⟩:=x
  rw [hR1] at h
  dsimp only at h
  cases hR2:reachG g1 L1 (wordI ws (j:Int)) (wordI ws ((j:Int)+1)) with
  |none=>rw [hR2] at h;cases h
  |some y =>
   obtain ⟨g2,L2⟩:=y
   rw [hR2] at h
   dsimp only at h
   have hF1:=okF_reach (c:=f.code) (s:=f.stk) (m:=f.mem) (i:=f.inp) (b:=f.back) hF hR1
   obtain ⟨s1,s2,s3,s4⟩:=reach_range hF1 hR2
   obtain ⟨m1,m2,m3,m4,k1,m5⟩:=reach_mem hR1
   obtain ⟨n1,n2,n3,n4,k2,n5⟩:=reach_mem hR2
   split at h
   ·cases h
    refine ⟨hF,n1.trans m1,n2.trans m2,n3.trans m3,n4.trans m4,⟨k1+k2,?_⟩,?_⟩
    ·rw [n5,m5,List.append_assoc,List.replicate_append_replicate]
    ·show (if wordI ws ((j:Int)+1)=0 then 0 else wordI ws (j:Int))+wordI ws ((j:Int)+1)≤_
     rcases Nat.eq_zero_or_pos (wordI ws ((j:Int)+1)) with h0|h0
     ·rw [if_pos h0];omega
     ·rw [if_neg (by omega)];exact (s4 h0).2
   ·cases h
theorem beginX_M {f:FrV} {L:FrL} {ws:List Nat} {g:Nat} {L':FrL} {M:ClL} {c:ClV} (hF:okF f L) (h:beginX f L ws=some (g,L',M,c)):BegM f L L' c:=by
 unfold beginX at h
 cases hR1:reachG f.gas L (wordI ws 1) (wordI ws 2) with
 |none=>rw [hR1] at h;cases h
 |some x =>
  obtain ⟨g1,L1⟩:=x
  rw [hR1] at h
  dsimp only at h
  obtain ⟨m1,m2,m3,m4,k1,m5⟩:=reach_mem hR1
  split at h
  ·cases h
   exact ⟨hF,m1,m2,m3,m4,⟨k1,m5⟩,Nat.zero_le _⟩
  ·cases h
theorem beginA_M {f:FrV} {L:FrL} {A:AkV} {ws:List Nat} {g:Nat} {L':FrL} {M:ClL} {c:ClV} (h:beginA f L A ws=some (g,L',M,c)):BegM f L L' c:=by
 unfold beginA at h
 split at h
 ·rename_i hq
  split at h
  ·exact beginX_M hq.2 h
  ·rename_i hne
   cases hG:beginG f L A ws with
   |none=>rw [hG] at h;cases h
   |some x =>
    obtain ⟨g0,L0,l0,c0⟩:=x
    rw [hG] at h
    cases h
    exact beginG_M hq.1 hq.2 hne hG
 ·cases h
end Go.Proofs.YtpgdnfgjbhdbpaaGreatDoor
namespace Go.Proofs.YtpgdnfgjbhdbpaaGreatDoor
open Go Go.RowKit SL
set_option maxRecDepth 8000
set_option maxHeartbeats 4000000
set_option linter.unusedSimpArgs false
set_option linter.unusedVariables false
attribute [local irreducible] SL.CW SL.LW SL.DW Calls SL.Ret SL.RetG SL.beginQ SL.roundQ SL.rangeQ SL.RW SL.AnyW SL.thenQ SL.thenC SL.thenW SL.blkQ SL.finQ SL.ValP SL.NewP SL.SetP SL.CallP SL.Rd SL.Wr SL.Known
section
open SK (TurnAt NumAt)
def lisF (R:Option (Nat × FrL × ClL × ClV)):FrL:=match R with
 |none=>zeroL
 |some x=>x.2.1
def lisC (R:Option (Nat × FrL × ClL × ClV)):ClL:=match R with
 |none=>⟨[],[]⟩
 |some x=>x.2.2.1
def baseF (f:FrV) (R:Option (Nat × FrL × ClL × ClV)):FrV:=match R with
 |none=>zeroF
 |some x=>f.rowsG x.1 (.slice none 0 0) (.slice none 0 0) (.slice none 0 0) (.slice none 0 0) (.slice none 0 0)
def baseC (R:Option (Nat × FrL × ClL × ClV)):ClV:=match R with
 |none=>zeroC
 |some x=>x.2.2.2
def BegS (x:FrV) (R:Option (Nat × FrL × ClL × ClV)) (v:Value) (gs:Fs):Prop:=∃ y c g1 g2,v=.tuple #[frv y,clv c,.bool R.isSome]∧gs=g1++g2∧FrO y (lisF R) g1∧ClO c (lisC R) g2∧LikeF (baseF x R) y∧LikeC (baseC R) c
theorem BegA.form {x f:FrV} {R:Option (Nat × FrL × ClL × ClV)} {v:Value} {gs:Fs} (hf:LikeF x f) (h:BegA f R v gs):BegS x R v gs:=by
 obtain ⟨c0,s0,m0,i0,b0,rfl⟩:=hf
 cases R with
 |none =>
  obtain ⟨rfl,rfl⟩:=h
  exact ⟨zeroF,zeroC,[],[],rfl,rfl,zero_frO,zeroC_o,⟨.slice none 0 0,.slice none 0 0,.slice none 0 0,.slice none 0 0,.slice none 0 0,rfl⟩,⟨.slice none 0 0,.slice none 0 0,rfl⟩⟩
 |some z =>
  obtain ⟨g,L',M,c⟩:=z
  obtain ⟨cc,s,m,i,b,iv,kv,g1,g2,hv,hg,h1,h2⟩:=h
  exact ⟨_,_,g1,g2,hv,hg,h1,h2,⟨cc,s,m,i,b,rfl⟩,⟨iv,kv,rfl⟩⟩
theorem okF_like {x y:FrV} {L:FrL} (h:LikeF x y):okF y L↔okF x L:=by
 obtain ⟨_,_,_,_,_,rfl⟩:=h
 exact Iff.rfl
theorem whoC_rows (x:FrV) (c s m i b:Value) (op:Nat) (ws:List Nat):whoC (x.rows c s m i b) op ws=whoC x op ws:=by
 unfold whoC
 split<;>rfl
theorem beginX_rows (x:FrV) (c s m i b:Value) (L:FrL) (ws:List Nat):beginX (x.rows c s m i b) L ws=beginX x L ws:=by
 unfold beginX
 rw [whoC_rows]
 rfl
theorem beginG_rows (x:FrV) (c s m i b:Value) (L:FrL) (kind:Int) (op:Nat) (u v d e:Value) (i1 j1 k1:Bool) (ws:List Nat):beginG (x.rows c s m i b) L ⟨kind,op,u,d,i1,j1,k1⟩ ws=beginG x L ⟨kind,op,v,e,i1,j1,k1⟩ ws:=by
 unfold beginG
 dsimp only
 rw [whoC_rows]
 rfl
theorem beginA_like {x y:FrV} (h:LikeF x y) (L:FrL) (kind:Int) (op:Nat) (u v d e:Value) (i j k:Bool) (ws:List Nat):beginA y L ⟨kind,op,u,d,i,j,k⟩ ws=beginA x L ⟨kind,op,v,e,i,j,k⟩ ws:=by
 obtain ⟨c0,s0,m0,i0,b0,rfl⟩:=h
 unfold beginA
 dsimp only
 rw [beginX_rows,beginG_rows x c0 s0 m0 i0 b0 L kind op u v d e]
 by_cases hq:askB kind op ws.length=true∧okF x L
 ·rw [if_pos hq,if_pos (show askB kind op ws.length=true∧okF (x.rows c0 s0 m0 i0 b0) L from hq)]
 ·rw [if_neg hq,if_neg (show ¬ (askB kind op ws.length=true∧okF (x.rows c0 s0 m0 i0 b0) L) from hq)]
theorem begin_num {x:FrV} {L:FrL} {A:AkV} {ws:List Nat} {R:Option (Nat × FrL × ClL × ClV)} (hR:beginA x L A ws=R) (hx:FrNum x L):FrNum (baseF x R) (lisF R):=by
 cases R with
 |none=>exact zeroF_num
 |some z =>
  obtain ⟨g,L',M,c⟩:=z
  have hP:=(beginA_P hR).all
  have hM:=(beginA_M hR).ws
  refine ⟨?_,hx.self,hx.frm,hx.val,fun u hu=>hx.ws u ?_⟩
  ·have:=hx.gas
   show g < _
   omega
  ·rw [← hM];exact hu
theorem whoC_val {f:FrV} {op:Nat} {ws:List Nat} (hM:∀ x∈ws,x < M256) (hf:f.val < M256):(whoC f op ws).val < M256:=by
 unfold whoC
 split
 ·exact hf
 ·exact wordI_lt hM _
theorem begin_val {x:FrV} {L:FrL} {A:AkV} {ws:List Nat} {R:Option (Nat × FrL × ClL × ClV)} (hR:beginA x L A ws=R) (hM:∀ x∈ws,x < M256) (hx:x.val < M256):(baseC R).val < M256:=by
 cases R with
 |none=>exact (by decide:(0:Nat) < M256)
 |some z =>
  obtain ⟨g,L',M,c⟩:=z
  have h:=hR
  clear hR
  show c.val < M256
  unfold beginA at h
  split at h
  ·split at h
   ·unfold beginX at h
    cases hR1:reachG x.gas L (wordI ws 1) (wordI ws 2) with
    |none=>rw [hR1] at h;cases h
    |some y =>
     obtain ⟨g1,L1⟩:=y
     rw [hR1] at h
     dsimp only at h
     generalize (L1.ms.drop (wordI ws 1)).take (wordI ws 2)=l at h
     generalize createdA x.self (ws.getD 3 0) l=cr at h
     have hw:=whoC_val (op:=245) hM hx
     generalize whoC x 245 ws=c1 at h hw
     split at h
     ·cases h
      exact hw
     ·cases h
   ·cases hG:beginG x L A ws with
    |none=>rw [hG] at h;cases h
    |some y =>
     obtain ⟨g0,L0,l0,c0⟩:=y
     rw [hG] at h
     cases h
     unfold beginG at hG
     dsimp only at hG
     have hw:=whoC_val (op:=A.op) hM hx
     generalize whoC x A.op ws=c1 at hG hw
     cases hR1:reachG x.gas L (wordI ws (shq A.op).2.2.2.1) (wordI ws ((shq A.op).2.2.2.1+1)) with
     |none=>rw [hR1] at hG;cases hG
     |some y =>
      obtain ⟨g1,L1⟩:=y
      rw [hR1] at hG
      dsimp only at hG
      cases hR2:reachG g1 L1 (wordI ws (shq A.op).2.2.2.2.1) (wordI ws ((shq A.op).2.2.2.2.1+1)) with
      |none=>rw [hR2] at hG;cases hG
      |some y =>
       obtain ⟨g2,L2⟩:=y
       rw [hR2] at hG
       dsimp only at hG
       split at hG
       ·cases hG
        exact hw
       ·cases hG
  ·cases h
theorem LikeF.trans2 {x y z:FrV} {L:FrL} (h:LikeF x y) (h2:LikeF x z) (hx:FrNum x L):FrNum y L∧FrNum z L∧sameF y L z L:=⟨h.num hx,h2.num hx,h.same h2⟩
theorem LikeC.val {x y:ClV} (h:LikeC x y) (hv:x.val < M256):y.val < M256:=by
 obtain ⟨_,_,rfl⟩:=h
 exact hv
end
structure AkA where
 kind:Int
 op:Nat
 ws:Value
 l:List Nat
 dt:Value
def akp (a:AkA):List Value:=(aska a.kind a.op a.ws a.dt).toList
theorem akp_len (l:List AkA):∀ u∈l,(akp u).length=4:=fun _ _=>rfl
structure AkAt (w:World) (a:AkA):Prop where
 row:RowAt w 4 a.ws a.l.length (wcs a.l)
 dt:∃ d:List UInt8,RowAt w 1 a.dt d.length (ucs d)
 lt:∀ x∈a.l,x < M256
structure AksAt (w:World) (v:Value) (l:List AkA):Prop where
 row:RowAt w 4 v l.length (l.flatMap akp)
 at_:∀ x∈l,AkAt w x
theorem AkAt.bel {w0 w:World} {a:AkA} (h:AkAt w0 a) (hb:Bel w0.heap.size [] w0 w):AkAt w a:=⟨h.row.bel hb,h.dt.imp fun _ hd=>hd.bel hb,h.lt⟩
def AskedR (a:AkA) (v:Value) (gs:Fs):Prop:=∃ u,v=.agg (aska a.kind a.op u (.slice none 0 0))∧wM (a.l.take 9) u gs
theorem ask_cells {kind:Int} {op:Nat} {u d:Value} (h:∃ p n c,u=.slice p n c) (h2:∃ p n c,d=.slice p n c):(aska kind op u d).toList.all Value.oneCell'=true:=by
 obtain ⟨p,n,c,rfl⟩:=h
 obtain ⟨p,n,c,rfl⟩:=h2
 rfl
theorem ask_wrW {P:Program} {T E:TypeId} {kind:Int} {op:Nat} {u d z:Value} {cs:Array Value} [InfoI P T 4 z] (h:cs.size=4) (h1:∃ p n c,u=.slice p n c) (h2:∃ p n c,d=.slice p n c):Wr P T (.cells cs E (0,0)) 0 (.agg (aska kind op u d)) (.cells (aska kind op u d) E (0,0)):=Wr.whole h rfl (ask_cells h1 h2)
theorem ask_blocks {w:World} {a:AkA} (h:AkAt w a):[Value.agg (aska a.kind a.op a.ws a.dt)].flatMap (blocksN 4)=[a.ws,a.dt].flatMap (blocksN 4):=by
 obtain ⟨p,c,e1,_,_⟩:=h.row.form
 obtain ⟨dl,hdt⟩:=h.dt
 obtain ⟨p2,c2,e2,_,_⟩:=hdt.form
 rw [e1,e2]
 simp [aska,blocksN]
 rw [blocks_sl ⟨_,_,_,rfl⟩,blocks_sl ⟨_,_,_,rfl⟩]
theorem blocks_ask {kind:Int} {op:Nat} {u d:Value} (h:∃ p n c,u=.slice p n c) (h2:d=.slice none 0 0):blocksN 4 (.agg (aska kind op u d))=blocksN 4 u:=by
 obtain ⟨p,n,c,rfl⟩:=h
 subst h2
 simp [aska,blocksN]
 exact blocks_sl ⟨_,_,_,rfl⟩
theorem asked_calls (a:AkA) (w:World) (h:AkAt w a):Calls Tryz.prog 25 #[.agg (aska a.kind a.op a.ws a.dt)] w (RetG w [] (AskedR a)):=by
 obtain ⟨kind,op,u,l,d⟩:=a
 obtain ⟨hr,⟨dl,hdt⟩,hlt⟩:=h
 dsimp only at hr hlt hdt
 obtain ⟨q,kd,rfl,_,_⟩:=hdt.form
 obtain ⟨p,c,rfl,hc,hm⟩:=id hr.form
 simp only [maxLen] at hm
 have hf:=row_fewW hr (k:=9) rfl
 have hl9:(l.take 9).length≤100000:=by rw [List.length_take];omega
 refine enter (args:=[_]) _ [] [] Tryz.func25 rfl Tryz.ntmps25 rfl (by simp) .nil ?_
 (refine sRz ?_;apply zT;rfl;rfl;intro _;apply zU;rfl;intro _;refine nNz<|zI ?_)
 apply CW.pre
 (refine AnyW.anyM [(11,wM (l.take 9))] 12 mixed (by decide +kernel) ?_)
 ((try simp only [tsOf_cons,tsOf_nil,tsOf_app]);refine dvz (.fieldAddr rfl rfl) ?_;apply qD;rfl;rfl;rfl;exact zC;rfl;apply zO;apply zP;exact zN;exact ask_rd0;refine dvz (.fieldAddr rfl rfl) ?_;apply qD;rfl;rfl;rfl;exact zC;rfl;apply zO;apply zP;exact zN;exact ask_rd1;refine dvz (.fieldAddr rfl rfl) ?_;apply qD;rfl;rfl;rfl;exact zC;rfl;apply zO;apply zP;exact zN;exact ask_rd2;refine dvz (.fieldAddr rfl rfl) ?_;apply qD;rfl;rfl;rfl;exact zC;rfl;apply zO;apply zP;exact zN;exact ask_rd2;refine dvz (.lenR rfl inferInstance rfl) ?_;refine dvz (.minZL rfl rfl (by decide)) ?_;refine dvz (.cutTo inferInstance inferInstance rfl rfl (by omega)) ?_)
 (apply DW.manyV;rfl;rfl;rfl;exact zC;rfl;infer_instance;exact .cons rfl .nil;apply RdV.ext;assumption;rfl;exact RdV.nil;intro w _ _)
 exact CloneW_calls _ _ w (hf.bel (by assumption)) hl9
 intro v1 g1 h1
 have h1':=h1
 unfold wM at h1'
 obtain ⟨q1,k1,rfl⟩:=h1'.form
 ((try simp only [tsOf_cons,tsOf_nil,tsOf_app]);apply DW.nil;simp only [fsOf_cons,fsOf_nil,fsOf_app,fsOf_tsOf,fsOf_new,fsOf_tag])
 (apply LW.v0;rfl;rfl;apply zW;infer_instance;infer_instance;apply zA;rfl;apply zA;rfl;apply zA;rfl;exact zB;rfl;simp only [fillP,wrCells,Value.cells,qH,qI,qJ,qG,qL,qK,Nat.reduceAdd,qN];rfl;apply zR;rfl;rfl;apply qC;apply qA;apply ask_wrW;rfl;exact ⟨_,_,_,rfl⟩;exact ⟨_,_,_,rfl⟩;refine nNz<|zK ?_)
 exact fin (vs:=[.agg (aska kind op (.slice q1 (l.take 9).length k1) (.slice none 0 0))]) g1 (.inl rfl) rfl rfl (by (apply zD;apply zH;rfl;apply qE;apply zZ;apply zY;exact ask_rdW;exact zF)) (qP _ _) ⟨_,rfl,h1⟩
section
open SK (TurnAt NumAt)
theorem CallBegins_walk (x:FrV) (X:FrL) (v1:Value) (l:List AkA) (i j k:Bool) (hxn:FrNum x X) (w:World) (hx:FrRows w x X) (hr1:AksAt w v1 l) (hL:TurnAt w∧NumAt w):Calls Tryz.prog 5 #[frv x,v1,.agg #[.bool i,.bool j,.bool k]] w (Ret w (.bool true)):=by
 obtain ⟨p1,c1,rfl,hc1,hm1⟩:=hr1.row.form
 simp only [maxLen] at hm1
 have hzs:=zero_sl
 have hcz:=zeroC_o.cells
 refine enter (args:=[_,_,_]) _ [] [] Tryz.func5 rfl Tryz.ntmps5 rfl (by simp) .nil ?_
 (refine sRz ?_;apply zT;rfl;rfl;intro _;apply zT;rfl;rfl;intro _;refine vAz<|nNz<|zI<|sRz ?_;apply zS;rfl;rfl;infer_instance;exact ArgsOk.nil;intro w _;exact lwakes_calls w;refine lvz (.notT rfl (by with_reducible rfl)) ?_;refine nNz<|cFz<|zJ<|thenN<|zI ?_)
 apply CW.pre
 (refine AnyW.anyM [(1,FairR x X),(3,FairR x X)] 6 mixed (by decide +kernel) ?_)
 ((try simp only [tsOf_cons,tsOf_nil,tsOf_app]);apply qD;rfl;rfl;rfl;exact zC;rfl;apply zO;apply zP;exact zN;exact fr_rdW)
 ((refine DW.manyW (vs':=[x.code,x.stk,x.mem,x.inp,x.back]) rfl rfl rfl (by (first|exact zC|(apply wantYes;rfl;rfl;(first|with_reducible rfl|(focus (simp only [Bool.not_true,Bool.not_false];done))|(with_reducible assumption)|(focus (simp only [Bool.not_true,Bool.not_false];with_reducible assumption)))))) rfl inferInstance (by (repeat (first|exact ArgsOk.nil|(apply ArgsOk.cons;rfl)))) hx.blocks (.ext hx.c rfl (.ext hx.s rfl (.ext hx.m rfl (.ext hx.i rfl (.ext hx.b rfl .nil))))) (fun w hb _=>fair_calls x X w (hx.bel hb)) ?_))
 rintro v3 g1 hv3
 obtain ⟨y1,rfl,hy1,hxy1⟩:=hv3.like
 ((try simp only [tsOf_cons,tsOf_nil,tsOf_app]);apply qD;rfl;rfl;rfl;exact zC;rfl;apply zQ;apply zO;apply zP;exact zN;exact fr_rdW)
 ((refine DW.manyW (vs':=[x.code,x.stk,x.mem,x.inp,x.back]) rfl rfl rfl (by (first|exact zC|(apply wantYes;rfl;rfl;(first|with_reducible rfl|(focus (simp only [Bool.not_true,Bool.not_false];done))|(with_reducible assumption)|(focus (simp only [Bool.not_true,Bool.not_false];with_reducible assumption)))))) rfl inferInstance (by (repeat (first|exact ArgsOk.nil|(apply ArgsOk.cons;rfl)))) hx.blocks (.ext hx.c rfl (.ext hx.s rfl (.ext hx.m rfl (.ext hx.i rfl (.ext hx.b rfl .nil))))) (fun w hb _=>fair_calls x X w (hx.bel hb)) ?_))
 rintro v4 g2 hv4
 obtain ⟨y2,rfl,hy2,hxy2⟩:=hv4.like
 ((try simp only [tsOf_cons,tsOf_nil,tsOf_app]);apply DW.allocA;rfl;rfl;rfl;exact zC;intro _;apply DW.allocA;rfl;rfl;rfl;exact zC;intro _;apply DW.nil;simp only [fsOf_cons,fsOf_nil,fsOf_app,fsOf_tsOf,fsOf_new,fsOf_tag,fsOf_mark])
 rename_i b3 b5 b7 b8
 have hs1:=hy1.sl
 have hs2:=hy2.sl
 have hyn1:=hxy1.num (fewF_num hxn)
 have hyn2:=hxy2.num (fewF_num hxn)
 obtain ⟨us1,hbl1,hin1,hrows1⟩:=hy1.lie
 obtain ⟨us2,hbl2,hin2,hrows2⟩:=hy2.lie
 obtain ⟨rb,hrb⟩:∃ rb,decide (okF x (fewF X))=rb:=⟨_,rfl⟩
 have hRt:∀ w',(∀ q∈g2,w'.heap[q.1]?=some q.2)→Calls Tryz.prog 24 #[frv y2] w' (Ret w' (.bool rb)):=fun w' h=>by
  have h:=rfRight_calls y2 (fewF X) w' (hy2.us h)
  rw [← hrb]
  rwa [show decide (okF y2 (fewF X))=decide (okF x (fewF X)) by rw [decide_eq_decide];exact okF_like hxy2] at h
 (apply zR;rfl;rfl;apply qB;apply qA;apply fr_wrW;rfl;exact hs1;apply zR;rfl;rfl;apply qA;apply fr_wrW;rfl;exact hs2;refine nSz<|ldz rfl .head fr_rdW ?_;apply zS;rfl;rfl;infer_instance;exact .cons rfl .nil;intro w _;rename_i hst;(exact hRt w (st_ou hst (by (repeat (first|exact qM _|exact qP _ _|apply qQ|apply List.sublist_append_of_sublist_right)))));refine vAz<|nNz<|zI<|sRz<|vMz<|lvz (.lenR rfl inferInstance rfl)<|vMz<|nNz<|zM ?_)
 refine CW.loop (fun m:Nat=>([(33,.int .i64 (m:Int)),(32,.int .i64 (l.length:Int)),(31,.slice p1 l.length c1),(9,.bool rb),(8,.pointer (some ⟨b8,0,none⟩)),(7,.pointer (some ⟨b7,0,none⟩)),(5,.pointer (some ⟨b5,0,none⟩)),(3,.pointer (some ⟨b3,0,none⟩))],
   (b8,.cells (fra y2) 31 (0,0))::(b7,.cells (fra y1) 31 (0,0))::(g2++(g1++[(b5,.cells #[.bool i,.bool j,.bool k] 58 (0,0)),(b3,.cells (fra x) 31 (0,0))]))))
  (fun m=>m≤l.length∧m≤8) (fun m=>l.length - m) 0 ⟨Nat.zero_le _,Nat.zero_le _⟩ ⟨rfl,rfl,rfl,rfl,rfl,rfl,rfl,rfl,trivial⟩ (qM _) ?_
 rintro m ⟨hml,hm8⟩
 dsimp only
 rcases Nat.lt_or_ge m l.length with hlt|hge
 ·obtain ⟨bb,off,c',cs,E,fr,heq,hb',hxx⟩:=hr1.row.pos (by omega)
  cases heq
  have hrd:Rd Tryz.prog 61 (.cells cs E fr) (off+m * 4) (.agg (aska l[m].kind l[m].op l[m].ws l[m].dt)):=Rd.elemA (g:=akp) (l:=l) (a:=l[m]) hxx (akp_len l) (List.getElem?_eq_getElem hlt)
  have ha:=hr1.at_ l[m] (List.getElem_mem hlt)
  generalize l[m]=a at hrd ha
  obtain ⟨dl,hdt⟩:=ha.dt
  obtain ⟨pd,kd,hde,_,_⟩:=id hdt.form
  obtain ⟨pw,kw,hwe,_,_⟩:=id ha.row.form
  have hM:∀ x∈a.l.take 9,x < M256:=fun x hx=>ha.lt x (List.mem_of_mem_take hx)
  have hak:∃ p n c,a.ws=.slice p n c:=⟨_,_,_,hwe⟩
  have had:∃ p n c,a.dt=.slice p n c:=⟨_,_,_,hde⟩
  rcases Nat.lt_or_ge m 8 with h8|h8
  ·skip
   (refine sRz ?_;refine lvz (.lssT rfl rfl (by omega)) ?_;refine nNz<|zI<|cTz<|zJ<|thenN<|zI<|zM<|sRz<|vMz ?_;refine lvz (.indexAddrS rfl rfl rfl (by omega)) ?_;apply LW.load;rfl;rfl;exact Known.ext (by assumption) (by simp);assumption;apply zU;rfl;intro _;refine vAz ?_;apply zR;rfl;rfl;apply qA;apply ask_wrW;rfl;exact hak;exact had;refine nNz<|zI<|sRz<|vMz ?_;refine lvz (.eqF rfl rfl (by omega)) ?_;refine nNz<|cFz<|zJ<|thenN<|sRz<|ldz rfl .head ask_rdW ?_)
   rename_i b11
   refine LW.callR rfl rfl inferInstance (by (exact .cons rfl .nil)) (fun w hst=>asked_calls a w (ha.bel hst.bel)) ?_
   rintro v9 gu ⟨u,rfl,hu⟩
   have hu':=hu
   unfold wM at hu'
   obtain ⟨q2,k2,rfl⟩:=id hu'.form
   (apply zU;rfl;intro _;apply zR;rfl;rfl;apply qA;apply ask_wrW;rfl;exact ⟨_,_,_,rfl⟩;exact ⟨_,_,_,rfl⟩;refine nSz<|ldz rfl (.tail (.app (.tail (.tail .head)))) fr_rdW<|ldz rfl .head ask_rdW<|ldz rfl (.tail (.app (.tail (.tail (.tail (.app (.app .head))))))) (qF rfl) ?_)
   rename_i b12
   refine LW.callR rfl rfl inferInstance (by (exact .cons rfl (.cons rfl (.cons rfl .nil)))) (fun w' hst=>Begin_calls y1 (fewF X) ⟨a.kind,a.op,.slice q2 (a.l.take 9).length k2,.slice none 0 0,i,j,k⟩ (a.l.take 9) hM ⟨_,_,_,rfl⟩ hyn1.self w' (hy1.us (st_ou hst (by (apply qQ;apply List.sublist_append_of_sublist_right;apply qQ;apply qQ;apply qQ;apply List.sublist_append_of_sublist_right;exact qP _ _)))) (wM_at hu (st_ou hst (by (apply qQ;exact qP _ _)))) (hL.1.st ⟨hst.bel,(fun p h=>by cases h),.nil⟩) (hL.2.st ⟨hst.bel,(fun p h=>by cases h),.nil⟩)) ?_
   rintro v5 g5 hB
   rw [beginA_like hxy1 (fewF X) a.kind a.op _ (.slice none 0 0) _ (.slice none 0 0)] at hB
   have hB:=BegA.form hxy1 hB
   obtain ⟨R,hR⟩:∃ R,beginA x (fewF X) ⟨a.kind,a.op,.slice none 0 0,.slice none 0 0,i,j,k⟩ (a.l.take 9)=R:=⟨_,rfl⟩
   rw [hR] at hB
   have hRn:=begin_num hR (fewF_num hxn)
   have hRv:=begin_val hR hM hxn.val
   obtain ⟨y4,c4,ga,gb,rfl,rfl,hF,hC,hyx4,hcx4⟩:=hB
   have hsl:=hF.sl
   have hcy:=hC.cells
   rw [List.append_assoc ga gb]
   obtain ⟨ok,hok⟩:∃ ok,R.isSome=ok:=⟨_,rfl⟩
   rw [hok]
   (refine vMz ?_;refine vEz ?_;refine vEz ?_;refine vEz ?_;apply zU;rfl;intro _;apply zU;rfl;intro _;apply zR;rfl;rfl;apply qB;apply qA;apply fr_wrW;rfl;exact hsl;apply zR;rfl;rfl;apply qA;apply cl_wrW;rfl;exact hcy;refine vAz<|nSz ?_;apply LW.v0;rfl;rfl;apply zW;infer_instance;infer_instance;exact zB;rfl;simp only [fillP,wrCells,Value.cells,qH,qI,qJ,qG,qL,qK,Nat.reduceAdd,qN];rfl;apply LW.v0;rfl;rfl;apply zW;infer_instance;infer_instance;exact zB;rfl;simp only [fillP,wrCells,Value.cells,qH,qI,qJ,qG,qL,qK,Nat.reduceAdd,qN];rfl;apply zU;rfl;intro _;apply zU;rfl;intro _;refine zR rfl rfl (.tail .head) (.whole rfl rfl rfl) ?_;refine zR rfl rfl .head (.whole rfl rfl rfl)<|vAz<|nNz<|zI<|sRz<|vMz<|nNz ?_)
   cases rb with
   |true =>
    (refine cTz ?_)
    apply CW.pre
    (refine AnyW.anyM [(1,FairR x X),(3,AskedR a),(5,BegS x R)] 12 mixed (by decide +kernel) ?_)
    ((try simp only [tsOf_cons,tsOf_nil,tsOf_app]);apply qD;rfl;rfl;rfl;exact zC;rfl;apply zO;apply zO;apply zO;apply zO;apply zQ;apply zQ;apply zO;apply zQ;apply zO;apply zO;apply zO;apply zQ;apply zQ;apply zO;apply zP;exact zN;exact fr_rdW)
    ((refine DW.manyW (vs':=[x.code,x.stk,x.mem,x.inp,x.back]) rfl rfl rfl (by (first|exact zC|(apply wantYes;rfl;rfl;(first|with_reducible rfl|(focus (simp only [Bool.not_true,Bool.not_false];done))|(with_reducible assumption)|(focus (simp only [Bool.not_true,Bool.not_false];with_reducible assumption)))))) rfl inferInstance (by (repeat (first|exact ArgsOk.nil|(apply ArgsOk.cons;rfl)))) hx.blocks (.ext hx.c rfl (.ext hx.s rfl (.ext hx.m rfl (.ext hx.i rfl (.ext hx.b rfl .nil))))) (fun w hb _=>fair_calls x X w (hx.bel hb)) ?_))
    rintro v7 g7 hv7
    obtain ⟨y7,rfl,hy7,hxy7⟩:=hv7.like
    obtain ⟨us7,hbl7,hin7,hrows7⟩:=hy7.lie
    have hyn7:=hxy7.num (fewF_num hxn)
    ((try simp only [tsOf_cons,tsOf_nil,tsOf_app]);apply qD;rfl;rfl;rfl;exact zC;rfl;apply zQ;apply zO;apply zO;apply zO;apply zO;apply zQ;apply zQ;apply zO;apply zQ;apply zP;exact zN;exact ask_rdW)
    ((refine DW.manyW (vs':=[a.ws,a.dt]) rfl rfl rfl (by (first|exact zC|(apply wantYes;rfl;rfl;(first|with_reducible rfl|(focus (simp only [Bool.not_true,Bool.not_false];done))|(with_reducible assumption)|(focus (simp only [Bool.not_true,Bool.not_false];with_reducible assumption)))))) rfl inferInstance (by (repeat (first|exact ArgsOk.nil|(apply ArgsOk.cons;rfl)))) (ask_blocks ha) (.ext ha.row rfl (.ext hdt rfl .nil)) (fun w hb _=>asked_calls a w (ha.bel hb)) ?_))
    rintro v8 g8 ⟨u8,rfl,hu8⟩
    have hu8':=hu8
    unfold wM at hu8'
    obtain ⟨us8,hbl8,hin8,hrows8⟩:=rowU_own hu8'
    obtain ⟨q8,k8,rfl⟩:=id hu8'.form
    have hBg:∀ w',(∀ q∈us7++us8,w'.heap[q.1]?=some q.2)→Calls Tryz.prog 27 #[frv y7,.agg (aska a.kind a.op (.slice q8 (a.l.take 9).length k8) (.slice none 0 0)),.agg #[.bool i,.bool j,.bool k]] w' (RetG w' [] (BegS x R)):=fun w' h=>by
     have h:=rBegin_calls y7 (fewF X) ⟨a.kind,a.op,.slice q8 (a.l.take 9).length k8,.slice none 0 0,i,j,k⟩ (a.l.take 9) hM ⟨_,_,_,rfl⟩ ((okF_like hxy7).2 (of_decide_eq_true hrb)) hyn7.self w' (hrows7 w' fun q hq=>h q (List.mem_append_left _ hq)) (hrows8 w' fun q hq=>h q (List.mem_append_right _ hq))
     rw [beginA_like hxy7 (fewF X) a.kind a.op _ (.slice none 0 0) _ (.slice none 0 0),hR] at h
     exact Calls.mono h fun e w'' h=>RetG.imp (fun v gs h=>BegA.form hxy7 h) h
    ((try simp only [tsOf_cons,tsOf_nil,tsOf_app]);apply qD;rfl;rfl;rfl;exact zC;rfl;apply zQ;apply zQ;apply zO;apply zO;apply zO;apply zO;apply zQ;apply zQ;apply zO;apply zQ;apply zO;apply zO;apply zO;apply zQ;apply zQ;apply zP;exact zN;exact qF rfl)
    refine DW.manyA (us7++us8) rfl rfl rfl (by (exact zC)) rfl inferInstance (by (exact .cons rfl (.cons rfl (.cons rfl .nil)))) (by rw [List.flatMap_cons,List.flatMap_cons,hbl7,blocks_ask ⟨_,_,_,rfl⟩ rfl,hbl8];simp [blocksN]) (fun p hp=>AncT.lie (by (refine AncT.app ?_ ?_;refine AncT.new ?_;kernel_rfl;refine AncT.app ?_ ?_;refine AncT.new ?_;kernel_rfl;refine AncT.cons ?_ ?_;exact zN;refine AncT.cons ?_ ?_;exact zN;refine AncT.cons ?_ ?_;exact zN;refine AncT.cons ?_ ?_;exact zN;refine AncT.app ?_ ?_;exact AncT.tsOf;refine AncT.app ?_ ?_;exact AncT.tsOf;refine AncT.cons ?_ ?_;exact zN;refine AncT.app ?_ ?_;exact AncT.tsOf;refine AncT.cons ?_ ?_;exact zN;refine AncT.cons ?_ ?_;exact zN;refine AncT.cons ?_ ?_;exact zN;refine AncT.app ?_ ?_;exact AncT.tsOf;refine AncT.app ?_ ?_;exact AncT.tsOf;refine AncT.cons ?_ ?_;exact zN;refine AncT.cons ?_ ?_;exact zN;exact AncT.nil)) (by rcases List.mem_append.1 hp with hp|hp;· { have hp:=hin7 p hp;simp [fsOf,tsOf,tsNew,tsTag,markAll,Function.comp_def,hp] };· { have hp:=hin8 p hp;simp [fsOf,tsOf,tsNew,tsTag,markAll,Function.comp_def,hp] })) (fun w _ hu=>hBg w hu) ?_
    (try simp only [markAll_cons,markAll_app,markAll_tsOf,markAll_tag,markAll_new,markAll_nil])
    rintro v9 g9 hB9
    obtain ⟨y6,c6,ga6,gb6,rfl,rfl,hF2,hC2,hyx6,hcx6⟩:=hB9
    have hsl2:=hF2.sl
    have hcy2:=hC2.cells
    rw [hok]
    ((try simp only [tsOf_cons,tsOf_nil,tsOf_app]);refine dvz (.move rfl) ?_;refine dvz (.extractN rfl rfl) ?_;refine dvz (.extractN rfl rfl) ?_;refine dvz (.extractN rfl rfl) ?_;apply DW.store;rfl;rfl;exact zC;rfl;rfl;apply TSet.app;apply TSet.app;apply TSet.app;apply TSet.tail;apply TSet.head;exact zN;kernel_rfl;apply fr_wrW;rfl;exact hsl2;apply DW.store;rfl;rfl;exact zC;rfl;rfl;apply TSet.app;apply TSet.app;apply TSet.app;apply TSet.head;exact zN;kernel_rfl;apply cl_wrW;rfl;exact hcy2;apply DW.nil;simp only [fsOf_cons,fsOf_nil,fsOf_app,fsOf_tsOf,fsOf_new,fsOf_tag,fsOf_mark])
    try simp only [fsOf_mark,fsOf_cons,fsOf_nil,fsOf_app,fsOf_tsOf,fsOf_new,fsOf_tag,List.append_eq,List.nil_append]
    rw [List.append_assoc ga6 gb6]
    have hRS:∀ w',(∀ q∈ga,w'.heap[q.1]?=some q.2)→(∀ q∈ga6,w'.heap[q.1]?=some q.2)→Calls Tryz.prog 15 #[frv y4,frv y6] w' (Ret w' (.bool true)):=fun w' h h2=>by
     obtain ⟨n1,n2,hsm⟩:=LikeF.trans2 hyx4 hyx6 hRn
     have h:=rfSame_calls _ _ _ _ n1 n2 w' (hF.us h) (hF2.us h2)
     rwa [decide_eq_true hsm] at h
    have hCS:∀ w',(∀ q∈gb,w'.heap[q.1]?=some q.2)→(∀ q∈gb6,w'.heap[q.1]?=some q.2)→Calls Tryz.prog 17 #[clv c4,clv c6] w' (Ret w' (.bool true)):=fun w' h h2=>by
     have h:=rcSame_calls _ _ _ _ (hcx4.val hRv) (hcx6.val hRv) w' (hC.us h) (hC2.us h2)
     rwa [decide_eq_true (hcx4.same hcx6)] at h
    have hTg0:=fun (w':World) (h:∀ q∈gu,w'.heap[q.1]?=some q.2)=>Target_calls a.kind a.op (a.l.take 9) _ none 0 0 w' (wM_at hu h)
    have hTh0:=fun (u:Value) (gz:Fs) (hz:wM (a.l.take 9) u gz) (w':World) (h:∀ q∈gz,w'.heap[q.1]?=some q.2)=>rTarget_calls a.kind a.op (a.l.take 9) u none 0 0 w' (wM_at hz h)
    obtain ⟨tn,htn⟩:∃ tn,targetN a.kind a.op (a.l.take 9)=tn:=⟨_,rfl⟩
    obtain ⟨tb,htb⟩:∃ tb,targetB a.kind a.op (a.l.take 9).length=tb:=⟨_,rfl⟩
    rw [htn,htb] at hTg0 hTh0
    have hTg:=hTg0
    (refine vAz<|nNz<|zI<|sRz<|vMz<|vMz ?_;refine lvz (.boolNeF rfl rfl (by with_reducible rfl)) ?_;refine vMz<|gTz<|ldz rfl (.app (.app (.app (.app (.tail (.tail (.tail .head))))))) fr_rdW<|gTz<|ldz rfl (.app (.app (.app (.app (.tail .head))))) fr_rdW<|gTz ?_;apply zS;rfl;rfl;infer_instance;exact .cons rfl (.cons rfl .nil);intro w _;rename_i hst;(exact hRS w (st_ou hst (by (repeat (first|exact qM _|exact qP _ _|apply qQ|apply List.sublist_append_of_sublist_right)))) (st_ou hst (by (repeat (first|exact qM _|exact qP _ _|apply qQ|apply List.sublist_append_of_sublist_right)))));refine gTz ?_;refine lvz (.notT rfl (by with_reducible rfl)) ?_;refine pFz<|vMz<|gTz<|ldz rfl (.app (.app (.app (.app (.tail (.tail .head)))))) cl_rdW<|gTz<|ldz rfl (.app (.app (.app (.app .head)))) cl_rdW<|gTz ?_;apply zS;rfl;rfl;infer_instance;exact .cons rfl (.cons rfl .nil);intro w _;rename_i hst;(exact hCS w (st_ou hst (by (repeat (first|exact qM _|exact qP _ _|apply qQ|apply List.sublist_append_of_sublist_right)))) (st_ou hst (by (repeat (first|exact qM _|exact qP _ _|apply qQ|apply List.sublist_append_of_sublist_right)))));refine gTz ?_;refine lvz (.notT rfl (by with_reducible rfl)) ?_;refine pFz<|nNz<|cFz<|zJ<|thenN<|sRz<|ldz rfl (.app (.app (.app (.app (.tail (.tail (.tail (.tail (.app (.app .head)))))))))) ask_rdW ?_;apply zS;rfl;rfl;infer_instance;exact .cons rfl .nil;intro w _;rename_i hst;(exact hTg w (st_ou hst (by (repeat (first|exact qM _|exact qP _ _|apply qQ|apply List.sublist_append_of_sublist_right)))));refine vMz ?_;refine vEz ?_;refine vEz ?_;refine vAz<|vAz<|nSz<|ldz rfl (.app (.app (.app (.app (.tail (.tail (.tail (.tail (.app (.app (.tail (.app .head)))))))))))) ask_rdW ?_)
    try simp only [bne_self_eq_false]
    skip
    refine LW.callR rfl rfl inferInstance (by (exact .cons rfl .nil)) (fun w hst=>asked_calls a w (ha.bel hst.bel)) ?_
    rintro v10 gz ⟨uz,rfl,huz⟩
    have huz':=huz
    unfold wM at huz'
    obtain ⟨qz,kz,rfl⟩:=id huz'.form
    have hTh:=hTh0 _ gz huz
    (apply zS;rfl;rfl;infer_instance;exact .cons rfl .nil;intro w _;rename_i hst;(exact hTh w (st_ou hst (by (repeat (first|exact qM _|exact qP _ _|apply qQ|apply List.sublist_append_of_sublist_right)))));refine vMz ?_;refine vEz ?_;refine vEz ?_;refine vAz<|vAz<|nNz<|zI<|sRz<|vMz<|vMz ?_;refine lvz (.neF rfl rfl (by omega)) ?_;refine vMz<|gTz<|vMz<|gTz<|vMz<|gTz ?_;refine lvz (.boolNeF rfl rfl (by with_reducible rfl)) ?_;refine pFz<|nNz<|cFz<|zJ<|thenN<|sRz<|ldz rfl (.app (.app (.app (.app (.app (.tail (.tail (.tail .head)))))))) fr_rdW<|ldz rfl (.app (.app (.app (.app (.app (.tail (.tail .head))))))) cl_rdW ?_)
    refine LW.callSt (K:=fun v fs'=>v=.tuple #[]∧fs'=((b12,.cells (aska a.kind a.op (.slice q2 (a.l.take 9).length k2) (.slice none 0 0)) 61 (0,0))::(gu++((b11,.cells (aska a.kind a.op a.ws a.dt) 61 (0,0))::(b8,.cells (fra y2) 31 (0,0))::(b7,.cells (fra y1) 31 (0,0))::(g2++(g1++[(b5,.cells #[.bool i,.bool j,.bool k] 58 (0,0)),(b3,.cells (fra x) 31 (0,0))])))))) rfl rfl inferInstance (by (exact .cons rfl (.cons rfl .nil))) (fun w hst=>?_) ?_
    ·refine Calls.mono (spoil_calls _ _ _ _ _ _ ga gb ((b12,.cells (aska a.kind a.op (.slice q2 (a.l.take 9).length k2) (.slice none 0 0)) 61 (0,0))::(gu++((b11,.cells (aska a.kind a.op a.ws a.dt) 61 (0,0))::(b8,.cells (fra y2) 31 (0,0))::(b7,.cells (fra y1) 31 (0,0))::(g2++(g1++[(b5,.cells #[.bool i,.bool j,.bool k] 58 (0,0)),(b3,.cells (fra x) 31 (0,0))]))))) hF hC w (SubP.st ?_ hst)) fun x w' ⟨fs',⟨h1,h2⟩,hst⟩=>⟨_,_,h1,⟨rfl,h2⟩,hst⟩
     exact subp_ix [gz,ga6,gb6,g8,g7,[_],[_],[_],[_],ga,gb] (xs:=[9,10]) (ys:=[0,1,2,3,4,5,6,7,8,9,10]) _ rfl
    rintro _ _ ⟨rfl,rfl⟩
    (refine nNz<|zI ?_)
    apply CW.pre
    (refine AnyW.anyM [(8,AskedR a)] 10 mixed (by decide +kernel) ?_)
    ((try simp only [tsOf_cons,tsOf_nil,tsOf_app]);apply qD;rfl;rfl;rfl;exact zC;rfl;apply zO;apply zQ;apply zO;apply zO;apply zP;exact zN;exact fr_rdW;apply qD;rfl;rfl;rfl;exact zC;rfl;apply zO;apply zQ;apply zO;apply zP;exact zN;exact fr_rdW)
    refine DW.callA (us1++us2) (v:=.bool true) rfl rfl rfl (by (exact zC)) rfl inferInstance (by (exact .cons rfl (.cons rfl .nil))) (by rw [List.flatMap_cons,List.flatMap_cons,hbl1,hbl2,List.map_append];simp) (fun p hp=>AncT.lie (by (refine AncT.cons ?_ ?_;exact zN;refine AncT.app ?_ ?_;exact AncT.tsOf;refine AncT.cons ?_ ?_;exact zN;refine AncT.cons ?_ ?_;exact zN;refine AncT.cons ?_ ?_;exact zN;refine AncT.app ?_ ?_;exact AncT.tsOf;refine AncT.app ?_ ?_;exact AncT.tsOf;refine AncT.cons ?_ ?_;exact zN;refine AncT.cons ?_ ?_;exact zN;exact AncT.nil)) (by rcases List.mem_append.1 hp with hp|hp;· { have hp:=hin1 p hp;simp [fsOf,tsOf,tsNew,tsTag,markAll,Function.comp_def,hp] };· { have hp:=hin2 p hp;simp [fsOf,tsOf,tsNew,tsTag,markAll,Function.comp_def,hp] })) (fun w _ hu=>?_) ?_
    ·have h:=rfSame_calls y1 y2 _ _ hyn1 hyn2 w (hrows1 w fun q hq=>hu q (List.mem_append_left _ hq)) (hrows2 w fun q hq=>hu q (List.mem_append_right _ hq))
     rw [decide_eq_true (hxy1.same hxy2)] at h
     exact h
    (try simp only [markAll_cons,markAll_app,markAll_tsOf,markAll_tag,markAll_new,markAll_nil])
    ((try simp only [tsOf_cons,tsOf_nil,tsOf_app]);refine dvz (.notT rfl (by with_reducible rfl)) ?_;refine dvz (.move rfl)<|dwz (.fieldAddr rfl rfl) ?_;apply qD;rfl;rfl;rfl;apply wantYes;rfl;rfl;(with_reducible rfl);rfl;apply zP;exact zN;exact ask_rd2;apply qD;rfl;rfl;rfl;apply wantYes;rfl;rfl;(with_reducible rfl);rfl;apply zO;apply zQ;apply zP;exact zN;exact ask_rdW)
    ((refine DW.manyW (vs':=[a.ws,a.dt]) rfl rfl rfl (by (first|exact zC|(apply wantYes;rfl;rfl;(first|with_reducible rfl|(focus (simp only [Bool.not_true,Bool.not_false];done))|(with_reducible assumption)|(focus (simp only [Bool.not_true,Bool.not_false];with_reducible assumption)))))) rfl inferInstance (by (repeat (first|exact ArgsOk.nil|(apply ArgsOk.cons;rfl)))) (ask_blocks ha) (.ext ha.row rfl (.ext hdt rfl .nil)) (fun w hb _=>asked_calls a w (ha.bel hb)) ?_))
    rintro v11 g11 ⟨u11,rfl,hu11⟩
    have hu11':=hu11
    unfold wM at hu11'
    obtain ⟨q11,k11,rfl⟩:=id hu11'.form
    have hEq:∀ w',(∀ q∈gu,w'.heap[q.1]?=some q.2)→(∀ q∈g11,w'.heap[q.1]?=some q.2)→Calls Tryz.prog 30 #[.slice q2 (a.l.take 9).length k2,.slice q11 (a.l.take 9).length k11] w' (Ret w' (.bool true)):=fun w' h h3=>by
     have h:=sEqW_calls (a.l.take 9) (a.l.take 9) hM hM _ _ w' (wM_at hu h) (wM_at hu11 h3)
     rwa [decide_eq_true rfl] at h
    ((try simp only [tsOf_cons,tsOf_nil,tsOf_app]);refine dwz (.field1 inferInstance inferInstance rfl rfl) ?_;apply DW.nil;simp only [fsOf_cons,fsOf_nil,fsOf_app,fsOf_tsOf,fsOf_new,fsOf_tag,fsOf_mark])
    try simp only [fsOf_mark,fsOf_cons,fsOf_nil,fsOf_app,fsOf_tsOf,fsOf_new,fsOf_tag,List.append_eq,List.nil_append]
    (refine gTz ?_;apply zS;rfl;rfl;infer_instance;exact .cons rfl (.cons rfl .nil);intro w _;rename_i hst;(exact hEq w (st_ou hst (by (repeat (first|exact qM _|exact qP _ _|apply qQ|apply List.sublist_append_of_sublist_right)))) (st_ou hst (by (repeat (first|exact qM _|exact qP _ _|apply qQ|apply List.sublist_append_of_sublist_right)))));refine gTz ?_;refine lvz (.notT rfl (by with_reducible rfl)) ?_;refine pFz<|nNz<|cFz<|zJ<|blkN<|thenN<|zL ?_;refine lvz (.addZL rfl rfl (by decide) (by omega)) ?_;refine vMz ?_;apply zV)
    apply thenX
    exact ⟨rfl,m+1,⟨hlt,h8⟩,by omega,⟨rfl,rfl,rfl,rfl,rfl,rfl,rfl,rfl,trivial⟩,by (apply List.sublist_append_of_sublist_right;apply qQ;apply List.sublist_append_of_sublist_right;apply qQ;exact qM _)⟩
   |false =>
    have hRnone:R=none:=by
     rw [← hR]
     unfold beginA
     exact if_neg fun h=>of_decide_eq_false hrb h.2
    subst hRnone
    obtain rfl:false=ok:=hok
    obtain ⟨y6,hy6⟩:∃ y6,y6=zeroF:=⟨_,rfl⟩
    obtain ⟨c6,hc6⟩:∃ c6,c6=zeroC:=⟨_,rfl⟩
    have hyx6:LikeF (baseF x none) y6:=⟨.slice none 0 0,.slice none 0 0,.slice none 0 0,.slice none 0 0,.slice none 0 0,hy6⟩
    have hcx6:LikeC (baseC none) c6:=⟨.slice none 0 0,.slice none 0 0,hc6⟩
    have hF2:FrO y6 (lisF none) []:=by rw [hy6];exact zero_frO
    have hC2:ClO c6 (lisC none) []:=by rw [hc6];exact zeroC_o
    have hga6:[]=([]:Fs):=rfl
    have hz6:∀ E fr,Rd Tryz.prog 31 (.cells (fra zeroF) E fr) 0 (frv y6):=fun E fr=>by rw [hy6];exact fr_rdW
    have hz7:∀ E fr,Rd Tryz.prog 33 (.cells (cla zeroC) E fr) 0 (clv c6):=fun E fr=>by rw [hc6];exact cl_rdW
    have hsl2:=hF2.sl
    have hcy2:=hC2.cells
    have hRS:∀ w',(∀ q∈ga,w'.heap[q.1]?=some q.2)→(∀ q∈([]:Fs),w'.heap[q.1]?=some q.2)→Calls Tryz.prog 15 #[frv y4,frv y6] w' (Ret w' (.bool true)):=fun w' h h2=>by
     obtain ⟨n1,n2,hsm⟩:=LikeF.trans2 hyx4 hyx6 hRn
     have h:=rfSame_calls _ _ _ _ n1 n2 w' (hF.us h) (hF2.us h2)
     rwa [decide_eq_true hsm] at h
    have hCS:∀ w',(∀ q∈gb,w'.heap[q.1]?=some q.2)→(∀ q∈([]:Fs),w'.heap[q.1]?=some q.2)→Calls Tryz.prog 17 #[clv c4,clv c6] w' (Ret w' (.bool true)):=fun w' h h2=>by
     have h:=rcSame_calls _ _ _ _ (hcx4.val hRv) (hcx6.val hRv) w' (hC.us h) (hC2.us h2)
     rwa [decide_eq_true (hcx4.same hcx6)] at h
    have hTg0:=fun (w':World) (h:∀ q∈gu,w'.heap[q.1]?=some q.2)=>Target_calls a.kind a.op (a.l.take 9) _ none 0 0 w' (wM_at hu h)
    have hTh0:=fun (u:Value) (gz:Fs) (hz:wM (a.l.take 9) u gz) (w':World) (h:∀ q∈gz,w'.heap[q.1]?=some q.2)=>rTarget_calls a.kind a.op (a.l.take 9) u none 0 0 w' (wM_at hz h)
    obtain ⟨tn,htn⟩:∃ tn,targetN a.kind a.op (a.l.take 9)=tn:=⟨_,rfl⟩
    obtain ⟨tb,htb⟩:∃ tb,targetB a.kind a.op (a.l.take 9).length=tb:=⟨_,rfl⟩
    rw [htn,htb] at hTg0 hTh0
    have hTg:=hTg0
    (refine cFz<|zJ<|thenN<|zI<|sRz<|vMz<|vMz ?_;refine lvz (.boolNeF rfl rfl (by with_reducible rfl)) ?_;refine vMz<|gTz<|ldz rfl (.tail (.tail (.tail .head))) fr_rdW<|gTz<|ldz rfl (.tail .head) (hz6 _ _)<|gTz ?_;apply zS;rfl;rfl;infer_instance;exact .cons rfl (.cons rfl .nil);intro w _;rename_i hst;(exact hRS w (st_ou hst (by (repeat (first|exact qM _|exact qP _ _|apply qQ|apply List.sublist_append_of_sublist_right)))) (st_ou hst (by (repeat (first|exact qM _|exact qP _ _|apply qQ|apply List.sublist_append_of_sublist_right)))));refine gTz ?_;refine lvz (.notT rfl (by with_reducible rfl)) ?_;refine pFz<|vMz<|gTz<|ldz rfl (.tail (.tail .head)) cl_rdW<|gTz<|ldz rfl .head (hz7 _ _)<|gTz ?_;apply zS;rfl;rfl;infer_instance;exact .cons rfl (.cons rfl .nil);intro w _;rename_i hst;(exact hCS w (st_ou hst (by (repeat (first|exact qM _|exact qP _ _|apply qQ|apply List.sublist_append_of_sublist_right)))) (st_ou hst (by (repeat (first|exact qM _|exact qP _ _|apply qQ|apply List.sublist_append_of_sublist_right)))));refine gTz ?_;refine lvz (.notT rfl (by with_reducible rfl)) ?_;refine pFz<|nNz<|cFz<|zJ<|thenN<|sRz<|ldz rfl (.tail (.tail (.tail (.tail (.app (.app .head)))))) ask_rdW ?_;apply zS;rfl;rfl;infer_instance;exact .cons rfl .nil;intro w _;rename_i hst;(exact hTg w (st_ou hst (by (repeat (first|exact qM _|exact qP _ _|apply qQ|apply List.sublist_append_of_sublist_right)))));refine vMz ?_;refine vEz ?_;refine vEz ?_;refine vAz<|vAz<|nSz<|ldz rfl (.tail (.tail (.tail (.tail (.app (.app (.tail (.app .head)))))))) ask_rdW ?_)
    try simp only [bne_self_eq_false]
    skip
    refine LW.callR rfl rfl inferInstance (by (exact .cons rfl .nil)) (fun w hst=>asked_calls a w (ha.bel hst.bel)) ?_
    rintro v10 gz ⟨uz,rfl,huz⟩
    have huz':=huz
    unfold wM at huz'
    obtain ⟨qz,kz,rfl⟩:=id huz'.form
    have hTh:=hTh0 _ gz huz
    (apply zS;rfl;rfl;infer_instance;exact .cons rfl .nil;intro w _;rename_i hst;(exact hTh w (st_ou hst (by (repeat (first|exact qM _|exact qP _ _|apply qQ|apply List.sublist_append_of_sublist_right)))));refine vMz ?_;refine vEz ?_;refine vEz ?_;refine vAz<|vAz<|nNz<|zI<|sRz<|vMz<|vMz ?_;refine lvz (.neF rfl rfl (by omega)) ?_;refine vMz<|gTz<|vMz<|gTz<|vMz<|gTz ?_;refine lvz (.boolNeF rfl rfl (by with_reducible rfl)) ?_;refine pFz<|nNz<|cFz<|zJ<|thenN<|sRz<|ldz rfl (.app (.tail (.tail (.tail .head)))) fr_rdW<|ldz rfl (.app (.tail (.tail .head))) cl_rdW ?_)
    refine LW.callSt (K:=fun v fs'=>v=.tuple #[]∧fs'=((b12,.cells (aska a.kind a.op (.slice q2 (a.l.take 9).length k2) (.slice none 0 0)) 61 (0,0))::(gu++((b11,.cells (aska a.kind a.op a.ws a.dt) 61 (0,0))::(b8,.cells (fra y2) 31 (0,0))::(b7,.cells (fra y1) 31 (0,0))::(g2++(g1++[(b5,.cells #[.bool i,.bool j,.bool k] 58 (0,0)),(b3,.cells (fra x) 31 (0,0))])))))) rfl rfl inferInstance (by (exact .cons rfl (.cons rfl .nil))) (fun w hst=>?_) ?_
    ·refine Calls.mono (spoil_calls _ _ _ _ _ _ ga gb ((b12,.cells (aska a.kind a.op (.slice q2 (a.l.take 9).length k2) (.slice none 0 0)) 61 (0,0))::(gu++((b11,.cells (aska a.kind a.op a.ws a.dt) 61 (0,0))::(b8,.cells (fra y2) 31 (0,0))::(b7,.cells (fra y1) 31 (0,0))::(g2++(g1++[(b5,.cells #[.bool i,.bool j,.bool k] 58 (0,0)),(b3,.cells (fra x) 31 (0,0))]))))) hF hC w (SubP.st ?_ hst)) fun x w' ⟨fs',⟨h1,h2⟩,hst⟩=>⟨_,_,h1,⟨rfl,h2⟩,hst⟩
     exact subp_ix [gz,[_],[_],[_],[_],ga,gb] (xs:=[5,6]) (ys:=[0,1,2,3,4,5,6]) _ rfl
    rintro _ _ ⟨rfl,rfl⟩
    (refine nNz<|zI ?_)
    apply CW.pre
    (refine AnyW.anyM [(8,AskedR a)] 10 mixed (by decide +kernel) ?_)
    ((try simp only [tsOf_cons,tsOf_nil,tsOf_app]);apply qD;rfl;rfl;rfl;exact zC;rfl;apply zO;apply zQ;apply zO;apply zO;apply zP;exact zN;exact fr_rdW;apply qD;rfl;rfl;rfl;exact zC;rfl;apply zO;apply zQ;apply zO;apply zP;exact zN;exact fr_rdW)
    refine DW.callA (us1++us2) (v:=.bool true) rfl rfl rfl (by (exact zC)) rfl inferInstance (by (exact .cons rfl (.cons rfl .nil))) (by rw [List.flatMap_cons,List.flatMap_cons,hbl1,hbl2,List.map_append];simp) (fun p hp=>AncT.lie (by (refine AncT.cons ?_ ?_;exact zN;refine AncT.app ?_ ?_;exact AncT.tsOf;refine AncT.cons ?_ ?_;exact zN;refine AncT.cons ?_ ?_;exact zN;refine AncT.cons ?_ ?_;exact zN;refine AncT.app ?_ ?_;exact AncT.tsOf;refine AncT.app ?_ ?_;exact AncT.tsOf;refine AncT.cons ?_ ?_;exact zN;refine AncT.cons ?_ ?_;exact zN;exact AncT.nil)) (by rcases List.mem_append.1 hp with hp|hp;· { have hp:=hin1 p hp;simp [fsOf,tsOf,tsNew,tsTag,markAll,Function.comp_def,hp] };· { have hp:=hin2 p hp;simp [fsOf,tsOf,tsNew,tsTag,markAll,Function.comp_def,hp] })) (fun w _ hu=>?_) ?_
    ·have h:=rfSame_calls y1 y2 _ _ hyn1 hyn2 w (hrows1 w fun q hq=>hu q (List.mem_append_left _ hq)) (hrows2 w fun q hq=>hu q (List.mem_append_right _ hq))
     rw [decide_eq_true (hxy1.same hxy2)] at h
     exact h
    (try simp only [markAll_cons,markAll_app,markAll_tsOf,markAll_tag,markAll_new,markAll_nil])
    ((try simp only [tsOf_cons,tsOf_nil,tsOf_app]);refine dvz (.notT rfl (by with_reducible rfl)) ?_;refine dvz (.move rfl)<|dwz (.fieldAddr rfl rfl) ?_;apply qD;rfl;rfl;rfl;apply wantYes;rfl;rfl;(with_reducible rfl);rfl;apply zP;exact zN;exact ask_rd2;apply qD;rfl;rfl;rfl;apply wantYes;rfl;rfl;(with_reducible rfl);rfl;apply zO;apply zQ;apply zP;exact zN;exact ask_rdW)
    ((refine DW.manyW (vs':=[a.ws,a.dt]) rfl rfl rfl (by (first|exact zC|(apply wantYes;rfl;rfl;(first|with_reducible rfl|(focus (simp only [Bool.not_true,Bool.not_false];done))|(with_reducible assumption)|(focus (simp only [Bool.not_true,Bool.not_false];with_reducible assumption)))))) rfl inferInstance (by (repeat (first|exact ArgsOk.nil|(apply ArgsOk.cons;rfl)))) (ask_blocks ha) (.ext ha.row rfl (.ext hdt rfl .nil)) (fun w hb _=>asked_calls a w (ha.bel hb)) ?_))
    rintro v11 g11 ⟨u11,rfl,hu11⟩
    have hu11':=hu11
    unfold wM at hu11'
    obtain ⟨q11,k11,rfl⟩:=id hu11'.form
    have hEq:∀ w',(∀ q∈gu,w'.heap[q.1]?=some q.2)→(∀ q∈g11,w'.heap[q.1]?=some q.2)→Calls Tryz.prog 30 #[.slice q2 (a.l.take 9).length k2,.slice q11 (a.l.take 9).length k11] w' (Ret w' (.bool true)):=fun w' h h3=>by
     have h:=sEqW_calls (a.l.take 9) (a.l.take 9) hM hM _ _ w' (wM_at hu h) (wM_at hu11 h3)
     rwa [decide_eq_true rfl] at h
    ((try simp only [tsOf_cons,tsOf_nil,tsOf_app]);refine dwz (.field1 inferInstance inferInstance rfl rfl) ?_;apply DW.nil;simp only [fsOf_cons,fsOf_nil,fsOf_app,fsOf_tsOf,fsOf_new,fsOf_tag,fsOf_mark])
    try simp only [fsOf_mark,fsOf_cons,fsOf_nil,fsOf_app,fsOf_tsOf,fsOf_new,fsOf_tag,List.append_eq,List.nil_append]
    (refine gTz ?_;apply zS;rfl;rfl;infer_instance;exact .cons rfl (.cons rfl .nil);intro w _;rename_i hst;(exact hEq w (st_ou hst (by (repeat (first|exact qM _|exact qP _ _|apply qQ|apply List.sublist_append_of_sublist_right)))) (st_ou hst (by (repeat (first|exact qM _|exact qP _ _|apply qQ|apply List.sublist_append_of_sublist_right)))));refine gTz ?_;refine lvz (.notT rfl (by with_reducible rfl)) ?_;refine pFz<|nNz<|cFz<|zJ<|blkN<|thenN<|zL ?_;refine lvz (.addZL rfl rfl (by decide) (by omega)) ?_;refine vMz ?_;apply zV)
    apply thenX
    exact ⟨rfl,m+1,⟨hlt,h8⟩,by omega,⟨rfl,rfl,rfl,rfl,rfl,rfl,rfl,rfl,trivial⟩,by (apply List.sublist_append_of_sublist_right;apply qQ;apply List.sublist_append_of_sublist_right;apply qQ;exact qM _)⟩
  ·obtain rfl:m=8:=by omega
   (refine sRz ?_;refine lvz (.lssT rfl rfl (by omega)) ?_;refine nNz<|zI<|cTz<|zJ<|thenN<|zI<|zM<|sRz<|vMz ?_;refine lvz (.indexAddrSL rfl rfl (by decide) (by omega)) ?_;apply LW.load;rfl;rfl;exact Known.ext (by assumption) (by simp);assumption;apply zU;rfl;intro _;refine vAz ?_;apply zR;rfl;rfl;apply qA;apply ask_wrW;rfl;exact hak;exact had;refine nNz<|zI<|sRz<|vMz ?_;refine lvz (.eqT rfl rfl (by omega)) ?_;refine nNz<|cTz<|CW.exit<|thenE<|blkO rfl<|thenE<|thenE<|blkE rfl<|thenN<|sRz<|vAz<|nNz<|zK ?_)
   (apply finR;exact .inl rfl;rfl;rfl;rfl;apply zD;exact zG rfl;exact zF)
   rfl
 ·(refine sRz ?_;refine lvz (.lssF rfl rfl (by omega)) ?_;refine nNz<|zI<|cFz<|CW.exit<|thenE<|thenE<|blkE rfl<|thenN<|sRz<|vAz<|nNz<|zK ?_)
  (apply finR;exact .inl rfl;rfl;rfl;rfl;apply zD;exact zG rfl;exact zF)
  rfl
end
end Go.Proofs.YtpgdnfgjbhdbpaaGreatDoor
namespace Go.Proofs.YtpgdnfgjbhdbpaaGreatDoor
open Go Go.RowKit SL
open Go.ChangeShapes Go.WideShapes
set_option linter.unusedVariables false
section op
variable {w : World}
theorem pair_is {f r:Ty} {cs:List Value} (h:(Ty.pair f r).is w cs):∃ a b,cs=a++b∧f.is w a∧r.is w b:=⟨_,_,(List.take_append_drop _ cs).symm,h.1,h.2⟩
theorem is_u64 {cs:List Value} (h:(Ty.int .u64).is w cs):∃ n:Nat,n < 18446744073709551616∧cs=[.int .u64 (n:Int)]:=by
 obtain ⟨n,rfl,hn⟩:=h
 obtain ⟨k,rfl,hk⟩:=wf_u64 hn
 exact ⟨k,hk,rfl⟩
theorem is_byte {cs:List Value} (h:(Ty.int .u8).is w cs):∃ n:Nat,cs=[.int .u8 (n:Int)]:=by
 obtain ⟨u,_,rfl⟩:=is_u8 h
 exact ⟨u.toNat,rfl⟩
def tyBs:Ty:=.sl (.int .u8)
end op
end Go.Proofs.YtpgdnfgjbhdbpaaGreatDoor
namespace Go.Proofs.YtpgdnfgjbhdbpaaGreatDoor
open Go Go.RowKit SL
open Go.ChangeShapes Go.WideShapes
set_option linter.unusedVariables false
section op
variable {H : Type} {enc : TypeId × Value → H} {P : Program} {w W : World} {held : Bool} {r : Reach} {base : Nat} {T E : TypeId} {v : Value} {d : DataW H} {ps : List MemPlace}
def aggB (P:Program) (T:TypeId):Bool:=match P.underlying T with|some (.struct _)|some (.array _ _)=>true|_=>false
theorem open_agg {α:Type} {g:α→List Value} {Q:α→Prop} {e:Ty} (hs:aggB P T=true) (hT:e.ok P (.inl T)=true) (he:∀ cs',e.is w cs'→∃ x,Q x∧cs'=g x)
  (hv:Value.okWide P W r base T v) (h:DataW.Trod enc P w 0 (fun _=>true) held T v d ps):∃ x:α,Q x∧v=.agg (g x).toArray:=by
 obtain ⟨cs,rfl⟩:∃ cs,v=.agg cs:=by
  unfold aggB at hs
  unfold Value.okWide at hv
  split at hs
  ·rename_i fs hu
   simp only [hu] at hv
   obtain ⟨cs,h1,_⟩:=hv
   exact ⟨cs,h1⟩
  ·rename_i n e hu
   simp only [hu] at hv
   obtain ⟨cs,h1,_⟩:=hv
   exact ⟨cs,h1⟩
  ·cases hs
 obtain ⟨x,hx,he2⟩:=he _ (open_one hT h)
 exact ⟨x,hx,congrArg Value.agg (Array.toList_inj.1 he2)⟩
theorem is_wrow {cs:List Value} (h:(Ty.sl .word).is w cs):∃ x:Value × List Nat,(RowAt w 4 x.1 x.2.length (wcs x.2)∧∀ u∈x.2,u < M256)∧cs=[x.1]:=by
 obtain ⟨v,l,h1,h2,h3⟩:=sl_rows (g:=fun u:Nat=>(wc u).toList) (Q:=fun u=>u < M256) (sz:=4) rfl (by decide) (fun _ h=>is_word h) h
 exact ⟨(v,l),⟨h3,fun u hu=>(h2 u hu).1⟩,h1⟩
theorem is_i64 {cs:List Value} (h:(Ty.int .i64).is w cs):∃ n:Int,cs=[.int .i64 n]:=by
 obtain ⟨n,rfl,_⟩:=h
 exact ⟨n,rfl⟩
def tySc:Ty:=.pair (.sl .word) (.pair tyBs .unit)
def tyFr:Ty:=.pair tyBs (.pair (.int .i64) (.pair tySc (.pair (.int .u64) (.pair (.int .u64) (.pair (.int .u64) (.pair .word (.pair tyBs (.pair tyBs (.pair .bool .unit)))))))))
theorem is_fr {cs:List Value} (h:tyFr.is w cs):∃ p:FrV × FrL,(FrRows w p.1 p.2∧FrNum p.1 p.2)∧cs=frc p.1:=by
 obtain ⟨_,_,rfl,h0,h⟩:=pair_is h
 obtain ⟨_,_,rfl,h1,h⟩:=pair_is h
 obtain ⟨_,_,rfl,h2,h⟩:=pair_is h
 obtain ⟨_,_,rfl,h3,h⟩:=pair_is h
 obtain ⟨_,_,rfl,h4,h⟩:=pair_is h
 obtain ⟨_,_,rfl,h5,h⟩:=pair_is h
 obtain ⟨_,_,rfl,h6,h⟩:=pair_is h
 obtain ⟨_,_,rfl,h7,h⟩:=pair_is h
 obtain ⟨_,_,rfl,h8,h⟩:=pair_is h
 obtain ⟨_,_,rfl,h9,h⟩:=pair_is h
 obtain rfl:_=[]:=h
 obtain ⟨_,_,rfl,ha,h2⟩:=pair_is h2
 obtain ⟨_,_,rfl,hb,h2⟩:=pair_is h2
 obtain rfl:_=[]:=h2
 obtain ⟨⟨v0,l0⟩,b0,rfl⟩:=is_bytes h0
 obtain ⟨n1,rfl⟩:=is_i64 h1
 obtain ⟨⟨va,la⟩,⟨ba,ca⟩,rfl⟩:=is_wrow ha
 obtain ⟨⟨vb,lb⟩,bb,rfl⟩:=is_bytes hb
 obtain ⟨n3,b3,rfl⟩:=is_u64 h3
 obtain ⟨n4,b4,rfl⟩:=is_u64 h4
 obtain ⟨n5,b5,rfl⟩:=is_u64 h5
 obtain ⟨n6,b6,rfl⟩:=is_word h6
 obtain ⟨⟨v7,l7⟩,b7,rfl⟩:=is_bytes h7
 obtain ⟨⟨v8,l8⟩,b8,rfl⟩:=is_bytes h8
 obtain ⟨f9,rfl⟩:=h9
 exact ⟨(⟨v0,n1,va,vb,n3,n4,n5,n6,v7,v8,f9⟩,⟨l0,la,lb,l7,l8⟩),⟨⟨b0,ba,bb,b7,b8⟩,⟨b3,b4,b5,b6,ca⟩⟩,rfl⟩
end op
end Go.Proofs.YtpgdnfgjbhdbpaaGreatDoor
namespace Go.Proofs.YtpgdnfgjbhdbpaaGreatDoor
open Go Go.RowKit SL
open Go.ChangeShapes Go.WideShapes
set_option linter.unusedVariables false
section op
variable {w : World}
def tyAk:Ty:=.pair (.int .i64) (.pair (.int .u8) (.pair (.sl .word) (.pair tyBs .unit)))
theorem is_ak {cs:List Value} (h:tyAk.is w cs):∃ a:AkA,AkAt w a∧cs=akp a:=by
 obtain ⟨_,_,rfl,h0,h⟩:=pair_is h
 obtain ⟨_,_,rfl,h1,h⟩:=pair_is h
 obtain ⟨_,_,rfl,h2,h⟩:=pair_is h
 obtain ⟨_,_,rfl,h3,h⟩:=pair_is h
 obtain rfl:_=[]:=h
 obtain ⟨n0,rfl⟩:=is_i64 h0
 obtain ⟨n1,rfl⟩:=is_byte h1
 obtain ⟨⟨v2,l2⟩,⟨b2,c2⟩,rfl⟩:=is_wrow h2
 obtain ⟨⟨v3,l3⟩,b3,rfl⟩:=is_bytes h3
 exact ⟨⟨n0,n1,v2,l2,v3⟩,⟨b2,⟨l3,b3⟩,c2⟩,rfl⟩
def tyHow:Ty:=.pair .bool (.pair .bool (.pair .bool .unit))
theorem is_how {cs:List Value} (h:tyHow.is w cs):∃ x:Bool × Bool × Bool,True∧cs=[Value.bool x.1,.bool x.2.1,.bool x.2.2]:=by
 obtain ⟨_,_,rfl,h0,h⟩:=pair_is h
 obtain ⟨_,_,rfl,h1,h⟩:=pair_is h
 obtain ⟨_,_,rfl,h2,h⟩:=pair_is h
 obtain rfl:_=[]:=h
 obtain ⟨f0,rfl⟩:=h0
 obtain ⟨f1,rfl⟩:=h1
 obtain ⟨f2,rfl⟩:=h2
 exact ⟨(f0,f1,f2),trivial,rfl⟩
end op
theorem var_heap {P:Program} {w:World} {n:String} {g:Nat} {cs:Array Value} (hg:P.globalNamed n=some g) (h:w.var? P n=some cs):∃ E fr,w.heap[g]?=some (.cells cs E fr):=by
 unfold World.var? at h
 rw [hg] at h
 simp only [Option.bind_some] at h
 split at h
 ·rename_i cs' E fr hh
  cases h
  exact ⟨E,fr,hh⟩
 ·cases h
theorem tab_at {P:Program} {W:World} {l:List (String × DataW Unit)} {n:String} {g T E m:Nat} {k:IntKind} {zs:List Int} (h:laidMet P l W) (hm:(n,Lib.tabData k zs)∈l) (hg:P.globalNamed n=some g) (hT:(P.globals[g]?).map (·.type)=some T) (hu:P.underlying T=some (.array m E)) (he:P.underlying E=some (.int k)) (hce:P.cellsOf E=1) (hct:P.cellsOf T=m) :
  ∃ E' fr,W.heap[g]?=some (.cells (zs.map fun z=>Value.int k z).toArray E' fr):=by
 obtain ⟨g',t',cs,fuel,p,h1,h2,h3,h4⟩:=Lib.laidMet.reads h hm
 obtain rfl:g=g':=Option.some.inj (hg.symm.trans h1)
 obtain rfl:T=t':=Option.some.inj (hT.symm.trans h2)
 have hc:=Lib.cells_of_tab hu he hce hct h4
 obtain ⟨E',fr,hh⟩:=var_heap hg h3
 refine ⟨E',fr,?_⟩
 rw [hh,← hc]
theorem laid_at {l : List (String × DataW Unit)} {W : World} (h : laidMetH Tryz.prog l W) (h0 : (l.all fun x => x.2.handleName?.isNone) = true) (h1 : ("sheafer/sponge.turns", Lib.tabData .i64 (SK.turnL.map fun (n : Nat) => (n : Int))) ∈ l) (h2 : ("sheafer/sponge.numbers", Lib.tabData .u64 (SK.numL.map fun (n : Nat) => (n : Int))) ∈ l) : SK.TurnAt W ∧ SK.NumAt W := by
 rw [MakeChecks.laidMetH_plain _ _ _ h0] at h
 exact ⟨tab_at (T:=199) (E:=3) (m:=25) h h1 (by kernel_rfl) (by kernel_rfl) (by kernel_rfl) (by kernel_rfl) (by kernel_rfl) (by kernel_rfl),tab_at (T:=174) (E:=26) (m:=24) h h2 (by kernel_rfl) (by kernel_rfl) (by kernel_rfl) (by kernel_rfl) (by kernel_rfl) (by kernel_rfl)⟩
theorem laid_begins {W:World} (h:laidMetH Tryz.prog Rows.callBeginsRow.laid W):SK.TurnAt W∧SK.NumAt W:=laid_at h (by kernel_rfl) (List.Mem.tail _ (List.Mem.tail _ (List.Mem.tail _ (List.Mem.head _)))) (List.Mem.tail _ (List.Mem.tail _ (List.Mem.tail _ (List.Mem.tail _ (List.Mem.head _)))))
end Go.Proofs.YtpgdnfgjbhdbpaaGreatDoor
