/-
  Texts that were built apart, put behind one another (3 of 4): NA NB NC ND NE NF NG Smy Smz NH NI NJ NK NL Sna NM NN NO G12 NP OQ OR OS OT OU NQ NR NS NT.
  Conditions: none.
-/
import Derived.Test.YtpgdnfgjbhdbpaaGreatDoorZ2
import Derived.Laws.IdiomCopy
namespace Go.Proofs.YtpgdnfgjbhdbpaaGreatDoor
open Go Go.RowKit SL
set_option maxRecDepth 8000
set_option maxHeartbeats 4000000
set_option linter.unusedSimpArgs false
set_option linter.unusedVariables false
attribute [local irreducible] SL.CW SL.LW SL.DW Calls SL.Ret SL.RetG SL.beginQ SL.roundQ SL.rangeQ SL.RW SL.AnyW SL.thenQ SL.thenC SL.thenW SL.blkQ SL.finQ SL.ValP SL.NewP SL.SetP SL.CallP SL.Rd SL.Wr SL.Known
section
def catI {α:Type} (env:List (List α)) (xs:List Nat) (tail:List α):List α:=xs.foldr (fun i acc=>env.getD i []++acc) tail
theorem perm_ix {α:Type} (env:List (List α)) {xs ys:List Nat} (tail:List α) (h:xs.isPerm ys=true):(catI env xs tail).Perm (catI env ys tail):=by
 have hp:xs.Perm ys:=List.isPerm_iff.1 h
 clear h
 unfold catI
 induction hp with
 |nil=>exact .refl _
 |cons x _ ih=>exact List.Perm.append_left _ ih
 |swap x y l =>
  simp only [List.foldr_cons,← List.append_assoc]
  exact List.Perm.append_right _ List.perm_append_comm
 |trans _ _ ih1 ih2=>exact ih1.trans ih2
def SubP {α:Type} (l l':List α):Prop:=∃ m,l.Sublist m∧m.Perm l'
theorem catI_tail {α:Type} (env:List (List α)) (zs:List Nat) (tail:List α):tail.Sublist (catI env zs tail):=by
 induction zs with
 |nil=>exact .refl _
 |cons z zs ih=>exact List.Sublist.trans ih (List.sublist_append_right _ _)
theorem catI_app {α:Type} (env:List (List α)) (xs zs:List Nat) (tail:List α):(catI env xs tail).Sublist (catI env (xs++zs) tail):=by
 induction xs with
 |nil=>exact catI_tail env zs tail
 |cons x xs ih=>exact List.Sublist.append_left ih _
theorem subp_ix {α:Type} (env:List (List α)) {xs ys:List Nat} (tail:List α) (h:(xs++ys.filter fun y=>!xs.contains y).isPerm ys=true):SubP (catI env xs tail) (catI env ys tail):=⟨_,catI_app env xs _ tail,perm_ix env tail h⟩
theorem SubP.st {w0 w:World} {S:List Nat} {fs gs:Fs} (h:SubP gs fs) (hs:St w0 S fs w):St w0 S gs w:=by
 obtain ⟨m,h1,h2⟩:=h
 exact st_sub (hs.perm h2) h1
theorem LW.subP {C:Cu} {ops:Array Oper} {Q:Post} {l:List Oper} {e:Env} {fs fs':Fs} (hp:SubP fs' fs) (h:LW C ops Q l e fs'):LW C ops Q l e fs:=by
 unfold LW at h ⊢
 exact fun a w hs=>h a w ⟨hs.env,hp.st hs.st⟩
def anyO (K:Out):Out:=fun x fs'=>∃ fs'',K x fs''∧SubP fs'' fs'
theorem calls_anyO {P:Program} {f:FuncId} {args:Array Value} {w0 w:World} {S:List Nat} {K:Out} (h:Calls P f args w (fun x w'=>∃ fs',anyO K x fs'∧St w0 S fs' w')):Calls P f args w (fun x w'=>∃ fs',K x fs'∧St w0 S fs' w') :=
 Calls.mono h fun x w' ⟨fs',⟨fs'',hk,hp⟩,hst⟩=>⟨fs'',hk,hp.st hst⟩
def FrO (f:FrV) (L:FrL) (gs:Fs):Prop:=∃ g1 g2 g3 g4 g5,(g1++(g2++(g3++(g4++g5)))).Perm gs∧bM L.cl f.code g1∧wM L.ws f.stk g2∧bM L.ms f.mem g3∧bM L.il f.inp g4∧bM L.bl f.back g5
theorem bM_at {l:List UInt8} {v:Value} {g:Fs} {w:World} (h:bM l v g) (hw:∀ p∈g,w.heap[p.1]?=some p.2):RowAt w 1 v l.length (ucs l):=IsRow.us h hw (qM _)
theorem wM_at {l:List Nat} {v:Value} {g:Fs} {w:World} (h:wM l v g) (hw:∀ p∈g,w.heap[p.1]?=some p.2):RowAt w 4 v l.length (wcs l):=IsRow.us h hw (qM _)
theorem FrO.rows {f:FrV} {L:FrL} {gs:Fs} {w:World} (h:FrO f L gs) (hw:∀ p∈gs,w.heap[p.1]?=some p.2):FrRows w f L:=by
 obtain ⟨g1,g2,g3,g4,g5,hp,h1,h2,h3,h4,h5⟩:=h
 replace hw:∀ p∈g1++(g2++(g3++(g4++g5))),w.heap[p.1]?=some p.2:=fun p h=>hw p (hp.subset h)
 exact ⟨bM_at h1 fun p hp=>hw p (by simp [hp]),wM_at h2 fun p hp=>hw p (by simp [hp]),bM_at h3 fun p hp=>hw p (by simp [hp]),bM_at h4 fun p hp=>hw p (by simp [hp]),bM_at h5 fun p hp=>hw p (by simp [hp])⟩
theorem FrO.st {f:FrV} {L:FrL} {gs fs:Fs} {w0 w:World} {S:List Nat} (h:FrO f L gs) (hs:St w0 S fs w) (hg:∀ p∈gs,p∈fs):FrRows w f L:=h.rows fun p hp=>(hs.own p (hg p hp)).2
attribute [local irreducible] SL.inP
def FrL.setM (L:FrL) (ms:List UInt8):FrL:={ L with ms:=ms }
theorem FrO.setSc {f:FrV} {L:FrL} {g1 g2 g3 g4 g5 s1 s2:Fs} {ms:List UInt8} {s k:Value} {g:Nat} (h:bM L.cl f.code g1∧wM L.ws f.stk g2∧bM L.ms f.mem g3∧bM L.il f.inp g4∧bM L.bl f.back g5) (h1:wM L.ws s s1) (h2:bM ms k s2) :
  FrO { f with gas:=g,stk:=s,mem:=k } (L.setM ms) (g1++(s1++(s2++(g4++g5)))):=⟨g1,s1,s2,g4,g5,.refl _,h.1,h1,h2,h.2.2.2.1,h.2.2.2.2⟩
theorem reach_ok (w0:World) (S:List Nat) (b:Nat) (m:MaV) (L:FrL) (gs:Fs) (a n:Nat) (ha:a < M256) (hn0:0 < n) (hn:n < M256) (hE2:endV a n≤1024) (hok:okSc L.ws.length L.ms.length) (hg:m.fr.gas < 18446744073709551616) (hfr:FrO m.fr L gs) (rest:Fs) (w:World) (hs:St w0 S ((b,maO m)::(gs++rest)) w)
  (hcost:memV L.ms.length (endV a n)≤m.fr.gas) :
  Calls Tryz.prog 146 #[.pointer (some ⟨b,0,none⟩),wv a,wv n] w (fun x w'=>∃ fs',(x=.returned (.tuple #[.int .u64 (a:Int),.int .u64 (n:Int)])∧∃ s k gs',FrO { m.fr with gas:=m.fr.gas - memV L.ms.length (endV a n),stk:=s,mem:=k } (L.setM (L.ms++List.replicate (upW (endV a n) - L.ms.length) 0)) gs'∧fs'=(b,maO ((m.setGas (m.fr.gas - memV L.ms.length (endV a n))).setSc s k))::(gs'++rest))∧St w0 S fs' w'):=by
 obtain ⟨g1,g2,g3,g4,g5,hp,hall⟩:=hfr
 replace hs:St w0 S ((b,maO m)::(g1++(g2++(g3++(g4++g5)))++rest)) w:=hs.perm (List.Perm.cons _ (hp.append_right rest))
 clear hp
 obtain ⟨_,_,hm3,_,_⟩:=id hall
 unfold bM at hm3
 obtain ⟨p2,c2,hmv⟩:=hm3.form
 have hk:L.ms.length≤1024:=hok.2.1
 have hmem:∀ {E fr},Rd Tryz.prog 22 (.cells (mca m) E fr) 3 (.slice p2 L.ms.length c2):=fun {E fr}=>by rw [← hmv];exact ma_rd3
 have hEnd0:=End_calls a n ha hn
 have hMem0:=Memory_calls L.ms.length (endV a n) (by omega) (by omega)
 have hEa:a+n≤endV a n:=by
  unfold endV at hE2 ⊢
  rw [if_neg (by omega)] at hE2 ⊢
  unfold NOG at hE2 ⊢
  omega
 have hSa0:=Small_calls a ha
 have hSn0:=Small_calls n hn
 obtain ⟨E,hE⟩:∃ E,E=endV a n:=⟨_,rfl⟩
 rw [← hE] at hEnd0 hMem0 hE2 hcost hEa ⊢
 clear hE
 obtain ⟨c,hc⟩:∃ c,c=memV L.ms.length E:=⟨_,rfl⟩
 rw [← hc] at hMem0 hcost ⊢
 clear hc
 rw [if_pos (by omega),decide_eq_true (by omega)] at hSa0 hSn0
 have hEnd:∀ w,Calls Tryz.prog 158 #[wv a,wv n] w (Ret w (.int .u64 (E:Int))):=hEnd0
 have hMem:∀ w,Calls Tryz.prog 159 #[.int .u64 (L.ms.length:Int),.int .u64 (E:Int)] w (Ret w (.int .u64 (c:Int))):=hMem0
 have hSa:∀ w,Calls Tryz.prog 121 #[wv a] w (Ret w (.tuple #[.int .u64 (a:Int),.bool true])):=hSa0
 have hSn:∀ w,Calls Tryz.prog 121 #[wv n] w (Ret w (.tuple #[.int .u64 (n:Int),.bool true])):=hSn0
 have hsp:spendM m [c]=some (m.setGas (m.fr.gas - c)):=by unfold spendM;rw [if_pos (by simp;omega)];simp
 refine calls_anyO (calls_inlineP (K:=anyO fun x fs'=>x=.returned (.tuple #[.int .u64 (a:Int),.int .u64 (n:Int)])∧∃ s k gs',FrO { m.fr with gas:=m.fr.gas - c,stk:=s,mem:=k } (L.setM (L.ms++List.replicate (upW E - L.ms.length) 0)) gs'∧fs'=(b,maO ((m.setGas (m.fr.gas - c)).setSc s k))::(gs'++rest)) (args:=[_,_,_]) Tryz.func146 rfl Tryz.ntmps146 rfl ?_ hs)
 (refine sRz ?_;apply zT;rfl;rfl;intro _;apply zT;rfl;rfl;intro _;refine vAz<|vAz<|nSz<|ldz rfl (.tail .head) (qF rfl)<|ldz rfl .head (qF rfl) ?_;apply zS;rfl;rfl;infer_instance;exact .cons rfl (.cons rfl .nil);intro w _;exact hEnd w;refine vAz<|nSz<|vMz<|vMz<|vNz<|vFz<|vFz<|vFz<|ldz rfl (.tail (.tail .head)) hmem<|lvz (.lenR rfl inferInstance rfl) ?_;refine lvz (.convN rfl (by omega) (by omega)) ?_;refine vMz ?_;apply zS;rfl;rfl;infer_instance;exact .cons rfl (.cons rfl .nil);intro w _;exact hMem w;apply LW.lay1;rfl;infer_instance;infer_instance;rfl;rfl;rfl;rfl;rfl;rfl;intro _)
 rename_i b4 b5 b29
 refine LW.perm (fs':=(b,maO m)::(b29,.cells #[.int .u64 (c:Int)] 26 (0,0))::(b5,.cells (wc n) 29 (0,0))::(b4,.cells (wc a) 29 (0,0))::(g1++(g2++(g3++(g4++g5)))++rest)) (by exact (List.perm_middle (l₁:=[_,_,_])).symm) ?_
 refine LW.callP (K:=MaK b m (spendM m [c]) _) rfl rfl inferInstance (by (exact .cons rfl (.cons rfl .nil))) rfl (fun fs h=>?_) (fun w' hst=>spend_calls w0 S b m [c] hg _ _ w' hst (fun w2 h2=>row_cells (h2.own (b29,_) (List.Mem.tail _ (List.Mem.head _))).2 rfl rfl (by simp [maxLen]))) ?_ ?_
 ·rw [hsp] at h;cases h.1
 ·rintro v fs' h
  rw [hsp] at h
  obtain ⟨h,rfl⟩:=h
  have hmem:∀ {E fr},Rd Tryz.prog 22 (.cells (mca (m.setGas (m.fr.gas - c))) E fr) 3 (.slice p2 L.ms.length c2):=fun {E fr}=>by rw [← hmv];exact ma_rd3 (m:=m.setGas (m.fr.gas - c))
  (refine nNz<|zI<|sRz<|vMz ?_;refine lvz (.eqF rfl rfl (by omega)) ?_;refine nNz<|cFz<|zJ<|thenN<|sRz<|vMz<|vNz<|vFz<|vFz<|ldz rfl .head ma_rd2<|vMz ?_)
  (apply LW.callR;rfl;rfl;infer_instance;exact .cons rfl (.cons rfl (.cons rfl .nil));intro w hs)
  exact grow_ok L.ws L.ms E _ _ w ((FrO.st (f:=m.fr) (L:=L) (gs:=g1++(g2++(g3++(g4++g5)))) ⟨g1,g2,g3,g4,g5,.refl _,hall⟩ hs (fun p hp=>qO _ (by simp only [List.mem_cons,List.mem_append] at hp ⊢;simp [hp]))).s) ((FrO.st (f:=m.fr) (L:=L) (gs:=g1++(g2++(g3++(g4++g5)))) ⟨g1,g2,g3,g4,g5,.refl _,hall⟩ hs (fun p hp=>qO _ (by simp only [List.mem_cons,List.mem_append] at hp ⊢;simp [hp]))).m) hok (by omega) hE2
  rintro vo gso ⟨o,rfl,s1,m1,gg1,gg2,rfl,rfl,hw1,hb1⟩
  have hw1':=hw1
  have hb1':=hb1
  unfold wM at hw1'
  unfold bM at hb1'
  obtain ⟨q1,k1,rfl⟩:=hw1'.form
  obtain ⟨q2,k2,rfl⟩:=hb1'.form
  (refine vMz ?_;refine vEz ?_;refine vEz ?_;apply zU;rfl;intro _;refine zR rfl rfl .head (.whole rfl rfl rfl)<|vAz<|nSz<|vMz ?_;refine lvz (.eqT rfl rfl (by omega)) ?_;apply zS;rfl;rfl;infer_instance;exact .cons rfl .nil;intro w _;exact need_true w;refine nSz<|vMz<|ldz rfl .head (qF rfl)<|vNz<|vFz<|vFz ?_;refine zR rfl rfl (.tail (.app .head)) (ma_wr2 rfl rfl rfl rfl)<|nSz<|ldz rfl (.tail (.app (.tail (.tail (.tail .head))))) (qF rfl) ?_;apply zS;rfl;rfl;infer_instance;exact .cons rfl .nil;intro w _;exact hSa w;refine vMz ?_;refine vEz ?_;refine vEz ?_;refine vAz<|vAz<|nSz<|ldz rfl (.tail (.app (.tail (.tail .head)))) (qF rfl) ?_;apply zS;rfl;rfl;infer_instance;exact .cons rfl .nil;intro w _;exact hSn w;refine vMz ?_;refine vEz ?_;refine vEz ?_;refine vAz<|vAz<|nSz<|vMz<|vMz<|vAz<|vAz<|nNz<|zK ?_)
  refine inPI (.inl rfl) .nil rfl (by (apply zD;exact zG rfl;apply zD;exact zG rfl;exact zF)) rfl ⟨_,⟨rfl,_,_,_,FrO.setSc hall hw1 hb1,rfl⟩,?_⟩
  simp only [List.append_assoc,List.cons_append,List.nil_append]
  exact subp_ix [[_],[_],gg2,gg1,[_],[_],[_],g1,g2,g3,g4,g5] (xs:=[4,7,3,2,10,11]) (ys:=[0,2,3,4,1,5,6,7,8,9,10,11]) rest rfl
 ·rintro ch fs' h
  rw [hsp] at h;cases h.1
def costR (L:FrL) (a n:Nat):Nat:=memV L.ms.length (endV a n)
def memR (L:FrL) (a n:Nat):FrL:=L.setM (L.ms++List.replicate (upW (endV a n) - L.ms.length) 0)
def frR (f:FrV) (L:FrL) (a n:Nat) (s k:Value):FrV:={ f with gas:=f.gas - costR L a n,stk:=s,mem:=k }
def MaV.setF (m:MaV) (f:FrV):MaV:={ m with fr:=f }
def ReachK (b:Nat) (m:MaV) (L:FrL) (gs:Fs) (a n:Nat) (rest:Fs):Out:=fun x fs' =>
 (m.fr.gas < costR L a n∧x=.panicked failC∧fs'=(b,maO m)::(gs++rest)) ∨
 (costR L a n≤m.fr.gas∧∃ s k gs',x=.returned (.tuple #[.int .u64 ((if n=0 then 0 else a:Nat):Int),.int .u64 (n:Int)])∧FrO (frR m.fr L a n s k) (memR L a n) gs'∧fs'=(b,maO (m.setF (frR m.fr L a n s k)))::(gs'++rest))
theorem memV_le {k E g:Nat} (hk:k≤1024) (hg:g≤20000) (h:memV k E≤g):E≤1024:=by
 unfold memV at h
 split at h
 ·omega
 ·split at h<;>omega
theorem endV_lt (a n:Nat):endV a n < 18446744073709551616:=by
 unfold endV NOG
 split<;>omega
theorem reach_calls (w0:World) (S:List Nat) (b:Nat) (m:MaV) (L:FrL) (gs:Fs) (a n:Nat) (ha:a < M256) (hn:n < M256) (hok:okSc L.ws.length L.ms.length) (hg:m.fr.gas≤20000) (hfr:FrO m.fr L gs) (rest:Fs) (w:World) (hs:St w0 S ((b,maO m)::(gs++rest)) w) :
  Calls Tryz.prog 146 #[.pointer (some ⟨b,0,none⟩),wv a,wv n] w (fun x w'=>∃ fs',ReachK b m L gs a n rest x fs'∧St w0 S fs' w'):=by
 have hk:L.ms.length≤1024:=hok.2.1
 have hm:∃ p2 c2,m.fr.mem=.slice p2 L.ms.length c2:=by
  obtain ⟨g1,g2,g3,g4,g5,_,h1,h2,h3,h4,h5⟩:=hfr
  unfold bM at h3
  exact h3.form
 obtain ⟨p2,c2,hm⟩:=hm
 rcases Nat.lt_or_ge m.fr.gas (costR L a n) with hlt|hge
 ·refine Calls.mono (reach_gas w0 S b m a n L.ms.length p2 c2 ha hn (endV_lt a n) hk (by omega) hm (gs++rest) w hs hlt) ?_
  rintro x w' ⟨fs',⟨rfl,ex,rfl⟩,hst⟩
  exact ⟨_,.inl ⟨hlt,rfl,rfl⟩,st_sub hst (List.Sublist.cons_cons _ (List.sublist_append_right _ _))⟩
 ·rcases Nat.eq_zero_or_pos n with rfl|hn0
  ·refine Calls.mono (reach_none w0 S b m a 0 L.ms.length rfl p2 c2 ha hk (by omega) hm (gs++rest) w hs) ?_
   rintro x w' ⟨fs',⟨rfl,ex,rfl⟩,hst⟩
   have he:endV a 0=0:=by simp [endV]
   have hc:costR L a 0=0:=by unfold costR;rw [he];simp [memV]
   have hmr:memR L a 0=L:=by unfold memR FrL.setM;rw [he];simp [upW]
   have hfr2:frR m.fr L a 0 m.fr.stk m.fr.mem=m.fr:=by unfold frR;rw [hc];rfl
   refine ⟨_,.inr ⟨hge,m.fr.stk,m.fr.mem,gs,rfl,?_,?_⟩,st_sub hst (List.Sublist.cons_cons _ (List.sublist_append_right ex _))⟩
   ·rw [hmr,hfr2];exact hfr
   ·rw [hfr2];rfl
  ·refine Calls.mono (reach_ok w0 S b m L gs a n ha hn0 hn (memV_le hk hg hge) hok (by omega) hfr rest w hs hge) ?_
   rintro x w' ⟨fs',⟨rfl,s,k,gs',h1,rfl⟩,hst⟩
   refine ⟨_,.inr ⟨hge,s,k,gs',?_,h1,rfl⟩,hst⟩
   rw [if_neg (by omega)]
end
section
def FrV.rows (f:FrV) (c s m i b:Value):FrV:=⟨c,f.pc,s,m,f.gas,f.self,f.frm,f.val,i,b,f.stat⟩
section wr
variable {P : Program} {T E : TypeId} {code stk mem inp back z : Value} {pc : Int} {gas self frm val n c : Nat} {stat : Bool} {p : Option Addr} {g : Nat}
theorem fr_wr0 [InfoI P T 1 z]:Wr P T (.cells (fra ⟨code,pc,stk,mem,gas,self,frm,val,inp,back,stat⟩) E (0,0)) (0+0) (.slice p n c) (.cells (fra ⟨.slice p n c,pc,stk,mem,gas,self,frm,val,inp,back,stat⟩) E (0,0)):=Wr.cells (n:=1) (z:=z) rfl rfl (by show 0+0+1≤14;omega) rfl
theorem fr_wr2 [InfoI P T 1 z]:Wr P T (.cells (fra ⟨code,pc,stk,mem,gas,self,frm,val,inp,back,stat⟩) E (0,0)) (0+2+0) (.slice p n c) (.cells (fra ⟨code,pc,.slice p n c,mem,gas,self,frm,val,inp,back,stat⟩) E (0,0)):=Wr.cells (n:=1) (z:=z) rfl rfl (by show 0+2+0+1≤14;omega) rfl
theorem fr_wr3 [InfoI P T 1 z]:Wr P T (.cells (fra ⟨code,pc,stk,mem,gas,self,frm,val,inp,back,stat⟩) E (0,0)) (0+2+1) (.slice p n c) (.cells (fra ⟨code,pc,stk,.slice p n c,gas,self,frm,val,inp,back,stat⟩) E (0,0)):=Wr.cells (n:=1) (z:=z) rfl rfl (by show 0+2+1+1≤14;omega) rfl
theorem fr_wr4 {x:Nat} [InfoI P T 1 z]:Wr P T (.cells (fra ⟨code,pc,stk,mem,gas,self,frm,val,inp,back,stat⟩) E (0,0)) (0+4) (.int .u64 (x:Int)) (.cells (fra ⟨code,pc,stk,mem,x,self,frm,val,inp,back,stat⟩) E (0,0)):=Wr.cells (n:=1) (z:=z) rfl rfl (by show 0+4+1≤14;omega) rfl
theorem fr_wr11 [InfoI P T 1 z]:Wr P T (.cells (fra ⟨code,pc,stk,mem,gas,self,frm,val,inp,back,stat⟩) E (0,0)) (0+11) (.slice p n c) (.cells (fra ⟨code,pc,stk,mem,gas,self,frm,val,.slice p n c,back,stat⟩) E (0,0)):=Wr.cells (n:=1) (z:=z) rfl rfl (by show 0+11+1≤14;omega) rfl
theorem fr_wr12 [InfoI P T 1 z]:Wr P T (.cells (fra ⟨code,pc,stk,mem,gas,self,frm,val,inp,back,stat⟩) E (0,0)) (0+12) (.slice p n c) (.cells (fra ⟨code,pc,stk,mem,gas,self,frm,val,inp,.slice p n c,stat⟩) E (0,0)):=Wr.cells (n:=1) (z:=z) rfl rfl (by show 0+12+1≤14;omega) rfl
end wr
structure FrSl (f:FrV):Prop where
 c:∃ p n c,f.code=.slice p n c
 s:∃ p n c,f.stk=.slice p n c
 m:∃ p n c,f.mem=.slice p n c
 i:∃ p n c,f.inp=.slice p n c
 b:∃ p n c,f.back=.slice p n c
theorem FrRows.sl {w:World} {f:FrV} {L:FrL} (h:FrRows w f L):FrSl f:=by
 obtain ⟨a,b,h1,_⟩:=h.c.form
 obtain ⟨a2,b2,h2,_⟩:=h.s.form
 obtain ⟨a3,b3,h3,_⟩:=h.m.form
 obtain ⟨a4,b4,h4,_⟩:=h.i.form
 obtain ⟨a5,b5,h5,_⟩:=h.b.form
 exact ⟨⟨_,_,_,h1⟩,⟨_,_,_,h2⟩,⟨_,_,_,h3⟩,⟨_,_,_,h4⟩,⟨_,_,_,h5⟩⟩
theorem fr_cells {f:FrV} (h:FrSl f):(fra f).toList.all Value.oneCell'=true:=by
 obtain ⟨⟨_,_,_,h1⟩,⟨_,_,_,h2⟩,⟨_,_,_,h3⟩,⟨_,_,_,h4⟩,⟨_,_,_,h5⟩⟩:=h
 simp only [fra,frc,wc,List.cons_append,List.nil_append,List.all_cons,List.all_nil,h1,h2,h3,h4,h5];rfl
theorem fr_wrW {P:Program} {T E:TypeId} {f:FrV} {z:Value} {cs:Array Value} [InfoI P T 14 z] (h:cs.size=14) (hf:FrSl f):Wr P T (.cells cs E (0,0)) 0 (frv f) (.cells (fra f) E (0,0)):=Wr.whole h rfl (fr_cells hf)
theorem perm5 {α:Type} (g1 g2 g3 g4 g5:List α):(g1++(g2++(g3++(g4++g5)))).Perm (g3++(g2++(g5++(g4++g1)))):=by
 have h:=perm_ix [g1,g2,g3,g4,g5] (xs:=[0,1,2,3,4]) (ys:=[2,1,4,3,0]) [] rfl
 simpa [catI] using h
def FrL.short (L:FrL):Prop:=L.cl.length≤100000∧L.ws.length≤100000∧L.ms.length≤100000∧L.il.length≤100000∧L.bl.length≤100000
def CopyR (f:FrV) (L:FrL) (v:Value) (gs:Fs):Prop:=∃ c s m i b,v=frv (f.rows c s m i b)∧FrO (f.rows c s m i b) L gs
theorem callCopied_calls (f:FrV) (L:FrL) (hl:L.short) (w:World) (h:FrRows w f L):Calls Tryz.prog 41 #[frv f] w (RetG w [] (CopyR f L)):=by
 obtain ⟨code,pc,stk,mem,gas,self,frm,val,inp,back,stat⟩:=f
 obtain ⟨h0,h2,h3,h11,h12⟩:=h
 dsimp only at h0 h2 h3 h11 h12
 obtain ⟨p0,c0,rfl,_,hm0⟩:=id h0.form
 obtain ⟨p2,c2,rfl,_,hm2⟩:=id h2.form
 obtain ⟨p3,c3,rfl,_,hm3⟩:=id h3.form
 obtain ⟨p11,c11,rfl,_,hm11⟩:=id h11.form
 obtain ⟨p12,c12,rfl,_,hm12⟩:=id h12.form
 refine enter (args:=[_]) _ [] [] Tryz.func41 rfl Tryz.ntmps41 rfl (by simp) .nil ?_
 (refine sRz ?_;apply zT;rfl;rfl;intro _;apply zU;rfl;intro _;refine nNz<|zI ?_)
 rename_i b1 b2
 apply CW.pre
 (refine AnyW.anyM [(2,bM L.cl),(5,bM L.il),(8,bM L.bl)] 10 mixed (by decide +kernel) ?_)
 ((try simp only [tsOf_cons,tsOf_nil,tsOf_app]);refine dvz (.fieldAddr rfl rfl) ?_;apply qD;rfl;rfl;rfl;exact zC;rfl;apply zO;apply zP;exact zN;exact fr_rd0)
 (apply DW.manyV;rfl;rfl;rfl;exact zC;rfl;infer_instance;exact .cons rfl .nil;apply RdV.ext;assumption;rfl;exact RdV.nil;intro w _ _)
 exact SK.Clone_calls _ _ w (h0.bel (by assumption)) hl.1
 intro v1 g1 h1
 ((try simp only [tsOf_cons,tsOf_nil,tsOf_app]);refine dvz (.fieldAddr rfl rfl) ?_;apply qD;rfl;rfl;rfl;exact zC;rfl;apply zQ;apply zO;apply zP;exact zN;exact fr_rd11)
 (apply DW.manyV;rfl;rfl;rfl;exact zC;rfl;infer_instance;exact .cons rfl .nil;apply RdV.ext;assumption;rfl;exact RdV.nil;intro w _ _)
 exact SK.Clone_calls _ _ w (h11.bel (by assumption)) hl.2.2.2.1
 intro v4 g4 h4
 ((try simp only [tsOf_cons,tsOf_nil,tsOf_app]);refine dvz (.fieldAddr rfl rfl) ?_;apply qD;rfl;rfl;rfl;exact zC;rfl;apply zQ;apply zQ;apply zO;apply zP;exact zN;exact fr_rd12)
 (apply DW.manyV;rfl;rfl;rfl;exact zC;rfl;infer_instance;exact .cons rfl .nil;apply RdV.ext;assumption;rfl;exact RdV.nil;intro w _ _)
 exact SK.Clone_calls _ _ w (h12.bel (by assumption)) hl.2.2.2.2
 intro v5 g5 h5
 have h1':=h1
 have h4':=h4
 have h5':=h5
 unfold bM at h1' h4' h5'
 obtain ⟨q1,k1,rfl⟩:=h1'.form
 obtain ⟨q4,k4,rfl⟩:=h4'.form
 obtain ⟨q5,k5,rfl⟩:=h5'.form
 ((try simp only [tsOf_cons,tsOf_nil,tsOf_app]);refine dvz (.fieldAddr rfl rfl) ?_;apply DW.nil;simp only [fsOf_cons,fsOf_nil,fsOf_app,fsOf_tsOf,fsOf_new,fsOf_tag])
 (refine zR rfl rfl (.app (.app (.app (.tail .head)))) fr_wr0<|vFz ?_;refine zR rfl rfl (.app (.app (.app (.tail .head)))) fr_wr11<|vFz ?_;refine zR rfl rfl (.app (.app (.app (.tail .head)))) fr_wr12<|nNz<|zI ?_)
 apply CW.pre
 (refine AnyW.anyM [(3,wM L.ws),(7,bM L.ms)] 10 mixed (by decide +kernel) ?_)
 ((try simp only [tsOf_cons,tsOf_nil,tsOf_app]);refine dvz (.fieldAddr rfl rfl)<|dvz (.fieldAddr rfl rfl) ?_;apply qD;rfl;rfl;rfl;exact zC;rfl;apply zQ;apply zQ;apply zQ;apply zO;apply zP;exact zN;exact fr_rd2s)
 (apply DW.manyV;rfl;rfl;rfl;exact zC;rfl;infer_instance;exact .cons rfl .nil;apply RdV.ext;assumption;rfl;exact RdV.nil;intro w _ _)
 exact CloneW_calls _ _ w (h2.bel (by assumption)) hl.2.1
 intro v2 g2 hh2
 ((try simp only [tsOf_cons,tsOf_nil,tsOf_app]);refine dvz (.fieldAddr rfl rfl)<|dvz (.fieldAddr rfl rfl) ?_;apply qD;rfl;rfl;rfl;exact zC;rfl;apply zQ;apply zQ;apply zQ;apply zQ;apply zO;apply zP;exact zN;exact fr_rd3)
 (apply DW.manyV;rfl;rfl;rfl;exact zC;rfl;infer_instance;exact .cons rfl .nil;apply RdV.ext;assumption;rfl;exact RdV.nil;intro w _ _)
 exact SK.Clone_calls _ _ w (h3.bel (by assumption)) hl.2.2.1
 intro v3 g3 hh3
 have h2':=hh2
 have h3':=hh3
 unfold wM at h2'
 unfold bM at h3'
 obtain ⟨q2,k2,rfl⟩:=h2'.form
 obtain ⟨q3,k3,rfl⟩:=h3'.form
 ((try simp only [tsOf_cons,tsOf_nil,tsOf_app]);refine dvz (.fieldAddr rfl rfl)<|dvz (.fieldAddr rfl rfl) ?_;apply DW.nil;simp only [fsOf_cons,fsOf_nil,fsOf_app,fsOf_tsOf,fsOf_new,fsOf_tag])
 have hsl:FrSl ⟨.slice q1 L.cl.length k1,pc,.slice q2 L.ws.length k2,.slice q3 L.ms.length k3,gas,self,frm,val,.slice q4 L.il.length k4,.slice q5 L.bl.length k5,stat⟩:=⟨⟨_,_,_,rfl⟩,⟨_,_,_,rfl⟩,⟨_,_,_,rfl⟩,⟨_,_,_,rfl⟩,⟨_,_,_,rfl⟩⟩
 (refine zR rfl rfl (.app (.app (.app (.app (.app (.tail .head)))))) fr_wr2<|vFz<|vFz ?_;refine zR rfl rfl (.app (.app (.app (.app (.app (.tail .head)))))) fr_wr3<|nSz<|ldz rfl (.app (.app (.app (.app (.app (.tail .head)))))) fr_rdW ?_;apply zR;rfl;rfl;apply qC;apply qC;apply qC;apply qC;apply qC;apply qA;apply fr_wrW;rfl;assumption;refine nNz<|zK ?_)
 refine fin (vs:=[frv ⟨.slice q1 L.cl.length k1,pc,.slice q2 L.ws.length k2,.slice q3 L.ms.length k3,gas,self,frm,val,.slice q4 L.il.length k4,.slice q5 L.bl.length k5,stat⟩]) (g3++(g2++(g5++(g4++g1)))) (.inl rfl) rfl rfl (by (apply zD;apply zH;rfl;apply qE;apply zZ;apply zZ;apply zZ;apply zZ;apply zZ;apply zY;exact fr_rdW;exact zF)) ?_ ⟨_,_,_,_,_,rfl,g1,g2,g3,g4,g5,?_,h1,hh2,hh3,h4,h5⟩
 ·exact List.Sublist.append_left (List.Sublist.append_left (List.Sublist.append_left (List.Sublist.append_left (qP _ _) _) _) _) _
 ·exact perm5 g1 g2 g3 g4 g5
def ma0 (f:FrV) (e0 e1 e2 e3:Nat):MaV:=⟨f,e0,e1,e2,e3,.slice none 0 0,0,0,.slice none 0 0,.slice none 0 0⟩
def OfR (f:FrV) (L:FrL) (e0 e1 e2 e3:Nat) (v:Value) (gs:Fs):Prop:=∃ bm c s m i b g,v=.pointer (some ⟨bm,0,none⟩)∧gs=(bm,maO (ma0 (f.rows c s m i b) e0 e1 e2 e3))::g∧FrO (f.rows c s m i b) L g
def enva (e0 e1 e2 e3:Nat):Array Value:=#[.int .u64 (e0:Int),.int .u64 (e1:Int),.int .u64 (e2:Int),.int .u64 (e3:Int)]
theorem fOf_calls (f:FrV) (L:FrL) (e0 e1 e2 e3:Nat) (hl:L.short) (w:World) (h:FrRows w f L):Calls Tryz.prog 113 #[frv f,.agg (enva e0 e1 e2 e3)] w (RetG w [] (OfR f L e0 e1 e2 e3)):=by
 obtain ⟨code,pc,stk,mem,gas,self,frm,val,inp,back,stat⟩:=f
 obtain ⟨h0,h2,h3,h11,h12⟩:=h
 dsimp only at h0 h2 h3 h11 h12
 obtain ⟨p0,c0,rfl,_,hm0⟩:=id h0.form
 obtain ⟨p2,c2,rfl,_,hm2⟩:=id h2.form
 obtain ⟨p3,c3,rfl,_,hm3⟩:=id h3.form
 obtain ⟨p11,c11,rfl,_,hm11⟩:=id h11.form
 obtain ⟨p12,c12,rfl,_,hm12⟩:=id h12.form
 refine enter (args:=[_,_]) _ [] [] Tryz.func113 rfl Tryz.ntmps113 rfl (by simp) .nil ?_
 (refine sRz ?_;apply zT;rfl;rfl;intro _;apply zT;rfl;rfl;intro _;refine vAz<|nNz<|zI ?_)
 rename_i b1 b2
 apply CW.pre
 (refine AnyW.anyM [(2,bM L.cl),(5,bM L.il),(8,bM L.bl)] 10 mixed (by decide +kernel) ?_)
 ((try simp only [tsOf_cons,tsOf_nil,tsOf_app]);refine dvz (.fieldAddr rfl rfl) ?_;apply qD;rfl;rfl;rfl;exact zC;rfl;apply zO;apply zP;exact zN;exact fr_rd0)
 (apply DW.manyV;rfl;rfl;rfl;exact zC;rfl;infer_instance;exact .cons rfl .nil;apply RdV.ext;assumption;rfl;exact RdV.nil;intro w _ _)
 exact SK.Clone_calls _ _ w (h0.bel (by assumption)) hl.1
 intro v1 g1 h1
 ((try simp only [tsOf_cons,tsOf_nil,tsOf_app]);refine dvz (.fieldAddr rfl rfl) ?_;apply qD;rfl;rfl;rfl;exact zC;rfl;apply zQ;apply zO;apply zP;exact zN;exact fr_rd11)
 (apply DW.manyV;rfl;rfl;rfl;exact zC;rfl;infer_instance;exact .cons rfl .nil;apply RdV.ext;assumption;rfl;exact RdV.nil;intro w _ _)
 exact SK.Clone_calls _ _ w (h11.bel (by assumption)) hl.2.2.2.1
 intro v4 g4 h4
 ((try simp only [tsOf_cons,tsOf_nil,tsOf_app]);refine dvz (.fieldAddr rfl rfl) ?_;apply qD;rfl;rfl;rfl;exact zC;rfl;apply zQ;apply zQ;apply zO;apply zP;exact zN;exact fr_rd12)
 (apply DW.manyV;rfl;rfl;rfl;exact zC;rfl;infer_instance;exact .cons rfl .nil;apply RdV.ext;assumption;rfl;exact RdV.nil;intro w _ _)
 exact SK.Clone_calls _ _ w (h12.bel (by assumption)) hl.2.2.2.2
 intro v5 g5 h5
 have h1':=h1
 have h4':=h4
 have h5':=h5
 unfold bM at h1' h4' h5'
 obtain ⟨q1,k1,rfl⟩:=h1'.form
 obtain ⟨q4,k4,rfl⟩:=h4'.form
 obtain ⟨q5,k5,rfl⟩:=h5'.form
 ((try simp only [tsOf_cons,tsOf_nil,tsOf_app]);refine dvz (.fieldAddr rfl rfl) ?_;apply DW.nil;simp only [fsOf_cons,fsOf_nil,fsOf_app,fsOf_tsOf,fsOf_new,fsOf_tag])
 (refine zR rfl rfl (.app (.app (.app (.tail .head)))) fr_wr0<|vFz ?_;refine zR rfl rfl (.app (.app (.app (.tail .head)))) fr_wr11<|vFz ?_;refine zR rfl rfl (.app (.app (.app (.tail .head)))) fr_wr12<|nNz<|zI ?_)
 apply CW.pre
 (refine AnyW.anyM [(3,wM L.ws),(7,bM L.ms)] 10 mixed (by decide +kernel) ?_)
 ((try simp only [tsOf_cons,tsOf_nil,tsOf_app]);refine dvz (.fieldAddr rfl rfl)<|dvz (.fieldAddr rfl rfl) ?_;apply qD;rfl;rfl;rfl;exact zC;rfl;apply zQ;apply zQ;apply zQ;apply zO;apply zP;exact zN;exact fr_rd2s)
 (apply DW.manyV;rfl;rfl;rfl;exact zC;rfl;infer_instance;exact .cons rfl .nil;apply RdV.ext;assumption;rfl;exact RdV.nil;intro w _ _)
 exact CloneW_calls _ _ w (h2.bel (by assumption)) hl.2.1
 intro v2 g2 hh2
 ((try simp only [tsOf_cons,tsOf_nil,tsOf_app]);refine dvz (.fieldAddr rfl rfl)<|dvz (.fieldAddr rfl rfl) ?_;apply qD;rfl;rfl;rfl;exact zC;rfl;apply zQ;apply zQ;apply zQ;apply zQ;apply zO;apply zP;exact zN;exact fr_rd3)
 (apply DW.manyV;rfl;rfl;rfl;exact zC;rfl;infer_instance;exact .cons rfl .nil;apply RdV.ext;assumption;rfl;exact RdV.nil;intro w _ _)
 exact SK.Clone_calls _ _ w (h3.bel (by assumption)) hl.2.2.1
 intro v3 g3 hh3
 have h2':=hh2
 have h3':=hh3
 unfold wM at h2'
 unfold bM at h3'
 obtain ⟨q2,k2,rfl⟩:=h2'.form
 obtain ⟨q3,k3,rfl⟩:=h3'.form
 ((try simp only [tsOf_cons,tsOf_nil,tsOf_app]);refine dvz (.fieldAddr rfl rfl)<|dvz (.fieldAddr rfl rfl) ?_;apply DW.nil;simp only [fsOf_cons,fsOf_nil,fsOf_app,fsOf_tsOf,fsOf_new,fsOf_tag])
 have hsl:FrSl ⟨.slice q1 L.cl.length k1,pc,.slice q2 L.ws.length k2,.slice q3 L.ms.length k3,gas,self,frm,val,.slice q4 L.il.length k4,.slice q5 L.bl.length k5,stat⟩:=⟨⟨_,_,_,rfl⟩,⟨_,_,_,rfl⟩,⟨_,_,_,rfl⟩,⟨_,_,_,rfl⟩,⟨_,_,_,rfl⟩⟩
 (refine zR rfl rfl (.app (.app (.app (.app (.app (.tail .head)))))) fr_wr2<|vFz<|vFz ?_;refine zR rfl rfl (.app (.app (.app (.app (.app (.tail .head)))))) fr_wr3<|nSz<|ldz rfl (.app (.app (.app (.app (.app (.tail .head)))))) fr_rdW<|ldz rfl (.app (.app (.app (.app (.app .head))))) (qF rfl) ?_;apply LW.v0;rfl;rfl;apply zW;infer_instance;infer_instance;apply zA;rfl;apply zA;rfl;exact zB;rfl;simp only [fillP,wrCells,fra,frc,enva,wc,Value.cells,qH,qI,qJ,qG,qL,qK,List.cons_append,List.nil_append,Nat.reduceAdd,qN];rfl;apply zT;rfl;rfl;intro _;refine vAz<|nNz<|zK ?_)
 rename_i bm
 refine fin (vs:=[.pointer (some ⟨bm,0,none⟩)]) ((bm,maO (ma0 ⟨.slice q1 L.cl.length k1,pc,.slice q2 L.ws.length k2,.slice q3 L.ms.length k3,gas,self,frm,val,.slice q4 L.il.length k4,.slice q5 L.bl.length k5,stat⟩ e0 e1 e2 e3))::(g3++(g2++(g5++(g4++g1))))) (.inl rfl) rfl rfl (by (apply zD;exact zG rfl;exact zF)) ?_ ⟨bm,_,_,_,_,_,_,rfl,rfl,g1,g2,g3,g4,g5,perm5 g1 g2 g3 g4 g5,h1,hh2,hh3,h4,h5⟩
 exact List.Sublist.cons_cons _ (List.Sublist.append_left (List.Sublist.append_left (List.Sublist.append_left (List.Sublist.append_left (qP _ _) _) _) _) _)
end
section
attribute [local irreducible] SL.inP
def FrV.setR (f:FrV) (g:Nat) (s k:Value):FrV:={ f with gas:=g,stk:=s,mem:=k }
def FrV.rowsG (f:FrV) (g:Nat) (c s m i b:Value):FrV:=⟨c,f.pc,s,m,g,f.self,f.frm,f.val,i,b,f.stat⟩
def FrL.setW (L:FrL) (ws:List Nat):FrL:={ L with ws:=ws }
theorem FrO.sl {f:FrV} {L:FrL} {gs:Fs} (h:FrO f L gs):FrSl f:=by
 obtain ⟨g1,g2,g3,g4,g5,_,h1,h2,h3,h4,h5⟩:=h
 unfold bM at h1 h3 h4 h5
 unfold wM at h2
 obtain ⟨_,_,h1⟩:=h1.form
 obtain ⟨_,_,h2⟩:=h2.form
 obtain ⟨_,_,h3⟩:=h3.form
 obtain ⟨_,_,h4⟩:=h4.form
 obtain ⟨_,_,h5⟩:=h5.form
 exact ⟨⟨_,_,_,h1⟩,⟨_,_,_,h2⟩,⟨_,_,_,h3⟩,⟨_,_,_,h4⟩,⟨_,_,_,h5⟩⟩
def LayK (b:Nat) (m:MaV) (L:FrL) (gs:Fs) (l:List Nat) (rest:Fs):Out:=fun x fs' =>
 (64 < L.ws.length+l.length∧x=.panicked failC∧fs'=(b,maO m)::(gs++rest)) ∨
 (L.ws.length+l.length≤64∧∃ s k gs',x=.returned (.tuple #[])∧FrO (m.fr.setR m.fr.gas s k) (L.setW (L.ws++l)) gs'∧fs'=(b,maO (m.setF (m.fr.setR m.fr.gas s k)))::(gs'++rest))
theorem lay_calls (w0:World) (S:List Nat) (b:Nat) (m:MaV) (L:FrL) (gs:Fs) (l:List Nat) (v:Value) (hok:okSc L.ws.length L.ms.length) (hll:l.length≤100000) (hfr:FrO m.fr L gs) (rest:Fs) (w:World)
  (hv:∀ w',St w0 S ((b,maO m)::(gs++rest)) w'→RowAt w' 4 v l.length (wcs l)) (hs:St w0 S ((b,maO m)::(gs++rest)) w) :
  Calls Tryz.prog 78 #[.pointer (some ⟨b,0,none⟩),v] w (fun x w'=>∃ fs',LayK b m L gs l rest x fs'∧St w0 S fs' w'):=by
 have h1:∀ w',St w0 S ((b,maO m)::(gs++rest)) w'→RowAt w' 4 m.fr.stk L.ws.length (wcs L.ws)∧RowAt w' 1 m.fr.mem L.ms.length (ucs L.ms)∧RowAt w' 4 v l.length (wcs l):=fun w' h=>by
  have hr:=hfr.st h fun p hp=>qO _ (List.mem_append_left _ hp)
  exact ⟨hr.s,hr.m,hv w' h⟩
 rcases Nat.lt_or_ge 64 (L.ws.length+l.length) with hlt|hge
 ·refine Calls.mono (lay_full w0 S b m L.ws L.ms l v (gs++rest) w hs h1 hok hll hlt) ?_
  rintro x w' ⟨fs',⟨rfl,c4,rfl⟩,hst⟩
  exact ⟨_,.inl ⟨hlt,rfl,rfl⟩,st_sub hst (qQ _ (qM _))⟩
 ·refine Calls.mono (lay_ok w0 S b m L.ws L.ms l v (gs++rest) w hs h1 hok hll hge) ?_
  rintro x w' ⟨fs',⟨rfl,s,k,gs2,c4,⟨s',k',gg1,gg2,he,rfl,hw1,hb1⟩,rfl⟩,hst⟩
  cases he
  obtain ⟨g1,g2,g3,g4,g5,hp,hall⟩:=hfr
  replace hst:=hst.perm (fs':=c4::((gg2++gg1)++(b,maO (m.setSc s k))::((g1++(g2++(g3++(g4++g5))))++rest))) (List.Perm.cons _ (List.Perm.append_left _ (List.Perm.cons _ (hp.append_right rest))))
  refine ⟨_,.inr ⟨hge,s,k,g1++(gg1++(gg2++(g4++g5))),rfl,⟨g1,gg1,gg2,g4,g5,.refl _,hall.1,hw1,hb1,hall.2.2.2.1,hall.2.2.2.2⟩,rfl⟩,SubP.st ?_ hst⟩
  simp only [List.append_assoc,List.cons_append,List.nil_append]
  exact subp_ix [[_],gg2,gg1,[_],g1,g2,g3,g4,g5] (xs:=[3,4,2,1,7,8]) (ys:=[0,1,2,3,4,5,6,7,8]) rest rfl
def DoK (b:Nat) (f:FrV) (R:Option (Nat × FrL)) (rest:Fs):Out:=fun x fs'=>match R with
 |none=>x=.panicked failC∧fs'=rest
 |some (g,L')=>∃ s k gs',x=.returned (.tuple #[])∧FrO (f.setR g s k) L' gs'∧fs'=(b,maO (ma0 (f.setR g s k) 0 0 0 0))::(gs'++rest)
def zeroF:FrV:=⟨.slice none 0 0,0,.slice none 0 0,.slice none 0 0,0,0,0,0,.slice none 0 0,.slice none 0 0,false⟩
def zeroL:FrL:=⟨[],[],[],[],[]⟩
theorem zero_frO:FrO zeroF zeroL []:=⟨[],[],[],[],[],.refl _,.nil,.nil,.nil,.nil,.nil⟩
def ToldK (f:FrV) (R:Option (Nat × FrL)) (fs:Fs):Out:=fun x fs'=>match R with
 |none=>x=.returned (.tuple #[frv zeroF,.bool false])∧fs'=fs
 |some (g,L')=>∃ c s m i b gs',x=.returned (.tuple #[frv (f.rowsG g c s m i b),.bool true])∧FrO (f.rowsG g c s m i b) L' gs'∧fs'=gs'++fs
def Does (w0:World) (S:List Nat) (f:FrV) (L:FrL) (fs:Fs) (fn:FuncId) (cap:Array Value) (R:Option (Nat × FrL)):Prop :=
 ∀ b c s m i b5 gs rest w',FrO (f.rows c s m i b5) L gs→(∀ p∈fs,p∈rest)→St w0 S ((b,maO (ma0 (f.rows c s m i b5) 0 0 0 0))::(gs++rest)) w' →
  Calls Tryz.prog fn (Value.pointer (some ⟨b,0,none⟩)::cap.toList).toArray w' (fun x w''=>∃ fs',DoK b (f.rows c s m i b5) R rest x fs'∧St w0 S fs' w'')
theorem told1_calls (w0:World) (S:List Nat) (f:FrV) (L:FrL) (fs:Fs) (fn:FuncId) (cap:Array Value) (R:Option (Nat × FrL)) (hF:FnI Tryz.prog fn) (hd:Does w0 S f L fs fn cap R) (b b3 b6:Nat) (c s m i b5:Value) (gs R0:Fs) (hfr:FrO (f.rows c s m i b5) L gs)
  (hsub:∀ p∈fs,p∈R0) (h3:(b3,Obj.cells #[.func (.func fn) #[] cap] 119 (0,0))∈R0) (h6:(b6,Obj.cells #[.pointer (some ⟨b,0,none⟩)] 116 (0,0))∈R0) (w:World) (hs:St w0 S ((b,maO (ma0 (f.rows c s m i b5) 0 0 0 0))::(gs++R0)) w) :
  Calls Tryz.prog 115 #[.pointer (some ⟨b3,0,none⟩),.pointer (some ⟨b6,0,none⟩)] w (fun x w'=>∃ fs',DoK b (f.rows c s m i b5) R R0 x fs'∧St w0 S fs' w'):=by
 have k3:(b3,Obj.cells #[.func (.func fn) #[] cap] 119 (0,0))∈(b,maO (ma0 (f.rows c s m i b5) 0 0 0 0))::(gs++R0):=qO _ (List.mem_append_right _ h3)
 have k6:(b6,Obj.cells #[.pointer (some ⟨b,0,none⟩)] 116 (0,0))∈(b,maO (ma0 (f.rows c s m i b5) 0 0 0 0))::(gs++R0):=qO _ (List.mem_append_right _ h6)
 refine calls_inlineP (K:=DoK b (f.rows c s m i b5) R R0) (args:=[_,_]) Tryz.func115 rfl Tryz.ntmps115 rfl ?_ hs
 (refine zL ?_;apply LW.load;rfl;rfl;exact Known.own k3;exact Rd.one' rfl;apply LW.load;rfl;rfl;exact Known.own k6;exact Rd.one' rfl)
 refine LW.callP (K:=DoK b (f.rows c s m i b5) R R0) (aas:=.pointer (some ⟨b,0,none⟩)::cap.toList) rfl rfl hF (by (exact .cons rfl .nil)) rfl (fun fs h=>?_) (fun w' hst=>hd b c s m i b5 gs R0 w' hfr hsub hst) ?_ ?_
 ·unfold DoK at h
  cases R with
  |none=>cases h.1
  |some x=>obtain ⟨_,_,_,h,_⟩:=h;cases h
 ·intro v fs' h
  cases R with
  |none=>cases h.1
  |some x =>
   obtain ⟨s',k',gs',h1,h2,h3⟩:=h
   cases h1
   (apply zV)
   exact inPI (.inr rfl) .nil rfl .nil rfl ⟨s',k',gs',rfl,h2,h3⟩
 ·intro ch fs' h
  cases R with
  |none =>
   obtain ⟨h1,h2⟩:=h
   cases h1
   exact inPP .nil ⟨rfl,h2⟩
  |some x=>obtain ⟨_,_,_,h,_⟩:=h;cases h
theorem DoK.try {b:Nat} {f:FrV} {R:Option (Nat × FrL)} {fs:Fs}:TryK (DoK b f R fs):=fun x fs' h=>by
 cases R with
 |none=>exact .inr h.1
 |some x=>obtain ⟨_,_,_,h,_⟩:=h;exact .inl h
theorem DoK.app {b:Nat} {f:FrV} {R:Option (Nat × FrL)} {R0 rest:Fs} {x:Ending} {fs':Fs} (h:DoK b f R (R0++rest) x fs'):∃ own',DoK b f R R0 x own'∧fs'=own'++rest:=by
 cases R with
 |none =>
  obtain ⟨h1,rfl⟩:=h
  exact ⟨R0,⟨h1,rfl⟩,rfl⟩
 |some x =>
  obtain ⟨s,k,gs',h1,h2,rfl⟩:=h
  exact ⟨_,⟨s,k,gs',h1,h2,rfl⟩,by simp⟩
section rd
variable {P : Program} {T E : TypeId} {fr : Nat × Nat} {m : MaV}
theorem ma_rdF [AgI P T true] {z:Value} [InfoI P T 14 z]:Rd P T (.cells (mca m) E fr) 0 (frv m.fr):=Rd.mid (cs:=frc m.fr) rfl rfl
end rd
theorem told_calls (w0:World) (S:List Nat) (f:FrV) (L:FrL) (fs:Fs) (fn:FuncId) (cap:Array Value) (R:Option (Nat × FrL)) (hl:L.short) (hF:FnI Tryz.prog fn) (hd:Does w0 S f L fs fn cap R) (hok:okF f L) (w:World) (hs:St w0 S fs w) (hf:∀ w',Bel w0.heap.size S w0 w'→FrRows w' f L) :
  Calls Tryz.prog 75 #[frv f,.func (.func fn) #[] cap] w (fun x w'=>∃ fs',ToldK f R fs x fs'∧St w0 S fs' w'):=by
 refine calls_anyO (calls_inlineP (K:=anyO (ToldK f R fs)) (args:=[_,_]) Tryz.func75 rfl Tryz.ntmps75 rfl ?_ hs)
 (refine sRz ?_;apply zT;rfl;rfl;intro _;apply LW.box1;rfl;rfl;rfl;intro _;apply zU;rfl;intro _;refine vAz<|nNz<|zI<|sRz<|ldz rfl (.tail (.tail .head)) (qF rfl) ?_)
 (apply zS;rfl;rfl;infer_instance;exact .cons rfl .nil;intro w _)
 rename_i hst
 have h0:=fCheck_calls f L w (hf w hst.bel)
 rw [if_pos hok] at h0
 exact h0
 (refine lvz (.neF rfl rfl (by omega)) ?_;refine nNz<|cFz<|zJ<|thenN<|sRz<|ldz rfl (.tail (.tail .head)) (qF rfl) ?_;apply LW.v0;rfl;rfl;apply zW;infer_instance;infer_instance;exact zB;rfl;simp only [fillP,wrCells,Value.cells,qH,qI,qJ,qG,qL,qK,Nat.reduceAdd,qN];rfl)
 (apply LW.callR;rfl;rfl;infer_instance;exact .cons rfl (.cons rfl .nil);intro w hs)
 exact fOf_calls f L 0 0 0 0 hl w (hf w hs.bel)
 rintro v gso ⟨bm,c,s,m,i,b5,g,rfl,rfl,hfr⟩
 rename_i b2 b3 b4
 (apply LW.alloc1;rfl;rfl;intro _;apply zR;rfl;rfl;apply qA;apply Wr.cells;rfl;rfl;simp only [wc,List.size_toArray,List.length_cons,List.length_nil];omega;simp only [fillC,wc,wrCells,Value.cells,qJ,qG,qL,qK,Nat.reduceAdd,Nat.reduceMul,qN,Nat.mul_one];rfl;refine nNz<|zI<|sRz ?_;apply LW.v0;rfl;rfl;apply ValP.makeFunc;exact ArgsOk.nil;exact .cons rfl (.cons rfl .nil))
 rename_i b6
 refine LW.perm (fs':=(bm,maO (ma0 (f.rows c s m i b5) 0 0 0 0))::(g++((b6,.cells #[.pointer (some ⟨bm,0,none⟩)] 116 (0,0))::(b4,.cells #[.slice none 0 0,.int .i64 0,.slice none 0 0,.slice none 0 0,.int .u64 0,.int .u64 0,.int .u64 0,.int .u64 0,.int .u64 0,.int .u64 0,.int .u64 0,.slice none 0 0,.slice none 0 0,.bool false] 31 (0,0))::(b3,.cells #[.func (.func fn) #[] cap] 119 (0,0))::(b2,.cells (fra f) 31 (0,0))::fs))) ?_ ?_
 ·simp only [List.cons_append]
  exact perm_ix [[_],[_],g,[_],[_],[_]] (xs:=[1,2,0,3,4,5]) (ys:=[0,1,2,3,4,5]) fs rfl
 generalize hR0:((b6,Obj.cells #[.pointer (some ⟨bm,0,none⟩)] 116 (0,0))::(b4,Obj.cells #[.slice none 0 0,.int .i64 0,.slice none 0 0,.slice none 0 0,.int .u64 0,.int .u64 0,.int .u64 0,.int .u64 0,.int .u64 0,.int .u64 0,.int .u64 0,.slice none 0 0,.slice none 0 0,.bool false] 31 (0,0))::(b3,Obj.cells #[.func (.func fn) #[] cap] 119 (0,0))::(b2,Obj.cells (fra f) 31 (0,0))::fs)=R0
 refine LW.callP (K:=fun x fs'=>∃ ok own',x=.returned (.bool ok)∧DoK bm (f.rows c s m i b5) R R0 (match ok with|true=>.returned (.tuple #[])|false=>.panicked failC) own'∧fs'=own'++[]) rfl rfl inferInstance (by (exact .cons rfl .nil)) rfl (fun fs h=>by obtain ⟨_,_,h,_⟩:=h;cases h)
  (fun w' hst=>tries_calls w0 S 115 #[.pointer (some ⟨b3,0,none⟩),.pointer (some ⟨b6,0,none⟩)] (DoK bm (f.rows c s m i b5) R R0) DoK.try inferInstance ((bm,maO (ma0 (f.rows c s m i b5) 0 0 0 0))::(g++R0)) [] w' (fun rest w2 h2=>?_) (by rw [List.append_nil];exact hst)) ?_ ?_
 ·rw [List.cons_append,List.append_assoc] at h2
  refine Calls.mono (told1_calls w0 S f L fs fn cap R hF hd bm b3 b6 c s m i b5 g (R0++rest) hfr ?_ ?_ ?_ w2 h2) ?_
  ·intro p hp;rw [← hR0];simp [hp]
  ·rw [← hR0];simp
  ·rw [← hR0];simp
  ·rintro x w3 ⟨fs',hk,h3⟩
   obtain ⟨own',h4,rfl⟩:=hk.app
   exact ⟨_,⟨own',h4,rfl⟩,h3⟩
 ·rintro v fs' ⟨ok,own',h1,h2,rfl⟩
  cases h1
  rw [List.append_nil]
  cases R with
  |none =>
   obtain ⟨h3,rfl⟩:=h2
   cases ok with
   |true=>cases h3
   |false =>
    subst hR0
    (refine lvz (.notF rfl (by with_reducible rfl)) ?_;refine nNz<|cTz<|sRz ?_;apply LW.v0;rfl;rfl;apply zW;infer_instance;infer_instance;exact zB;rfl;simp only [fillP,wrCells,Value.cells,qH,qI,qJ,qG,qL,qK,Nat.reduceAdd,qN];rfl;refine zR rfl rfl (.tail .head) (.whole rfl rfl rfl)<|vAz<|nNz<|zK<|thenR ?_)
    refine inPI (.inl rfl) .nil rfl (by (apply zD;apply zH;rfl;apply qE;apply zX;apply zY;exact qF rfl;apply zD;exact zG rfl;exact zF)) rfl ⟨fs,⟨rfl,rfl⟩,subp_ix [[_],[_],[_],[_]] (xs:=[]) (ys:=[0,1,2,3]) fs rfl⟩
  |some x =>
   obtain ⟨gg,L'⟩:=x
   obtain ⟨s',k',gs',h3,h4,rfl⟩:=h2
   cases ok with
   |false=>cases h3
   |true =>
    subst hR0
    have hsl:FrSl (ma0 ((f.rows c s m i b5).setR gg s' k') 0 0 0 0).fr:=h4.sl
    (refine lvz (.notT rfl (by with_reducible rfl)) ?_;refine nNz<|cFz<|zJ<|thenN<|sRz<|ldz rfl (.tail (.app .head)) (Rd.one' rfl)<|vNz<|vFz<|ldz rfl .head ma_rdF ?_;apply zR;rfl;rfl;apply qB;apply qC;apply qB;apply qA;apply fr_wrW;rfl;assumption;refine vAz<|nNz<|zK ?_)
    refine inPI (.inl rfl) .nil rfl (by (apply zD;apply zH;rfl;apply qE;apply zX;apply zZ;apply zX;apply zY;exact qF rfl;apply zD;exact zG rfl;exact zF)) rfl ⟨gs'++fs,⟨c,s',k',i,b5,gs',rfl,h4,rfl⟩,subp_ix [[_],gs',[_],[_],[_],[_]] (xs:=[1]) (ys:=[0,1,2,3,4,5]) fs rfl⟩
 ·rintro ch fs' ⟨_,_,h,_⟩
  cases h
end
section
attribute [local irreducible] SL.inP
def ToldR (f:FrV) (R:Option (Nat × FrL)) (v:Value) (gs:Fs):Prop:=match R with
 |none=>v=.tuple #[frv zeroF,.bool false]∧gs=[]
 |some (g,L')=>∃ c s m i b,v=.tuple #[frv (f.rowsG g c s m i b),.bool true]∧FrO (f.rowsG g c s m i b) L' gs
def reachR (f:FrV) (L:FrL) (a n:Nat):Option (Nat × FrL):=if costR L a n≤f.gas then some (f.gas - costR L a n,memR L a n) else none
def tellR (f:FrV) (L:FrL) (cost:Nat) (l:List Nat):Option (Nat × FrL):=if cost≤f.gas∧L.ws.length+l.length≤64 then some (f.gas - cost,L.setW (L.ws++l)) else none
theorem okF.short {f:FrV} {L:FrL} (h:okF f L):L.short:=by
 obtain ⟨⟨h1,h2,_⟩,_,h4,⟨h5,h6,_⟩,_⟩:=h
 exact ⟨by omega,by omega,by omega,by omega,by omega⟩
theorem told_bad (w0:World) (S:List Nat) (f:FrV) (L:FrL) (fs:Fs) (fn:FuncId) (cap:Array Value) (hok:¬ okF f L) (w:World) (hs:St w0 S fs w) (hf:∀ w',Bel w0.heap.size S w0 w'→FrRows w' f L) :
  Calls Tryz.prog 75 #[frv f,.func (.func fn) #[] cap] w (fun x w'=>∃ fs',ToldK f none fs x fs'∧St w0 S fs' w'):=by
 have hC:∀ w' {fs},St w0 S fs w'→Calls Tryz.prog 31 #[frv f] w' (Ret w' (.int .i64 240)):=fun w' fs hst=>by
  have h0:=fCheck_calls f L w' (hf w' hst.bel)
  rw [if_neg hok] at h0
  exact h0
 refine calls_anyO (calls_inlineP (K:=anyO (ToldK f none fs)) (args:=[_,_]) Tryz.func75 rfl Tryz.ntmps75 rfl ?_ hs)
 (refine sRz ?_;apply zT;rfl;rfl;intro _;apply LW.box1;rfl;rfl;rfl;intro _;apply zU;rfl;intro _;refine vAz<|nNz<|zI<|sRz<|ldz rfl (.tail (.tail .head)) (qF rfl) ?_;apply zS;rfl;rfl;infer_instance;exact .cons rfl .nil;intro w _;exact hC w (by assumption);refine lvz (.neT rfl rfl (by omega)) ?_;refine nNz<|cTz<|sRz ?_;apply LW.v0;rfl;rfl;apply zW;infer_instance;infer_instance;exact zB;rfl;simp only [fillP,wrCells,Value.cells,qH,qI,qJ,qG,qL,qK,Nat.reduceAdd,qN];rfl;refine zR rfl rfl .head (.whole rfl rfl rfl)<|vAz<|nNz<|zK<|thenR ?_)
 refine inPI (.inl rfl) .nil rfl (by (apply zD;apply zH;rfl;apply qE;apply zY;exact qF rfl;apply zD;exact zG rfl;exact zF)) rfl ⟨fs,⟨rfl,rfl⟩,subp_ix [[_],[_],[_]] (xs:=[]) (ys:=[0,1,2]) fs rfl⟩
theorem reach1_does (w0:World) (S:List Nat) (f:FrV) (L:FrL) (a n:Nat) (ha:a < M256) (hn:n < M256) (hok:okF f L) (fs:Fs) (b4 b5:Nat) (k4:(b4,Obj.cells (wc a) 29 (0,0))∈fs) (k5:(b5,Obj.cells (wc n) 29 (0,0))∈fs) :
  Does w0 S f L fs 145 #[.pointer (some ⟨b4,0,none⟩),.pointer (some ⟨b5,0,none⟩)] (reachR f L a n):=by
 intro b c s m i b0 gs rest w hfr hsub hs
 have k4:=qO (b,maO (ma0 (f.rows c s m i b0) 0 0 0 0)) (List.mem_append_right gs (hsub _ k4))
 have k5:=qO (b,maO (ma0 (f.rows c s m i b0) 0 0 0 0)) (List.mem_append_right gs (hsub _ k5))
 refine calls_anyO (calls_inlineP (K:=anyO (DoK b (f.rows c s m i b0) (reachR f L a n) rest)) (args:=[_,_,_]) Tryz.func145 rfl Tryz.ntmps145 rfl ?_ hs)
 (refine zL<|vMz ?_;apply LW.load;rfl;rfl;exact Known.own k4;exact qF rfl;apply LW.load;rfl;rfl;exact Known.own k5;exact qF rfl)
 refine LW.callP (K:=ReachK b (ma0 (f.rows c s m i b0) 0 0 0 0) L gs a n rest) rfl rfl inferInstance (by (exact .cons rfl (.cons rfl (.cons rfl .nil)))) rfl (fun fs h=>by rcases h with ⟨_,h,_⟩|⟨_,_,_,_,h,_⟩<;>cases h) (fun w' hst=>reach_calls w0 S b _ L gs a n ha hn hok.2.2.2.1 hok.1.2.2 hfr rest w' hst) ?_ ?_
 ·rintro v fs' (⟨_,h,_⟩|⟨hc,s',k',gs',h,hfr',rfl⟩)
  ·cases h
  ·have hR:reachR f L a n=some (f.gas - costR L a n,memR L a n):=by unfold reachR;exact if_pos hc
   rw [hR]
   cases h
   (apply zV)
   exact inPI (.inr rfl) .nil rfl .nil rfl ⟨_,⟨s',k',gs',rfl,hfr',rfl⟩,_,.refl _,.refl _⟩
 ·rintro ch fs' (⟨hc,h,rfl⟩|⟨_,_,_,_,h,_⟩)
  ·have hR:reachR f L a n=none:=by unfold reachR;exact if_neg (Nat.not_le.2 hc)
   rw [hR]
   cases h
   exact inPP .nil ⟨rest,⟨rfl,rfl⟩,_,qQ _ (List.sublist_append_right _ _),.refl _⟩
  ·cases h
theorem zero_sl:FrSl zeroF:=zero_frO.sl
theorem ToldK.ret {f:FrV} {R:Option (Nat × FrL)} {fs fs':Fs} {x:Ending} (h:ToldK f R fs x fs'):∃ v,x=.returned v:=by
 cases R with
 |none=>exact ⟨_,h.1⟩
 |some x=>obtain ⟨_,_,_,_,_,_,h,_⟩:=h;exact ⟨_,h⟩
theorem Reach_calls (f:FrV) (L:FrL) (a n:Nat) (ha:a < M256) (hn:n < M256) (w:World) (h:FrRows w f L):Calls Tryz.prog 123 #[frv f,wv a,wv n] w (RetG w [] (ToldR f (if okF f L then reachR f L a n else none))):=by
 refine enter (args:=[_,_,_]) _ [] [] Tryz.func123 rfl Tryz.ntmps123 rfl (by simp) .nil ?_
 have hzs:=zero_sl
 (refine sRz ?_;apply zT;rfl;rfl;intro _;apply zT;rfl;rfl;intro _;apply zT;rfl;rfl;intro _;apply zU;rfl;intro _;refine vAz<|nSz<|ldz rfl (.tail (.tail (.tail .head))) (qF rfl) ?_;apply LW.v0;rfl;rfl;apply ValP.makeFunc;exact ArgsOk.nil;exact .cons rfl (.cons rfl .nil))
 rename_i b3 b4 b5 b6
 refine LW.callP (K:=ToldK f (if okF f L then reachR f L a n else none) ((b6,Obj.cells (fra zeroF) 31 (0,0))::(b5,Obj.cells (wc n) 29 (0,0))::(b4,Obj.cells (wc a) 29 (0,0))::(b3,Obj.cells (fra f) 31 (0,0))::[])) rfl rfl inferInstance (by (exact .cons rfl (.cons rfl .nil))) rfl (fun fs h=>?_) (fun w' hst=>?_) ?_ ?_
 ·obtain ⟨_,h⟩:=h.ret;cases h
 ·by_cases hok:okF f L
  ·rw [if_pos hok]
   exact told_calls w [] f L _ _ _ _ hok.short inferInstance (reach1_does w [] f L a n ha hn hok _ b4 b5 (by simp) (by simp)) hok w' hst fun w2 hb=>h.bel hb
  ·rw [if_neg hok]
   exact told_bad w [] f L _ _ _ hok w' hst fun w2 hb=>h.bel hb
 ·intro v fs' hk
  cases hR:(if okF f L then reachR f L a n else none) with
  |none =>
   rw [hR] at hk
   obtain ⟨h1,rfl⟩:=hk
   cases h1
   (refine vEz ?_;refine vEz ?_;refine zR rfl rfl .head (.whole rfl rfl rfl)<|vAz<|nNz<|zK ?_)
   exact fin (vs:=[frv zeroF,.bool false]) [] (.inl rfl) rfl rfl (by (apply zD;apply zH;rfl;apply qE;apply zY;exact qF rfl;apply zD;exact zG rfl;exact zF)) (List.nil_sublist _) ⟨rfl,rfl⟩
  |some x =>
   rw [hR] at hk
   obtain ⟨g,L'⟩:=x
   obtain ⟨c,s,m,i,b,gs',h1,hfr,rfl⟩:=hk
   cases h1
   have hsl:=hfr.sl
   (refine vEz ?_;refine vEz ?_;apply zR;rfl;rfl;apply qC;apply qA;apply fr_wrW;rfl;assumption;refine vAz<|nNz<|zK ?_)
   exact fin (vs:=[frv (f.rowsG g c s m i b),.bool true]) gs' (.inl rfl) rfl rfl (by (apply zD;apply zH;rfl;apply qE;apply zZ;apply zY;exact qF rfl;apply zD;exact zG rfl;exact zF)) (qP _ _) ⟨c,s,m,i,b,rfl,hfr⟩
 ·intro ch fs' h
  obtain ⟨_,h⟩:=h.ret
  cases h
theorem tell1_does (w0:World) (S:List Nat) (f:FrV) (L:FrL) (cost:Nat) (l:List Nat) (v:Value) (hll:l.length≤100000) (hv:∀ w',Bel w0.heap.size S w0 w'→RowAt w' 4 v l.length (wcs l)) (hok:okF f L) (fs:Fs) (b4 b5:Nat) (k4:(b4,Obj.cells #[.int .u64 (cost:Int)] 26 (0,0))∈fs) (k5:(b5,Obj.cells #[v] 23 (0,0))∈fs) :
  Does w0 S f L fs 76 #[.pointer (some ⟨b4,0,none⟩),.pointer (some ⟨b5,0,none⟩)] (tellR f L cost l):=by
 intro b c s m i b0 gs rest w hfr hsub hs
 have k4:=qO (b,maO (ma0 (f.rows c s m i b0) 0 0 0 0)) (List.mem_append_right gs (hsub _ k4))
 have k50:=qO (b,maO (ma0 (f.rows c s m i b0) 0 0 0 0)) (List.mem_append_right gs (hsub _ k5))
 refine calls_anyO (calls_inlineP (K:=anyO (DoK b (f.rows c s m i b0) (tellR f L cost l) rest)) (args:=[_,_,_]) Tryz.func76 rfl Tryz.ntmps76 rfl ?_ hs)
 (refine sRz<|vMz ?_;apply LW.load;rfl;rfl;exact Known.own k4;exact Rd.one' rfl;apply LW.lay1;rfl;infer_instance;infer_instance;rfl;rfl;rfl;rfl;rfl;rfl;intro _)
 rename_i b6
 refine LW.perm (fs':=(b,maO (ma0 (f.rows c s m i b0) 0 0 0 0))::(gs++((b6,.cells #[.int .u64 (cost:Int)] 26 (0,0))::rest))) ?_ ?_
 ·exact perm_ix [[_],[_],gs] (xs:=[1,2,0]) (ys:=[0,1,2]) rest rfl
 refine LW.callP (K:=MaK b (ma0 (f.rows c s m i b0) 0 0 0 0) (spendM (ma0 (f.rows c s m i b0) 0 0 0 0) [cost]) (gs++((b6,.cells #[.int .u64 (cost:Int)] 26 (0,0))::rest))) rfl rfl inferInstance (by (exact .cons rfl (.cons rfl .nil))) rfl (fun fs h=>?_) (fun w' hst=>spend_calls w0 S b _ [cost] (Nat.lt_of_le_of_lt hok.1.2.2 (by decide)) _ _ w' hst (fun w2 h2=>row_cells (h2.own (b6,_) (qO _ (List.mem_append_right _ List.mem_cons_self))).2 rfl rfl (by simp [maxLen]))) ?_ ?_
 ·unfold MaK at h
  split at h<;>cases h.1
 ·rcases Nat.lt_or_ge f.gas cost with hlt|hge
  ·have hsp:spendM (ma0 (f.rows c s m i b0) 0 0 0 0) [cost]=none:=by unfold spendM;rw [if_neg (by simp;exact hlt)]
   rw [hsp]
   rintro v fs' ⟨h,_⟩
   cases h
  ·have hsp:spendM (ma0 (f.rows c s m i b0) 0 0 0 0) [cost]=some (ma0 ((f.rows c s m i b0).setR (f.gas - cost) s m) 0 0 0 0):=by unfold spendM;rw [if_pos (by simp;exact hge)];simp;rfl
   rw [hsp]
   rintro v fs' ⟨h,rfl⟩
   cases h
   have k5:(b5,Obj.cells #[v] 23 (0,0))∈(b,maO (ma0 ((f.rows c s m i b0).setR (f.gas - cost) s m) 0 0 0 0))::(gs++(b6,Obj.cells #[.int .u64 (cost:Int)] 26 (0,0))::rest):=qO _ (List.mem_append_right _ (qO _ (hsub _ k5)))
   (refine nNz<|zL<|vMz ?_;apply LW.load;rfl;rfl;exact Known.own k5;exact Rd.one' rfl)
   have hfr1:FrO ((f.rows c s m i b0).setR (f.gas - cost) s m) L gs:=hfr
   refine LW.callP (K:=LayK b (ma0 ((f.rows c s m i b0).setR (f.gas - cost) s m) 0 0 0 0) L gs l ((b6,Obj.cells #[.int .u64 (cost:Int)] 26 (0,0))::rest)) rfl rfl inferInstance (by (exact .cons rfl (.cons rfl .nil))) rfl (fun fs h=>by rcases h with ⟨_,h,_⟩|⟨_,_,_,_,h,_⟩<;>cases h) (fun w' hst=>lay_calls w0 S b _ L gs l v hok.2.2.2.1 hll hfr1 _ w' (fun w2 h2=>hv w2 h2.bel) hst) ?_ ?_
   ·rintro v fs' (⟨_,h,_⟩|⟨hc,s',k',gs',h,hfr',rfl⟩)
    ·cases h
    ·have hR:tellR f L cost l=some (f.gas - cost,L.setW (L.ws++l)):=by unfold tellR;exact if_pos ⟨hge,hc⟩
     rw [hR]
     cases h
     (apply zV)
     exact inPI (.inr rfl) .nil rfl .nil rfl ⟨_,⟨s',k',gs',rfl,hfr',rfl⟩,_,List.Sublist.cons_cons _ (List.Sublist.append_left (List.sublist_cons_self _ _) _),.refl _⟩
   ·rintro ch fs' (⟨hc,h,rfl⟩|⟨_,_,_,_,h,_⟩)
    ·have hR:tellR f L cost l=none:=by unfold tellR;exact if_neg (fun h=>by omega)
     rw [hR]
     cases h
     exact inPP .nil ⟨rest,⟨rfl,rfl⟩,_,qQ _ (List.Sublist.trans (List.sublist_cons_self _ _) (List.sublist_append_right _ _)),.refl _⟩
    ·cases h
 ·rcases Nat.lt_or_ge f.gas cost with hlt|hge
  ·have hsp:spendM (ma0 (f.rows c s m i b0) 0 0 0 0) [cost]=none:=by unfold spendM;rw [if_neg (by simp;exact hlt)]
   rw [hsp]
   rintro ch fs' ⟨h,rfl⟩
   have hR:tellR f L cost l=none:=by unfold tellR;exact if_neg (fun h=>by omega)
   rw [hR]
   cases h
   refine thenP ?_
   exact inPP .nil ⟨rest,⟨rfl,rfl⟩,_,qQ _ (List.Sublist.trans (List.sublist_cons_self _ _) (List.sublist_append_right _ _)),.refl _⟩
  ·have hsp:spendM (ma0 (f.rows c s m i b0) 0 0 0 0) [cost]=some (ma0 ((f.rows c s m i b0).setR (f.gas - cost) s m) 0 0 0 0):=by unfold spendM;rw [if_pos (by simp;exact hge)];simp;rfl
   rw [hsp]
   rintro ch fs' ⟨h,_⟩
   cases h
theorem Tell_calls (f:FrV) (L:FrL) (cost:Nat) (l:List Nat) (v:Value) (hll:l.length≤100000) (w:World) (hv:RowAt w 4 v l.length (wcs l)) (h:FrRows w f L):Calls Tryz.prog 39 #[frv f,.int .u64 (cost:Int),v] w (RetG w [] (ToldR f (if okF f L then tellR f L cost l else none))):=by
 obtain ⟨p,cc,rfl,_,_⟩:=id hv.form
 refine enter (args:=[_,_,_]) _ [] [] Tryz.func39 rfl Tryz.ntmps39 rfl (by simp) .nil ?_
 have hzs:=zero_sl
 (refine sRz ?_;apply zT;rfl;rfl;intro _;apply LW.box1;rfl;rfl;rfl;intro _;apply LW.box1;rfl;rfl;rfl;intro _;apply zU;rfl;intro _;refine vAz<|nSz<|ldz rfl (.tail (.tail (.tail .head))) (qF rfl) ?_;apply LW.v0;rfl;rfl;apply ValP.makeFunc;exact ArgsOk.nil;exact .cons rfl (.cons rfl .nil))
 rename_i b3 b4 b5 b6
 refine LW.callP (K:=ToldK f (if okF f L then tellR f L cost l else none) ((b6,Obj.cells (fra zeroF) 31 (0,0))::(b5,Obj.cells #[.slice p l.length cc] 23 (0,0))::(b4,Obj.cells #[.int .u64 (cost:Int)] 26 (0,0))::(b3,Obj.cells (fra f) 31 (0,0))::[])) rfl rfl inferInstance (by (exact .cons rfl (.cons rfl .nil))) rfl (fun fs h=>?_) (fun w' hst=>?_) ?_ ?_
 ·obtain ⟨_,h⟩:=h.ret;cases h
 ·by_cases hok:okF f L
  ·rw [if_pos hok]
   exact told_calls w [] f L _ _ _ _ hok.short inferInstance (tell1_does w [] f L cost l _ hll (fun w2 hb=>hv.bel hb) hok _ b4 b5 (by simp) (by simp)) hok w' hst fun w2 hb=>h.bel hb
  ·rw [if_neg hok]
   exact told_bad w [] f L _ _ _ hok w' hst fun w2 hb=>h.bel hb
 ·intro v fs' hk
  cases hR:(if okF f L then tellR f L cost l else none) with
  |none =>
   rw [hR] at hk
   obtain ⟨h1,rfl⟩:=hk
   cases h1
   (refine vEz ?_;refine vEz ?_;refine zR rfl rfl .head (.whole rfl rfl rfl)<|vAz<|nNz<|zK ?_)
   exact fin (vs:=[frv zeroF,.bool false]) [] (.inl rfl) rfl rfl (by (apply zD;apply zH;rfl;apply qE;apply zY;exact qF rfl;apply zD;exact zG rfl;exact zF)) (List.nil_sublist _) ⟨rfl,rfl⟩
  |some x =>
   rw [hR] at hk
   obtain ⟨g,L'⟩:=x
   obtain ⟨c,s,m,i,b,gs',h1,hfr,rfl⟩:=hk
   cases h1
   have hsl:=hfr.sl
   (refine vEz ?_;refine vEz ?_;apply zR;rfl;rfl;apply qC;apply qA;apply fr_wrW;rfl;assumption;refine vAz<|nNz<|zK ?_)
   exact fin (vs:=[frv (f.rowsG g c s m i b),.bool true]) gs' (.inl rfl) rfl rfl (by (apply zD;apply zH;rfl;apply qE;apply zZ;apply zY;exact qF rfl;apply zD;exact zG rfl;exact zF)) (qP _ _) ⟨c,s,m,i,b,rfl,hfr⟩
 ·intro ch fs' h
  obtain ⟨_,h⟩:=h.ret
  cases h
end
section
open CK (CheckC_calls)
theorem aOf_calls (a:Nat) (w:World):Calls Tryz.prog 65 #[wv a] w (Ret w (.int .u64 ((a % 18446744073709551616:Nat):Int))):=by
 refine enter (args:=[_]) _ [] [] Tryz.func65 rfl Tryz.ntmps65 rfl (by simp) .nil ?_
 (refine sRz ?_;apply zT;rfl;rfl;intro _;refine vAz<|nSz<|lvz (.indexAddrL rfl rfl rfl)<|ldz rfl .head (Rd.one' rfl)<|vAz<|nNz<|zK ?_)
 (apply finR;exact .inl rfl;rfl;rfl;rfl;apply zD;exact zG rfl;exact zF)
 rfl
theorem aWord_calls (a:Nat) (ha:a < 18446744073709551616) (w:World):Calls Tryz.prog 79 #[.int .u64 (a:Int)] w (Ret w (wv a)):=by
 refine enter (args:=[_]) _ [] [] Tryz.func79 rfl Tryz.ntmps79 rfl (by simp) .nil ?_
 (refine sRz ?_;apply LW.allocW;rfl;intro _;refine nSz<|vMz ?_;apply zS;rfl;rfl;infer_instance;exact .cons rfl .nil;intro w _;exact Of_calls a ha w;refine zR rfl rfl .head (.whole rfl rfl rfl)<|nNz<|zK ?_)
 (apply finR;exact .inl rfl;rfl;rfl;rfl;apply zD;apply zH;rfl;apply qE;apply zY;exact qF rfl;exact zF)
 rfl
def shq (op:Nat):Int × Int × Int × Int × Int × Bool:=if op=241 then (7,1,2,3,5,true) else if op=244∨op=250 then (6,1,-1,2,4,true) else if op=245 then (4,-1,0,1,-1,true) else (0,0,0,0,0,false)
def shc (op:Nat):List Value:=[.int .i64 (shq op).1,.int .i64 (shq op).2.1,.int .i64 (shq op).2.2.1,.int .i64 (shq op).2.2.2.1,.int .i64 (shq op).2.2.2.2.1]
theorem shaped_calls (op:Nat) (w:World):Calls Tryz.prog 47 #[.int .u8 (op:Int)] w (Ret w (.tuple #[.agg (shc op).toArray,.bool (shq op).2.2.2.2.2])):=by
 refine enter (args:=[_]) _ [] [] Tryz.func47 rfl Tryz.ntmps47 rfl (by simp) .nil ?_
 by_cases h1:op=241
 ·have hs:shq op=(7,1,2,3,5,true):=if_pos h1
  unfold shc
  rw [hs]
  (refine sRz ?_;apply zU;rfl;intro _;refine vAz<|nNz<|zI<|sRz<|vMz<|nNz<|zM<|sRz ?_;refine lvz (.eqT rfl rfl (by omega)) ?_;refine vAz<|nNz<|cTz<|sRz ?_;apply LW.v0;rfl;rfl;apply zW;infer_instance;infer_instance;apply zA;rfl;apply zA;rfl;apply zA;rfl;apply zA;rfl;apply zA;rfl;exact zB;rfl;simp only [fillP,wrCells,Value.cells,qH,qI,qJ,qG,qL,qK,Nat.reduceAdd,qN];rfl;refine zR rfl rfl .head (.whole rfl rfl rfl)<|vAz<|nNz<|zK<|blkR<|thenR ?_)
  (apply finR;exact .inl rfl;rfl;rfl;rfl;apply zD;apply zH;rfl;apply qE;apply zY;exact qF rfl;apply zD;exact zG rfl;exact zF)
  rfl
 ·by_cases h2:op=244∨op=250
  ·have hs:shq op=(6,1,-1,2,4,true):=by unfold shq;rw [if_neg h1,if_pos h2]
   unfold shc
   rw [hs]
   rcases h2 with h2|h2
   ·(refine sRz ?_;apply zU;rfl;intro _;refine vAz<|nNz<|zI<|sRz<|vMz<|nNz<|zM<|sRz ?_;refine lvz (.eqF rfl rfl (by omega)) ?_;refine vAz<|nNz<|cFz<|zI<|sRz ?_;refine lvz (.eqT rfl rfl (by omega)) ?_;refine vAz<|nNz<|cTz<|zJ<|thenN<|cTz<|sRz ?_;apply LW.v0;rfl;rfl;apply zW;infer_instance;infer_instance;apply zA;rfl;apply zA;rfl;apply zA;rfl;apply zA;rfl;apply zA;rfl;exact zB;rfl;simp only [fillP,wrCells,Value.cells,qH,qI,qJ,qG,qL,qK,Nat.reduceAdd,qN];rfl;refine zR rfl rfl .head (.whole rfl rfl rfl)<|vAz<|nNz<|zK<|blkR<|thenR ?_)
    (apply finR;exact .inl rfl;rfl;rfl;rfl;apply zD;apply zH;rfl;apply qE;apply zY;exact qF rfl;apply zD;exact zG rfl;exact zF)
    rfl
   ·(refine sRz ?_;apply zU;rfl;intro _;refine vAz<|nNz<|zI<|sRz<|vMz<|nNz<|zM<|sRz ?_;refine lvz (.eqF rfl rfl (by omega)) ?_;refine vAz<|nNz<|cFz<|zI<|sRz ?_;refine lvz (.eqF rfl rfl (by omega)) ?_;refine vAz<|nNz<|cFz<|zL ?_;refine lvz (.eqT rfl rfl (by omega)) ?_;refine vAz<|nNz<|cTz<|sRz ?_;apply LW.v0;rfl;rfl;apply zW;infer_instance;infer_instance;apply zA;rfl;apply zA;rfl;apply zA;rfl;apply zA;rfl;apply zA;rfl;exact zB;rfl;simp only [fillP,wrCells,Value.cells,qH,qI,qJ,qG,qL,qK,Nat.reduceAdd,qN];rfl;refine zR rfl rfl .head (.whole rfl rfl rfl)<|vAz<|nNz<|zK<|blkR<|thenR ?_)
    (apply finR;exact .inl rfl;rfl;rfl;rfl;apply zD;apply zH;rfl;apply qE;apply zY;exact qF rfl;apply zD;exact zG rfl;exact zF)
    rfl
  ·by_cases h3:op=245
   ·have hs:shq op=(4,-1,0,1,-1,true):=by unfold shq;rw [if_neg h1,if_neg h2,if_pos h3]
    unfold shc
    rw [hs]
    (refine sRz ?_;apply zU;rfl;intro _;refine vAz<|nNz<|zI<|sRz<|vMz<|nNz<|zM<|sRz ?_;refine lvz (.eqF rfl rfl (by omega)) ?_;refine vAz<|nNz<|cFz<|zI<|sRz ?_;refine lvz (.eqF rfl rfl (by omega)) ?_;refine vAz<|nNz<|cFz<|zL ?_;refine lvz (.eqF rfl rfl (by omega)) ?_;refine vAz<|nNz<|cFz<|sRz ?_;refine lvz (.eqT rfl rfl (by omega)) ?_;refine vAz<|nNz<|cTz<|sRz ?_;apply LW.v0;rfl;rfl;apply zW;infer_instance;infer_instance;apply zA;rfl;apply zA;rfl;apply zA;rfl;apply zA;rfl;apply zA;rfl;exact zB;rfl;simp only [fillP,wrCells,Value.cells,qH,qI,qJ,qG,qL,qK,Nat.reduceAdd,qN];rfl;refine zR rfl rfl .head (.whole rfl rfl rfl)<|vAz<|nNz<|zK<|blkR<|thenR ?_)
    (apply finR;exact .inl rfl;rfl;rfl;rfl;apply zD;apply zH;rfl;apply qE;apply zY;exact qF rfl;apply zD;exact zG rfl;exact zF)
    rfl
   ·have hs:shq op=(0,0,0,0,0,false):=by unfold shq;rw [if_neg h1,if_neg h2,if_neg h3]
    unfold shc
    rw [hs]
    (refine sRz ?_;apply zU;rfl;intro _;refine vAz<|nNz<|zI<|sRz<|vMz<|nNz<|zM<|sRz ?_;refine lvz (.eqF rfl rfl (by omega)) ?_;refine vAz<|nNz<|cFz<|zI<|sRz ?_;refine lvz (.eqF rfl rfl (by omega)) ?_;refine vAz<|nNz<|cFz<|zL ?_;refine lvz (.eqF rfl rfl (by omega)) ?_;refine vAz<|nNz<|cFz<|sRz ?_;refine lvz (.eqF rfl rfl (by omega)) ?_;refine vAz<|nNz<|cFz<|zJ<|blkN<|thenN<|sRz ?_;apply LW.v0;rfl;rfl;apply zW;infer_instance;infer_instance;exact zB;rfl;simp only [fillP,wrCells,Value.cells,qH,qI,qJ,qG,qL,qK,Nat.reduceAdd,qN];rfl;refine zR rfl rfl .head (.whole rfl rfl rfl)<|vAz<|nNz<|zK ?_)
    (apply finR;exact .inl rfl;rfl;rfl;rfl;apply zD;apply zH;rfl;apply qE;apply zY;exact qF rfl;apply zD;exact zG rfl;exact zF)
    rfl
def aska (kind:Int) (op:Nat) (ws dt:Value):Array Value:=#[.int .i64 kind,.int .u8 (op:Int),ws,dt]
def askB (kind:Int) (op n:Nat):Bool:=(shq op).2.2.2.2.2 && (decide (kind=2) && decide ((n:Int)=(shq op).1))
section rd
variable {P : Program} {T E : TypeId} {fr : Nat × Nat} {kind : Int} {op : Nat} {ws dt : Value}
theorem ask_rd0 [AgI P T false]:Rd P T (.cells (aska kind op ws dt) E fr) 0 (.int .i64 kind):=Rd.one rfl
theorem ask_rd1 [AgI P T false]:Rd P T (.cells (aska kind op ws dt) E fr) 1 (.int .u8 (op:Int)):=Rd.one rfl
theorem ask_rd2 [AgI P T false]:Rd P T (.cells (aska kind op ws dt) E fr) 2 ws:=Rd.one rfl
theorem ask_rdW {z:Value} [AgI P T true] [InfoI P T 4 z]:Rd P T (.cells (aska kind op ws dt) E fr) 0 (.agg (aska kind op ws dt)):=qF rfl
theorem sh_rd0 [AgI P T false]:Rd P T (.cells (shc op).toArray E fr) 0 (.int .i64 (shq op).1):=Rd.one rfl
theorem sh_rdW {z:Value} [AgI P T true] [InfoI P T 5 z]:Rd P T (.cells (shc op).toArray E fr) 0 (.agg (shc op).toArray):=qF rfl
end rd
attribute [local irreducible] shq
theorem shapeOf_calls (kind:Int) (op n c:Nat) (p:Option Addr) (q:Option Addr) (d e:Nat) (w:World):Calls Tryz.prog 53 #[.agg (aska kind op (.slice p n c) (.slice q d e))] w (Ret w (.tuple #[.agg (shc op).toArray,.bool (askB kind op n)])):=by
 have hSh0:=shaped_calls op
 unfold askB
 refine enter (args:=[_]) _ [] [] Tryz.func53 rfl Tryz.ntmps53 rfl (by simp) .nil ?_
 cases hb:(shq op).2.2.2.2.2 with
 |false =>
  rw [hb] at hSh0
  have hSh:∀ w,Calls Tryz.prog 47 #[.int .u8 (op:Int)] w (Ret w (.tuple #[.agg (shc op).toArray,.bool false])):=hSh0
  (refine sRz ?_;apply zT;rfl;rfl;intro _;apply zU;rfl;intro _;refine vAz<|nSz<|vFz<|ldz rfl (.tail .head) ask_rd1 ?_;apply zS;rfl;rfl;infer_instance;exact .cons rfl .nil;intro w _;exact hSh w;refine vMz ?_;refine vEz ?_;refine vEz ?_;apply zU;rfl;intro _;refine zR rfl rfl .head (.whole rfl rfl rfl)<|vAz<|nNz<|zI ?_;apply CW.pre;refine AnyW.any 16 mixed (by decide +kernel) ?_;(try simp only [tsOf_cons,tsOf_nil,tsOf_app]);apply qD;rfl;rfl;rfl;exact zC;rfl;apply zP;exact zN;exact sh_rdW;refine dvz (.move rfl)<|dvz (.move rfl) ?_;(iterate 3 refine dSz ?_);refine dvz (.pickF' rfl (by with_reducible rfl) rfl) ?_;refine dvz (.move rfl) ?_;(iterate 6 refine dSz ?_);refine dvz (.pickF' rfl (by with_reducible rfl) rfl) ?_;apply DW.store;rfl;rfl;exact zC;rfl;rfl;apply TSet.tail;apply TSet.head;exact zN;exact zN;apply Wr.whole;rfl;rfl;rfl;apply DW.nil;simp only [fsOf_cons,fsOf_nil,fsOf_app,fsOf_tsOf,fsOf_new];refine vAz<|nNz<|zK ?_)
  (apply finR;exact .inl rfl;rfl;rfl;rfl;apply zD;apply zH;rfl;apply qE;apply zX;apply zY;exact sh_rdW;apply zD;exact zG rfl;exact zF)
  rfl
 |true =>
  rw [hb] at hSh0
  have hSh:∀ w,Calls Tryz.prog 47 #[.int .u8 (op:Int)] w (Ret w (.tuple #[.agg (shc op).toArray,.bool true])):=hSh0
  by_cases hk:kind=2
  ·subst hk
   by_cases hn:(n:Int)=(shq op).1
   ·rw [decide_eq_true hn]
    (refine sRz ?_;apply zT;rfl;rfl;intro _;apply zU;rfl;intro _;refine vAz<|nSz<|vFz<|ldz rfl (.tail .head) ask_rd1 ?_;apply zS;rfl;rfl;infer_instance;exact .cons rfl .nil;intro w _;exact hSh w;refine vMz ?_;refine vEz ?_;refine vEz ?_;apply zU;rfl;intro _;refine zR rfl rfl .head (.whole rfl rfl rfl)<|vAz<|nNz<|zI ?_;apply CW.pre;refine AnyW.any 16 mixed (by decide +kernel) ?_;(try simp only [tsOf_cons,tsOf_nil,tsOf_app]);apply qD;rfl;rfl;rfl;exact zC;rfl;apply zP;exact zN;exact sh_rdW;refine dvz (.move rfl)<|dvz (.move rfl)<|dwz (.fieldAddr rfl rfl) ?_;apply qD;rfl;rfl;rfl;apply wantYes;rfl;rfl;(with_reducible rfl);rfl;apply zO;apply zO;apply zP;exact zN;exact ask_rd0;refine dwz (.eqT rfl rfl (by omega)) ?_;refine dvz (.pickT' rfl (by with_reducible rfl) rfl) ?_;refine dvz (.move rfl)<|dwz (.fieldAddr rfl rfl) ?_;apply qD;rfl;rfl;rfl;apply wantYes;rfl;rfl;(with_reducible rfl);rfl;apply zO;apply zO;apply zP;exact zN;exact ask_rd2;refine dwz (.lenR rfl inferInstance rfl)<|dwz (.fieldAddr rfl rfl) ?_;apply qD;rfl;rfl;rfl;apply wantYes;rfl;rfl;(with_reducible rfl);rfl;apply zP;exact zN;exact sh_rd0;refine dwz (.eqT rfl rfl (by omega)) ?_;refine dvz (.pickT' rfl (by with_reducible rfl) rfl) ?_;apply DW.store;rfl;rfl;exact zC;rfl;rfl;apply TSet.tail;apply TSet.head;exact zN;exact zN;apply Wr.whole;rfl;rfl;rfl;apply DW.nil;simp only [fsOf_cons,fsOf_nil,fsOf_app,fsOf_tsOf,fsOf_new];refine vAz<|nNz<|zK ?_)
    (apply finR;exact .inl rfl;rfl;rfl;rfl;apply zD;apply zH;rfl;apply qE;apply zX;apply zY;exact sh_rdW;apply zD;exact zG rfl;exact zF)
    rfl
   ·rw [decide_eq_false hn]
    (refine sRz ?_;apply zT;rfl;rfl;intro _;apply zU;rfl;intro _;refine vAz<|nSz<|vFz<|ldz rfl (.tail .head) ask_rd1 ?_;apply zS;rfl;rfl;infer_instance;exact .cons rfl .nil;intro w _;exact hSh w;refine vMz ?_;refine vEz ?_;refine vEz ?_;apply zU;rfl;intro _;refine zR rfl rfl .head (.whole rfl rfl rfl)<|vAz<|nNz<|zI ?_;apply CW.pre;refine AnyW.any 16 mixed (by decide +kernel) ?_;(try simp only [tsOf_cons,tsOf_nil,tsOf_app]);apply qD;rfl;rfl;rfl;exact zC;rfl;apply zP;exact zN;exact sh_rdW;refine dvz (.move rfl)<|dvz (.move rfl)<|dwz (.fieldAddr rfl rfl) ?_;apply qD;rfl;rfl;rfl;apply wantYes;rfl;rfl;(with_reducible rfl);rfl;apply zO;apply zO;apply zP;exact zN;exact ask_rd0;refine dwz (.eqT rfl rfl (by omega)) ?_;refine dvz (.pickT' rfl (by with_reducible rfl) rfl) ?_;refine dvz (.move rfl)<|dwz (.fieldAddr rfl rfl) ?_;apply qD;rfl;rfl;rfl;apply wantYes;rfl;rfl;(with_reducible rfl);rfl;apply zO;apply zO;apply zP;exact zN;exact ask_rd2;refine dwz (.lenR rfl inferInstance rfl)<|dwz (.fieldAddr rfl rfl) ?_;apply qD;rfl;rfl;rfl;apply wantYes;rfl;rfl;(with_reducible rfl);rfl;apply zP;exact zN;exact sh_rd0;refine dwz (.eqF rfl rfl (by omega)) ?_;refine dvz (.pickT' rfl (by with_reducible rfl) rfl) ?_;apply DW.store;rfl;rfl;exact zC;rfl;rfl;apply TSet.tail;apply TSet.head;exact zN;exact zN;apply Wr.whole;rfl;rfl;rfl;apply DW.nil;simp only [fsOf_cons,fsOf_nil,fsOf_app,fsOf_tsOf,fsOf_new];refine vAz<|nNz<|zK ?_)
    (apply finR;exact .inl rfl;rfl;rfl;rfl;apply zD;apply zH;rfl;apply qE;apply zX;apply zY;exact sh_rdW;apply zD;exact zG rfl;exact zF)
    rfl
  ·rw [decide_eq_false hk]
   (refine sRz ?_;apply zT;rfl;rfl;intro _;apply zU;rfl;intro _;refine vAz<|nSz<|vFz<|ldz rfl (.tail .head) ask_rd1 ?_;apply zS;rfl;rfl;infer_instance;exact .cons rfl .nil;intro w _;exact hSh w;refine vMz ?_;refine vEz ?_;refine vEz ?_;apply zU;rfl;intro _;refine zR rfl rfl .head (.whole rfl rfl rfl)<|vAz<|nNz<|zI ?_;apply CW.pre;refine AnyW.any 16 mixed (by decide +kernel) ?_;(try simp only [tsOf_cons,tsOf_nil,tsOf_app]);apply qD;rfl;rfl;rfl;exact zC;rfl;apply zP;exact zN;exact sh_rdW;refine dvz (.move rfl)<|dvz (.move rfl)<|dwz (.fieldAddr rfl rfl) ?_;apply qD;rfl;rfl;rfl;apply wantYes;rfl;rfl;(with_reducible rfl);rfl;apply zO;apply zO;apply zP;exact zN;exact ask_rd0;refine dwz (.eqF rfl rfl (by omega)) ?_;refine dvz (.pickT' rfl (by with_reducible rfl) rfl) ?_;refine dvz (.move rfl) ?_;(iterate 6 refine dSz ?_);refine dvz (.pickF' rfl (by with_reducible rfl) rfl) ?_;apply DW.store;rfl;rfl;exact zC;rfl;rfl;apply TSet.tail;apply TSet.head;exact zN;exact zN;apply Wr.whole;rfl;rfl;rfl;apply DW.nil;simp only [fsOf_cons,fsOf_nil,fsOf_app,fsOf_tsOf,fsOf_new];refine vAz<|nNz<|zK ?_)
   (apply finR;exact .inl rfl;rfl;rfl;rfl;apply zD;apply zH;rfl;apply qE;apply zX;apply zY;exact sh_rdW;apply zD;exact zG rfl;exact zF)
   rfl
theorem word_rd {P:Program} {T E:TypeId} {fr:Nat × Nat} {cs:Array Value} {off m:Nat} {l:List Nat} [AgI P T true] {z:Value} [InfoI P T 4 z] (hx:(cs.toList.drop off).take m=wcs l) (i:Nat) (hi:i < l.length):Rd P T (.cells cs E fr) (off+i * 4) (wv (l.getD i 0)):=by
 have h:=Rd.elemA (P:=P) (T:=T) (E:=E) (fr:=fr) (g:=fun a=>(wc a).toList) (l:=l) (a:=l[i]) hx (wcs_len l) (List.getElem?_eq_getElem hi)
 rw [List.getD_eq_getElem?_getD,List.getElem?_eq_getElem hi]
 exact h
theorem shq_ok {op:Nat} (h:(shq op).2.2.2.2.2=true):(op=241∧shq op=(7,1,2,3,5,true))∨((op=244∨op=250)∧shq op=(6,1,-1,2,4,true))∨(op=245∧shq op=(4,-1,0,1,-1,true)):=by
 unfold shq at h ⊢
 by_cases h1:op=241
 ·rw [if_pos h1] at h ⊢;exact .inl ⟨h1,rfl⟩
 ·rw [if_neg h1] at h ⊢
  by_cases h2:op=244∨op=250
  ·rw [if_pos h2] at h ⊢;exact .inr (.inl ⟨h2,rfl⟩)
  ·rw [if_neg h2] at h ⊢
   by_cases h3:op=245
   ·rw [if_pos h3] at h ⊢;exact .inr (.inr ⟨h3,rfl⟩)
   ·rw [if_neg h3] at h;cases h
def targetB (kind:Int) (op n:Nat):Bool:=askB kind op n && decide (op ≠ 245)
def targetN (kind:Int) (op:Nat) (ws:List Nat):Nat:=if targetB kind op ws.length then ws.getD 1 0 % 18446744073709551616 else 0
theorem Target_calls (kind:Int) (op:Nat) (ws:List Nat) (v:Value) (q:Option Addr) (d e:Nat) (w:World) (hv:RowAt w 4 v ws.length (wcs ws)):Calls Tryz.prog 28 #[.agg (aska kind op v (.slice q d e))] w (Ret w (.tuple #[.int .u64 (targetN kind op ws:Int),.bool (targetB kind op ws.length)])):=by
 obtain ⟨p,c,rfl,_,_⟩:=id hv.form
 have hSh0:=shapeOf_calls kind op ws.length c p q d e
 unfold targetN targetB
 refine enter (args:=[_]) _ [] [] Tryz.func28 rfl Tryz.ntmps28 rfl (by simp) .nil ?_
 cases hb:askB kind op ws.length with
 |false =>
  rw [hb] at hSh0
  have hSh:∀ w,Calls Tryz.prog 53 #[.agg (aska kind op (.slice p ws.length c) (.slice q d e))] w (Ret w (.tuple #[.agg (shc op).toArray,.bool false])):=hSh0
  (refine sRz ?_;apply zT;rfl;rfl;intro _;refine vAz<|vAz<|nSz<|ldz rfl .head ask_rdW ?_;apply zS;rfl;rfl;infer_instance;exact .cons rfl .nil;intro w _;exact hSh w;refine vMz ?_;refine vEz ?_;refine vEz ?_;apply zU;rfl;intro _;refine zR rfl rfl .head (.whole rfl rfl rfl)<|vAz<|nNz<|zI<|sRz<|vMz ?_;refine lvz (.notF rfl (by with_reducible rfl)) ?_;refine vMz ?_;(iterate 3 refine gFz ?_);refine pTz<|nNz<|cTz<|sRz<|vAz<|vAz<|nNz<|zK<|thenR ?_)
  (apply finR;exact .inl rfl;rfl;rfl;rfl;apply zD;exact zG rfl;apply zD;exact zG rfl;exact zF)
  rfl
 |true =>
  rw [hb] at hSh0
  have hk:=hb
  unfold askB at hk
  rw [Bool.and_eq_true,Bool.and_eq_true,decide_eq_true_eq,decide_eq_true_eq] at hk
  obtain ⟨h1,h2,h3⟩:=hk
  have hlt:3 < ws.length:=by rcases shq_ok h1 with ⟨_,h⟩|⟨_,h⟩|⟨_,h⟩<;>rw [h] at h3<;>dsimp only at h3<;>omega
  obtain ⟨b,off,c',cs,E,fr,heq,hbk,hx⟩:=hv.pos (by omega)
  cases heq
  have hrd:=word_rd (P:=Tryz.prog) (T:=29) (E:=E) (fr:=fr) hx 1 (by omega)
  obtain ⟨x,hx1⟩:∃ x,ws.getD 1 0=x:=⟨_,rfl⟩
  rw [hx1] at hrd ⊢
  unfold shc at hSh0
  rcases shq_ok h1 with ⟨ho,hs⟩|⟨ho,hs⟩|⟨ho,hs⟩
  ·rw [hs] at hSh0
   have hSh:∀ w,Calls Tryz.prog 53 #[.agg (aska kind op (.slice (some ⟨b,off,none⟩) ws.length c) (.slice q d e))] w (Ret w (.tuple #[.agg #[.int .i64 7,.int .i64 1,.int .i64 2,.int .i64 3,.int .i64 5],.bool true])):=hSh0
   rw [decide_eq_true (show op ≠ 245 by omega)]
   (refine sRz ?_;apply zT;rfl;rfl;intro _;refine vAz<|vAz<|nSz<|ldz rfl .head ask_rdW ?_;apply zS;rfl;rfl;infer_instance;exact .cons rfl .nil;intro w _;exact hSh w;refine vMz ?_;refine vEz ?_;refine vEz ?_;apply zU;rfl;intro _;refine zR rfl rfl .head (.whole rfl rfl rfl)<|vAz<|nNz<|zI<|sRz<|vMz ?_;refine lvz (.notT rfl (by with_reducible rfl)) ?_;refine vMz<|gTz<|vFz<|gTz<|ldz rfl .head (Rd.one' rfl)<|gTz ?_;refine lvz (.lssF rfl rfl (by omega)) ?_;refine pFz<|nNz<|cFz<|zJ<|thenN<|sRz<|vFz<|ldz rfl (.tail .head) ask_rd2<|vFz<|ldz rfl .head (Rd.one' rfl) ?_;refine lvz (.indexAddrSL rfl rfl (by decide) (by omega)) ?_;apply LW.load;rfl;rfl;exact Known.ext (by assumption) (by simp);assumption;apply zS;rfl;rfl;infer_instance;exact .cons rfl .nil;intro w _;exact aOf_calls _ w;refine vAz<|vAz<|nNz<|zK ?_)
   (apply finR;exact .inl rfl;rfl;rfl;rfl;apply zD;exact zG rfl;apply zD;exact zG rfl;exact zF)
   rfl
  ·rw [hs] at hSh0
   have hSh:∀ w,Calls Tryz.prog 53 #[.agg (aska kind op (.slice (some ⟨b,off,none⟩) ws.length c) (.slice q d e))] w (Ret w (.tuple #[.agg #[.int .i64 6,.int .i64 1,.int .i64 (-1),.int .i64 2,.int .i64 4],.bool true])):=hSh0
   rw [decide_eq_true (show op ≠ 245 by omega)]
   (refine sRz ?_;apply zT;rfl;rfl;intro _;refine vAz<|vAz<|nSz<|ldz rfl .head ask_rdW ?_;apply zS;rfl;rfl;infer_instance;exact .cons rfl .nil;intro w _;exact hSh w;refine vMz ?_;refine vEz ?_;refine vEz ?_;apply zU;rfl;intro _;refine zR rfl rfl .head (.whole rfl rfl rfl)<|vAz<|nNz<|zI<|sRz<|vMz ?_;refine lvz (.notT rfl (by with_reducible rfl)) ?_;refine vMz<|gTz<|vFz<|gTz<|ldz rfl .head (Rd.one' rfl)<|gTz ?_;refine lvz (.lssF rfl rfl (by omega)) ?_;refine pFz<|nNz<|cFz<|zJ<|thenN<|sRz<|vFz<|ldz rfl (.tail .head) ask_rd2<|vFz<|ldz rfl .head (Rd.one' rfl) ?_;refine lvz (.indexAddrSL rfl rfl (by decide) (by omega)) ?_;apply LW.load;rfl;rfl;exact Known.ext (by assumption) (by simp);assumption;apply zS;rfl;rfl;infer_instance;exact .cons rfl .nil;intro w _;exact aOf_calls _ w;refine vAz<|vAz<|nNz<|zK ?_)
   (apply finR;exact .inl rfl;rfl;rfl;rfl;apply zD;exact zG rfl;apply zD;exact zG rfl;exact zF)
   rfl
  ·rw [hs] at hSh0
   have hSh:∀ w,Calls Tryz.prog 53 #[.agg (aska kind op (.slice (some ⟨b,off,none⟩) ws.length c) (.slice q d e))] w (Ret w (.tuple #[.agg #[.int .i64 4,.int .i64 (-1),.int .i64 0,.int .i64 1,.int .i64 (-1)],.bool true])):=hSh0
   rw [decide_eq_false (show ¬ op ≠ 245 by omega)]
   (refine sRz ?_;apply zT;rfl;rfl;intro _;refine vAz<|vAz<|nSz<|ldz rfl .head ask_rdW ?_;apply zS;rfl;rfl;infer_instance;exact .cons rfl .nil;intro w _;exact hSh w;refine vMz ?_;refine vEz ?_;refine vEz ?_;apply zU;rfl;intro _;refine zR rfl rfl .head (.whole rfl rfl rfl)<|vAz<|nNz<|zI<|sRz<|vMz ?_;refine lvz (.notT rfl (by with_reducible rfl)) ?_;refine vMz<|gTz<|vFz<|gTz<|ldz rfl .head (Rd.one' rfl)<|gTz ?_;refine lvz (.lssT rfl rfl (by omega)) ?_;refine pFz<|nNz<|cTz<|sRz<|vAz<|vAz<|nNz<|zK<|thenR ?_)
   (apply finR;exact .inl rfl;rfl;rfl;rfl;apply zD;exact zG rfl;apply zD;exact zG rfl;exact zF)
   rfl
end
section
open CK (CheckC_calls)
structure ClV where
 op:Nat
 dst:Nat
 self:Nat
 frm:Nat
 val:Nat
 mv:Bool
 gas:Nat
 inp:Value
 code:Value
 pl:Nat
 n:Nat
 stat:Bool
def clc (c:ClV):List Value:=.int .u8 (c.op:Int)::.int .u64 (c.dst:Int)::.int .u64 (c.self:Int)::.int .u64 (c.frm:Int)::((wc c.val).toList++[.bool c.mv,.int .u64 (c.gas:Int),c.inp,c.code,.int .u64 (c.pl:Int),.int .u64 (c.n:Int),.bool c.stat])
abbrev cla (c:ClV):Array Value:=(clc c).toArray
abbrev clv (c:ClV):Value:=.agg (cla c)
structure ClL where
 il:List UInt8
 cl:List UInt8
structure ClRows (w:World) (c:ClV) (L:ClL):Prop where
 i:RowAt w 1 c.inp L.il.length (ucs L.il)
 c:RowAt w 1 c.code L.cl.length (ucs L.cl)
theorem ClRows.st {w0 w:World} {f:ClV} {L:ClL} {fs:Fs} (h:ClRows w0 f L) (hs:St w0 [] fs w):ClRows w f L:=⟨h.i.st hs,h.c.st hs⟩
section rd
variable {P : Program} {T E : TypeId} {fr : Nat × Nat} {op dst self frm val gas pl n : Nat} {inp code : Value} {mv stat : Bool}
theorem cl_rd0 [AgI P T false]:Rd P T (.cells (cla ⟨op,dst,self,frm,val,mv,gas,inp,code,pl,n,stat⟩) E fr) 0 (.int .u8 (op:Int)):=Rd.one rfl
theorem cl_rd1 [AgI P T false]:Rd P T (.cells (cla ⟨op,dst,self,frm,val,mv,gas,inp,code,pl,n,stat⟩) E fr) 1 (.int .u64 (dst:Int)):=Rd.one rfl
theorem cl_rd2 [AgI P T false]:Rd P T (.cells (cla ⟨op,dst,self,frm,val,mv,gas,inp,code,pl,n,stat⟩) E fr) 2 (.int .u64 (self:Int)):=Rd.one rfl
theorem cl_rd3 [AgI P T false]:Rd P T (.cells (cla ⟨op,dst,self,frm,val,mv,gas,inp,code,pl,n,stat⟩) E fr) 3 (.int .u64 (frm:Int)):=Rd.one rfl
theorem cl_rd4 [AgI P T true] {z:Value} [InfoI P T 4 z]:Rd P T (.cells (cla ⟨op,dst,self,frm,val,mv,gas,inp,code,pl,n,stat⟩) E fr) 4 (wv val):=Rd.mid (cs:=(wc val).toList) rfl rfl
theorem cl_rd8 [AgI P T false]:Rd P T (.cells (cla ⟨op,dst,self,frm,val,mv,gas,inp,code,pl,n,stat⟩) E fr) 8 (.bool mv):=Rd.one rfl
theorem cl_rd9 [AgI P T false]:Rd P T (.cells (cla ⟨op,dst,self,frm,val,mv,gas,inp,code,pl,n,stat⟩) E fr) 9 (.int .u64 (gas:Int)):=Rd.one rfl
theorem cl_rd10 [AgI P T false]:Rd P T (.cells (cla ⟨op,dst,self,frm,val,mv,gas,inp,code,pl,n,stat⟩) E fr) 10 inp:=Rd.one rfl
theorem cl_rd11 [AgI P T false]:Rd P T (.cells (cla ⟨op,dst,self,frm,val,mv,gas,inp,code,pl,n,stat⟩) E fr) 11 code:=Rd.one rfl
theorem cl_rd12 [AgI P T false]:Rd P T (.cells (cla ⟨op,dst,self,frm,val,mv,gas,inp,code,pl,n,stat⟩) E fr) 12 (.int .u64 (pl:Int)):=Rd.one rfl
theorem cl_rd13 [AgI P T false]:Rd P T (.cells (cla ⟨op,dst,self,frm,val,mv,gas,inp,code,pl,n,stat⟩) E fr) 13 (.int .u64 (n:Int)):=Rd.one rfl
theorem cl_rd14 [AgI P T false]:Rd P T (.cells (cla ⟨op,dst,self,frm,val,mv,gas,inp,code,pl,n,stat⟩) E fr) 14 (.bool stat):=Rd.one rfl
theorem cl_rdW {c:ClV} {z:Value} [AgI P T true] [InfoI P T 15 z]:Rd P T (.cells (cla c) E fr) 0 (clv c):=qF rfl
end rd
def okC (c:ClV) (L:ClL):Prop:=(c.op=241∨c.op=244∨c.op=245∨c.op=250)∧(c.gas≤20000∧L.il.length≤1024∧L.cl.length≤200)∧(c.n≤1024∧c.pl+c.n≤1024∧(0 < c.n∨c.pl=0))∧(c.op=245→L.il.length=0∧c.n=0)∧(¬ c.op=245→L.cl.length=0)
instance (c:ClV) (L:ClL):Decidable (okC c L):=by unfold okC;infer_instance
attribute [local irreducible] shq
theorem callCheck_calls (c:ClV) (L:ClL) (w:World) (h:ClRows w c L):Calls Tryz.prog 19 #[clv c] w (Ret w (.int .i64 (if okC c L then 0 else 250))):=by
 obtain ⟨e,he⟩:∃ e:Int,e=if okC c L then 0 else 250:=⟨_,rfl⟩
 have hp:okC c L→e=0:=fun h=>by rw [he,if_pos h]
 have hn:¬ okC c L→e=250:=fun h=>by rw [he,if_neg h]
 rw [← he]
 clear he
 unfold okC at hp hn
 obtain ⟨op,dst,self,frm,val,mv,gas,inp,code,pl,n,stat⟩:=c
 obtain ⟨h10,h11⟩:=h
 dsimp only at h10 h11 hp hn
 obtain ⟨p10,c10,rfl,_,hm10⟩:=h10.form
 obtain ⟨p11,c11,rfl,_,hm11⟩:=h11.form
 have hCk0:∀ w' {fs},St w [] fs w'→Calls Tryz.prog 48 #[.slice p11 L.cl.length c11] w' (Ret w' (.int .i64 (if L.cl.length≤200 then 0 else 3))):=fun w' fs hst=>CheckC_calls _ _ _ w' (h11.st hst)
 simp only [maxLen] at hm10 hm11
 have hSh0:=shaped_calls op
 refine enter (args:=[_]) _ [] [] Tryz.func19 rfl Tryz.ntmps19 rfl (by simp) .nil ?_
 by_cases hop:op=241∨op=244∨op=245∨op=250
 ·have hb:(shq op).2.2.2.2.2=true:=by unfold shq;rcases hop with h|h|h|h<;>subst h<;>rfl
  rw [hb] at hSh0
  have hSh:∀ w,Calls Tryz.prog 47 #[.int .u8 (op:Int)] w (Ret w (.tuple #[.agg (shc op).toArray,.bool true])):=hSh0
  by_cases hc:L.cl.length≤200
  ·rw [if_pos hc] at hCk0
   have hCk:∀ w' {fs},St w [] fs w'→Calls Tryz.prog 48 #[.slice p11 L.cl.length c11] w' (Ret w' (.int .i64 0)):=hCk0
   by_cases h245:op=245
   ·(refine sRz ?_;apply zT;rfl;rfl;intro _;refine vAz<|nSz<|vFz<|ldz rfl .head cl_rd0 ?_;apply zS;rfl;rfl;infer_instance;exact .cons rfl .nil;intro w _;exact hSh w;refine vMz ?_;refine vEz ?_;refine vEz ?_;apply zU;rfl;intro _;refine zR rfl rfl .head (.whole rfl rfl rfl)<|vAz<|nSz<|vMz<|vMz<|gTz<|vFz<|gTz<|ldz rfl (.tail .head) cl_rd9<|gTz<|lvz (.leq rfl rfl)<|pTz<|vMz ?_)
    (refine LW.guardDT rfl rfl rfl (fun hsq hsp=>?_) (fun hsq hsp=>?_))
    (refine vFz<|gTaz<|ldz rfl (.tail .head) cl_rd10<|gTaz<|lvz (.lenR rfl inferInstance rfl)<|gTaz<|lvz (.leq rfl rfl)<|pTaz<|vMz ?_;refine LW.guardDT rfl rfl rfl (fun hsq hsp=>?_) (fun hsq hsp=>?_);refine vFz<|gTaz<|ldz rfl (.tail .head) cl_rd11<|gTaz ?_;apply zS;rfl;rfl;infer_instance;exact .cons rfl .nil;intro w _;exact hCk w (by assumption);refine gTaz ?_;refine lvz (.eqT rfl rfl (by omega)) ?_;refine pTaz<|vAz<|nSz<|vMz<|vMz<|gTz<|vFz<|gTz<|ldz rfl (.tail .head) cl_rd13<|gTz<|lvz (.leq rfl rfl)<|pTz<|vMz ?_;refine LW.guardDT rfl rfl rfl (fun hsq hsp=>?_) (fun hsq hsp=>?_);refine vFz<|gTaz<|ldz rfl (.tail .head) cl_rd12<|gTaz<|vFz<|gTaz<|ldz rfl (.tail .head) cl_rd13<|gTaz ?_;refine lvz (.subNK rfl rfl (by decide) (by omega) (by omega)) ?_;refine gTaz<|lvz (.leq rfl rfl)<|pTaz<|vMz ?_;refine LW.guardDT rfl rfl rfl (fun hsq hsp=>?_) (fun hsq hsp=>?_);refine vFz<|gTaz<|ldz rfl (.tail .head) cl_rd13<|gTaz<|lvz (.gtr rfl rfl)<|gTaz<|vMz ?_;refine LW.guardDF rfl rfl rfl (fun hsq hsp=>?_) (fun hsq hsp=>?_);refine vFz<|gTaz<|ldz rfl (.tail .head) cl_rd12<|gTaz<|lvz (.eq rfl rfl)<|gTaz<|pFaz<|pTaz<|vAz<|nNz<|zI<|sRz<|vFz<|ldz rfl (.tail .head) cl_rd0 ?_;refine lvz (.eqT rfl rfl (by omega)) ?_;refine nNz<|cTz<|zL<|vMz<|vMz ?_;refine LW.guardDT rfl rfl rfl (fun hsq hsp=>?_) (fun hsq hsp=>?_);refine vFz<|gTaz<|ldz rfl (.tail .head) cl_rd10<|gTaz<|lvz (.lenR rfl inferInstance rfl)<|gTaz<|lvz (.eq rfl rfl)<|pTaz<|vMz ?_;refine LW.guardDT rfl rfl rfl (fun hsq hsp=>?_) (fun hsq hsp=>?_);refine vFz<|gTaz<|ldz rfl (.tail .head) cl_rd13<|gTaz ?_;refine lvz (.eqT rfl rfl (by omega)) ?_;refine pTaz<|vAz<|nNz<|zI<|sRz<|vMz ?_;refine lvz (.notT rfl (by with_reducible rfl)) ?_;refine nNz<|cFz<|zJ<|thenN<|sRz<|vAz<|nNz<|zK ?_;apply finR;exact .inl rfl;rfl;rfl;rfl;apply zD;exact zG rfl;exact zF;rw [hp (by omega)];rfl;refine gFaz<|gFaz<|pFaz<|vAz<|nNz<|zI<|sRz<|vMz ?_;refine lvz (.notF rfl (by with_reducible rfl)) ?_;refine nNz<|cTz<|sRz<|vAz<|nNz<|zK ?_;refine thenR (finR (.inl rfl) rfl rfl rfl (.cons (.tmp rfl) .nil) ?_);rw [hn (by omega)];rfl;(iterate 3 refine gFaz ?_);refine pFaz<|vMz ?_;(iterate 3 refine gFz ?_);refine pFz<|vAz<|nNz<|zI<|sRz<|vMz ?_;refine lvz (.notF rfl (by with_reducible rfl)) ?_;refine nNz<|cTz<|sRz<|vAz<|nNz<|zK ?_;refine thenR (finR (.inl rfl) rfl rfl rfl (.cons (.tmp rfl) .nil) ?_);rw [hn (by omega)];rfl;refine gFaz<|gFaz<|gTaz<|pTaz<|pTaz<|vAz<|nNz<|zI<|sRz<|vFz<|ldz rfl (.tail .head) cl_rd0 ?_;refine lvz (.eqT rfl rfl (by omega)) ?_;refine nNz<|cTz<|zL<|vMz<|vMz<|gTz<|vFz<|gTz<|ldz rfl (.tail .head) cl_rd10<|gTz<|lvz (.lenR rfl inferInstance rfl)<|gTz<|lvz (.eq rfl rfl)<|pTz ?_;refine vMz ?_;refine LW.guardDT rfl rfl rfl (fun hsq hsp=>?_) (fun hsq hsp=>?_);refine vFz<|gTaz<|ldz rfl (.tail .head) cl_rd13<|gTaz ?_;refine lvz (.eqF rfl rfl (by omega)) ?_;refine pTaz<|vAz<|nNz<|zI<|sRz<|vMz ?_;refine lvz (.notF rfl (by with_reducible rfl)) ?_;refine nNz<|cTz<|sRz<|vAz<|nNz<|zK ?_;refine thenR (finR (.inl rfl) rfl rfl rfl (.cons (.tmp rfl) .nil) ?_);rw [hn (by omega)];rfl;refine gFaz<|gFaz<|pFaz<|vAz<|nNz<|zI<|sRz<|vMz ?_;refine lvz (.notF rfl (by with_reducible rfl)) ?_;refine nNz<|cTz<|sRz<|vAz<|nNz<|zK ?_;refine thenR (finR (.inl rfl) rfl rfl rfl (.cons (.tmp rfl) .nil) ?_);rw [hn (by omega)];rfl;(iterate 3 refine gFaz ?_);(iterate 3 refine gUz ?_);refine gFaz<|pFaz<|vAz<|nNz<|zI<|sRz<|vFz<|ldz rfl (.tail .head) cl_rd0 ?_;refine lvz (.eqT rfl rfl (by omega)) ?_;refine nNz<|cTz<|zL<|vMz<|vMz ?_;(iterate 4 refine gFz ?_);refine pFz<|vMz ?_;(iterate 3 refine gFz ?_);refine pFz<|vAz<|nNz<|zI<|sRz<|vMz ?_;refine lvz (.notF rfl (by with_reducible rfl)) ?_;refine nNz<|cTz<|sRz<|vAz<|nNz<|zK ?_;refine thenR (finR (.inl rfl) rfl rfl rfl (.cons (.tmp rfl) .nil) ?_);rw [hn (by omega)];rfl;(iterate 5 refine gFaz ?_);refine pFaz<|vMz ?_;(iterate 4 refine gFz ?_);(iterate 3 refine gUz ?_);refine gFz<|pFz<|vAz<|nNz<|zI<|sRz<|vFz<|ldz rfl (.tail .head) cl_rd0 ?_;refine lvz (.eqT rfl rfl (by omega)) ?_;refine nNz<|cTz<|zL<|vMz<|vMz ?_;(iterate 4 refine gFz ?_);refine pFz<|vMz ?_;(iterate 3 refine gFz ?_);refine pFz<|vAz<|nNz<|zI<|sRz<|vMz ?_;refine lvz (.notF rfl (by with_reducible rfl)) ?_;refine nNz<|cTz<|sRz<|vAz<|nNz<|zK ?_;refine thenR (finR (.inl rfl) rfl rfl rfl (.cons (.tmp rfl) .nil) ?_);rw [hn (by omega)];rfl;(iterate 3 refine gFaz ?_);refine pFaz<|vAz<|nSz<|vMz<|vMz ?_;(iterate 3 refine gFz ?_);refine pFz<|vMz ?_;(iterate 6 refine gFz ?_);refine pFz<|vMz ?_;(iterate 4 refine gFz ?_);(iterate 3 refine gUz ?_);refine gFz<|pFz<|vAz<|nNz<|zI<|sRz<|vFz<|ldz rfl (.tail .head) cl_rd0 ?_;refine lvz (.eqT rfl rfl (by omega)) ?_;refine nNz<|cTz<|zL<|vMz<|vMz ?_;(iterate 4 refine gFz ?_);refine pFz<|vMz ?_;(iterate 3 refine gFz ?_);refine pFz<|vAz<|nNz<|zI<|sRz<|vMz ?_;refine lvz (.notF rfl (by with_reducible rfl)) ?_;refine nNz<|cTz<|sRz<|vAz<|nNz<|zK ?_;refine thenR (finR (.inl rfl) rfl rfl rfl (.cons (.tmp rfl) .nil) ?_);rw [hn (by omega)];rfl;(iterate 3 refine gFaz ?_);refine pFaz<|vMz ?_;(iterate 4 refine gFz ?_);refine pFz<|vAz<|nSz<|vMz<|vMz ?_;(iterate 3 refine gFz ?_);refine pFz<|vMz ?_;(iterate 6 refine gFz ?_);refine pFz<|vMz ?_;(iterate 4 refine gFz ?_);(iterate 3 refine gUz ?_);refine gFz<|pFz<|vAz<|nNz<|zI<|sRz<|vFz<|ldz rfl (.tail .head) cl_rd0 ?_;refine lvz (.eqT rfl rfl (by omega)) ?_;refine nNz<|cTz<|zL<|vMz<|vMz ?_;(iterate 4 refine gFz ?_);refine pFz<|vMz ?_;(iterate 3 refine gFz ?_);refine pFz<|vAz<|nNz<|zI<|sRz<|vMz ?_;refine lvz (.notF rfl (by with_reducible rfl)) ?_;refine nNz<|cTz<|sRz<|vAz<|nNz<|zK ?_;refine thenR (finR (.inl rfl) rfl rfl rfl (.cons (.tmp rfl) .nil) ?_);rw [hn (by omega)];rfl)
   ·(refine sRz ?_;apply zT;rfl;rfl;intro _;refine vAz<|nSz<|vFz<|ldz rfl .head cl_rd0 ?_;apply zS;rfl;rfl;infer_instance;exact .cons rfl .nil;intro w _;exact hSh w;refine vMz ?_;refine vEz ?_;refine vEz ?_;apply zU;rfl;intro _;refine zR rfl rfl .head (.whole rfl rfl rfl)<|vAz<|nSz<|vMz<|vMz<|gTz<|vFz<|gTz<|ldz rfl (.tail .head) cl_rd9<|gTz<|lvz (.leq rfl rfl)<|pTz<|vMz ?_)
    (refine LW.guardDT rfl rfl rfl (fun hsq hsp=>?_) (fun hsq hsp=>?_))
    (refine vFz<|gTaz<|ldz rfl (.tail .head) cl_rd10<|gTaz<|lvz (.lenR rfl inferInstance rfl)<|gTaz<|lvz (.leq rfl rfl)<|pTaz<|vMz ?_;refine LW.guardDT rfl rfl rfl (fun hsq hsp=>?_) (fun hsq hsp=>?_);refine vFz<|gTaz<|ldz rfl (.tail .head) cl_rd11<|gTaz ?_;apply zS;rfl;rfl;infer_instance;exact .cons rfl .nil;intro w _;exact hCk w (by assumption);refine gTaz ?_;refine lvz (.eqT rfl rfl (by omega)) ?_;refine pTaz<|vAz<|nSz<|vMz<|vMz<|gTz<|vFz<|gTz<|ldz rfl (.tail .head) cl_rd13<|gTz<|lvz (.leq rfl rfl)<|pTz<|vMz ?_;refine LW.guardDT rfl rfl rfl (fun hsq hsp=>?_) (fun hsq hsp=>?_);refine vFz<|gTaz<|ldz rfl (.tail .head) cl_rd12<|gTaz<|vFz<|gTaz<|ldz rfl (.tail .head) cl_rd13<|gTaz ?_;refine lvz (.subNK rfl rfl (by decide) (by omega) (by omega)) ?_;refine gTaz<|lvz (.leq rfl rfl)<|pTaz<|vMz ?_;refine LW.guardDT rfl rfl rfl (fun hsq hsp=>?_) (fun hsq hsp=>?_);refine vFz<|gTaz<|ldz rfl (.tail .head) cl_rd13<|gTaz<|lvz (.gtr rfl rfl)<|gTaz<|vMz ?_;refine LW.guardDF rfl rfl rfl (fun hsq hsp=>?_) (fun hsq hsp=>?_);refine vFz<|gTaz<|ldz rfl (.tail .head) cl_rd12<|gTaz<|lvz (.eq rfl rfl)<|gTaz<|pFaz<|pTaz<|vAz<|nNz<|zI<|sRz<|vFz<|ldz rfl (.tail .head) cl_rd0 ?_;refine lvz (.eqF rfl rfl (by omega)) ?_;refine nNz<|cFz<|zL<|vMz<|vMz ?_;refine LW.guardDT rfl rfl rfl (fun hsq hsp=>?_) (fun hsq hsp=>?_);refine vFz<|gTaz<|ldz rfl (.tail .head) cl_rd11<|gTaz<|lvz (.lenR rfl inferInstance rfl)<|gTaz<|lvz (.eq rfl rfl)<|pTaz<|vAz<|nNz<|zI<|sRz<|vMz<|lvz (.notB rfl) ?_;refine nNz ?_;refine CW.condN rfl (fun hsq hsp=>?_) (fun hsq hsp=>?_);refine sRz<|vAz<|nNz<|zK ?_;refine thenR (finR (.inl rfl) rfl rfl rfl (.cons (.tmp rfl) .nil) ?_);rw [hn (by omega)];rfl;refine zJ<|thenN<|sRz<|vAz<|nNz<|zK ?_;apply finR;exact .inl rfl;rfl;rfl;rfl;apply zD;exact zG rfl;exact zF;rw [hp (by omega)];rfl;(iterate 3 refine gFaz ?_);refine pFaz<|vAz<|nNz<|zI<|sRz<|vMz ?_;refine lvz (.notF rfl (by with_reducible rfl)) ?_;refine nNz<|cTz<|sRz<|vAz<|nNz<|zK ?_;refine thenR (finR (.inl rfl) rfl rfl rfl (.cons (.tmp rfl) .nil) ?_);rw [hn (by omega)];rfl;refine gFaz<|gFaz<|gTaz<|pTaz<|pTaz<|vAz<|nNz<|zI<|sRz<|vFz<|ldz rfl (.tail .head) cl_rd0 ?_;refine lvz (.eqF rfl rfl (by omega)) ?_;refine nNz<|cFz<|zL<|vMz<|vMz<|gTz<|vFz<|gTz<|ldz rfl (.tail .head) cl_rd11<|gTz<|lvz (.lenR rfl inferInstance rfl)<|gTz<|lvz (.eq rfl rfl)<|pTz ?_;refine vAz<|nNz<|zI<|sRz<|vMz<|lvz (.notB rfl)<|nNz ?_;refine CW.condN rfl (fun hsq hsp=>?_) (fun hsq hsp=>?_);refine sRz<|vAz<|nNz<|zK ?_;refine thenR (finR (.inl rfl) rfl rfl rfl (.cons (.tmp rfl) .nil) ?_);rw [hn (by omega)];rfl;refine zJ<|thenN<|sRz<|vAz<|nNz<|zK ?_;apply finR;exact .inl rfl;rfl;rfl;rfl;apply zD;exact zG rfl;exact zF;rw [hp (by omega)];rfl;(iterate 3 refine gFaz ?_);(iterate 3 refine gUz ?_);refine gFaz<|pFaz<|vAz<|nNz<|zI<|sRz<|vFz<|ldz rfl (.tail .head) cl_rd0 ?_;refine lvz (.eqF rfl rfl (by omega)) ?_;refine nNz<|cFz<|zL<|vMz<|vMz ?_;(iterate 4 refine gFz ?_);refine pFz<|vAz<|nNz<|zI<|sRz<|vMz ?_;refine lvz (.notF rfl (by with_reducible rfl)) ?_;refine nNz<|cTz<|sRz<|vAz<|nNz<|zK ?_;refine thenR (finR (.inl rfl) rfl rfl rfl (.cons (.tmp rfl) .nil) ?_);rw [hn (by omega)];rfl;(iterate 5 refine gFaz ?_);refine pFaz<|vMz ?_;(iterate 4 refine gFz ?_);(iterate 3 refine gUz ?_);refine gFz<|pFz<|vAz<|nNz<|zI<|sRz<|vFz<|ldz rfl (.tail .head) cl_rd0 ?_;refine lvz (.eqF rfl rfl (by omega)) ?_;refine nNz<|cFz<|zL<|vMz<|vMz ?_;(iterate 4 refine gFz ?_);refine pFz<|vAz<|nNz<|zI<|sRz<|vMz ?_;refine lvz (.notF rfl (by with_reducible rfl)) ?_;refine nNz<|cTz<|sRz<|vAz<|nNz<|zK ?_;refine thenR (finR (.inl rfl) rfl rfl rfl (.cons (.tmp rfl) .nil) ?_);rw [hn (by omega)];rfl;(iterate 3 refine gFaz ?_);refine pFaz<|vAz<|nSz<|vMz<|vMz ?_;(iterate 3 refine gFz ?_);refine pFz<|vMz ?_;(iterate 6 refine gFz ?_);refine pFz<|vMz ?_;(iterate 4 refine gFz ?_);(iterate 3 refine gUz ?_);refine gFz<|pFz<|vAz<|nNz<|zI<|sRz<|vFz<|ldz rfl (.tail .head) cl_rd0 ?_;refine lvz (.eqF rfl rfl (by omega)) ?_;refine nNz<|cFz<|zL<|vMz<|vMz ?_;(iterate 4 refine gFz ?_);refine pFz<|vAz<|nNz<|zI<|sRz<|vMz ?_;refine lvz (.notF rfl (by with_reducible rfl)) ?_;refine nNz<|cTz<|sRz<|vAz<|nNz<|zK ?_;refine thenR (finR (.inl rfl) rfl rfl rfl (.cons (.tmp rfl) .nil) ?_);rw [hn (by omega)];rfl;(iterate 3 refine gFaz ?_);refine pFaz<|vMz ?_;(iterate 4 refine gFz ?_);refine pFz<|vAz<|nSz<|vMz<|vMz ?_;(iterate 3 refine gFz ?_);refine pFz<|vMz ?_;(iterate 6 refine gFz ?_);refine pFz<|vMz ?_;(iterate 4 refine gFz ?_);(iterate 3 refine gUz ?_);refine gFz<|pFz<|vAz<|nNz<|zI<|sRz<|vFz<|ldz rfl (.tail .head) cl_rd0 ?_;refine lvz (.eqF rfl rfl (by omega)) ?_;refine nNz<|cFz<|zL<|vMz<|vMz ?_;(iterate 4 refine gFz ?_);refine pFz<|vAz<|nNz<|zI<|sRz<|vMz ?_;refine lvz (.notF rfl (by with_reducible rfl)) ?_;refine nNz<|cTz<|sRz<|vAz<|nNz<|zK ?_;refine thenR (finR (.inl rfl) rfl rfl rfl (.cons (.tmp rfl) .nil) ?_);rw [hn (by omega)];rfl)
  ·rw [if_neg hc] at hCk0
   have hCk:∀ w' {fs},St w [] fs w'→Calls Tryz.prog 48 #[.slice p11 L.cl.length c11] w' (Ret w' (.int .i64 3)):=hCk0
   rw [hn (fun h=>hc h.2.1.2.2)] at *
   clear hp hn
   by_cases h245:op=245
   ·(refine sRz ?_;apply zT;rfl;rfl;intro _;refine vAz<|nSz<|vFz<|ldz rfl .head cl_rd0 ?_;apply zS;rfl;rfl;infer_instance;exact .cons rfl .nil;intro w _;exact hSh w;refine vMz ?_;refine vEz ?_;refine vEz ?_;apply zU;rfl;intro _;refine zR rfl rfl .head (.whole rfl rfl rfl)<|vAz<|nSz<|vMz<|vMz<|gTz<|vFz<|gTz<|ldz rfl (.tail .head) cl_rd9<|gTz<|lvz (.leq rfl rfl)<|pTz<|vMz ?_)
    (refine LW.guardDT rfl rfl rfl (fun hsq hsp=>?_) (fun hsq hsp=>?_))
    (refine vFz<|gTaz<|ldz rfl (.tail .head) cl_rd10<|gTaz<|lvz (.lenR rfl inferInstance rfl)<|gTaz<|lvz (.leq rfl rfl)<|pTaz<|vMz ?_;refine LW.guardDT rfl rfl rfl (fun hsq hsp=>?_) (fun hsq hsp=>?_);refine vFz<|gTaz<|ldz rfl (.tail .head) cl_rd11<|gTaz ?_;apply zS;rfl;rfl;infer_instance;exact .cons rfl .nil;intro w _;exact hCk w (by assumption);refine gTaz ?_;refine lvz (.eqF rfl rfl (by omega)) ?_;refine pTaz<|vAz<|nSz<|vMz<|vMz ?_;(iterate 3 refine gFz ?_);refine pFz<|vMz ?_;(iterate 6 refine gFz ?_);refine pFz<|vMz ?_;(iterate 4 refine gFz ?_);(iterate 3 refine gUz ?_);refine gFz<|pFz<|vAz<|nNz<|zI<|sRz<|vFz<|ldz rfl (.tail .head) cl_rd0 ?_;refine lvz (.eqT rfl rfl (by omega)) ?_;refine nNz<|cTz<|zL<|vMz<|vMz ?_;(iterate 4 refine gFz ?_);refine pFz<|vMz ?_;(iterate 3 refine gFz ?_);refine pFz<|vAz<|nNz<|zI<|sRz<|vMz ?_;refine lvz (.notF rfl (by with_reducible rfl)) ?_;refine nNz<|cTz<|sRz<|vAz<|nNz<|zK ?_;refine thenR (finR (.inl rfl) rfl rfl rfl (.cons (.tmp rfl) .nil) ?_);rfl;(iterate 3 refine gFaz ?_);refine pFaz<|vAz<|nSz<|vMz<|vMz ?_;(iterate 3 refine gFz ?_);refine pFz<|vMz ?_;(iterate 6 refine gFz ?_);refine pFz<|vMz ?_;(iterate 4 refine gFz ?_);(iterate 3 refine gUz ?_);refine gFz<|pFz<|vAz<|nNz<|zI<|sRz<|vFz<|ldz rfl (.tail .head) cl_rd0 ?_;refine lvz (.eqT rfl rfl (by omega)) ?_;refine nNz<|cTz<|zL<|vMz<|vMz ?_;(iterate 4 refine gFz ?_);refine pFz<|vMz ?_;(iterate 3 refine gFz ?_);refine pFz<|vAz<|nNz<|zI<|sRz<|vMz ?_;refine lvz (.notF rfl (by with_reducible rfl)) ?_;refine nNz<|cTz<|sRz<|vAz<|nNz<|zK ?_;refine thenR (finR (.inl rfl) rfl rfl rfl (.cons (.tmp rfl) .nil) ?_);rfl;(iterate 3 refine gFaz ?_);refine pFaz<|vMz ?_;(iterate 4 refine gFz ?_);refine pFz<|vAz<|nSz<|vMz<|vMz ?_;(iterate 3 refine gFz ?_);refine pFz<|vMz ?_;(iterate 6 refine gFz ?_);refine pFz<|vMz ?_;(iterate 4 refine gFz ?_);(iterate 3 refine gUz ?_);refine gFz<|pFz<|vAz<|nNz<|zI<|sRz<|vFz<|ldz rfl (.tail .head) cl_rd0 ?_;refine lvz (.eqT rfl rfl (by omega)) ?_;refine nNz<|cTz<|zL<|vMz<|vMz ?_;(iterate 4 refine gFz ?_);refine pFz<|vMz ?_;(iterate 3 refine gFz ?_);refine pFz<|vAz<|nNz<|zI<|sRz<|vMz ?_;refine lvz (.notF rfl (by with_reducible rfl)) ?_;refine nNz<|cTz<|sRz<|vAz<|nNz<|zK ?_;refine thenR (finR (.inl rfl) rfl rfl rfl (.cons (.tmp rfl) .nil) ?_);rfl)
   ·(refine sRz ?_;apply zT;rfl;rfl;intro _;refine vAz<|nSz<|vFz<|ldz rfl .head cl_rd0 ?_;apply zS;rfl;rfl;infer_instance;exact .cons rfl .nil;intro w _;exact hSh w;refine vMz ?_;refine vEz ?_;refine vEz ?_;apply zU;rfl;intro _;refine zR rfl rfl .head (.whole rfl rfl rfl)<|vAz<|nSz<|vMz<|vMz<|gTz<|vFz<|gTz<|ldz rfl (.tail .head) cl_rd9<|gTz<|lvz (.leq rfl rfl)<|pTz<|vMz ?_)
    (refine LW.guardDT rfl rfl rfl (fun hsq hsp=>?_) (fun hsq hsp=>?_))
    (refine vFz<|gTaz<|ldz rfl (.tail .head) cl_rd10<|gTaz<|lvz (.lenR rfl inferInstance rfl)<|gTaz<|lvz (.leq rfl rfl)<|pTaz<|vMz ?_;refine LW.guardDT rfl rfl rfl (fun hsq hsp=>?_) (fun hsq hsp=>?_);refine vFz<|gTaz<|ldz rfl (.tail .head) cl_rd11<|gTaz ?_;apply zS;rfl;rfl;infer_instance;exact .cons rfl .nil;intro w _;exact hCk w (by assumption);refine gTaz ?_;refine lvz (.eqF rfl rfl (by omega)) ?_;refine pTaz<|vAz<|nSz<|vMz<|vMz ?_;(iterate 3 refine gFz ?_);refine pFz<|vMz ?_;(iterate 6 refine gFz ?_);refine pFz<|vMz ?_;(iterate 4 refine gFz ?_);(iterate 3 refine gUz ?_);refine gFz<|pFz<|vAz<|nNz<|zI<|sRz<|vFz<|ldz rfl (.tail .head) cl_rd0 ?_;refine lvz (.eqF rfl rfl (by omega)) ?_;refine nNz<|cFz<|zL<|vMz<|vMz ?_;(iterate 4 refine gFz ?_);refine pFz<|vAz<|nNz<|zI<|sRz<|vMz ?_;refine lvz (.notF rfl (by with_reducible rfl)) ?_;refine nNz<|cTz<|sRz<|vAz<|nNz<|zK ?_;refine thenR (finR (.inl rfl) rfl rfl rfl (.cons (.tmp rfl) .nil) ?_);rfl;(iterate 3 refine gFaz ?_);refine pFaz<|vAz<|nSz<|vMz<|vMz ?_;(iterate 3 refine gFz ?_);refine pFz<|vMz ?_;(iterate 6 refine gFz ?_);refine pFz<|vMz ?_;(iterate 4 refine gFz ?_);(iterate 3 refine gUz ?_);refine gFz<|pFz<|vAz<|nNz<|zI<|sRz<|vFz<|ldz rfl (.tail .head) cl_rd0 ?_;refine lvz (.eqF rfl rfl (by omega)) ?_;refine nNz<|cFz<|zL<|vMz<|vMz ?_;(iterate 4 refine gFz ?_);refine pFz<|vAz<|nNz<|zI<|sRz<|vMz ?_;refine lvz (.notF rfl (by with_reducible rfl)) ?_;refine nNz<|cTz<|sRz<|vAz<|nNz<|zK ?_;refine thenR (finR (.inl rfl) rfl rfl rfl (.cons (.tmp rfl) .nil) ?_);rfl;(iterate 3 refine gFaz ?_);refine pFaz<|vMz ?_;(iterate 4 refine gFz ?_);refine pFz<|vAz<|nSz<|vMz<|vMz ?_;(iterate 3 refine gFz ?_);refine pFz<|vMz ?_;(iterate 6 refine gFz ?_);refine pFz<|vMz ?_;(iterate 4 refine gFz ?_);(iterate 3 refine gUz ?_);refine gFz<|pFz<|vAz<|nNz<|zI<|sRz<|vFz<|ldz rfl (.tail .head) cl_rd0 ?_;refine lvz (.eqF rfl rfl (by omega)) ?_;refine nNz<|cFz<|zL<|vMz<|vMz ?_;(iterate 4 refine gFz ?_);refine pFz<|vAz<|nNz<|zI<|sRz<|vMz ?_;refine lvz (.notF rfl (by with_reducible rfl)) ?_;refine nNz<|cTz<|sRz<|vAz<|nNz<|zK ?_;refine thenR (finR (.inl rfl) rfl rfl rfl (.cons (.tmp rfl) .nil) ?_);rfl)
 ·have hb:(shq op).2.2.2.2.2=false:=by unfold shq;rw [if_neg (by omega),if_neg (by omega),if_neg (by omega)]
  rw [hb] at hSh0
  have hSh:∀ w,Calls Tryz.prog 47 #[.int .u8 (op:Int)] w (Ret w (.tuple #[.agg (shc op).toArray,.bool false])):=hSh0
  rw [hn (fun h=>hop h.1)]
  clear hp hn
  have h245:¬ op=245:=by omega
  (refine sRz ?_;apply zT;rfl;rfl;intro _;refine vAz<|nSz<|vFz<|ldz rfl .head cl_rd0 ?_;apply zS;rfl;rfl;infer_instance;exact .cons rfl .nil;intro w _;exact hSh w;refine vMz ?_;refine vEz ?_;refine vEz ?_;apply zU;rfl;intro _;refine zR rfl rfl .head (.whole rfl rfl rfl)<|vAz<|nSz<|vMz<|vMz ?_;(iterate 3 refine gFz ?_);refine pFz<|vMz ?_;(iterate 4 refine gFz ?_);refine pFz<|vMz ?_;(iterate 4 refine gFz ?_);refine pFz<|vAz<|nSz<|vMz<|vMz ?_;(iterate 3 refine gFz ?_);refine pFz<|vMz ?_;(iterate 6 refine gFz ?_);refine pFz<|vMz ?_;(iterate 4 refine gFz ?_);(iterate 3 refine gUz ?_);refine gFz<|pFz<|vAz<|nNz<|zI<|sRz<|vFz<|ldz rfl (.tail .head) cl_rd0 ?_;refine lvz (.eqF rfl rfl (by omega)) ?_;refine nNz<|cFz<|zL<|vMz<|vMz ?_;(iterate 4 refine gFz ?_);refine pFz<|vAz<|nNz<|zI<|sRz<|vMz ?_;refine lvz (.notF rfl (by with_reducible rfl)) ?_;refine nNz<|cTz<|sRz<|vAz<|nNz<|zK<|thenR ?_)
  (apply finR;exact .inl rfl;rfl;rfl;rfl;apply zD;exact zG rfl;exact zF)
  rfl
end

end Go.Proofs.YtpgdnfgjbhdbpaaGreatDoor
namespace Go.Proofs.YtpgdnfgjbhdbpaaGreatDoor.SL
set_option linter.unusedVariables false
set_option linter.unusedSimpArgs false
open Go Go.RowKit
section dw
variable {C : Cu} {ops : Array Oper} {μ : Mu} {Q : Post} {tl rest : List Oper} {k d : Nat} {e : Env} {ts : Ts} {t : TypeId} {pos : String} {af : Array Edge} {g : Option (Nat × Bool)}
end dw
end Go.Proofs.YtpgdnfgjbhdbpaaGreatDoor.SL
namespace Go.Proofs.YtpgdnfgjbhdbpaaGreatDoor.SL
set_option linter.unusedVariables false
set_option linter.unusedSimpArgs false
open Go Go.RowKit
theorem upon_join {F:Fence} {n:Nat} {P:Program} {o:Oper} {a:Act} {w:World} {K K':Act→World→Prop} {Q Q':Exit→Act→World→Prop} (h:∀ a w,K a w→K' a w) (hp:∀ ch a w,Q (.panic ch) a w→Q' (.panic ch) a w) (hl:LetsOut Q→LetsOut Q')
  (hh:o.wpIn F n P a w K Q):o.wpIn F n P a w K' Q':=by
 unfold Oper.wpIn at *
 refine ⟨hh.1,?_⟩
 have hh:=hh.2
 generalize (o.semAt F.round a.eval).run P w=r at *
 cases r with
 |ok x w' =>
  cases x<;>simp only [Oper.uponIn] at hh ⊢ <;>
   first
    |exact h _ _ hh
    |exact ⟨hh.1,CallsIn.mono hh.2 (fun e w'' he=>by cases e<;>first|exact h _ _ he|exact hp _ _ _ he|exact hl he)⟩
    |exact ⟨hh.1,RowsIn.mono hh.2 (fun _ _ he=>h _ _ he)⟩
    |exact ⟨hh.1,RoundIn.mono hh.2 (fun e w'' he=>by cases e<;>first|exact h _ _ he|exact hp _ _ _ he|exact hl he)⟩
 |halt x w'=>cases x<;>simp only [Oper.uponIn] at hh ⊢<;>first|exact hp _ _ _ hh|exact hh
theorem list_join {F:Fence} {n:Nat} {P:Program} {ops:Array Oper} {Qm Q:Exit→Act→World→Prop} {l2:List Oper} (hn:∀ a w,Qm .normal a w→wpListIn F n P ops Q l2 a w) (hp:∀ ch a w,Qm (.panic ch) a w→Q (.panic ch) a w) (hl:LetsOut Qm→LetsOut Q) :
  ∀ (l1:List Oper) (a:Act) (w:World),wpListIn F n P ops Qm l1 a w→wpListIn F n P ops Q (l1++l2) a w
 |[],a,w,h=>hn a w h
 |o::r,a,w,h=>by
  rw [List.cons_append]
  unfold wpListIn at h ⊢
  split
  ·rename_i hw
   rw [if_pos hw] at h
   exact upon_join (fun a w h=>list_join hn hp hl r a w h) hp hl h
  ·rename_i hw
   rw [if_neg hw] at h
   exact ⟨h.1,list_join hn hp hl r _ _ h.2⟩
def joinQ (C:Cu) (e1:Env) (fs1:Fs) (Q:Post):Post:=fun x ds e fs=>match x with
 |.normal=>ds=C.ds∧e.le e1∧List.Sublist fs1 fs
 |x=>Q x ds e fs
theorem LW.join {C:Cu} {ops:Array Oper} {Q:Post} {l:List Oper} {e:Env} {fs:Fs} (k:Nat) (e1:Env) (fs1:Fs) (h2:LW C ops Q (l.drop k) e1 fs1) (h1:LW C ops (joinQ C e1 fs1 Q) (l.take k) e fs):LW C ops Q l e fs:=fun a w hs=>by
 have h:=h1 a w hs
 rw [← List.take_append_drop k l]
 refine list_join (fun a w hq=>?_) (fun ch a w hq=>?_) (fun hq=>?_) _ _ _ h
 ·obtain ⟨ds,e',fs',⟨rfl,h4,h5⟩,s⟩:=hq
  exact h2 a w (fs_sub s h4 h5)
 ·obtain ⟨ds,e',fs',hq,s⟩:=hq
  exact ⟨ds,e',fs',hq,s⟩
 ·obtain ⟨a,w,ds,e',fs',hq,s⟩:=hq
  exact ⟨a,w,ds,e',fs',hq,s⟩
theorem joinI {C:Cu} {e1 e:Env} {fs1 fs:Fs} {Q:Post} (h1:e.le e1) (h2:List.Sublist fs1 fs):joinQ C e1 fs1 Q .normal C.ds e fs:=⟨rfl,h1,h2⟩
section hm
variable {P : Program} {e : Env} {T : TypeId} {x : Operand} {n : Nat}
theorem run_slice_hm {w:World} {a:Option Addr} {len cap:Nat} (ht:P.underlying T=some (.slice (P.elem T))) (kh km:IntKind) (h m:Int) (h0:0≤h) (h2:h≤m) (h3:m≤cap) :
  (Instr.slice T (.slice a len cap) none (some (.int kh h)) (some (.int km m))).run P w=((sizeOf (P.elem T)).run P w).andThen fun s w=>.ok (sliced a 0 h.toNat m.toNat s) w:=by
 have eh:(h.toNat:Int)=h:=Int.toNat_of_nonneg (by omega)
 have em:(m.toNat:Int)=m:=Int.toNat_of_nonneg (by omega)
 simp [Instr.slice,run_underlying ht,Instr.sliceBounds,run_sliceBound,sliced, *,eh,em,(by omega:0≤h),(by omega:0≤m)]
theorem ValP.cutMax {ik im:IntKind} {E j k c sz:Nat} {z:Value} {p:Option Addr} {hi mx:Operand} (hU:UnI P T (.slice E)) (hI:InfoI P E sz z) (hx:e.ev x=some (.slice p n c)) (hh:e.ev hi=some (.int ik (j:Int))) (hm:e.ev mx=some (.int im (k:Int))) (h2:j≤k) (h3:k≤c) :
  ValP P e [] (.slice T x none (some hi) (some mx)) (.slice p j k):=fun ρ w hρ _ d t pos af g=>by
 have hu:P.underlying T=some (.slice E):=hU.un
 have h1:=run_slice_hm (P:=P) (T:=T) (w:=w) (a:=p) (len:=n) (cap:=c) (elem_un hu) ik im (j:Int) (k:Int) (by omega) (by omega) (by omega)
 rw [elem_eq hu,run_size] at h1
 have h2:(Instr.sliceAt T (.slice p n c) none (some (.int ik (j:Int))) (some (.int im (k:Int)))).run P w=.ok (.slice p j k) w:=by
  rw [run_sliceAt_slice (w:=w) T _ _ _ _ (elem_un hu),h1]
  simp only [Result.andThen_ok,sliced,Int.toNat_natCast,Nat.sub_zero,Nat.zero_mul]
  cases p with
  |none=>simp
  |some a=>cases a with|mk b o s=>simp [addr_add,Addr.add]
 simp [execOp,hρ x _ hx,hρ hi _ hh,hρ mx _ hm,h2]
end hm
theorem LW.copyNone {C:Cu} {ops:Array Oper} {Q:Post} {rest:List Oper} {e:Env} {fs:Fs} {d:Nat} {t:TypeId} {pos:String} {af:Array Edge} {x y:Operand} {tys:Array TypeId} {T E bytes:TypeId} {z:Value} {p q:Option Addr} {n c m c':Nat} (hd:Nat.blt d C.N=true) (hT:tys=#[T,T]) (hU:UnI C.P T (.slice E)) (hI:InfoI C.P E 1 z) (hB:BytI C.P E bytes)
  (hx:e.ev x=some (.slice p n c)) (hy:e.ev y=some (.slice q m c')) (h0:Nat.min m n=0) (k:LW C ops Q rest ((d,.int .i64 0)::e) fs) :
  LW C ops Q (⟨some d,.call { callee:=.builtin .copy,args:=#[x,y],argTypes:=tys },t,pos,af,none⟩::rest) e fs:=by
 subst hT
 have hsz:(C.P.info? E).map (·.size)=some 1:=by
  obtain ⟨i,i1,i2,i3,i4⟩:=info_all (P:=C.P) (T:=E);rw [i1];simp [i2]
 refine LW.v0 hd rfl (fun ρ w hρ _ d t pos af g=>?_) k
 have hrun:=run_copy_none (P:=C.P) w T T t E p q n c m c' hU.un hsz h0
 simp [execOp,resolve,invoke,builtin,hρ x _ hx,hρ y _ hy,hrun,goInt]
section dv
variable {C : Cu} {ops : Array Oper} {Q : Post} {tl rest : List Oper} {e : Env} {ts : Ts} {μ : Mu} {k d : Nat} {t : TypeId} {pos : String} {af : Array Edge} {g : Option (Nat × Bool)} {fo : Operand} {args : Array Operand} {tys : Array TypeId} {f : FuncId} {vs vs' : List Value} {us : Fs} {ts' : Ts}
theorem DW.callW {v:Value} (hk:ops[k]?=some ⟨some d,.call { callee:=.value fo,args:=args,argTypes:=tys },t,pos,af,g⟩) (hm:μ k=none)
  (hd:Nat.blt d C.N=true) (hg:WantT ops e g) (hf:e.ev fo=some (.func (.func f) #[] #[])) (hF:FnI C.P f) (ha:ArgsOk e args.toList vs) (hbl:vs.flatMap (blocksN 4)=vs'.flatMap (blocksN 4)) (hr:RdV C ops k vs' ts us ts')
  (hc:∀ w,Bel C.w0.heap.size C.S C.w0 w→(∀ p∈us,w.heap[p.1]?=some p.2)→Calls C.P f vs.toArray w (Ret w v)) (kk:DW C ops μ Q tl rest (k+1) ((d,v)::e) ts') :
  DW C ops μ Q tl (⟨some d,.call { callee:=.value fo,args:=args,argTypes:=tys },t,pos,af,g⟩::rest) k e ts:=by
 obtain ⟨us2,h1,h2⟩:=hr.all
 rw [← hbl] at h1
 exact DW.callE hk hm hd hg hf hF ha (show _=vs.flatMap (blocksN 4) from rfl) h1 (fun w hb hu=>hc w hb fun p hp=>hu p (h2 p hp)) kk
theorem DW.manyW {M:Rel1} (hk:ops[k]?=some ⟨some d,.call { callee:=.value fo,args:=args,argTypes:=tys },t,pos,af,g⟩) (hm:μ k=some (cst M,(false:Fl)))
  (hd:Nat.blt d C.N=true) (hg:WantT ops e g) (hf:e.ev fo=some (.func (.func f) #[] #[])) (hF:FnI C.P f) (ha:ArgsOk e args.toList vs) (hbl:vs.flatMap (blocksN 4)=vs'.flatMap (blocksN 4)) (hr:RdV C ops k vs' ts us ts')
  (hc:∀ w,Bel C.w0.heap.size C.S C.w0 w→(∀ p∈us,w.heap[p.1]?=some p.2)→Calls C.P f vs.toArray w (RetG w [] M)) (kk:∀ v gs,M v gs→DW C ops μ Q tl rest (k+1) ((d,v)::e) (tsNew k gs++ts')) :
  DW C ops μ Q tl (⟨some d,.call { callee:=.value fo,args:=args,argTypes:=tys },t,pos,af,g⟩::rest) k e ts:=by
 obtain ⟨us2,h1,h2⟩:=hr.all
 rw [← hbl] at h1
 exact DW.manyE hk hm hd hg hf hF ha (show _=vs.flatMap (blocksN 4) from rfl) h1 (fun w hb hu=>hc w hb fun p hp=>hu p (h2 p hp)) kk
theorem blocks_sl {x:Value} (h:∃ p n c,x=.slice p n c):blocksN 3 x=blocksN 4 x:=by
 obtain ⟨p,n,c,rfl⟩:=h
 cases p<;>rfl
end dv
section de
variable {C : Cu} {ops : Array Oper} {μ : Mu} {Q : Post} {tl rest : List Oper} {k d : Nat} {e : Env} {ts : Ts} {t : TypeId} {pos : String} {af : Array Edge} {g : Option (Nat × Bool)}
end de
end Go.Proofs.YtpgdnfgjbhdbpaaGreatDoor.SL
namespace Go.Proofs.YtpgdnfgjbhdbpaaGreatDoor
open Go Go.RowKit SL
set_option maxRecDepth 8000
set_option maxHeartbeats 4000000
set_option linter.unusedSimpArgs false
set_option linter.unusedVariables false
attribute [local irreducible] SL.CW SL.LW SL.DW Calls SL.Ret SL.RetG SL.beginQ SL.roundQ SL.rangeQ SL.RW SL.AnyW SL.thenQ SL.thenC SL.thenW SL.blkQ SL.finQ SL.ValP SL.NewP SL.SetP SL.CallP SL.Rd SL.Wr SL.Known
structure FrNum (f:FrV) (L:FrL):Prop where
 gas:f.gas < 18446744073709551616
 self:f.self < 18446744073709551616
 frm:f.frm < 18446744073709551616
 val:f.val < M256
 ws:∀ x∈L.ws,x < M256
theorem SL.LW.joinF {C:Cu} {ops:Array Oper} {Q:Post} {l:List Oper} {e:Env} {fs:Fs} (k:Nat) (e1:Env) (h2:LW C ops Q (l.drop k) e1 fs) (h1:LW C ops (joinQ C e1 fs Q) (l.take k) e fs):LW C ops Q l e fs:=LW.join k e1 fs h2 h1
section
open CK (readB)
theorem IsRow.le {E:TypeId} {sz n n' c:Nat} {p:Option Addr} {xs:List Value} {seg:Fs} (h:IsRow E sz (.slice p n' c) n xs seg):n'≤c:=by
 cases h with
 |nil=>exact Nat.le_refl _
 |own hn _ _ _ _=>exact hn
end
section
open CK (readB readFrom readFrom_hit)
def staF (c:ClV) (cv sv mv iv bv:Value):FrV:=⟨cv,0,sv,mv,c.gas,c.self,c.frm,c.val,iv,bv,c.stat⟩
def staL (L:ClL) (pl:List UInt8):FrL:=⟨pl,[],[],L.il,[]⟩
def okS (c:ClV) (L:ClL) (pl:List UInt8):Prop:=okC c L∧¬ c.self=0∧pl.length≤200
theorem okS_frame {c:ClV} {L:ClL} {pl:List UInt8} {a b d e f:Value} (h:okC c L):okF (staF c a b d e f) (staL L pl)↔(¬ c.self=0∧pl.length≤200):=by
 have hr:((0:Int)=(pl.length:Int))∨readB pl 0=true:=by
  rcases Nat.eq_zero_or_pos pl.length with h0|h0
  ·exact .inl (by omega)
  ·refine .inr ?_
   have h1:readFrom pl 0 ((0:Nat):Int)=true:=readFrom_hit h0
   have h2:readFrom pl 0 0=readB pl 0:=by unfold readFrom readB;rw [List.drop_zero]
   rw [← h2];exact h1
 obtain ⟨_,⟨h1,h2,_⟩,_⟩:=h
 unfold okF staF staL okSc
 dsimp only
 constructor
 ·rintro ⟨_,h3,h4,_⟩
  exact ⟨h3,h4⟩
 ·rintro ⟨h3,h4⟩
  exact ⟨⟨h2,by simp,h1⟩,h3,h4,⟨by simp,by simp,by simp⟩,hr⟩
def progL (c:ClV) (L:ClL) (pl:List UInt8):List UInt8:=if c.op=245 then L.cl else pl
def StaR (z:Value) (y:Value) (c:ClV) (L:ClL) (pl:List UInt8) (v:Value) (gs:Fs):Prop :=
 (okS c L pl∧∃ a b d e f,v=.tuple #[frv (staF c a b d e f),y]∧FrO (staF c a b d e f) (staL L pl) gs)∨(¬ okS c L pl∧v=.tuple #[frv zeroF,z]∧gs=[])
theorem Start_calls (c:ClV) (L:ClL) (pl:List UInt8) (hi:L.il.length≤100000) (hc:L.cl.length≤100000) (hpl:pl.length≤100000) (v:Value) (w:World) (hv:RowAt w 1 v pl.length (ucs pl)) (h:ClRows w c L) :
  Calls Tryz.prog 22 #[clv c,v] w (RetG w [] (StaR (.int .i64 250) (.int .i64 0) c L (progL c L pl))):=by
 have hCc0:=fun w' {fs:Fs} (hst:St w [] fs w')=>callCheck_calls c L w' (h.st hst)
 obtain ⟨op,dst,self,frm,val,mv,gas,inp,code,pc,n,stat⟩:=c
 obtain ⟨h10,h11⟩:=h
 dsimp only at h10 h11 hCc0
 obtain ⟨p10,c10,rfl,_,_⟩:=id h10.form
 obtain ⟨p11,c11,rfl,_,_⟩:=id h11.form
 obtain ⟨pv,cv,rfl,_,_⟩:=id hv.form
 have hzs:=zero_sl
 have hCc1:okC ⟨op,dst,self,frm,val,mv,gas,.slice p10 L.il.length c10,.slice p11 L.cl.length c11,pc,n,stat⟩ L→∀ w' {fs:Fs},St w [] fs w'→Calls Tryz.prog 19 #[clv ⟨op,dst,self,frm,val,mv,gas,.slice p10 L.il.length c10,.slice p11 L.cl.length c11,pc,n,stat⟩] w' (Ret w' (.int .i64 0)):=fun hok w' fs hst=>by have h:=hCc0 w' hst;rwa [if_pos hok] at h
 have hCc2:¬ okC ⟨op,dst,self,frm,val,mv,gas,.slice p10 L.il.length c10,.slice p11 L.cl.length c11,pc,n,stat⟩ L→∀ w' {fs:Fs},St w [] fs w'→Calls Tryz.prog 19 #[clv ⟨op,dst,self,frm,val,mv,gas,.slice p10 L.il.length c10,.slice p11 L.cl.length c11,pc,n,stat⟩] w' (Ret w' (.int .i64 250)):=fun hok w' fs hst=>by have h:=hCc0 w' hst;rwa [if_neg hok] at h
 by_cases h245:op=245
 ·have hpr:progL ⟨op,dst,self,frm,val,mv,gas,.slice p10 L.il.length c10,.slice p11 L.cl.length c11,pc,n,stat⟩ L pl=L.cl:=if_pos h245
  rw [hpr]
  refine enter (args:=[_,_]) _ [] [] Tryz.func22 rfl Tryz.ntmps22 rfl (by simp) .nil ?_
  (refine sRz ?_;apply zT;rfl;rfl;intro _;apply zU;rfl;intro _;refine vAz<|nNz<|zI<|sRz<|vFz<|ldz rfl (.tail .head) cl_rd0 ?_;refine lvz (.eqT rfl rfl (by omega)) ?_;refine nNz<|cTz<|zL<|vFz<|ldz rfl (.tail .head) cl_rd11<|vAz<|nSz<|vMz<|vFz<|ldz rfl (.tail .head) cl_rd9<|vFz<|ldz rfl (.tail .head) cl_rd2<|vFz<|ldz rfl (.tail .head) cl_rd3 ?_;refine vFz<|ldz rfl (.tail .head) cl_rd4<|vFz<|ldz rfl (.tail .head) cl_rd10<|vFz<|ldz rfl (.tail .head) cl_rd14 ?_;apply LW.v0;rfl;rfl;apply zW;infer_instance;infer_instance;apply zA;rfl;apply zA;rfl;apply zA;rfl;apply zA;rfl;apply zA;rfl;apply zA;rfl;apply zA;rfl;exact zB;rfl;simp only [fillP,wrCells,fra,frc,wc,Value.cells,qH,qI,qJ,qG,qL,qK,List.cons_append,List.nil_append,Nat.reduceAdd,qN];rfl)
  (apply LW.callR;rfl;rfl;infer_instance;exact .cons rfl .nil;intro w hs)
  exact callCopied_calls ⟨.slice p11 L.cl.length c11,0,.slice none 0 0,.slice none 0 0,gas,self,frm,val,.slice p10 L.il.length c10,.slice none 0 0,stat⟩ (staL L L.cl) ⟨hc,by simp [staL],by simp [staL],hi,by simp [staL]⟩ w ⟨h11.st hs,.nil,.nil,h10.st hs,.nil⟩
  rintro vo go ⟨a,b,d,e,f,rfl,hfr⟩
  have hsl:=hfr.sl
  by_cases hok:okC ⟨op,dst,self,frm,val,mv,gas,.slice p10 L.il.length c10,.slice p11 L.cl.length c11,pc,n,stat⟩ L
  ·have hCc:=hCc1 hok
   by_cases hs2:¬ self=0∧L.cl.length≤200
   ·have hFc:∀ w' {fs:Fs},St w [] fs w'→(∀ p∈go,p∈fs)→Calls Tryz.prog 31 #[frv (staF ⟨op,dst,self,frm,val,mv,gas,.slice p10 L.il.length c10,.slice p11 L.cl.length c11,pc,n,stat⟩ a b d e f)] w' (Ret w' (.int .i64 0)):=fun w' fs hst hm=>by
     have h:=fCheck_calls (staF ⟨op,dst,self,frm,val,mv,gas,.slice p10 L.il.length c10,.slice p11 L.cl.length c11,pc,n,stat⟩ a b d e f) (staL L L.cl) w' (hfr.st hst hm)
     rwa [if_pos ((okS_frame hok).2 hs2)] at h
    (apply zU;rfl;intro _;apply zR;rfl;rfl;apply qA;apply fr_wrW;rfl;assumption;refine nNz<|zI<|sRz<|ldz rfl (.tail (.app (.tail .head))) cl_rdW ?_;apply zS;rfl;rfl;infer_instance;exact .cons rfl .nil;intro w _;exact hCc w (by assumption);refine lvz (.neF rfl rfl (by omega)) ?_;refine vMz<|gTz<|ldz rfl .head fr_rdW<|gTz ?_;apply zS;rfl;rfl;infer_instance;exact .cons rfl .nil;intro w _;exact hFc w (by assumption) (fun p hp=>qO _ (List.mem_append_left _ hp));refine gTz ?_;refine lvz (.neF rfl rfl (by omega)) ?_;refine pFz<|nNz<|cFz<|zJ<|thenN<|sRz<|ldz rfl .head fr_rdW ?_;apply zR;rfl;rfl;apply qB;apply qC;apply qA;apply fr_wrW;rfl;assumption;refine vAz<|nNz<|zK ?_)
    refine fin (vs:=[frv (staF ⟨op,dst,self,frm,val,mv,gas,.slice p10 L.il.length c10,.slice p11 L.cl.length c11,pc,n,stat⟩ a b d e f),.int .i64 0]) go (.inl rfl) rfl rfl (by (apply zD;apply zH;rfl;apply qE;apply zX;apply zZ;apply zY;exact fr_rdW;apply zD;exact zG rfl;exact zF)) ?_ (.inl ⟨⟨hok,hs2⟩,a,b,d,e,f,rfl,hfr⟩)
    exact qQ _ (qP _ _)
   ·have hFc:∀ w' {fs:Fs},St w [] fs w'→(∀ p∈go,p∈fs)→Calls Tryz.prog 31 #[frv (staF ⟨op,dst,self,frm,val,mv,gas,.slice p10 L.il.length c10,.slice p11 L.cl.length c11,pc,n,stat⟩ a b d e f)] w' (Ret w' (.int .i64 240)):=fun w' fs hst hm=>by
     have h:=fCheck_calls (staF ⟨op,dst,self,frm,val,mv,gas,.slice p10 L.il.length c10,.slice p11 L.cl.length c11,pc,n,stat⟩ a b d e f) (staL L L.cl) w' (hfr.st hst hm)
     rwa [if_neg (fun h=>hs2 ((okS_frame hok).1 h))] at h
    (apply zU;rfl;intro _;apply zR;rfl;rfl;apply qA;apply fr_wrW;rfl;assumption;refine nNz<|zI<|sRz<|ldz rfl (.tail (.app (.tail .head))) cl_rdW ?_;apply zS;rfl;rfl;infer_instance;exact .cons rfl .nil;intro w _;exact hCc w (by assumption);refine lvz (.neF rfl rfl (by omega)) ?_;refine vMz<|gTz<|ldz rfl .head fr_rdW<|gTz ?_;apply zS;rfl;rfl;infer_instance;exact .cons rfl .nil;intro w _;exact hFc w (by assumption) (fun p hp=>qO _ (List.mem_append_left _ hp));refine gTz ?_;refine lvz (.neT rfl rfl (by omega)) ?_;refine pFz<|nNz<|cTz<|sRz ?_;apply LW.v0;rfl;rfl;apply zW;infer_instance;infer_instance;exact zB;rfl;simp only [fillP,wrCells,fra,frc,wc,Value.cells,qH,qI,qJ,qG,qL,qK,List.cons_append,List.nil_append,Nat.reduceAdd,qN];rfl;refine zR rfl rfl (.tail (.app .head)) (.whole rfl rfl rfl)<|vAz<|nNz<|zK<|thenR ?_)
    exact fin (vs:=[frv zeroF,.int .i64 250]) [] (.inl rfl) rfl rfl (by (apply zD;apply zH;rfl;apply qE;apply zX;apply zZ;apply zY;exact qF rfl;apply zD;exact zG rfl;exact zF)) (List.nil_sublist _) (.inr ⟨fun h=>hs2 h.2,rfl,rfl⟩)
  ·have hCc:=hCc2 hok
   (apply zU;rfl;intro _;apply zR;rfl;rfl;apply qA;apply fr_wrW;rfl;assumption;refine nNz<|zI<|sRz<|ldz rfl (.tail (.app (.tail .head))) cl_rdW ?_;apply zS;rfl;rfl;infer_instance;exact .cons rfl .nil;intro w _;exact hCc w (by assumption);refine lvz (.neT rfl rfl (by omega)) ?_;refine vMz ?_;(iterate 3 refine gFz ?_);refine pTz<|nNz<|cTz<|sRz ?_;apply LW.v0;rfl;rfl;apply zW;infer_instance;infer_instance;exact zB;rfl;simp only [fillP,wrCells,fra,frc,wc,Value.cells,qH,qI,qJ,qG,qL,qK,List.cons_append,List.nil_append,Nat.reduceAdd,qN];rfl;refine zR rfl rfl (.tail (.app .head)) (.whole rfl rfl rfl)<|vAz<|nNz<|zK<|thenR ?_)
   exact fin (vs:=[frv zeroF,.int .i64 250]) [] (.inl rfl) rfl rfl (by (apply zD;apply zH;rfl;apply qE;apply zX;apply zZ;apply zY;exact qF rfl;apply zD;exact zG rfl;exact zF)) (List.nil_sublist _) (.inr ⟨fun h=>hok h.1,rfl,rfl⟩)
 ·have hpr:progL ⟨op,dst,self,frm,val,mv,gas,.slice p10 L.il.length c10,.slice p11 L.cl.length c11,pc,n,stat⟩ L pl=pl:=if_neg h245
  rw [hpr]
  refine enter (args:=[_,_]) _ [] [] Tryz.func22 rfl Tryz.ntmps22 rfl (by simp) .nil ?_
  (refine sRz ?_;apply zT;rfl;rfl;intro _;apply zU;rfl;intro _;refine vAz<|nNz<|zI<|sRz<|vFz<|ldz rfl (.tail .head) cl_rd0 ?_;refine lvz (.eqF rfl rfl (by omega)) ?_;refine nNz<|cFz<|zJ<|thenN<|sRz<|vMz<|vFz<|ldz rfl (.tail .head) cl_rd9<|vFz<|ldz rfl (.tail .head) cl_rd2<|vFz<|ldz rfl (.tail .head) cl_rd3<|vFz<|ldz rfl (.tail .head) cl_rd4 ?_;refine vFz<|ldz rfl (.tail .head) cl_rd10<|vFz<|ldz rfl (.tail .head) cl_rd14 ?_;apply LW.v0;rfl;rfl;apply zW;infer_instance;infer_instance;apply zA;rfl;apply zA;rfl;apply zA;rfl;apply zA;rfl;apply zA;rfl;apply zA;rfl;apply zA;rfl;exact zB;rfl;simp only [fillP,wrCells,fra,frc,wc,Value.cells,qH,qI,qJ,qG,qL,qK,List.cons_append,List.nil_append,Nat.reduceAdd,qN];rfl)
  (apply LW.callR;rfl;rfl;infer_instance;exact .cons rfl .nil;intro w hs)
  exact callCopied_calls ⟨.slice pv pl.length cv,0,.slice none 0 0,.slice none 0 0,gas,self,frm,val,.slice p10 L.il.length c10,.slice none 0 0,stat⟩ (staL L pl) ⟨hpl,by simp [staL],by simp [staL],hi,by simp [staL]⟩ w ⟨hv.st hs,.nil,.nil,h10.st hs,.nil⟩
  rintro vo go ⟨a,b,d,e,f,rfl,hfr⟩
  have hsl:=hfr.sl
  by_cases hok:okC ⟨op,dst,self,frm,val,mv,gas,.slice p10 L.il.length c10,.slice p11 L.cl.length c11,pc,n,stat⟩ L
  ·have hCc:=hCc1 hok
   by_cases hs2:¬ self=0∧pl.length≤200
   ·have hFc:∀ w' {fs:Fs},St w [] fs w'→(∀ p∈go,p∈fs)→Calls Tryz.prog 31 #[frv (staF ⟨op,dst,self,frm,val,mv,gas,.slice p10 L.il.length c10,.slice p11 L.cl.length c11,pc,n,stat⟩ a b d e f)] w' (Ret w' (.int .i64 0)):=fun w' fs hst hm=>by
     have h:=fCheck_calls (staF ⟨op,dst,self,frm,val,mv,gas,.slice p10 L.il.length c10,.slice p11 L.cl.length c11,pc,n,stat⟩ a b d e f) (staL L pl) w' (hfr.st hst hm)
     rwa [if_pos ((okS_frame hok).2 hs2)] at h
    (apply zU;rfl;intro _;apply zR;rfl;rfl;apply qA;apply fr_wrW;rfl;assumption;refine nNz<|zI<|sRz<|ldz rfl (.tail (.app (.tail .head))) cl_rdW ?_;apply zS;rfl;rfl;infer_instance;exact .cons rfl .nil;intro w _;exact hCc w (by assumption);refine lvz (.neF rfl rfl (by omega)) ?_;refine vMz<|gTz<|ldz rfl .head fr_rdW<|gTz ?_;apply zS;rfl;rfl;infer_instance;exact .cons rfl .nil;intro w _;exact hFc w (by assumption) (fun p hp=>qO _ (List.mem_append_left _ hp));refine gTz ?_;refine lvz (.neF rfl rfl (by omega)) ?_;refine pFz<|nNz<|cFz<|zJ<|thenN<|sRz<|ldz rfl .head fr_rdW ?_;apply zR;rfl;rfl;apply qB;apply qC;apply qA;apply fr_wrW;rfl;assumption;refine vAz<|nNz<|zK ?_)
    refine fin (vs:=[frv (staF ⟨op,dst,self,frm,val,mv,gas,.slice p10 L.il.length c10,.slice p11 L.cl.length c11,pc,n,stat⟩ a b d e f),.int .i64 0]) go (.inl rfl) rfl rfl (by (apply zD;apply zH;rfl;apply qE;apply zX;apply zZ;apply zY;exact fr_rdW;apply zD;exact zG rfl;exact zF)) ?_ (.inl ⟨⟨hok,hs2⟩,a,b,d,e,f,rfl,hfr⟩)
    exact qQ _ (qP _ _)
   ·have hFc:∀ w' {fs:Fs},St w [] fs w'→(∀ p∈go,p∈fs)→Calls Tryz.prog 31 #[frv (staF ⟨op,dst,self,frm,val,mv,gas,.slice p10 L.il.length c10,.slice p11 L.cl.length c11,pc,n,stat⟩ a b d e f)] w' (Ret w' (.int .i64 240)):=fun w' fs hst hm=>by
     have h:=fCheck_calls (staF ⟨op,dst,self,frm,val,mv,gas,.slice p10 L.il.length c10,.slice p11 L.cl.length c11,pc,n,stat⟩ a b d e f) (staL L pl) w' (hfr.st hst hm)
     rwa [if_neg (fun h=>hs2 ((okS_frame hok).1 h))] at h
    (apply zU;rfl;intro _;apply zR;rfl;rfl;apply qA;apply fr_wrW;rfl;assumption;refine nNz<|zI<|sRz<|ldz rfl (.tail (.app (.tail .head))) cl_rdW ?_;apply zS;rfl;rfl;infer_instance;exact .cons rfl .nil;intro w _;exact hCc w (by assumption);refine lvz (.neF rfl rfl (by omega)) ?_;refine vMz<|gTz<|ldz rfl .head fr_rdW<|gTz ?_;apply zS;rfl;rfl;infer_instance;exact .cons rfl .nil;intro w _;exact hFc w (by assumption) (fun p hp=>qO _ (List.mem_append_left _ hp));refine gTz ?_;refine lvz (.neT rfl rfl (by omega)) ?_;refine pFz<|nNz<|cTz<|sRz ?_;apply LW.v0;rfl;rfl;apply zW;infer_instance;infer_instance;exact zB;rfl;simp only [fillP,wrCells,fra,frc,wc,Value.cells,qH,qI,qJ,qG,qL,qK,List.cons_append,List.nil_append,Nat.reduceAdd,qN];rfl;refine zR rfl rfl (.tail (.app .head)) (.whole rfl rfl rfl)<|vAz<|nNz<|zK<|thenR ?_)
    exact fin (vs:=[frv zeroF,.int .i64 250]) [] (.inl rfl) rfl rfl (by (apply zD;apply zH;rfl;apply qE;apply zX;apply zZ;apply zY;exact qF rfl;apply zD;exact zG rfl;exact zF)) (List.nil_sublist _) (.inr ⟨fun h=>hs2 h.2,rfl,rfl⟩)
  ·have hCc:=hCc2 hok
   (apply zU;rfl;intro _;apply zR;rfl;rfl;apply qA;apply fr_wrW;rfl;assumption;refine nNz<|zI<|sRz<|ldz rfl (.tail (.app (.tail .head))) cl_rdW ?_;apply zS;rfl;rfl;infer_instance;exact .cons rfl .nil;intro w _;exact hCc w (by assumption);refine lvz (.neT rfl rfl (by omega)) ?_;refine vMz ?_;(iterate 3 refine gFz ?_);refine pTz<|nNz<|cTz<|sRz ?_;apply LW.v0;rfl;rfl;apply zW;infer_instance;infer_instance;exact zB;rfl;simp only [fillP,wrCells,fra,frc,wc,Value.cells,qH,qI,qJ,qG,qL,qK,List.cons_append,List.nil_append,Nat.reduceAdd,qN];rfl;refine zR rfl rfl (.tail (.app .head)) (.whole rfl rfl rfl)<|vAz<|nNz<|zK<|thenR ?_)
   exact fin (vs:=[frv zeroF,.int .i64 250]) [] (.inl rfl) rfl rfl (by (apply zD;apply zH;rfl;apply qE;apply zX;apply zZ;apply zY;exact qF rfl;apply zD;exact zG rfl;exact zF)) (List.nil_sublist _) (.inr ⟨fun h=>hok h.1,rfl,rfl⟩)
section wr
variable {P : Program} {T E : TypeId} {code stk mem inp back z : Value} {pc : Int} {gas self frm val n c n2 c2 : Nat} {stat : Bool} {p p2 : Option Addr}
end wr
end
section
def laidW (c:ClV) (ok:Bool):Nat:=if ok=false then 0 else if c.op=245 then c.dst else 1
theorem laid_calls (c:ClV) (ok:Bool) (hd:c.dst < 18446744073709551616) (w:World) (hsl:∃ p n q p2 n2 q2,c.inp=.slice p n q∧c.code=.slice p2 n2 q2):Calls Tryz.prog 40 #[clv c,.bool ok] w (Ret w (wv (laidW c ok))):=by
 obtain ⟨op,dst,self,frm,val,mv,gas,inp,code,pl,n,stat⟩:=c
 obtain ⟨p,nn,q,p2,n2,q2,rfl,rfl⟩:=hsl
 dsimp only at hd
 unfold laidW
 cases ok with
 |false =>
  rw [if_pos rfl]
  refine enter (args:=[_,_]) _ [] [] Tryz.func40 rfl Tryz.ntmps40 rfl (by simp) .nil ?_
  (refine sRz ?_;apply zT;rfl;rfl;intro _;apply LW.allocW;rfl;intro _;refine nNz<|zI<|zM<|sRz<|vMz ?_;refine lvz (.notF rfl (by with_reducible rfl)) ?_;refine vAz<|nNz<|cTz<|sRz ?_;apply LW.v0;rfl;rfl;exact ValP.buildW0;refine zR rfl rfl .head (.whole rfl rfl rfl)<|nNz<|zK<|blkR<|thenR ?_)
  (apply finR;exact .inl rfl;rfl;rfl;rfl;apply zD;apply zH;rfl;apply qE;apply zY;exact qF rfl;exact zF)
  rfl
 |true =>
  rw [if_neg (fun h=>by cases h)]
  by_cases h245:op=245
  ·rw [if_pos h245]
   refine enter (args:=[_,_]) _ [] [] Tryz.func40 rfl Tryz.ntmps40 rfl (by simp) .nil ?_
   (refine sRz ?_;apply zT;rfl;rfl;intro _;apply LW.allocW;rfl;intro _;refine nNz<|zI<|zM<|sRz<|vMz ?_;refine lvz (.notT rfl (by with_reducible rfl)) ?_;refine vAz<|nNz<|cFz<|sRz<|vFz<|ldz rfl (.tail .head) cl_rd0 ?_;refine lvz (.eqT rfl rfl (by omega)) ?_;refine vAz<|nNz<|cTz<|sRz<|vFz<|ldz rfl (.tail .head) cl_rd1 ?_;apply zS;rfl;rfl;infer_instance;exact .cons rfl .nil;intro w _;exact aWord_calls _ hd w;refine zR rfl rfl .head (.whole rfl rfl rfl)<|nNz<|zK<|blkR<|thenR ?_)
   (apply finR;exact .inl rfl;rfl;rfl;rfl;apply zD;apply zH;rfl;apply qE;apply zY;exact qF rfl;exact zF)
   rfl
  ·rw [if_neg h245]
   refine enter (args:=[_,_]) _ [] [] Tryz.func40 rfl Tryz.ntmps40 rfl (by simp) .nil ?_
   (refine sRz ?_;apply zT;rfl;rfl;intro _;apply LW.allocW;rfl;intro _;refine nNz<|zI<|zM<|sRz<|vMz ?_;refine lvz (.notT rfl (by with_reducible rfl)) ?_;refine vAz<|nNz<|cFz<|sRz<|vFz<|ldz rfl (.tail .head) cl_rd0 ?_;refine lvz (.eqF rfl rfl (by omega)) ?_;refine vAz<|nNz<|cFz<|zJ<|blkN<|thenN<|sRz ?_;apply zS;rfl;rfl;infer_instance;exact .cons rfl .nil;intro w _;exact Of_calls 1 (by decide) w;refine zR rfl rfl .head (.whole rfl rfl rfl)<|nNz<|zK ?_)
   (apply finR;exact .inl rfl;rfl;rfl;rfl;apply zD;apply zH;rfl;apply qE;apply zY;exact qF rfl;exact zF)
   rfl
def ova (ok:Bool) (left:Nat) (out:Value):Array Value:=#[.bool ok,.int .u64 (left:Int),out]
section rd
variable {P : Program} {T E : TypeId} {fr : Nat × Nat} {ok : Bool} {left : Nat} {out : Value}
theorem ov_rd0 [AgI P T false]:Rd P T (.cells (ova ok left out) E fr) 0 (.bool ok):=Rd.one rfl
theorem ov_rd1 [AgI P T false]:Rd P T (.cells (ova ok left out) E fr) 1 (.int .u64 (left:Int)):=Rd.one rfl
theorem ov_rd2 [AgI P T false]:Rd P T (.cells (ova ok left out) E fr) 2 out:=Rd.one rfl
end rd
def okE (f:FrV) (L:FrL) (c:ClV) (M:ClL) (left:Nat) (l:List UInt8):Prop:=okF f L∧okC c M∧(left≤c.gas∧l.length≤1024∧f.gas+left≤20000∧c.pl+c.n≤L.ms.length)∧L.ws.length < 64
def overL (ms:List UInt8) (pl:Nat) (l:List UInt8):List UInt8:=ms.take pl++(l++ms.drop (pl+l.length))
def endL (L:FrL) (c:ClV) (ok:Bool) (l:List UInt8):FrL:=⟨L.cl,L.ws++[laidW c ok],overL L.ms c.pl (l.take c.n),L.il,if c.op=245∧ok=true then [] else l⟩
def EndR (f:FrV) (L:FrL) (c:ClV) (M:ClL) (ok:Bool) (left:Nat) (l:List UInt8) (v:Value) (gs:Fs):Prop :=
 (okE f L c M left l∧∃ a s m i b,v=.tuple #[frv (f.rowsG (f.gas+left) a s m i b),.bool true]∧FrO (f.rowsG (f.gas+left) a s m i b) (endL L c ok l) gs)∨(¬ okE f L c M left l∧v=.tuple #[frv zeroF,.bool false]∧gs=[])
theorem blocks_frv {f:FrV} (h:FrSl f):blocksN 4 (frv f)=[f.code,f.stk,f.mem,f.inp,f.back].flatMap (blocksN 4):=by
 show (frc f).flatMap (blocksN 3)=_
 have e:∀ (k:IntKind) (n:Int),blocksN 3 (.int k n)=[]:=fun _ _=>rfl
 have e2:∀ b:Bool,blocksN 3 (.bool b)=[]:=fun _=>rfl
 simp only [frc,wc,List.flatMap_cons,List.flatMap_nil,List.cons_append,List.nil_append,e,e2,List.append_nil,blocks_sl h.c,blocks_sl h.s,blocks_sl h.m,blocks_sl h.i,blocks_sl h.b]
theorem blocks_clv {c:ClV} (h1:∃ p n q,c.inp=.slice p n q) (h2:∃ p n q,c.code=.slice p n q):blocksN 4 (clv c)=[c.inp,c.code].flatMap (blocksN 4):=by
 show (clc c).flatMap (blocksN 3)=_
 have e:∀ (k:IntKind) (n:Int),blocksN 3 (.int k n)=[]:=fun _ _=>rfl
 have e2:∀ b:Bool,blocksN 3 (.bool b)=[]:=fun _=>rfl
 simp only [clc,wc,List.flatMap_cons,List.flatMap_nil,List.cons_append,List.nil_append,e,e2,List.append_nil,blocks_sl h1,blocks_sl h2]
theorem RowAt.cutMax {w:World} {sz n c k:Nat} {p:Option Addr} {xs:List Value} (h:RowAt w sz (.slice p n c) n xs) (hk:k≤n):RowAt w sz (.slice p k k) k (xs.take (k * sz)):=by
 have h1:=h.take hk
 obtain ⟨_,_,he,hle,hmx⟩:=h.form
 cases he
 refine ⟨⟨_,_,rfl,Nat.le_refl _,by omega⟩,h1.len,fun h0=>?_,fun p' n' c' he=>?_⟩
 ·obtain ⟨b,off,c2,cs,E,fr,he,hb,hx⟩:=h1.pos h0
  cases he
  exact ⟨b,off,k,cs,E,fr,rfl,hb,hx⟩
 ·cases he
  rcases Nat.eq_zero_or_pos k with h0|h0
  ·exact .inr (.inl h0)
  ·rcases h1.lies _ _ _ rfl with h2|h2|h2
   ·exact .inl h2
   ·omega
   ·exact .inr (.inr h2)
theorem take_over {α:Type} (A X:List α) (p N:Nat) (h:p+X.length≤N) (hA:N≤A.length):(A.take p++X++A.drop (p+X.length)).take N=(A.take N).take p++(X++(A.take N).drop (p+X.length)):=by
 rw [List.append_assoc,List.take_append,List.take_append,List.drop_take,List.take_take,List.take_take,List.length_take]
 rw [show min p A.length=p by omega,show min N p=p by omega,show min p N=p by omega,List.take_of_length_le (show X.length≤N - p by omega),show N - p - X.length=N - (p+X.length) by omega]
theorem ucs_over (ms X:List UInt8) (p:Nat):(ucs ms).take p++(ucs X++(ucs ms).drop (p+(ucs X).length))=ucs (overL ms p X):=by
 unfold overL
 rw [ucs_app,ucs_app,← ucs_take,← ucs_drop,Nat.mul_one,Nat.mul_one,ucs_len]
theorem perm4 {α:Type} (g1 g2 g3 g4:List α):(g1++(g2++(g3++(g4++[])))).Perm (g3++(g1++(g2++(g4++[])))):=by
 have h:=perm_ix [g1,g2,g3,g4] (xs:=[0,1,2,3]) (ys:=[2,0,1,3]) [] rfl
 simpa [catI] using h
theorem perm6 {α:Type} (g1 g2 g3 g4 g6:List α):(g1++(g2++(g3++(g4++g6)))).Perm (g6++(g3++(g1++(g2++(g4++[]))))):=by
 have h:=perm_ix [g1,g2,g3,g4,g6] (xs:=[0,1,2,3,4]) (ys:=[4,2,0,1,3]) [] rfl
 simpa [catI] using h
theorem callEnd_calls (f:FrV) (L:FrL) (c:ClV) (M:ClL) (ok:Bool) (left:Nat) (l:List UInt8) (hd:c.dst < 18446744073709551616) (hleft:left < 18446744073709551616) (out:Value) (w:World) (hf:FrRows w f L) (hc:ClRows w c M) (ho:RowAt w 1 out l.length (ucs l)) :
  Calls Tryz.prog 13 #[frv f,clv c,.agg (ova ok left out)] w (RetG w [] (EndR f L c M ok left l)):=by
 have hf0:=hf
 have hc0:=hc
 have hsl0:=hf.sl
 have hFc0:=fun w' {fs:Fs} (hst:St w [] fs w')=>fCheck_calls f L w' (hf0.st hst)
 have hCc0:=fun w' {fs:Fs} (hst:St w [] fs w')=>callCheck_calls c M w' (hc0.st hst)
 obtain ⟨pc,cc,hcv,_,_⟩:=id hc.i.form
 obtain ⟨pc2,cc2,hcv2,_,_⟩:=id hc.c.form
 have hLd:=fun w=>laid_calls c ok hd w ⟨_,_,_,_,_,_,hcv,hcv2⟩
 have hzs:=zero_sl
 obtain ⟨po,co,rfl,_,hmo⟩:=id ho.form
 simp only [maxLen] at hmo
 by_cases hF:okF f L
 ·have hFc:∀ w' {fs:Fs},St w [] fs w'→Calls Tryz.prog 31 #[frv f] w' (Ret w' (.int .i64 0)):=fun w' fs hst=>by have h:=hFc0 w' hst;rwa [if_pos hF] at h
  by_cases hC:okC c M
  ·have hCc:∀ w' {fs:Fs},St w [] fs w'→Calls Tryz.prog 19 #[clv c] w' (Ret w' (.int .i64 0)):=fun w' fs hst=>by have h:=hCc0 w' hst;rwa [if_pos hC] at h
   have hb1:=hF.1.2.2
   have hb2:=hC.2.1.1
   have hb3:=hC.2.2.1.2.1
   obtain ⟨p3,c3,hmv,_,hm3⟩:=id hf.m.form
   simp only [maxLen] at hm3
   have hmem:∀ {E fr},Rd Tryz.prog 22 (.cells (fra f) E fr) 3 (.slice p3 L.ms.length c3):=fun {E fr}=>by rw [← hmv];exact fr_rd3
   refine enter (args:=[_,_,_]) _ [] [] Tryz.func13 rfl Tryz.ntmps13 rfl (by simp) .nil ?_
   (refine sRz ?_;apply zT;rfl;rfl;intro _;apply zT;rfl;rfl;intro _;apply zT;rfl;rfl;intro _;apply zU;rfl;intro _;refine vAz<|nNz<|zI<|sRz<|ldz rfl (.tail (.tail (.tail .head))) fr_rdW ?_;apply zS;rfl;rfl;infer_instance;exact .cons rfl .nil;intro w _;exact hFc w (by assumption);refine lvz (.neF rfl rfl (by omega)) ?_;refine vMz<|gTz<|ldz rfl (.tail (.tail .head)) cl_rdW<|gTz ?_;apply zS;rfl;rfl;infer_instance;exact .cons rfl .nil;intro w _;exact hCc w (by assumption);refine gTz ?_;refine lvz (.neF rfl rfl (by omega)) ?_;refine pFz<|vMz<|gTz<|vFz<|gTz<|ldz rfl (.tail .head) ov_rd1<|gTz<|vFz<|gTz<|ldz rfl (.tail (.tail .head)) cl_rd9<|gTz<|lvz (.gtr rfl rfl)<|pFz<|vMz ?_)
   rename_i b3 b4 b5 b6
   refine LW.cut [(52,.bool (decide (¬ (left≤c.gas∧l.length≤1024∧f.gas+left≤20000∧c.pl+c.n≤L.ms.length)))),(3,.pointer (some ⟨b3,0,none⟩)),(4,.pointer (some ⟨b4,0,none⟩)),(5,.pointer (some ⟨b5,0,none⟩)),(6,.pointer (some ⟨b6,0,none⟩)),(7,.bool false)] [(b6,.cells (fra zeroF) 31 (0,0)),(b5,.cells (ova ok left (.slice po l.length co)) 39 (0,0)),(b4,.cells (cla c) 33 (0,0)),(b3,.cells (fra f) 31 (0,0))] ?_ ?_
   ·by_cases hA:left≤c.gas∧l.length≤1024∧f.gas+left≤20000∧c.pl+c.n≤L.ms.length
    ·rw [decide_eq_false (fun h=>h hA)]
     (refine cFz<|zJ<|thenN<|zI ?_)
     apply CW.pre
     (refine AnyW.anyM [(6,ToldR f (tellR f L 0 [laidW c ok]))] 12 mixed (by decide +kernel) ?_)
     ((try simp only [tsOf_cons,tsOf_nil,tsOf_app]);apply qD;rfl;rfl;rfl;exact zC;rfl;apply zO;apply zO;apply zO;apply zP;exact zN;exact fr_rdW;apply qD;rfl;rfl;rfl;exact zC;rfl;apply zO;apply zO;apply zP;exact zN;exact cl_rdW;refine dvz (.fieldAddr rfl rfl) ?_;apply qD;rfl;rfl;rfl;exact zC;rfl;apply zO;apply zP;exact zN;exact ov_rd0)
     refine DW.callW (vs':=[c.inp,c.code]) rfl rfl rfl (by (exact zC)) rfl inferInstance (by (exact .cons rfl (.cons rfl .nil))) (by rw [List.flatMap_cons,blocks_clv ⟨_,_,_,hcv⟩ ⟨_,_,_,hcv2⟩];exact List.append_nil _) (.ext hc0.i rfl (.ext hc0.c rfl .nil)) (fun w _ _=>hLd w) ?_
     ((try simp only [tsOf_cons,tsOf_nil,tsOf_app]);apply DW.layA;rfl;rfl;rfl;exact zC;infer_instance;infer_instance;rfl;rfl;rfl;rfl;rfl;intro _)
     rename_i bS
     refine DW.manyW (vs':=[f.code,f.stk,f.mem,f.inp,f.back,.slice (some ⟨bS,0,none⟩) 1 1]) rfl rfl rfl (by (exact zC)) rfl inferInstance (by (exact .cons rfl (.cons rfl (.cons rfl .nil)))) (by rw [List.flatMap_cons,blocks_frv hsl0,show ([f.code,f.stk,f.mem,f.inp,f.back,.slice (some ⟨bS,0,none⟩) 1 1]:List Value)=[f.code,f.stk,f.mem,f.inp,f.back]++[.slice (some ⟨bS,0,none⟩) 1 1] from rfl,List.flatMap_append];rfl) (.ext hf0.c rfl (.ext hf0.s rfl (.ext hf0.m rfl (.ext hf0.i rfl (.ext hf0.b rfl (.own (by decide) (by (apply zP;kernel_rfl)) .nil)))))) (fun w hb hu=>?_) ?_
     ·have h:=Tell_calls f L 0 [laidW c ok] _ (by simp) w (row_cells (hu (bS,_) List.mem_cons_self) rfl rfl (by simp [maxLen])) (hf0.bel hb)
      rw [if_pos hF] at h
      exact h
     intro vT gT hT
     by_cases hW:L.ws.length < 64
     ·have hR:tellR f L 0 [laidW c ok]=some (f.gas - 0,L.setW (L.ws++[laidW c ok])):=by unfold tellR;exact if_pos ⟨Nat.zero_le _,by simp;omega⟩
      rw [hR,Nat.sub_zero] at hT
      obtain ⟨a1,s1,m1,i1,x1,rfl,hfr1⟩:=hT
      have hsl1:=hfr1.sl
      ((try simp only [tsOf_cons,tsOf_nil,tsOf_app]);refine dvz (.move rfl) ?_;refine dvz (.extractN rfl rfl) ?_;refine dvz (.extractN rfl rfl) ?_;apply DW.allocA;rfl;rfl;rfl;exact zC;intro _;apply DW.store;rfl;rfl;exact zC;rfl;rfl;apply TSet.head;kernel_rfl;exact zN;apply fr_wrW;rfl;assumption;apply DW.nil;simp only [fsOf_cons,fsOf_nil,fsOf_app,fsOf_tsOf,fsOf_new])
      (refine vAz<|nNz<|zI<|sRz<|vMz ?_;refine lvz (.notT rfl (by with_reducible rfl)) ?_;refine nNz<|cFz<|zJ<|thenN<|sRz<|ldz rfl .head fr_rdW ?_)
      (apply LW.callR;rfl;rfl;infer_instance;exact .cons rfl .nil;intro w hs)
      exact callCopied_calls (f.rowsG f.gas a1 s1 m1 i1 x1) (L.setW (L.ws++[laidW c ok])) ⟨hF.short.1,by simp [FrL.setW];omega,hF.short.2.2.1,hF.short.2.2.2.1,hF.short.2.2.2.2⟩ w (hfr1.st hs (fun p hp=>qO _ (List.mem_append_left _ hp)))
      rintro vo go2 ⟨c2,s2,m2,i2,x2,rfl,hfr2⟩
      change LW _ _ _ _ ((68,frv ⟨c2,f.pc,s2,m2,f.gas,f.self,f.frm,f.val,i2,x2,f.stat⟩)::_) _
      have hsl2:FrSl ⟨c2,f.pc,s2,m2,f.gas,f.self,f.frm,f.val,i2,x2,f.stat⟩:=hfr2.sl
      obtain ⟨g1,g2,g3,g4,g5,hp,k1,k2,k3,k4,k5⟩:=hfr2
      rename_i b8
      refine LW.perm (fs':=(g1++(g2++(g3++(g4++g5))))++((b8,.cells (fra (f.rowsG f.gas a1 s1 m1 i1 x1)) 31 (0,0))::(gT++[(bS,.cells (wc (laidW c ok)) 29 (0,0)),(b6,.cells (fra zeroF) 31 (0,0)),(b5,.cells (ova ok left (.slice po l.length co)) 39 (0,0)),(b4,.cells (cla c) 33 (0,0)),(b3,.cells (fra f) 31 (0,0))]))) (hp.append_right _) ?_
      refine LW.subP (fs':=(b8,.cells (fra (f.rowsG f.gas a1 s1 m1 i1 x1)) 31 (0,0))::(b6,.cells (fra zeroF) 31 (0,0))::(b5,.cells (ova ok left (.slice po l.length co)) 39 (0,0))::(b4,.cells (cla c) 33 (0,0))::(g3++(g1++(g2++(g4++[]))))) ?_ ?_
      ·simp only [List.append_assoc,List.cons_append,List.nil_append]
       exact subp_ix [g1,g2,g3,g4,g5,[_],gT,[_],[_],[_],[_],[_]] (xs:=[5,8,9,10,2,0,1,3]) (ys:=[0,1,2,3,4,5,6,7,8,9,10,11]) [] rfl
      unfold bM at k3
      change IsRow _ 1 m2 L.ms.length (ucs L.ms) g3 at k3
      obtain ⟨q3,kc3,rfl⟩:=id k3.form
      have hle3:=IsRow.le k3
      have hgas:(f.gas+left) % 18446744073709551616=f.gas+left:=Nat.mod_eq_of_lt (by omega)
      (apply zR;rfl;rfl;apply qA;apply fr_wrW;rfl;assumption;refine nSz<|vFz<|ldz rfl .head fr_rd4<|vFz<|ldz rfl (.tail (.tail .head)) ov_rd1<|lvz (.addN rfl rfl)<|vFz ?_;apply zR;rfl;rfl;apply qA;apply fr_wr4 (z:=.int .u64 0);refine nSz<|vFz<|ldz rfl (.tail (.tail (.tail .head))) cl_rd13<|vFz<|ldz rfl (.tail (.tail .head)) ov_rd2<|lvz (.lenR rfl inferInstance rfl) ?_;refine lvz (.convN rfl (by omega) (by omega)) ?_;refine lvz (.minZ rfl rfl)<|vAz<|nNz<|zI ?_)
      rw [hgas]
      rcases Nat.eq_zero_or_pos (min c.n l.length) with hz|hz
      ·have hov:overL L.ms c.pl (l.take c.n)=L.ms:=by
        have h1:l.take c.n=[]:=List.eq_nil_of_length_eq_zero (by rw [List.length_take];exact hz)
        unfold overL
        rw [h1]
        simp
       apply CW.pre
       (refine AnyW.any 11 mixed (by decide +kernel) ?_)
       ((try simp only [tsOf_cons,tsOf_nil,tsOf_app]);refine dvz (.fieldAddr rfl rfl)<|dvz (.fieldAddr rfl rfl) ?_;apply qD;rfl;rfl;rfl;exact zC;rfl;apply zP;exact zN;exact fr_rd3;refine dvz (.fieldAddr rfl rfl) ?_;apply qD;rfl;rfl;rfl;exact zC;rfl;apply zO;apply zO;apply zO;apply zP;exact zN;exact cl_rd12;refine dvz (.cutFrom inferInstance inferInstance rfl rfl (by omega)) ?_;refine dvz (.fieldAddr rfl rfl) ?_;apply qD;rfl;rfl;rfl;exact zC;rfl;apply zO;apply zO;apply zP;exact zN;exact ov_rd2;refine dvz (.move rfl)<|dvz (.move rfl) ?_;apply DW.v0;rfl;rfl;rfl;exact zC;rfl;apply ValP.cutMax;infer_instance;infer_instance;rfl;rfl;rfl;omega;omega;apply DW.nil;simp only [fsOf_cons,fsOf_nil,fsOf_app,fsOf_tsOf,fsOf_new])
       (apply LW.copyNone;rfl;rfl;infer_instance;infer_instance;infer_instance;rfl;rfl;(rw [hz];exact Nat.zero_min _))
       (refine nNz<|zI<|sRz<|vFz<|ldz rfl (.tail (.tail .head)) ov_rd2 ?_)
       (apply LW.callR;rfl;rfl;infer_instance;exact .cons rfl .nil;intro w hs)
       exact SK.Clone_calls l _ w (ho.st hs) (by omega)
       intro x3 g6 k6
       have k6':=k6
       obtain ⟨q6,kc6,rfl⟩:=k6'.form
       have hsl3:∀ p n q,FrSl ⟨c2,f.pc,s2,.slice q3 L.ms.length kc3,f.gas+left,f.self,f.frm,f.val,i2,.slice p n q,f.stat⟩:=fun p n q=>⟨hsl2.c,hsl2.s,⟨_,_,_,rfl⟩,hsl2.i,⟨_,_,_,rfl⟩⟩
       by_cases h245:c.op=245
       ·cases ok with
        |true =>
         have hbk:(if c.op=245∧true=true then [] else l)=([]:List UInt8):=if_pos ⟨h245,rfl⟩
         (refine vFz ?_;refine zR rfl rfl (.app .head) fr_wr12<|nSz<|vFz<|ldz rfl (.app (.tail (.tail (.tail .head)))) cl_rd0 ?_;refine lvz (.eqT rfl rfl (by omega)) ?_;refine vMz<|gTz<|vFz<|gTz<|ldz rfl (.app (.tail (.tail .head))) ov_rd0<|pTz<|nNz<|cTz<|zL<|vFz ?_;refine zR rfl rfl (.app .head) fr_wr12<|nSz<|ldz rfl (.app .head) fr_rdW ?_;apply zR;rfl;rfl;apply qC;apply qB;apply qA;apply fr_wrW;rfl;exact hsl3 _ _ _;refine vAz<|nNz<|zK ?_)
         refine fin (vs:=[frv ⟨c2,f.pc,s2,.slice q3 L.ms.length kc3,f.gas+left,f.self,f.frm,f.val,i2,.slice none 0 0,f.stat⟩,.bool true]) (g3++(g1++(g2++(g4++[])))) (.inl rfl) rfl rfl (by (apply zD;apply zH;rfl;apply qE;apply zZ;apply zX;apply zY;exact fr_rdW;apply zD;exact zG rfl;exact zF)) ?_ (.inl ⟨⟨hF,hC,hA,hW⟩,_,_,_,_,_,rfl,g1,g2,g3,g4,[],perm4 _ _ _ _,k1,k2,?_,k4,?_⟩)
         ·exact List.Sublist.trans (qQ _ (qQ _ (qQ _ (List.sublist_cons_self _ _)))) (List.sublist_append_right _ _)
         ·unfold endL bM;dsimp only;rw [hov];exact k3
         ·unfold endL bM;dsimp only;rw [hbk];exact .nil
        |false =>
         have hbk:(if c.op=245∧false=true then [] else l)=l:=if_neg (fun h=>by cases h.2)
         (refine vFz ?_;refine zR rfl rfl (.app .head) fr_wr12<|nSz<|vFz<|ldz rfl (.app (.tail (.tail (.tail .head)))) cl_rd0 ?_;refine lvz (.eqT rfl rfl (by omega)) ?_;refine vMz<|gTz<|vFz<|gTz<|ldz rfl (.app (.tail (.tail .head))) ov_rd0<|pTz<|nNz<|cFz<|zJ<|thenN<|sRz<|ldz rfl (.app .head) fr_rdW ?_;apply zR;rfl;rfl;apply qC;apply qB;apply qA;apply fr_wrW;rfl;exact hsl3 _ _ _;refine vAz<|nNz<|zK ?_)
         refine fin (vs:=[frv ⟨c2,f.pc,s2,.slice q3 L.ms.length kc3,f.gas+left,f.self,f.frm,f.val,i2,.slice q6 l.length kc6,f.stat⟩,.bool true]) (g6++(g3++(g1++(g2++(g4++[]))))) (.inl rfl) rfl rfl (by (apply zD;apply zH;rfl;apply qE;apply zZ;apply zX;apply zY;exact fr_rdW;apply zD;exact zG rfl;exact zF)) ?_ (.inl ⟨⟨hF,hC,hA,hW⟩,_,_,_,_,_,rfl,g1,g2,g3,g4,g6,perm6 _ _ _ _ _,k1,k2,?_,k4,?_⟩)
         ·exact List.Sublist.append_left (qQ _ (qQ _ (qQ _ (List.sublist_cons_self _ _)))) _
         ·unfold endL bM;dsimp only;rw [hov];exact k3
         ·unfold endL bM;dsimp only;rw [hbk];exact k6
       ·have hbk:(if c.op=245∧ok=true then [] else l)=l:=if_neg (fun h=>h245 h.1)
        (refine vFz ?_;refine zR rfl rfl (.app .head) fr_wr12<|nSz<|vFz<|ldz rfl (.app (.tail (.tail (.tail .head)))) cl_rd0 ?_;refine lvz (.eqF rfl rfl (by omega)) ?_;refine vMz<|gFz<|gFz<|pFz<|nNz<|cFz<|zJ<|thenN<|sRz<|ldz rfl (.app .head) fr_rdW ?_;apply zR;rfl;rfl;apply qC;apply qB;apply qA;apply fr_wrW;rfl;exact hsl3 _ _ _;refine vAz<|nNz<|zK ?_)
        refine fin (vs:=[frv ⟨c2,f.pc,s2,.slice q3 L.ms.length kc3,f.gas+left,f.self,f.frm,f.val,i2,.slice q6 l.length kc6,f.stat⟩,.bool true]) (g6++(g3++(g1++(g2++(g4++[]))))) (.inl rfl) rfl rfl (by (apply zD;apply zH;rfl;apply qE;apply zZ;apply zX;apply zY;exact fr_rdW;apply zD;exact zG rfl;exact zF)) ?_ (.inl ⟨⟨hF,hC,hA,hW⟩,_,_,_,_,_,rfl,g1,g2,g3,g4,g6,perm6 _ _ _ _ _,k1,k2,?_,k4,?_⟩)
        ·exact List.Sublist.append_left (qQ _ (qQ _ (qQ _ (List.sublist_cons_self _ _)))) _
        ·unfold endL bM;dsimp only;rw [hov];exact k3
        ·unfold endL bM;dsimp only;rw [hbk];exact k6
      ·have h3:0 < L.ms.length:=by omega
       obtain ⟨gm,cur,rfl,rfl,hn3,hm3',hsz3,htk3⟩:=k3.pos h3
       simp only [Nat.mul_one] at hsz3 htk3
       have hcl:(l.take c.n).length=min c.n l.length:=by rw [List.length_take]
       have hcut:=RowAt.cutMax ho (k:=min c.n l.length) (by omega)
       rw [ucs_take,show l.take (min c.n l.length)=l.take c.n by rw [← List.take_take,List.take_length]] at hcut
       obtain ⟨kk,hkk⟩:∃ kk,kk=min c.n l.length:=⟨_,rfl⟩
       rw [← hkk] at hz hcl hcut ⊢
       have hk1:kk≤c.n:=by omega
       have hk2:kk≤l.length:=by omega
       apply CW.pre
       (refine AnyW.any 11 mixed (by decide +kernel) ?_)
       ((try simp only [tsOf_cons,tsOf_nil,tsOf_app]);refine dvz (.fieldAddr rfl rfl)<|dvz (.fieldAddr rfl rfl) ?_;apply qD;rfl;rfl;rfl;exact zC;rfl;apply zP;exact zN;exact fr_rd3;refine dvz (.fieldAddr rfl rfl) ?_;apply qD;rfl;rfl;rfl;exact zC;rfl;apply zO;apply zO;apply zO;apply zP;exact zN;exact cl_rd12;apply DW.v0;rfl;rfl;rfl;exact zC;rfl;apply ValP.cutFromO;infer_instance;infer_instance;rfl;rfl;omega;omega;refine dvz (.fieldAddr rfl rfl) ?_;apply qD;rfl;rfl;rfl;exact zC;rfl;apply zO;apply zO;apply zP;exact zN;exact ov_rd2;refine dvz (.move rfl)<|dvz (.move rfl) ?_;apply DW.v0;rfl;rfl;rfl;exact zC;rfl;apply ValP.cutMax;infer_instance;infer_instance;rfl;rfl;rfl;omega;omega;apply DW.nil;simp only [fsOf_cons,fsOf_nil,fsOf_app,fsOf_tsOf,fsOf_new])
       (apply LW.copyAt (cur:=cur) (E':=5) (m:=kk) (news:=ucs (l.take c.n));rfl;rfl;infer_instance;infer_instance;infer_instance;rfl;rfl)
       ·exact fun w' hst=>hcut.st hst
       ·exact ucs_cells _
       ·omega
       ·omega
       ·(apply qB;apply qB;apply qB;apply qB;apply qA)
       have k7:IsRow 5 1 (.slice (some ⟨gm,0,none⟩) L.ms.length kc3) L.ms.length (ucs (overL L.ms c.pl (l.take c.n))) [(gm,.cells (cur.toList.take (0+c.pl)++ucs (l.take c.n)++cur.toList.drop (0+c.pl+kk)).toArray 5 (0,0))]:=by
        have hul:(ucs (l.take c.n)).length=kk:=by rw [ucs_len,hcl]
        refine .own hn3 hm3' ?_ ?_ ?_
        ·simp only [List.size_toArray,List.length_append,List.length_take,List.length_drop,Array.length_toList,hul,hsz3]
         omega
        ·rw [Nat.mul_one,qN,← hul,take_over _ _ _ _ (by rw [hul];omega) (by rw [Array.length_toList,hsz3];exact hn3),htk3]
         exact ucs_over _ _ _
        ·rw [ucs_len,Nat.mul_one]
         unfold overL
         simp only [List.length_append,List.length_take,List.length_drop]
         omega
       have hol:(overL L.ms c.pl (l.take c.n)).length=L.ms.length:=by
        unfold overL
        simp only [List.length_append,List.length_take,List.length_drop]
        omega
       simp only [List.append_eq,List.nil_append]
       (refine nNz<|zI<|sRz<|vFz<|ldz rfl (.tail (.tail .head)) ov_rd2 ?_)
       (apply LW.callR;rfl;rfl;infer_instance;exact .cons rfl .nil;intro w hs)
       exact SK.Clone_calls l _ w (ho.st hs) (by omega)
       intro x3 g6 k6
       have k6':=k6
       obtain ⟨q6,kc6,rfl⟩:=k6'.form
       have hsl3:∀ p n q,FrSl ⟨c2,f.pc,s2,.slice (some ⟨gm,0,none⟩) L.ms.length kc3,f.gas+left,f.self,f.frm,f.val,i2,.slice p n q,f.stat⟩:=fun p n q=>⟨hsl2.c,hsl2.s,⟨_,_,_,rfl⟩,hsl2.i,⟨_,_,_,rfl⟩⟩
       by_cases h245:c.op=245
       ·cases ok with
        |true =>
         have hbk:(if c.op=245∧true=true then [] else l)=([]:List UInt8):=if_pos ⟨h245,rfl⟩
         (refine vFz ?_;refine zR rfl rfl (.app .head) fr_wr12<|nSz<|vFz<|ldz rfl (.app (.tail (.tail (.tail .head)))) cl_rd0 ?_;refine lvz (.eqT rfl rfl (by omega)) ?_;refine vMz<|gTz<|vFz<|gTz<|ldz rfl (.app (.tail (.tail .head))) ov_rd0<|pTz<|nNz<|cTz<|zL<|vFz ?_;refine zR rfl rfl (.app .head) fr_wr12<|nSz<|ldz rfl (.app .head) fr_rdW ?_;apply zR;rfl;rfl;apply qC;apply qB;apply qA;apply fr_wrW;rfl;exact hsl3 _ _ _;refine vAz<|nNz<|zK ?_)
         refine fin (vs:=[frv ⟨c2,f.pc,s2,.slice (some ⟨gm,0,none⟩) L.ms.length kc3,f.gas+left,f.self,f.frm,f.val,i2,.slice none 0 0,f.stat⟩,.bool true]) ([(gm,.cells (cur.toList.take (0+c.pl)++ucs (l.take c.n)++cur.toList.drop (0+c.pl+kk)).toArray 5 (0,0))]++(g1++(g2++(g4++[])))) (.inl rfl) rfl rfl (by (apply zD;apply zH;rfl;apply qE;apply zZ;apply zX;apply zY;exact fr_rdW;apply zD;exact zG rfl;exact zF)) ?_ (.inl ⟨⟨hF,hC,hA,hW⟩,_,_,_,_,_,rfl,g1,g2,[(gm,.cells (cur.toList.take (0+c.pl)++ucs (l.take c.n)++cur.toList.drop (0+c.pl+kk)).toArray 5 (0,0))],g4,[],perm4 _ _ _ _,k1,k2,?_,k4,?_⟩)
         ·exact List.Sublist.trans (qQ _ (qQ _ (qQ _ (List.sublist_cons_self _ _)))) (List.sublist_append_right _ _)
         ·unfold endL bM;dsimp only;rw [hol];exact k7
         ·unfold endL bM;dsimp only;rw [hbk];exact .nil
        |false =>
         have hbk:(if c.op=245∧false=true then [] else l)=l:=if_neg (fun h=>by cases h.2)
         (refine vFz ?_;refine zR rfl rfl (.app .head) fr_wr12<|nSz<|vFz<|ldz rfl (.app (.tail (.tail (.tail .head)))) cl_rd0 ?_;refine lvz (.eqT rfl rfl (by omega)) ?_;refine vMz<|gTz<|vFz<|gTz<|ldz rfl (.app (.tail (.tail .head))) ov_rd0<|pTz<|nNz<|cFz<|zJ<|thenN<|sRz<|ldz rfl (.app .head) fr_rdW ?_;apply zR;rfl;rfl;apply qC;apply qB;apply qA;apply fr_wrW;rfl;exact hsl3 _ _ _;refine vAz<|nNz<|zK ?_)
         refine fin (vs:=[frv ⟨c2,f.pc,s2,.slice (some ⟨gm,0,none⟩) L.ms.length kc3,f.gas+left,f.self,f.frm,f.val,i2,.slice q6 l.length kc6,f.stat⟩,.bool true]) (g6++([(gm,.cells (cur.toList.take (0+c.pl)++ucs (l.take c.n)++cur.toList.drop (0+c.pl+kk)).toArray 5 (0,0))]++(g1++(g2++(g4++[]))))) (.inl rfl) rfl rfl (by (apply zD;apply zH;rfl;apply qE;apply zZ;apply zX;apply zY;exact fr_rdW;apply zD;exact zG rfl;exact zF)) ?_ (.inl ⟨⟨hF,hC,hA,hW⟩,_,_,_,_,_,rfl,g1,g2,[(gm,.cells (cur.toList.take (0+c.pl)++ucs (l.take c.n)++cur.toList.drop (0+c.pl+kk)).toArray 5 (0,0))],g4,g6,perm6 _ _ _ _ _,k1,k2,?_,k4,?_⟩)
         ·exact List.Sublist.append_left (qQ _ (qQ _ (qQ _ (List.sublist_cons_self _ _)))) _
         ·unfold endL bM;dsimp only;rw [hol];exact k7
         ·unfold endL bM;dsimp only;rw [hbk];exact k6
       ·have hbk:(if c.op=245∧ok=true then [] else l)=l:=if_neg (fun h=>h245 h.1)
        (refine vFz ?_;refine zR rfl rfl (.app .head) fr_wr12<|nSz<|vFz<|ldz rfl (.app (.tail (.tail (.tail .head)))) cl_rd0 ?_;refine lvz (.eqF rfl rfl (by omega)) ?_;refine vMz<|gFz<|gFz<|pFz<|nNz<|cFz<|zJ<|thenN<|sRz<|ldz rfl (.app .head) fr_rdW ?_;apply zR;rfl;rfl;apply qC;apply qB;apply qA;apply fr_wrW;rfl;exact hsl3 _ _ _;refine vAz<|nNz<|zK ?_)
        refine fin (vs:=[frv ⟨c2,f.pc,s2,.slice (some ⟨gm,0,none⟩) L.ms.length kc3,f.gas+left,f.self,f.frm,f.val,i2,.slice q6 l.length kc6,f.stat⟩,.bool true]) (g6++([(gm,.cells (cur.toList.take (0+c.pl)++ucs (l.take c.n)++cur.toList.drop (0+c.pl+kk)).toArray 5 (0,0))]++(g1++(g2++(g4++[]))))) (.inl rfl) rfl rfl (by (apply zD;apply zH;rfl;apply qE;apply zZ;apply zX;apply zY;exact fr_rdW;apply zD;exact zG rfl;exact zF)) ?_ (.inl ⟨⟨hF,hC,hA,hW⟩,_,_,_,_,_,rfl,g1,g2,[(gm,.cells (cur.toList.take (0+c.pl)++ucs (l.take c.n)++cur.toList.drop (0+c.pl+kk)).toArray 5 (0,0))],g4,g6,perm6 _ _ _ _ _,k1,k2,?_,k4,?_⟩)
        ·exact List.Sublist.append_left (qQ _ (qQ _ (qQ _ (List.sublist_cons_self _ _)))) _
        ·unfold endL bM;dsimp only;rw [hol];exact k7
        ·unfold endL bM;dsimp only;rw [hbk];exact k6
     ·have hR:tellR f L 0 [laidW c ok]=none:=by unfold tellR;exact if_neg (fun h=>hW (by have h:=h.2;simp at h;omega))
      rw [hR] at hT
      obtain ⟨rfl,rfl⟩:=hT
      ((try simp only [tsOf_cons,tsOf_nil,tsOf_app]);refine dvz (.move rfl) ?_;refine dvz (.extractN rfl rfl) ?_;refine dvz (.extractN rfl rfl) ?_;apply DW.allocA;rfl;rfl;rfl;exact zC;intro _;apply DW.store;rfl;rfl;exact zC;rfl;rfl;apply TSet.head;kernel_rfl;exact zN;apply Wr.whole;rfl;rfl;rfl;apply DW.nil;simp only [fsOf_cons,fsOf_nil,fsOf_app,fsOf_tsOf,fsOf_new])
      (refine vAz<|nNz<|zI<|sRz<|vMz ?_;refine lvz (.notF rfl (by with_reducible rfl)) ?_;refine nNz<|cTz<|sRz ?_;apply LW.v0;rfl;rfl;apply zW;infer_instance;infer_instance;exact zB;rfl;simp only [fillP,wrCells,Value.cells,qH,qI,qJ,qG,qL,qK,Nat.reduceAdd,qN];rfl;refine zR rfl rfl (.tail (.tail .head)) (.whole rfl rfl rfl)<|vAz<|nNz<|zK<|thenR ?_)
      exact fin (vs:=[frv zeroF,.bool false]) [] (.inl rfl) rfl rfl (by (apply zD;apply zH;rfl;apply qE;apply zX;apply zX;apply zY;exact qF rfl;apply zD;exact zG rfl;exact zF)) (List.nil_sublist _) (.inr ⟨fun h=>hW h.2.2.2,rfl,rfl⟩)
    ·rw [decide_eq_true hA]
     (refine cTz<|sRz ?_;apply LW.v0;rfl;rfl;apply zW;infer_instance;infer_instance;exact zB;rfl;simp only [fillP,wrCells,Value.cells,qH,qI,qJ,qG,qL,qK,Nat.reduceAdd,qN];rfl;refine zR rfl rfl .head (.whole rfl rfl rfl)<|vAz<|nNz<|zK<|thenR ?_)
     exact fin (vs:=[frv zeroF,.bool false]) [] (.inl rfl) rfl rfl (by (apply zD;apply zH;rfl;apply qE;apply zY;exact qF rfl;apply zD;exact zG rfl;exact zF)) (List.nil_sublist _) (.inr ⟨fun h=>hA h.2.2.1,rfl,rfl⟩)
   ·(refine LW.guardDF rfl rfl rfl (fun hsq hsp=>?_) (fun hsq hsp=>?_);refine vFz<|gTaz<|ldz rfl (.tail .head) ov_rd2<|gTaz<|lvz (.lenR rfl inferInstance rfl)<|gTaz<|lvz (.gtr rfl rfl)<|pFaz<|vMz ?_;refine LW.guardDF rfl rfl rfl (fun hsq hsp=>?_) (fun hsq hsp=>?_);refine vFz<|gTaz<|ldz rfl (.tail (.tail (.tail .head))) fr_rd4<|gTaz<|vFz<|gTaz<|ldz rfl (.tail .head) ov_rd1<|gTaz<|lvz (.addN rfl rfl)<|gTaz<|lvz (.gtr rfl rfl)<|pFaz<|vMz ?_;refine LW.guardDF rfl rfl rfl (fun hsq hsp=>?_) (fun hsq hsp=>?_);refine vFz<|gTaz<|ldz rfl (.tail (.tail .head)) cl_rd12<|gTaz<|vFz<|gTaz<|ldz rfl (.tail (.tail .head)) cl_rd13<|gTaz<|lvz (.addN rfl rfl)<|gTaz<|vFz<|gTaz<|vFz<|gTaz ?_;refine ldz rfl (.tail (.tail (.tail .head))) hmem<|gTaz<|lvz (.lenR rfl inferInstance rfl)<|gTaz ?_;refine lvz (.convN rfl (by omega) (by omega)) ?_;refine gTaz<|lvz (.gtr rfl rfl)<|pFaz ?_;apply zV;refine cutI rfl ⟨getB rfl ?_,rfl,rfl,rfl,rfl,rfl,trivial⟩ ?_;exact decide_eq_decide.2 (by omega);exact qM _;(iterate 10 refine gFaz ?_);refine pTaz ?_;apply zV;refine cutI rfl ⟨getB rfl ?_,rfl,rfl,rfl,rfl,rfl,trivial⟩ ?_;exact (decide_eq_true (by omega)).symm;exact qM _;(iterate 5 refine gFaz ?_);refine pTaz<|vMz ?_;(iterate 11 refine gFz ?_);refine pTz ?_;apply zV;refine cutI rfl ⟨getB rfl ?_,rfl,rfl,rfl,rfl,rfl,trivial⟩ ?_;exact (decide_eq_true (by omega)).symm;exact qM _;(iterate 3 refine gFaz ?_);refine pTaz<|vMz ?_;(iterate 6 refine gFz ?_);refine pTz<|vMz ?_;(iterate 11 refine gFz ?_);refine pTz ?_;apply zV;refine cutI rfl ⟨getB rfl ?_,rfl,rfl,rfl,rfl,rfl,trivial⟩ ?_;exact (decide_eq_true (by omega)).symm;exact qM _)
  ·have hCc:∀ w' {fs:Fs},St w [] fs w'→Calls Tryz.prog 19 #[clv c] w' (Ret w' (.int .i64 250)):=fun w' fs hst=>by have h:=hCc0 w' hst;rwa [if_neg hC] at h
   refine enter (args:=[_,_,_]) _ [] [] Tryz.func13 rfl Tryz.ntmps13 rfl (by simp) .nil ?_
   (refine sRz ?_;apply zT;rfl;rfl;intro _;apply zT;rfl;rfl;intro _;apply zT;rfl;rfl;intro _;apply zU;rfl;intro _;refine vAz<|nNz<|zI<|sRz<|ldz rfl (.tail (.tail (.tail .head))) fr_rdW ?_;apply zS;rfl;rfl;infer_instance;exact .cons rfl .nil;intro w _;exact hFc w (by assumption);refine lvz (.neF rfl rfl (by omega)) ?_;refine vMz<|gTz<|ldz rfl (.tail (.tail .head)) cl_rdW<|gTz ?_;apply zS;rfl;rfl;infer_instance;exact .cons rfl .nil;intro w _;exact hCc w (by assumption);refine gTz ?_;refine lvz (.neT rfl rfl (by omega)) ?_;refine pFz<|vMz ?_;(iterate 5 refine gFz ?_);refine pTz<|vMz ?_;(iterate 4 refine gFz ?_);refine pTz<|vMz ?_;(iterate 6 refine gFz ?_);refine pTz<|vMz ?_;(iterate 11 refine gFz ?_);refine pTz<|nNz<|cTz<|sRz ?_;apply LW.v0;rfl;rfl;apply zW;infer_instance;infer_instance;exact zB;rfl;simp only [fillP,wrCells,Value.cells,qH,qI,qJ,qG,qL,qK,Nat.reduceAdd,qN];rfl;refine zR rfl rfl .head (.whole rfl rfl rfl)<|vAz<|nNz<|zK<|thenR ?_)
   exact fin (vs:=[frv zeroF,.bool false]) [] (.inl rfl) rfl rfl (by (apply zD;apply zH;rfl;apply qE;apply zY;exact qF rfl;apply zD;exact zG rfl;exact zF)) (List.nil_sublist _) (.inr ⟨fun h=>hC h.2.1,rfl,rfl⟩)
 ·have hFc:∀ w' {fs:Fs},St w [] fs w'→Calls Tryz.prog 31 #[frv f] w' (Ret w' (.int .i64 240)):=fun w' fs hst=>by have h:=hFc0 w' hst;rwa [if_neg hF] at h
  refine enter (args:=[_,_,_]) _ [] [] Tryz.func13 rfl Tryz.ntmps13 rfl (by simp) .nil ?_
  (refine sRz ?_;apply zT;rfl;rfl;intro _;apply zT;rfl;rfl;intro _;apply zT;rfl;rfl;intro _;apply zU;rfl;intro _;refine vAz<|nNz<|zI<|sRz<|ldz rfl (.tail (.tail (.tail .head))) fr_rdW ?_;apply zS;rfl;rfl;infer_instance;exact .cons rfl .nil;intro w _;exact hFc w (by assumption);refine lvz (.neT rfl rfl (by omega)) ?_;refine vMz ?_;(iterate 3 refine gFz ?_);refine pTz<|vMz ?_;(iterate 5 refine gFz ?_);refine pTz<|vMz ?_;(iterate 4 refine gFz ?_);refine pTz<|vMz ?_;(iterate 6 refine gFz ?_);refine pTz<|vMz ?_;(iterate 11 refine gFz ?_);refine pTz<|nNz<|cTz<|sRz ?_;apply LW.v0;rfl;rfl;apply zW;infer_instance;infer_instance;exact zB;rfl;simp only [fillP,wrCells,Value.cells,qH,qI,qJ,qG,qL,qK,Nat.reduceAdd,qN];rfl;refine zR rfl rfl .head (.whole rfl rfl rfl)<|vAz<|nNz<|zK<|thenR ?_)
  exact fin (vs:=[frv zeroF,.bool false]) [] (.inl rfl) rfl rfl (by (apply zD;apply zH;rfl;apply qE;apply zY;exact qF rfl;apply zD;exact zG rfl;exact zF)) (List.nil_sublist _) (.inr ⟨fun h=>hF h.1,rfl,rfl⟩)
end

end Go.Proofs.YtpgdnfgjbhdbpaaGreatDoor
namespace Go.Proofs.YtpgdnfgjbhdbpaaGreatDoor.SL
set_option linter.unusedVariables false
set_option linter.unusedSimpArgs false
open Go Go.RowKit
inductive MoreR:Ts→Ts→Prop
 |nil:MoreR [] []
 |cons {b:Nat} {o:Obj} {ws rs rs':List Nat} {r r':Ts} (h:∀ x∈rs,x∈rs') (t:MoreR r r'):MoreR ((b,o,ws,rs)::r) ((b,o,ws,rs')::r')
def markAll (k:Nat) (ts:Ts):Ts:=ts.map fun p=>(p.1,p.2.1,p.2.2.1,k::p.2.2.2)
theorem MoreR.keys {ts ts':Ts} (h:MoreR ts ts'):ts'.map (·.1)=ts.map (·.1):=by
 induction h with
 |nil=>rfl
 |cons _ _ ih=>simp [ih]
theorem MoreR.mem {ts ts':Ts} (h:MoreR ts ts'):∀ p'∈ts',∃ rs,(p'.1,p'.2.1,p'.2.2.1,rs)∈ts∧∀ x∈rs,x∈p'.2.2.2:=by
 induction h with
 |nil=>intro p hp;cases hp
 |@cons b o ws rs rs' r r' hx _ ih =>
  intro p hp
  rcases List.mem_cons.1 hp with rfl|hp
  ·exact ⟨rs,List.mem_cons_self,hx⟩
  ·obtain ⟨rs,h1,h2⟩:=ih p hp
   exact ⟨rs,qO _ h1,h2⟩
theorem MoreR.refl:∀ ts:Ts,MoreR ts ts
 |[]=>.nil
 |(b,o,ws,rs)::r=>.cons (fun _ h=>h) (MoreR.refl r)
theorem MoreR.mark {k:Nat}:∀ ts:Ts,MoreR ts (markAll k ts)
 |[]=>.nil
 |(b,o,ws,rs)::r=>.cons (fun _ h=>qO _ h) (MoreR.mark r)
theorem more_app:∀ (l:Ts) {ts ts':Ts},MoreR ts ts'→MoreR (l++ts) (l++ts')
 |[],_,_,h=>h
 |(b,o,ws,rs)::l,_,_,h=>.cons (fun _ h=>h) (more_app l h)
theorem fsOf_mark {k:Nat} (ts:Ts):fsOf (markAll k ts)=fsOf ts:=by simp [fsOf,markAll]
theorem DW.moreA {C:Cu} {ops:Array Oper} {μ:Mu} {Q:Post} {tl l:List Oper} {k:Nat} {e:Env} {ts ts':Ts} (hm:MoreR ts ts') (h:DW C ops μ Q tl l k e ts'):DW C ops μ Q tl l k e ts:=fun a φ tw tr ha hr hi=>by
 refine h a φ tw tr ha ⟨fun p hp=>?_,fun p hp j hj=>?_,fun p hp j hj=>?_,hr.old,hr.oldr,?_⟩ hi
 ·obtain ⟨rs,h1,_⟩:=hm.mem p hp
  exact hr.fsome (p.1,p.2.1,p.2.2.1,rs) h1
 ·obtain ⟨rs,h1,_⟩:=hm.mem p hp
  exact hr.ftw (p.1,p.2.1,p.2.2.1,rs) h1 j hj
 ·obtain ⟨rs,h1,h2⟩:=hm.mem p hp
  exact h2 _ (hr.ftr (p.1,p.2.1,p.2.2.1,rs) h1 j hj)
 ·have h1:(ts.map (·.1)).Pairwise (· ≠ ·):=List.pairwise_map.2 hr.nd
  rw [← hm.keys] at h1
  exact List.pairwise_map.1 h1
theorem read_one {ops:Array Oper} {k:Nat} {tsF:Ts}:∀ {ts:Ts},MoreR tsF ts→MoreR ts (markAll k tsF)→∀ {b:Nat} {o:Obj} {ws rs:List Nat},(b,o,ws,rs)∈tsF→ancB ops k ws=true→∃ ts',TRead ops k ts b o ts'∧MoreR tsF ts'∧MoreR ts' (markAll k tsF):=by
 induction tsF with
 |nil=>intro ts _ _ b o ws rs hm;cases hm
 |cons q r ih =>
  intro ts h0 h
  obtain ⟨qb,qo,qw,qr⟩:=q
  rw [show markAll k ((qb,qo,qw,qr)::r)=(qb,qo,qw,k::qr)::markAll k r from rfl] at h ⊢
  cases h with
  |@cons _ _ _ rs1 _ r1 _ hx ht =>
   cases h0 with
   |cons hy hu =>
    intro b o ws rs hm ha
    rcases List.mem_cons.1 hm with he|hm
    ·cases he
     exact ⟨_,.head ha,.cons (fun x hx'=>qO _ (hy x hx')) hu,.cons (fun x hx'=>by
      rcases List.mem_cons.1 hx' with rfl|h'
      ·exact List.mem_cons_self
      ·exact hx x h') ht⟩
    ·obtain ⟨ts',h1,h2,h3⟩:=ih hu ht hm ha
     exact ⟨_,.tail h1,.cons hy h2,.cons hx h3⟩
def Lie (C:Cu) (ops:Array Oper) (k:Nat) (ts:Ts) (p:Nat × Obj):Prop:=(∃ ws rs,(p.1,p.2,ws,rs)∈ts∧ancB ops k ws=true)∨(C.w0.heap[p.1]?=some p.2∧p.1 ∉ C.S)
theorem read_all {C:Cu} {ops:Array Oper} {k:Nat} {tsF:Ts}:∀ (us:Fs) {ts:Ts},MoreR tsF ts→MoreR ts (markAll k tsF)→(∀ p∈us,Lie C ops k tsF p)→∃ ts',ReadAll C ops k (us.map (·.1)) ts us ts'∧MoreR ts' (markAll k tsF)
 |[],ts,_,h,_=>⟨ts,.nil,h⟩
 |(b,o)::us,ts,h0,h,hl=>by
  rcases hl (b,o) List.mem_cons_self with ⟨ws,rs,h1,h2⟩|⟨h1,h2⟩
  ·obtain ⟨ts1,h4,h5,h6⟩:=read_one h0 h h1 h2
   obtain ⟨ts',h7,h8⟩:=read_all us h5 h6 fun p hp=>hl p (qO _ hp)
   exact ⟨ts',.own h4 h7,h8⟩
  ·obtain ⟨ts',h7,h8⟩:=read_all us h0 h fun p hp=>hl p (qO _ hp)
   exact ⟨ts',.ext h1 h2 h7,h8⟩
theorem markAll_nil {k:Nat}:markAll k []=[]:=rfl
theorem markAll_cons {k b:Nat} {o:Obj} {ws rs:List Nat} {r:Ts}:markAll k ((b,o,ws,rs)::r)=(b,o,ws,k::rs)::markAll k r:=rfl
theorem markAll_app {k:Nat} {l r:Ts}:markAll k (l++r)=markAll k l++markAll k r:=by simp [markAll]
theorem markAll_tsOf {k:Nat} {g:Fs}:markAll k (tsOf g)=tsTag [] [k] g:=by simp [markAll,tsOf,tsTag]
section dw
variable {C : Cu} {ops : Array Oper} {Q : Post} {tl rest : List Oper} {e : Env} {ts : Ts} {μ : Mu} {k d : Nat} {t : TypeId} {pos : String} {af : Array Edge} {g : Option (Nat × Bool)} {fo : Operand} {args : Array Operand} {tys : Array TypeId} {f : FuncId} {vs : List Value} (us : Fs)
theorem DW.callA {v:Value} (hk:ops[k]?=some ⟨some d,.call { callee:=.value fo,args:=args,argTypes:=tys },t,pos,af,g⟩) (hm:μ k=none)
  (hd:Nat.blt d C.N=true) (hg:WantT ops e g) (hf:e.ev fo=some (.func (.func f) #[] #[])) (hF:FnI C.P f) (ha:ArgsOk e args.toList vs) (hbl:vs.flatMap (blocksN 4)=us.map (·.1)) (hl:∀ p∈us,Lie C ops k ts p)
  (hc:∀ w,Bel C.w0.heap.size C.S C.w0 w→(∀ p∈us,w.heap[p.1]?=some p.2)→Calls C.P f vs.toArray w (Ret w v)) (kk:DW C ops μ Q tl rest (k+1) ((d,v)::e) (markAll k ts)) :
  DW C ops μ Q tl (⟨some d,.call { callee:=.value fo,args:=args,argTypes:=tys },t,pos,af,g⟩::rest) k e ts:=by
 obtain ⟨ts',h1,h2⟩:=read_all us (MoreR.refl ts) (MoreR.mark ts) hl
 rw [← hbl] at h1
 exact DW.callE hk hm hd hg hf hF ha (show _=vs.flatMap (blocksN 4) from rfl) h1 hc (DW.moreA h2 kk)
theorem DW.manyA {M:Rel1} (hk:ops[k]?=some ⟨some d,.call { callee:=.value fo,args:=args,argTypes:=tys },t,pos,af,g⟩) (hm:μ k=some (cst M,(false:Fl)))
  (hd:Nat.blt d C.N=true) (hg:WantT ops e g) (hf:e.ev fo=some (.func (.func f) #[] #[])) (hF:FnI C.P f) (ha:ArgsOk e args.toList vs) (hbl:vs.flatMap (blocksN 4)=us.map (·.1)) (hl:∀ p∈us,Lie C ops k ts p)
  (hc:∀ w,Bel C.w0.heap.size C.S C.w0 w→(∀ p∈us,w.heap[p.1]?=some p.2)→Calls C.P f vs.toArray w (RetG w [] M)) (kk:∀ v gs,M v gs→DW C ops μ Q tl rest (k+1) ((d,v)::e) (tsNew k gs++markAll k ts)) :
  DW C ops μ Q tl (⟨some d,.call { callee:=.value fo,args:=args,argTypes:=tys },t,pos,af,g⟩::rest) k e ts:=by
 obtain ⟨ts',h1,h2⟩:=read_all us (MoreR.refl ts) (MoreR.mark ts) hl
 rw [← hbl] at h1
 refine DW.manyE hk hm hd hg hf hF ha (show _=vs.flatMap (blocksN 4) from rfl) h1 hc fun v gs hM=>DW.moreA ?_ (kk v gs hM)
 exact (more_app _ h2)
end dw
end Go.Proofs.YtpgdnfgjbhdbpaaGreatDoor.SL
namespace Go.Proofs.YtpgdnfgjbhdbpaaGreatDoor
open Go Go.RowKit SL
set_option maxRecDepth 8000
set_option maxHeartbeats 4000000
set_option linter.unusedSimpArgs false
set_option linter.unusedVariables false
attribute [local irreducible] SL.CW SL.LW SL.DW Calls SL.Ret SL.RetG SL.beginQ SL.roundQ SL.rangeQ SL.RW SL.AnyW SL.thenQ SL.thenC SL.thenW SL.blkQ SL.finQ SL.ValP SL.NewP SL.SetP SL.CallP SL.Rd SL.Wr SL.Known
section
structure AkV where
 kind:Int
 op:Nat
 ws:Value
 dt:Value
 cold:Bool
 vl:Bool
 new:Bool
def bgl (f:FrV) (A:AkV) (c:ClV):List Value:=frc f++(shc A.op++([.int .i64 A.kind,.int .u8 (A.op:Int),A.ws,A.dt]++([.bool A.cold,.bool A.vl,.bool A.new]++clc c)))
abbrev bga (f:FrV) (A:AkV) (c:ClV):Array Value:=(bgl f A c).toArray
abbrev bgO (f:FrV) (A:AkV) (c:ClV):Obj:=.cells (bga f A c) 96 (0,0)
attribute [local irreducible] shq
section rd
variable {P : Program} {T E : TypeId} {fr : Nat × Nat} {A : AkV} {f : FrV} {c : ClV} {code stk mem inp back : Value} {pc : Int} {gas self frm val : Nat} {stat : Bool} {op dst cself cfrm cval cgas pl n : Nat} {cinp ccode : Value} {mv cstat : Bool}
theorem bg_rdF [AgI P T true] {z:Value} [InfoI P T 14 z]:Rd P T (.cells (bga f A c) E fr) 0 (frv f):=Rd.mid (cs:=frc f) rfl rfl
theorem bg_rd4 [AgI P T false]:Rd P T (.cells (bga ⟨code,pc,stk,mem,gas,self,frm,val,inp,back,stat⟩ A c) E fr) 4 (.int .u64 (gas:Int)):=Rd.one rfl
theorem bg_rd5 [AgI P T false]:Rd P T (.cells (bga ⟨code,pc,stk,mem,gas,self,frm,val,inp,back,stat⟩ A c) E fr) 5 (.int .u64 (self:Int)):=Rd.one rfl
theorem bg_rd6 [AgI P T false]:Rd P T (.cells (bga ⟨code,pc,stk,mem,gas,self,frm,val,inp,back,stat⟩ A c) E fr) 6 (.int .u64 (frm:Int)):=Rd.one rfl
theorem bg_rd7 [AgI P T true] {z:Value} [InfoI P T 4 z]:Rd P T (.cells (bga ⟨code,pc,stk,mem,gas,self,frm,val,inp,back,stat⟩ A c) E fr) 7 (wv val):=Rd.mid (cs:=(wc val).toList) rfl rfl
theorem bg_rd13 [AgI P T false]:Rd P T (.cells (bga ⟨code,pc,stk,mem,gas,self,frm,val,inp,back,stat⟩ A c) E fr) 13 (.bool stat):=Rd.one rfl
theorem bg_rd15 [AgI P T false]:Rd P T (.cells (bga f A c) E fr) 15 (.int .i64 (shq A.op).2.1):=Rd.one rfl
theorem bg_rd16 [AgI P T false]:Rd P T (.cells (bga f A c) E fr) 16 (.int .i64 (shq A.op).2.2.1):=Rd.one rfl
theorem bg_rd17 [AgI P T false]:Rd P T (.cells (bga f A c) E fr) 17 (.int .i64 (shq A.op).2.2.2.1):=Rd.one rfl
theorem bg_rd18 [AgI P T false]:Rd P T (.cells (bga f A c) E fr) 18 (.int .i64 (shq A.op).2.2.2.2.1):=Rd.one rfl
theorem bg_rd20 [AgI P T false]:Rd P T (.cells (bga f A c) E fr) 20 (.int .u8 (A.op:Int)):=Rd.one rfl
theorem bg_rd21 [AgI P T false]:Rd P T (.cells (bga f A c) E fr) 21 A.ws:=Rd.one rfl
theorem bg_rd23 [AgI P T false]:Rd P T (.cells (bga f A c) E fr) 23 (.bool A.cold):=Rd.one rfl
theorem bg_rd25 [AgI P T false]:Rd P T (.cells (bga f A c) E fr) 25 (.bool A.new):=Rd.one rfl
theorem bg_rd27 [AgI P T false]:Rd P T (.cells (bga f A ⟨op,dst,cself,cfrm,cval,mv,cgas,cinp,ccode,pl,n,cstat⟩) E fr) 27 (.int .u64 (dst:Int)):=Rd.one rfl
theorem bg_rd30 [AgI P T true] {z:Value} [InfoI P T 4 z]:Rd P T (.cells (bga f A ⟨op,dst,cself,cfrm,cval,mv,cgas,cinp,ccode,pl,n,cstat⟩) E fr) 30 (wv cval):=Rd.mid (cs:=(wc cval).toList) rfl rfl
theorem bg_rd34 [AgI P T false]:Rd P T (.cells (bga f A ⟨op,dst,cself,cfrm,cval,mv,cgas,cinp,ccode,pl,n,cstat⟩) E fr) 34 (.bool mv):=Rd.one rfl
theorem bg_rd35 [AgI P T false]:Rd P T (.cells (bga f A ⟨op,dst,cself,cfrm,cval,mv,cgas,cinp,ccode,pl,n,cstat⟩) E fr) 35 (.int .u64 (cgas:Int)):=Rd.one rfl
theorem bg_rd36 [AgI P T false]:Rd P T (.cells (bga f A ⟨op,dst,cself,cfrm,cval,mv,cgas,cinp,ccode,pl,n,cstat⟩) E fr) 36 cinp:=Rd.one rfl
theorem bg_rd37 [AgI P T false]:Rd P T (.cells (bga f A ⟨op,dst,cself,cfrm,cval,mv,cgas,cinp,ccode,pl,n,cstat⟩) E fr) 37 ccode:=Rd.one rfl
theorem bg_rdC [AgI P T true] {z:Value} [InfoI P T 15 z]:Rd P T (.cells (bga f A c) E fr) 26 (clv c):=Rd.mid (cs:=clc c) rfl rfl
end rd
section wr
variable {P : Program} {T E : TypeId} {A : AkV} {f : FrV} {c : ClV} {z code stk mem inp back : Value} {pc : Int} {gas self frm val x q k : Nat} {stat y : Bool} {p : Option Addr} {op dst cself cfrm cval cgas pl n : Nat} {cinp ccode : Value} {mv cstat : Bool}
theorem bg_wr4 [InfoI P T 1 z]:Wr P T (.cells (bga ⟨code,pc,stk,mem,gas,self,frm,val,inp,back,stat⟩ A c) E (0,0)) (0+0+4) (.int .u64 (x:Int)) (.cells (bga ⟨code,pc,stk,mem,x,self,frm,val,inp,back,stat⟩ A c) E (0,0)):=Wr.cells (n:=1) (z:=z) rfl rfl (by show 0+0+4+1≤41;omega) rfl
theorem bg_wr26 [InfoI P T 1 z]:Wr P T (.cells (bga f A ⟨op,dst,cself,cfrm,cval,mv,cgas,cinp,ccode,pl,n,cstat⟩) E (0,0)) (0+26+0) (.int .u8 (x:Int)) (.cells (bga f A ⟨x,dst,cself,cfrm,cval,mv,cgas,cinp,ccode,pl,n,cstat⟩) E (0,0)):=Wr.cells (n:=1) (z:=z) rfl rfl (by show 0+26+0+1≤41;omega) rfl
theorem bg_wr27 [InfoI P T 1 z]:Wr P T (.cells (bga f A ⟨op,dst,cself,cfrm,cval,mv,cgas,cinp,ccode,pl,n,cstat⟩) E (0,0)) (0+26+1) (.int .u64 (x:Int)) (.cells (bga f A ⟨op,x,cself,cfrm,cval,mv,cgas,cinp,ccode,pl,n,cstat⟩) E (0,0)):=Wr.cells (n:=1) (z:=z) rfl rfl (by show 0+26+1+1≤41;omega) rfl
theorem bg_wr28 [InfoI P T 1 z]:Wr P T (.cells (bga f A ⟨op,dst,cself,cfrm,cval,mv,cgas,cinp,ccode,pl,n,cstat⟩) E (0,0)) (0+26+2) (.int .u64 (x:Int)) (.cells (bga f A ⟨op,dst,x,cfrm,cval,mv,cgas,cinp,ccode,pl,n,cstat⟩) E (0,0)):=Wr.cells (n:=1) (z:=z) rfl rfl (by show 0+26+2+1≤41;omega) rfl
theorem bg_wr29 [InfoI P T 1 z]:Wr P T (.cells (bga f A ⟨op,dst,cself,cfrm,cval,mv,cgas,cinp,ccode,pl,n,cstat⟩) E (0,0)) (0+26+3) (.int .u64 (x:Int)) (.cells (bga f A ⟨op,dst,cself,x,cval,mv,cgas,cinp,ccode,pl,n,cstat⟩) E (0,0)):=Wr.cells (n:=1) (z:=z) rfl rfl (by show 0+26+3+1≤41;omega) rfl
theorem bg_wr30 [InfoI P T 4 z]:Wr P T (.cells (bga f A ⟨op,dst,cself,cfrm,cval,mv,cgas,cinp,ccode,pl,n,cstat⟩) E (0,0)) (0+26+4) (wv x) (.cells (bga f A ⟨op,dst,cself,cfrm,x,mv,cgas,cinp,ccode,pl,n,cstat⟩) E (0,0)):=Wr.cells (n:=4) (z:=z) rfl rfl (by show 0+26+4+4≤41;omega) rfl
theorem bg_wr34 [InfoI P T 1 z]:Wr P T (.cells (bga f A ⟨op,dst,cself,cfrm,cval,mv,cgas,cinp,ccode,pl,n,cstat⟩) E (0,0)) (0+26+8) (.bool y) (.cells (bga f A ⟨op,dst,cself,cfrm,cval,y,cgas,cinp,ccode,pl,n,cstat⟩) E (0,0)):=Wr.cells (n:=1) (z:=z) rfl rfl (by show 0+26+8+1≤41;omega) rfl
theorem bg_wr35 [InfoI P T 1 z]:Wr P T (.cells (bga f A ⟨op,dst,cself,cfrm,cval,mv,cgas,cinp,ccode,pl,n,cstat⟩) E (0,0)) (0+26+9) (.int .u64 (x:Int)) (.cells (bga f A ⟨op,dst,cself,cfrm,cval,mv,x,cinp,ccode,pl,n,cstat⟩) E (0,0)):=Wr.cells (n:=1) (z:=z) rfl rfl (by show 0+26+9+1≤41;omega) rfl
theorem bg_wr36 [InfoI P T 1 z]:Wr P T (.cells (bga f A ⟨op,dst,cself,cfrm,cval,mv,cgas,cinp,ccode,pl,n,cstat⟩) E (0,0)) (0+26+10) (.slice p q k) (.cells (bga f A ⟨op,dst,cself,cfrm,cval,mv,cgas,.slice p q k,ccode,pl,n,cstat⟩) E (0,0)):=Wr.cells (n:=1) (z:=z) rfl rfl (by show 0+26+10+1≤41;omega) rfl
theorem bg_wr37 [InfoI P T 1 z]:Wr P T (.cells (bga f A ⟨op,dst,cself,cfrm,cval,mv,cgas,cinp,ccode,pl,n,cstat⟩) E (0,0)) (0+26+11) (.slice p q k) (.cells (bga f A ⟨op,dst,cself,cfrm,cval,mv,cgas,cinp,.slice p q k,pl,n,cstat⟩) E (0,0)):=Wr.cells (n:=1) (z:=z) rfl rfl (by show 0+26+11+1≤41;omega) rfl
theorem bg_wr38 [InfoI P T 1 z]:Wr P T (.cells (bga f A ⟨op,dst,cself,cfrm,cval,mv,cgas,cinp,ccode,pl,n,cstat⟩) E (0,0)) (0+26+12) (.int .u64 (x:Int)) (.cells (bga f A ⟨op,dst,cself,cfrm,cval,mv,cgas,cinp,ccode,x,n,cstat⟩) E (0,0)):=Wr.cells (n:=1) (z:=z) rfl rfl (by show 0+26+12+1≤41;omega) rfl
theorem bg_wr39 [InfoI P T 1 z]:Wr P T (.cells (bga f A ⟨op,dst,cself,cfrm,cval,mv,cgas,cinp,ccode,pl,n,cstat⟩) E (0,0)) (0+26+13) (.int .u64 (x:Int)) (.cells (bga f A ⟨op,dst,cself,cfrm,cval,mv,cgas,cinp,ccode,pl,x,cstat⟩) E (0,0)):=Wr.cells (n:=1) (z:=z) rfl rfl (by show 0+26+13+1≤41;omega) rfl
theorem bg_wr40 [InfoI P T 1 z]:Wr P T (.cells (bga f A ⟨op,dst,cself,cfrm,cval,mv,cgas,cinp,ccode,pl,n,cstat⟩) E (0,0)) (0+26+14) (.bool y) (.cells (bga f A ⟨op,dst,cself,cfrm,cval,mv,cgas,cinp,ccode,pl,n,y⟩) E (0,0)):=Wr.cells (n:=1) (z:=z) rfl rfl (by show 0+26+14+1≤41;omega) rfl
end wr
def wordI (ws:List Nat) (i:Int):Nat:=if i < 0 then 0 else ws.getD i.toNat 0
theorem bword_calls (f:FrV) (A:AkV) (c:ClV) (b:Nat) (ws:List Nat) (i:Int) (hi:i < ws.length) (w:World) (hb:w.heap[b]?=some (bgO f A c)) (hv:RowAt w 4 A.ws ws.length (wcs ws)) :
  Calls Tryz.prog 89 #[.pointer (some ⟨b,0,none⟩),.int .i64 i] w (Ret w (wv (wordI ws i))):=by
 unfold wordI
 rcases Int.lt_or_le i 0 with h0|h0
 ·rw [if_pos h0]
  refine enter (args:=[_,_]) _ [] [] Tryz.func89 rfl Tryz.ntmps89 rfl (by simp) .nil ?_
  (refine sRz ?_;apply LW.allocW;rfl;intro _;refine nNz<|zI<|sRz<|vMz ?_;refine lvz (.lssT rfl rfl (by omega)) ?_;refine nNz<|cTz<|sRz ?_;apply LW.v0;rfl;rfl;exact ValP.buildW0;refine zR rfl rfl .head (.whole rfl rfl rfl)<|nNz<|zK<|thenR ?_)
  (apply finR;exact .inl rfl;rfl;rfl;rfl;apply zD;apply zH;rfl;apply qE;apply zY;exact qF rfl;exact zF)
  rfl
 ·rw [if_neg (by omega)]
  obtain ⟨k,rfl⟩:∃ k:Nat,i=(k:Int):=⟨i.toNat,(Int.toNat_of_nonneg h0).symm⟩
  rw [Int.toNat_natCast]
  obtain ⟨bw,off,cc,cs,E,fr,heq,hbw,hx⟩:=hv.pos (by omega)
  obtain ⟨kind,op,aws,dt,cold,vl,new⟩:=A
  dsimp only at heq
  subst heq
  have hrd:=word_rd (P:=Tryz.prog) (T:=29) (E:=E) (fr:=fr) hx k (by omega)
  obtain ⟨x,hx1⟩:∃ x,ws.getD k 0=x:=⟨_,rfl⟩
  rw [hx1] at hrd ⊢
  refine enter (args:=[_,_]) _ [] [] Tryz.func89 rfl Tryz.ntmps89 rfl (by simp) .nil ?_
  (refine sRz ?_;apply LW.allocW;rfl;intro _;refine nNz<|zI<|sRz<|vMz ?_;refine lvz (.lssF rfl rfl (by omega)) ?_;refine nNz<|cFz<|zJ<|thenN<|sRz<|vMz<|vNz<|vFz<|vFz ?_;apply LW.load;rfl;rfl;exact Known.ext (by assumption) (by simp);exact bg_rd21;refine vMz ?_;refine lvz (.indexAddrS rfl rfl rfl (by omega)) ?_;apply LW.load;rfl;rfl;exact Known.ext (by assumption) (by simp);assumption;refine zR rfl rfl .head (.whole rfl rfl rfl)<|nNz<|zK ?_)
  (apply finR;exact .inl rfl;rfl;rfl;rfl;apply zD;apply zH;rfl;apply qE;apply zY;exact qF rfl;exact zF)
  rfl
def zeroC:ClV:=⟨0,0,0,0,0,false,0,.slice none 0 0,.slice none 0 0,0,0,false⟩
def whoC (f:FrV) (op:Nat) (ws:List Nat):ClV :=
 if op=244 then ⟨op,wordI ws 1 % 18446744073709551616,f.self,f.frm,f.val,false,0,.slice none 0 0,.slice none 0 0,0,0,f.stat⟩
 else ⟨op,wordI ws (shq op).2.1 % 18446744073709551616,wordI ws (shq op).2.1 % 18446744073709551616,f.self,wordI ws (shq op).2.2.1,!decide (wordI ws (shq op).2.2.1=0),0,.slice none 0 0,.slice none 0 0,0,0,f.stat ||decide (op=250)⟩
attribute [local irreducible] SL.inP wordI
theorem wordI_lt {ws:List Nat} (hM:∀ x∈ws,x < M256) (i:Int):wordI ws i < M256:=by
 unfold wordI
 split
 ·decide
 ·rcases Nat.lt_or_ge i.toNat ws.length with h|h
  ·rw [List.getD_eq_getElem?_getD,List.getElem?_eq_getElem h];exact hM _ (List.getElem_mem h)
  ·rw [List.getD_eq_getElem?_getD,List.getElem?_eq_none h];decide
theorem who_calls (w0:World) (b:Nat) (f:FrV) (A:AkV) (ws:List Nat) (hM:∀ x∈ws,x < M256) (hlen:(shq A.op).1=(ws.length:Int)) (hok:(shq A.op).2.2.2.2.2=true) (rest:Fs) (w:World) (hv:RowAt w0 4 A.ws ws.length (wcs ws)) (hs:St w0 [] ((b,bgO f A zeroC)::rest) w) :
  Calls Tryz.prog 57 #[.pointer (some ⟨b,0,none⟩)] w (fun x w'=>∃ fs',(x=.returned (.tuple #[])∧fs'=(b,bgO f A (whoC f A.op ws))::rest)∧St w0 [] fs' w'):=by
 refine calls_inlineP (K:=fun x fs'=>x=.returned (.tuple #[])∧fs'=(b,bgO f A (whoC f A.op ws))::rest) (args:=[_]) Tryz.func57 rfl Tryz.ntmps57 rfl ?_ hs
 obtain ⟨code,pc,stk,mem,gas,self,frm,val,inp,back,stat⟩:=f
 have hW:∀ (c:ClV) (i:Int),i < ws.length→∀ w',Bel w0.heap.size [] w0 w'→(∀ p∈[(b,bgO ⟨code,pc,stk,mem,gas,self,frm,val,inp,back,stat⟩ A c)],w'.heap[p.1]?=some p.2)→Calls Tryz.prog 89 #[.pointer (some ⟨b,0,none⟩),.int .i64 i] w' (Ret w' (wv (wordI ws i))):=fun c i hi w' hb hp=>bword_calls _ A c b ws i hi w' (hp _ List.mem_cons_self) (hv.bel hb)
 have hvl:=wordI_lt hM
 rcases shq_ok hok with ⟨ho,hq⟩|⟨ho,hq⟩|⟨ho,hq⟩
 ·have hWt:=fun c=>hW c 1 (by rw [hq] at hlen;dsimp only at hlen;omega)
  have hWv:=fun c=>hW c 2 (by rw [hq] at hlen;dsimp only at hlen;omega)
  have hs15:∀ {f c E fr},Rd Tryz.prog 3 (.cells (bga f A c) E fr) 15 (.int .i64 1):=fun {f c E fr}=>by have h:=bg_rd15 (P:=Tryz.prog) (T:=3) (E:=E) (fr:=fr) (A:=A) (f:=f) (c:=c);rw [hq] at h;exact h
  have hs16:∀ {f c E fr},Rd Tryz.prog 3 (.cells (bga f A c) E fr) 16 (.int .i64 2):=fun {f c E fr}=>by have h:=bg_rd16 (P:=Tryz.prog) (T:=3) (E:=E) (fr:=fr) (A:=A) (f:=f) (c:=c);rw [hq] at h;exact h
  have hv2:=hvl 2
  cases stat with
  |true =>
   rw [show whoC ⟨code,pc,stk,mem,gas,self,frm,val,inp,back,true⟩ A.op ws=⟨A.op,wordI ws 1 % 18446744073709551616,wordI ws 1 % 18446744073709551616,self,wordI ws 2,!decide (wordI ws 2=0),0,.slice none 0 0,.slice none 0 0,0,0,true⟩ by unfold whoC;rw [if_neg (by omega),hq];rfl]
   (refine sRz<|vMz<|vNz<|vFz<|vAz<|nNz<|zI ?_;apply CW.pre;refine AnyW.any 23 mixed (by decide +kernel) ?_;(try simp only [tsOf_cons,tsOf_nil,tsOf_app]);refine dvz (.move rfl)<|dvz (.move rfl)<|dvz (.move rfl)<|dvz (.nilCheck rfl)<|dvz (.fieldAddr rfl rfl)<|dvz (.fieldAddr rfl rfl) ?_;apply qD;rfl;rfl;rfl;exact zC;rfl;apply zP;exact zN;exact bg_rd20;refine dvz (.move rfl)<|dvz (.nilCheck rfl)<|dvz (.fieldAddr rfl rfl)<|dvz (.fieldAddr rfl rfl) ?_;apply qD;rfl;rfl;rfl;exact zC;rfl;apply zP;exact zN;exact bg_rd13;refine dvz (.move rfl) ?_;(iterate 6 refine dSz ?_);refine dvz (.pickT' rfl (by with_reducible rfl) rfl) ?_;refine dvz (.nilCheck rfl)<|dvz (.fieldAddr rfl rfl) ?_;apply DW.store;rfl;rfl;exact zC;rfl;rfl;apply TSet.head;exact zN;kernel_rfl;apply bg_wr26 (z:=.int .u8 0);apply DW.nil;simp only [fsOf_cons,fsOf_nil,fsOf_app,fsOf_tsOf,fsOf_new];refine vNz<|vFz ?_;apply zR;rfl;rfl;apply qA;apply bg_wr40 (z:=.bool false);refine nNz<|zI ?_;apply CW.pre;refine AnyW.any 29 mixed (by decide +kernel) ?_;(try simp only [tsOf_cons,tsOf_nil,tsOf_app]);refine dvz (.move rfl)<|dvz (.move rfl)<|dvz (.move rfl)<|dvz (.move rfl)<|dvz (.move rfl)<|dvz (.nilCheck rfl)<|dvz (.fieldAddr rfl rfl)<|dvz (.fieldAddr rfl rfl) ?_;apply qD;rfl;rfl;rfl;exact zC;rfl;apply zP;exact zN;exact hs15;apply DW.callE;rfl;rfl;rfl;exact zC;rfl;infer_instance;exact .cons rfl (.cons rfl .nil);rfl;apply ReadAll.own;apply zP;exact zN;exact ReadAll.nil;intro w _ _;exact hWt _ w (by assumption) (by assumption);apply DW.callE;rfl;rfl;rfl;exact zC;rfl;infer_instance;exact .cons rfl .nil;rfl;exact ReadAll.nil;intro w _ _;exact aOf_calls _ w;refine dvz (.move rfl)<|dvz (.nilCheck rfl)<|dvz (.fieldAddr rfl rfl)<|dvz (.fieldAddr rfl rfl) ?_;apply qD;rfl;rfl;rfl;exact zC;rfl;apply zP;exact zN;exact bg_rd5;refine dvz (.move rfl)<|dvz (.move rfl)<|dvz (.nilCheck rfl)<|dvz (.fieldAddr rfl rfl)<|dvz (.fieldAddr rfl rfl) ?_;apply qD;rfl;rfl;rfl;exact zC;rfl;apply zP;exact zN;exact hs16;apply DW.callE;rfl;rfl;rfl;exact zC;rfl;infer_instance;exact .cons rfl (.cons rfl .nil);rfl;apply ReadAll.own;apply zP;exact zN;exact ReadAll.nil;intro w _ _;exact hWv _ w (by assumption) (by assumption);refine dvz (.nilCheck rfl)<|dvz (.fieldAddr rfl rfl) ?_;apply DW.store;rfl;rfl;exact zC;rfl;rfl;apply TSet.head;exact zN;kernel_rfl;apply bg_wr27 (z:=.int .u64 0);refine dvz (.nilCheck rfl)<|dvz (.fieldAddr rfl rfl) ?_;apply DW.store;rfl;rfl;exact zC;rfl;rfl;apply TSet.head;kernel_rfl;kernel_rfl;apply bg_wr29 (z:=.int .u64 0);apply DW.nil;simp only [fsOf_cons,fsOf_nil,fsOf_app,fsOf_tsOf,fsOf_new];refine vNz<|vFz ?_;refine zR rfl rfl .head bg_wr30<|nSz<|vMz<|vMz<|vNz<|vFz<|ldz rfl .head bg_rd30 ?_;apply LW.v0;rfl;rfl;exact ValP.buildW0;refine lvz (.neW rfl rfl (by assumption) (by omega)) ?_;refine vNz<|vFz ?_;apply zR;rfl;rfl;apply qA;apply bg_wr34 (z:=.bool false);refine nSz<|vMz<|vMz<|vNz<|vFz<|ldz rfl .head bg_rd27<|vNz<|vFz ?_;apply zR;rfl;rfl;apply qA;apply bg_wr28 (z:=.int .u64 0);refine nSz<|vMz<|vNz<|vFz<|vFz<|ldz rfl .head bg_rd20 ?_;refine lvz (.eqF rfl rfl (by omega)) ?_;refine nNz<|cFz<|zJ ?_)
   exact inPI (.inr rfl) .nil rfl .nil rfl ⟨rfl,rfl⟩
  |false =>
   rw [show whoC ⟨code,pc,stk,mem,gas,self,frm,val,inp,back,false⟩ A.op ws=⟨A.op,wordI ws 1 % 18446744073709551616,wordI ws 1 % 18446744073709551616,self,wordI ws 2,!decide (wordI ws 2=0),0,.slice none 0 0,.slice none 0 0,0,0,false⟩ by unfold whoC;rw [if_neg (by omega),hq];rw [show decide (A.op=250)=false from decide_eq_false (by omega)];rfl]
   (refine sRz<|vMz<|vNz<|vFz<|vAz<|nNz<|zI ?_;apply CW.pre;refine AnyW.any 23 mixed (by decide +kernel) ?_;(try simp only [tsOf_cons,tsOf_nil,tsOf_app]);refine dvz (.move rfl)<|dvz (.move rfl)<|dvz (.move rfl)<|dvz (.nilCheck rfl)<|dvz (.fieldAddr rfl rfl)<|dvz (.fieldAddr rfl rfl) ?_;apply qD;rfl;rfl;rfl;exact zC;rfl;apply zP;exact zN;exact bg_rd20;refine dvz (.move rfl)<|dvz (.nilCheck rfl)<|dvz (.fieldAddr rfl rfl)<|dvz (.fieldAddr rfl rfl) ?_;apply qD;rfl;rfl;rfl;exact zC;rfl;apply zP;exact zN;exact bg_rd13;refine dvz (.move rfl)<|dwz (.move rfl)<|dwz (.nilCheck rfl)<|dwz (.fieldAddr rfl rfl)<|dwz (.fieldAddr rfl rfl) ?_;apply qD;rfl;rfl;rfl;apply wantYes;rfl;rfl;(with_reducible rfl);rfl;apply zP;exact zN;exact bg_rd20;refine dwz (.eqF rfl rfl (by omega)) ?_;refine dvz (.pickF' rfl (by with_reducible rfl) rfl) ?_;refine dvz (.nilCheck rfl)<|dvz (.fieldAddr rfl rfl) ?_;apply DW.store;rfl;rfl;exact zC;rfl;rfl;apply TSet.head;exact zN;kernel_rfl;apply bg_wr26 (z:=.int .u8 0);apply DW.nil;simp only [fsOf_cons,fsOf_nil,fsOf_app,fsOf_tsOf,fsOf_new];refine vNz<|vFz ?_;apply zR;rfl;rfl;apply qA;apply bg_wr40 (z:=.bool false);refine nNz<|zI ?_;apply CW.pre;refine AnyW.any 29 mixed (by decide +kernel) ?_;(try simp only [tsOf_cons,tsOf_nil,tsOf_app]);refine dvz (.move rfl)<|dvz (.move rfl)<|dvz (.move rfl)<|dvz (.move rfl)<|dvz (.move rfl)<|dvz (.nilCheck rfl)<|dvz (.fieldAddr rfl rfl)<|dvz (.fieldAddr rfl rfl) ?_;apply qD;rfl;rfl;rfl;exact zC;rfl;apply zP;exact zN;exact hs15;apply DW.callE;rfl;rfl;rfl;exact zC;rfl;infer_instance;exact .cons rfl (.cons rfl .nil);rfl;apply ReadAll.own;apply zP;exact zN;exact ReadAll.nil;intro w _ _;exact hWt _ w (by assumption) (by assumption);apply DW.callE;rfl;rfl;rfl;exact zC;rfl;infer_instance;exact .cons rfl .nil;rfl;exact ReadAll.nil;intro w _ _;exact aOf_calls _ w;refine dvz (.move rfl)<|dvz (.nilCheck rfl)<|dvz (.fieldAddr rfl rfl)<|dvz (.fieldAddr rfl rfl) ?_;apply qD;rfl;rfl;rfl;exact zC;rfl;apply zP;exact zN;exact bg_rd5;refine dvz (.move rfl)<|dvz (.move rfl)<|dvz (.nilCheck rfl)<|dvz (.fieldAddr rfl rfl)<|dvz (.fieldAddr rfl rfl) ?_;apply qD;rfl;rfl;rfl;exact zC;rfl;apply zP;exact zN;exact hs16;apply DW.callE;rfl;rfl;rfl;exact zC;rfl;infer_instance;exact .cons rfl (.cons rfl .nil);rfl;apply ReadAll.own;apply zP;exact zN;exact ReadAll.nil;intro w _ _;exact hWv _ w (by assumption) (by assumption);refine dvz (.nilCheck rfl)<|dvz (.fieldAddr rfl rfl) ?_;apply DW.store;rfl;rfl;exact zC;rfl;rfl;apply TSet.head;exact zN;kernel_rfl;apply bg_wr27 (z:=.int .u64 0);refine dvz (.nilCheck rfl)<|dvz (.fieldAddr rfl rfl) ?_;apply DW.store;rfl;rfl;exact zC;rfl;rfl;apply TSet.head;kernel_rfl;kernel_rfl;apply bg_wr29 (z:=.int .u64 0);apply DW.nil;simp only [fsOf_cons,fsOf_nil,fsOf_app,fsOf_tsOf,fsOf_new];refine vNz<|vFz ?_;refine zR rfl rfl .head bg_wr30<|nSz<|vMz<|vMz<|vNz<|vFz<|ldz rfl .head bg_rd30 ?_;apply LW.v0;rfl;rfl;exact ValP.buildW0;refine lvz (.neW rfl rfl (by assumption) (by omega)) ?_;refine vNz<|vFz ?_;apply zR;rfl;rfl;apply qA;apply bg_wr34 (z:=.bool false);refine nSz<|vMz<|vMz<|vNz<|vFz<|ldz rfl .head bg_rd27<|vNz<|vFz ?_;apply zR;rfl;rfl;apply qA;apply bg_wr28 (z:=.int .u64 0);refine nSz<|vMz<|vNz<|vFz<|vFz<|ldz rfl .head bg_rd20 ?_;refine lvz (.eqF rfl rfl (by omega)) ?_;refine nNz<|cFz<|zJ ?_)
   exact inPI (.inr rfl) .nil rfl .nil rfl ⟨rfl,rfl⟩
 ·have hWt:=fun c=>hW c 1 (by rw [hq] at hlen;dsimp only at hlen;omega)
  have hWv:=fun c=>hW c (-1) (by rw [hq] at hlen;dsimp only at hlen;omega)
  have hs15:∀ {f c E fr},Rd Tryz.prog 3 (.cells (bga f A c) E fr) 15 (.int .i64 1):=fun {f c E fr}=>by have h:=bg_rd15 (P:=Tryz.prog) (T:=3) (E:=E) (fr:=fr) (A:=A) (f:=f) (c:=c);rw [hq] at h;exact h
  have hs16:∀ {f c E fr},Rd Tryz.prog 3 (.cells (bga f A c) E fr) 16 (.int .i64 (-1)):=fun {f c E fr}=>by have h:=bg_rd16 (P:=Tryz.prog) (T:=3) (E:=E) (fr:=fr) (A:=A) (f:=f) (c:=c);rw [hq] at h;exact h
  have hv2:=hvl (-1)
  rcases ho with ho|ho
  ·have h244:=ho
   have hz:wordI ws (-1)=0:=by unfold wordI;rfl
   rw [hz] at hWv hv2
   cases stat with
   |true =>
    rw [show whoC ⟨code,pc,stk,mem,gas,self,frm,val,inp,back,true⟩ A.op ws=⟨A.op,wordI ws 1 % 18446744073709551616,self,frm,val,false,0,.slice none 0 0,.slice none 0 0,0,0,true⟩ by unfold whoC;rw [if_pos h244]]
    (refine sRz<|vMz<|vNz<|vFz<|vAz<|nNz<|zI ?_;apply CW.pre;refine AnyW.any 23 mixed (by decide +kernel) ?_;(try simp only [tsOf_cons,tsOf_nil,tsOf_app]);refine dvz (.move rfl)<|dvz (.move rfl)<|dvz (.move rfl)<|dvz (.nilCheck rfl)<|dvz (.fieldAddr rfl rfl)<|dvz (.fieldAddr rfl rfl) ?_;apply qD;rfl;rfl;rfl;exact zC;rfl;apply zP;exact zN;exact bg_rd20;refine dvz (.move rfl)<|dvz (.nilCheck rfl)<|dvz (.fieldAddr rfl rfl)<|dvz (.fieldAddr rfl rfl) ?_;apply qD;rfl;rfl;rfl;exact zC;rfl;apply zP;exact zN;exact bg_rd13;refine dvz (.move rfl) ?_;(iterate 6 refine dSz ?_);refine dvz (.pickT' rfl (by with_reducible rfl) rfl) ?_;refine dvz (.nilCheck rfl)<|dvz (.fieldAddr rfl rfl) ?_;apply DW.store;rfl;rfl;exact zC;rfl;rfl;apply TSet.head;exact zN;kernel_rfl;apply bg_wr26 (z:=.int .u8 0);apply DW.nil;simp only [fsOf_cons,fsOf_nil,fsOf_app,fsOf_tsOf,fsOf_new];refine vNz<|vFz ?_;apply zR;rfl;rfl;apply qA;apply bg_wr40 (z:=.bool false);refine nNz<|zI ?_;apply CW.pre;refine AnyW.any 29 mixed (by decide +kernel) ?_;(try simp only [tsOf_cons,tsOf_nil,tsOf_app]);refine dvz (.move rfl)<|dvz (.move rfl)<|dvz (.move rfl)<|dvz (.move rfl)<|dvz (.move rfl)<|dvz (.nilCheck rfl)<|dvz (.fieldAddr rfl rfl)<|dvz (.fieldAddr rfl rfl) ?_;apply qD;rfl;rfl;rfl;exact zC;rfl;apply zP;exact zN;exact hs15;apply DW.callE;rfl;rfl;rfl;exact zC;rfl;infer_instance;exact .cons rfl (.cons rfl .nil);rfl;apply ReadAll.own;apply zP;exact zN;exact ReadAll.nil;intro w _ _;exact hWt _ w (by assumption) (by assumption);apply DW.callE;rfl;rfl;rfl;exact zC;rfl;infer_instance;exact .cons rfl .nil;rfl;exact ReadAll.nil;intro w _ _;exact aOf_calls _ w;refine dvz (.move rfl)<|dvz (.nilCheck rfl)<|dvz (.fieldAddr rfl rfl)<|dvz (.fieldAddr rfl rfl) ?_;apply qD;rfl;rfl;rfl;exact zC;rfl;apply zP;exact zN;exact bg_rd5;refine dvz (.move rfl)<|dvz (.move rfl)<|dvz (.nilCheck rfl)<|dvz (.fieldAddr rfl rfl)<|dvz (.fieldAddr rfl rfl) ?_;apply qD;rfl;rfl;rfl;exact zC;rfl;apply zP;exact zN;exact hs16;apply DW.callE;rfl;rfl;rfl;exact zC;rfl;infer_instance;exact .cons rfl (.cons rfl .nil);rfl;apply ReadAll.own;apply zP;exact zN;exact ReadAll.nil;intro w _ _;exact hWv _ w (by assumption) (by assumption);refine dvz (.nilCheck rfl)<|dvz (.fieldAddr rfl rfl) ?_;apply DW.store;rfl;rfl;exact zC;rfl;rfl;apply TSet.head;exact zN;kernel_rfl;apply bg_wr27 (z:=.int .u64 0);refine dvz (.nilCheck rfl)<|dvz (.fieldAddr rfl rfl) ?_;apply DW.store;rfl;rfl;exact zC;rfl;rfl;apply TSet.head;kernel_rfl;kernel_rfl;apply bg_wr29 (z:=.int .u64 0);apply DW.nil;simp only [fsOf_cons,fsOf_nil,fsOf_app,fsOf_tsOf,fsOf_new];refine vNz<|vFz ?_;refine zR rfl rfl .head bg_wr30<|nSz<|vMz<|vMz<|vNz<|vFz<|ldz rfl .head bg_rd30 ?_;apply LW.v0;rfl;rfl;exact ValP.buildW0;refine lvz (.neWF rfl rfl (by with_reducible rfl)) ?_;refine vNz<|vFz ?_;apply zR;rfl;rfl;apply qA;apply bg_wr34 (z:=.bool false);refine nSz<|vMz<|vMz<|vNz<|vFz<|ldz rfl .head bg_rd27<|vNz<|vFz ?_;apply zR;rfl;rfl;apply qA;apply bg_wr28 (z:=.int .u64 0);refine nSz<|vMz<|vNz<|vFz<|vFz<|ldz rfl .head bg_rd20 ?_;refine lvz (.eqT rfl rfl (by omega)) ?_;refine nNz<|cTz ?_;apply CW.pre;refine AnyW.any 24 mixed (by decide +kernel) ?_;(try simp only [tsOf_cons,tsOf_nil,tsOf_app]);refine dvz (.move rfl)<|dvz (.move rfl)<|dvz (.move rfl)<|dvz (.move rfl)<|dvz (.nilCheck rfl)<|dvz (.fieldAddr rfl rfl)<|dvz (.fieldAddr rfl rfl) ?_;apply qD;rfl;rfl;rfl;exact zC;rfl;apply zP;exact zN;exact bg_rd5;refine dvz (.move rfl)<|dvz (.nilCheck rfl)<|dvz (.fieldAddr rfl rfl)<|dvz (.fieldAddr rfl rfl) ?_;apply qD;rfl;rfl;rfl;exact zC;rfl;apply zP;exact zN;exact bg_rd6;refine dvz (.move rfl)<|dvz (.nilCheck rfl)<|dvz (.fieldAddr rfl rfl)<|dvz (.fieldAddr rfl rfl) ?_;apply qD;rfl;rfl;rfl;exact zC;rfl;apply zP;exact zN;exact bg_rd7;refine dvz (.nilCheck rfl)<|dvz (.fieldAddr rfl rfl) ?_;apply DW.store;rfl;rfl;exact zC;rfl;rfl;apply TSet.head;exact zN;kernel_rfl;apply bg_wr28 (z:=.int .u64 0);refine dvz (.nilCheck rfl)<|dvz (.fieldAddr rfl rfl) ?_;apply DW.store;rfl;rfl;exact zC;rfl;rfl;apply TSet.head;kernel_rfl;kernel_rfl;apply bg_wr29 (z:=.int .u64 0);apply DW.nil;simp only [fsOf_cons,fsOf_nil,fsOf_app,fsOf_tsOf,fsOf_new];refine vNz<|vFz ?_;refine zR rfl rfl .head bg_wr30 ?_;apply zV)
    exact inPI (.inr rfl) .nil rfl .nil rfl ⟨rfl,rfl⟩
   |false =>
    rw [show whoC ⟨code,pc,stk,mem,gas,self,frm,val,inp,back,false⟩ A.op ws=⟨A.op,wordI ws 1 % 18446744073709551616,self,frm,val,false,0,.slice none 0 0,.slice none 0 0,0,0,false⟩ by unfold whoC;rw [if_pos h244]]
    (refine sRz<|vMz<|vNz<|vFz<|vAz<|nNz<|zI ?_;apply CW.pre;refine AnyW.any 23 mixed (by decide +kernel) ?_;(try simp only [tsOf_cons,tsOf_nil,tsOf_app]);refine dvz (.move rfl)<|dvz (.move rfl)<|dvz (.move rfl)<|dvz (.nilCheck rfl)<|dvz (.fieldAddr rfl rfl)<|dvz (.fieldAddr rfl rfl) ?_;apply qD;rfl;rfl;rfl;exact zC;rfl;apply zP;exact zN;exact bg_rd20;refine dvz (.move rfl)<|dvz (.nilCheck rfl)<|dvz (.fieldAddr rfl rfl)<|dvz (.fieldAddr rfl rfl) ?_;apply qD;rfl;rfl;rfl;exact zC;rfl;apply zP;exact zN;exact bg_rd13;refine dvz (.move rfl)<|dwz (.move rfl)<|dwz (.nilCheck rfl)<|dwz (.fieldAddr rfl rfl)<|dwz (.fieldAddr rfl rfl) ?_;apply qD;rfl;rfl;rfl;apply wantYes;rfl;rfl;(with_reducible rfl);rfl;apply zP;exact zN;exact bg_rd20;refine dwz (.eqF rfl rfl (by omega)) ?_;refine dvz (.pickF' rfl (by with_reducible rfl) rfl) ?_;refine dvz (.nilCheck rfl)<|dvz (.fieldAddr rfl rfl) ?_;apply DW.store;rfl;rfl;exact zC;rfl;rfl;apply TSet.head;exact zN;kernel_rfl;apply bg_wr26 (z:=.int .u8 0);apply DW.nil;simp only [fsOf_cons,fsOf_nil,fsOf_app,fsOf_tsOf,fsOf_new];refine vNz<|vFz ?_;apply zR;rfl;rfl;apply qA;apply bg_wr40 (z:=.bool false);refine nNz<|zI ?_;apply CW.pre;refine AnyW.any 29 mixed (by decide +kernel) ?_;(try simp only [tsOf_cons,tsOf_nil,tsOf_app]);refine dvz (.move rfl)<|dvz (.move rfl)<|dvz (.move rfl)<|dvz (.move rfl)<|dvz (.move rfl)<|dvz (.nilCheck rfl)<|dvz (.fieldAddr rfl rfl)<|dvz (.fieldAddr rfl rfl) ?_;apply qD;rfl;rfl;rfl;exact zC;rfl;apply zP;exact zN;exact hs15;apply DW.callE;rfl;rfl;rfl;exact zC;rfl;infer_instance;exact .cons rfl (.cons rfl .nil);rfl;apply ReadAll.own;apply zP;exact zN;exact ReadAll.nil;intro w _ _;exact hWt _ w (by assumption) (by assumption);apply DW.callE;rfl;rfl;rfl;exact zC;rfl;infer_instance;exact .cons rfl .nil;rfl;exact ReadAll.nil;intro w _ _;exact aOf_calls _ w;refine dvz (.move rfl)<|dvz (.nilCheck rfl)<|dvz (.fieldAddr rfl rfl)<|dvz (.fieldAddr rfl rfl) ?_;apply qD;rfl;rfl;rfl;exact zC;rfl;apply zP;exact zN;exact bg_rd5;refine dvz (.move rfl)<|dvz (.move rfl)<|dvz (.nilCheck rfl)<|dvz (.fieldAddr rfl rfl)<|dvz (.fieldAddr rfl rfl) ?_;apply qD;rfl;rfl;rfl;exact zC;rfl;apply zP;exact zN;exact hs16;apply DW.callE;rfl;rfl;rfl;exact zC;rfl;infer_instance;exact .cons rfl (.cons rfl .nil);rfl;apply ReadAll.own;apply zP;exact zN;exact ReadAll.nil;intro w _ _;exact hWv _ w (by assumption) (by assumption);refine dvz (.nilCheck rfl)<|dvz (.fieldAddr rfl rfl) ?_;apply DW.store;rfl;rfl;exact zC;rfl;rfl;apply TSet.head;exact zN;kernel_rfl;apply bg_wr27 (z:=.int .u64 0);refine dvz (.nilCheck rfl)<|dvz (.fieldAddr rfl rfl) ?_;apply DW.store;rfl;rfl;exact zC;rfl;rfl;apply TSet.head;kernel_rfl;kernel_rfl;apply bg_wr29 (z:=.int .u64 0);apply DW.nil;simp only [fsOf_cons,fsOf_nil,fsOf_app,fsOf_tsOf,fsOf_new];refine vNz<|vFz ?_;refine zR rfl rfl .head bg_wr30<|nSz<|vMz<|vMz<|vNz<|vFz<|ldz rfl .head bg_rd30 ?_;apply LW.v0;rfl;rfl;exact ValP.buildW0;refine lvz (.neWF rfl rfl (by with_reducible rfl)) ?_;refine vNz<|vFz ?_;apply zR;rfl;rfl;apply qA;apply bg_wr34 (z:=.bool false);refine nSz<|vMz<|vMz<|vNz<|vFz<|ldz rfl .head bg_rd27<|vNz<|vFz ?_;apply zR;rfl;rfl;apply qA;apply bg_wr28 (z:=.int .u64 0);refine nSz<|vMz<|vNz<|vFz<|vFz<|ldz rfl .head bg_rd20 ?_;refine lvz (.eqT rfl rfl (by omega)) ?_;refine nNz<|cTz ?_;apply CW.pre;refine AnyW.any 24 mixed (by decide +kernel) ?_;(try simp only [tsOf_cons,tsOf_nil,tsOf_app]);refine dvz (.move rfl)<|dvz (.move rfl)<|dvz (.move rfl)<|dvz (.move rfl)<|dvz (.nilCheck rfl)<|dvz (.fieldAddr rfl rfl)<|dvz (.fieldAddr rfl rfl) ?_;apply qD;rfl;rfl;rfl;exact zC;rfl;apply zP;exact zN;exact bg_rd5;refine dvz (.move rfl)<|dvz (.nilCheck rfl)<|dvz (.fieldAddr rfl rfl)<|dvz (.fieldAddr rfl rfl) ?_;apply qD;rfl;rfl;rfl;exact zC;rfl;apply zP;exact zN;exact bg_rd6;refine dvz (.move rfl)<|dvz (.nilCheck rfl)<|dvz (.fieldAddr rfl rfl)<|dvz (.fieldAddr rfl rfl) ?_;apply qD;rfl;rfl;rfl;exact zC;rfl;apply zP;exact zN;exact bg_rd7;refine dvz (.nilCheck rfl)<|dvz (.fieldAddr rfl rfl) ?_;apply DW.store;rfl;rfl;exact zC;rfl;rfl;apply TSet.head;exact zN;kernel_rfl;apply bg_wr28 (z:=.int .u64 0);refine dvz (.nilCheck rfl)<|dvz (.fieldAddr rfl rfl) ?_;apply DW.store;rfl;rfl;exact zC;rfl;rfl;apply TSet.head;kernel_rfl;kernel_rfl;apply bg_wr29 (z:=.int .u64 0);apply DW.nil;simp only [fsOf_cons,fsOf_nil,fsOf_app,fsOf_tsOf,fsOf_new];refine vNz<|vFz ?_;refine zR rfl rfl .head bg_wr30 ?_;apply zV)
    exact inPI (.inr rfl) .nil rfl .nil rfl ⟨rfl,rfl⟩
  ·cases stat with
   |true =>
    rw [show whoC ⟨code,pc,stk,mem,gas,self,frm,val,inp,back,true⟩ A.op ws=⟨A.op,wordI ws 1 % 18446744073709551616,wordI ws 1 % 18446744073709551616,self,wordI ws (-1),!decide (wordI ws (-1)=0),0,.slice none 0 0,.slice none 0 0,0,0,true⟩ by unfold whoC;rw [if_neg (by omega),hq];rfl]
    (refine sRz<|vMz<|vNz<|vFz<|vAz<|nNz<|zI ?_;apply CW.pre;refine AnyW.any 23 mixed (by decide +kernel) ?_;(try simp only [tsOf_cons,tsOf_nil,tsOf_app]);refine dvz (.move rfl)<|dvz (.move rfl)<|dvz (.move rfl)<|dvz (.nilCheck rfl)<|dvz (.fieldAddr rfl rfl)<|dvz (.fieldAddr rfl rfl) ?_;apply qD;rfl;rfl;rfl;exact zC;rfl;apply zP;exact zN;exact bg_rd20;refine dvz (.move rfl)<|dvz (.nilCheck rfl)<|dvz (.fieldAddr rfl rfl)<|dvz (.fieldAddr rfl rfl) ?_;apply qD;rfl;rfl;rfl;exact zC;rfl;apply zP;exact zN;exact bg_rd13;refine dvz (.move rfl) ?_;(iterate 6 refine dSz ?_);refine dvz (.pickT' rfl (by with_reducible rfl) rfl) ?_;refine dvz (.nilCheck rfl)<|dvz (.fieldAddr rfl rfl) ?_;apply DW.store;rfl;rfl;exact zC;rfl;rfl;apply TSet.head;exact zN;kernel_rfl;apply bg_wr26 (z:=.int .u8 0);apply DW.nil;simp only [fsOf_cons,fsOf_nil,fsOf_app,fsOf_tsOf,fsOf_new];refine vNz<|vFz ?_;apply zR;rfl;rfl;apply qA;apply bg_wr40 (z:=.bool false);refine nNz<|zI ?_;apply CW.pre;refine AnyW.any 29 mixed (by decide +kernel) ?_;(try simp only [tsOf_cons,tsOf_nil,tsOf_app]);refine dvz (.move rfl)<|dvz (.move rfl)<|dvz (.move rfl)<|dvz (.move rfl)<|dvz (.move rfl)<|dvz (.nilCheck rfl)<|dvz (.fieldAddr rfl rfl)<|dvz (.fieldAddr rfl rfl) ?_;apply qD;rfl;rfl;rfl;exact zC;rfl;apply zP;exact zN;exact hs15;apply DW.callE;rfl;rfl;rfl;exact zC;rfl;infer_instance;exact .cons rfl (.cons rfl .nil);rfl;apply ReadAll.own;apply zP;exact zN;exact ReadAll.nil;intro w _ _;exact hWt _ w (by assumption) (by assumption);apply DW.callE;rfl;rfl;rfl;exact zC;rfl;infer_instance;exact .cons rfl .nil;rfl;exact ReadAll.nil;intro w _ _;exact aOf_calls _ w;refine dvz (.move rfl)<|dvz (.nilCheck rfl)<|dvz (.fieldAddr rfl rfl)<|dvz (.fieldAddr rfl rfl) ?_;apply qD;rfl;rfl;rfl;exact zC;rfl;apply zP;exact zN;exact bg_rd5;refine dvz (.move rfl)<|dvz (.move rfl)<|dvz (.nilCheck rfl)<|dvz (.fieldAddr rfl rfl)<|dvz (.fieldAddr rfl rfl) ?_;apply qD;rfl;rfl;rfl;exact zC;rfl;apply zP;exact zN;exact hs16;apply DW.callE;rfl;rfl;rfl;exact zC;rfl;infer_instance;exact .cons rfl (.cons rfl .nil);rfl;apply ReadAll.own;apply zP;exact zN;exact ReadAll.nil;intro w _ _;exact hWv _ w (by assumption) (by assumption);refine dvz (.nilCheck rfl)<|dvz (.fieldAddr rfl rfl) ?_;apply DW.store;rfl;rfl;exact zC;rfl;rfl;apply TSet.head;exact zN;kernel_rfl;apply bg_wr27 (z:=.int .u64 0);refine dvz (.nilCheck rfl)<|dvz (.fieldAddr rfl rfl) ?_;apply DW.store;rfl;rfl;exact zC;rfl;rfl;apply TSet.head;kernel_rfl;kernel_rfl;apply bg_wr29 (z:=.int .u64 0);apply DW.nil;simp only [fsOf_cons,fsOf_nil,fsOf_app,fsOf_tsOf,fsOf_new];refine vNz<|vFz ?_;refine zR rfl rfl .head bg_wr30<|nSz<|vMz<|vMz<|vNz<|vFz<|ldz rfl .head bg_rd30 ?_;apply LW.v0;rfl;rfl;exact ValP.buildW0;refine lvz (.neW rfl rfl (by assumption) (by omega)) ?_;refine vNz<|vFz ?_;apply zR;rfl;rfl;apply qA;apply bg_wr34 (z:=.bool false);refine nSz<|vMz<|vMz<|vNz<|vFz<|ldz rfl .head bg_rd27<|vNz<|vFz ?_;apply zR;rfl;rfl;apply qA;apply bg_wr28 (z:=.int .u64 0);refine nSz<|vMz<|vNz<|vFz<|vFz<|ldz rfl .head bg_rd20 ?_;refine lvz (.eqF rfl rfl (by omega)) ?_;refine nNz<|cFz<|zJ ?_)
    exact inPI (.inr rfl) .nil rfl .nil rfl ⟨rfl,rfl⟩
   |false =>
    rw [show whoC ⟨code,pc,stk,mem,gas,self,frm,val,inp,back,false⟩ A.op ws=⟨A.op,wordI ws 1 % 18446744073709551616,wordI ws 1 % 18446744073709551616,self,wordI ws (-1),!decide (wordI ws (-1)=0),0,.slice none 0 0,.slice none 0 0,0,0,true⟩ by unfold whoC;rw [if_neg (by omega),hq];rw [decide_eq_true ho];rfl]
    (refine sRz<|vMz<|vNz<|vFz<|vAz<|nNz<|zI ?_;apply CW.pre;refine AnyW.any 23 mixed (by decide +kernel) ?_;(try simp only [tsOf_cons,tsOf_nil,tsOf_app]);refine dvz (.move rfl)<|dvz (.move rfl)<|dvz (.move rfl)<|dvz (.nilCheck rfl)<|dvz (.fieldAddr rfl rfl)<|dvz (.fieldAddr rfl rfl) ?_;apply qD;rfl;rfl;rfl;exact zC;rfl;apply zP;exact zN;exact bg_rd20;refine dvz (.move rfl)<|dvz (.nilCheck rfl)<|dvz (.fieldAddr rfl rfl)<|dvz (.fieldAddr rfl rfl) ?_;apply qD;rfl;rfl;rfl;exact zC;rfl;apply zP;exact zN;exact bg_rd13;refine dvz (.move rfl)<|dwz (.move rfl)<|dwz (.nilCheck rfl)<|dwz (.fieldAddr rfl rfl)<|dwz (.fieldAddr rfl rfl) ?_;apply qD;rfl;rfl;rfl;apply wantYes;rfl;rfl;(with_reducible rfl);rfl;apply zP;exact zN;exact bg_rd20;refine dwz (.eqT rfl rfl (by omega)) ?_;refine dvz (.pickF' rfl (by with_reducible rfl) rfl) ?_;refine dvz (.nilCheck rfl)<|dvz (.fieldAddr rfl rfl) ?_;apply DW.store;rfl;rfl;exact zC;rfl;rfl;apply TSet.head;exact zN;kernel_rfl;apply bg_wr26 (z:=.int .u8 0);apply DW.nil;simp only [fsOf_cons,fsOf_nil,fsOf_app,fsOf_tsOf,fsOf_new];refine vNz<|vFz ?_;apply zR;rfl;rfl;apply qA;apply bg_wr40 (z:=.bool false);refine nNz<|zI ?_;apply CW.pre;refine AnyW.any 29 mixed (by decide +kernel) ?_;(try simp only [tsOf_cons,tsOf_nil,tsOf_app]);refine dvz (.move rfl)<|dvz (.move rfl)<|dvz (.move rfl)<|dvz (.move rfl)<|dvz (.move rfl)<|dvz (.nilCheck rfl)<|dvz (.fieldAddr rfl rfl)<|dvz (.fieldAddr rfl rfl) ?_;apply qD;rfl;rfl;rfl;exact zC;rfl;apply zP;exact zN;exact hs15;apply DW.callE;rfl;rfl;rfl;exact zC;rfl;infer_instance;exact .cons rfl (.cons rfl .nil);rfl;apply ReadAll.own;apply zP;exact zN;exact ReadAll.nil;intro w _ _;exact hWt _ w (by assumption) (by assumption);apply DW.callE;rfl;rfl;rfl;exact zC;rfl;infer_instance;exact .cons rfl .nil;rfl;exact ReadAll.nil;intro w _ _;exact aOf_calls _ w;refine dvz (.move rfl)<|dvz (.nilCheck rfl)<|dvz (.fieldAddr rfl rfl)<|dvz (.fieldAddr rfl rfl) ?_;apply qD;rfl;rfl;rfl;exact zC;rfl;apply zP;exact zN;exact bg_rd5;refine dvz (.move rfl)<|dvz (.move rfl)<|dvz (.nilCheck rfl)<|dvz (.fieldAddr rfl rfl)<|dvz (.fieldAddr rfl rfl) ?_;apply qD;rfl;rfl;rfl;exact zC;rfl;apply zP;exact zN;exact hs16;apply DW.callE;rfl;rfl;rfl;exact zC;rfl;infer_instance;exact .cons rfl (.cons rfl .nil);rfl;apply ReadAll.own;apply zP;exact zN;exact ReadAll.nil;intro w _ _;exact hWv _ w (by assumption) (by assumption);refine dvz (.nilCheck rfl)<|dvz (.fieldAddr rfl rfl) ?_;apply DW.store;rfl;rfl;exact zC;rfl;rfl;apply TSet.head;exact zN;kernel_rfl;apply bg_wr27 (z:=.int .u64 0);refine dvz (.nilCheck rfl)<|dvz (.fieldAddr rfl rfl) ?_;apply DW.store;rfl;rfl;exact zC;rfl;rfl;apply TSet.head;kernel_rfl;kernel_rfl;apply bg_wr29 (z:=.int .u64 0);apply DW.nil;simp only [fsOf_cons,fsOf_nil,fsOf_app,fsOf_tsOf,fsOf_new];refine vNz<|vFz ?_;refine zR rfl rfl .head bg_wr30<|nSz<|vMz<|vMz<|vNz<|vFz<|ldz rfl .head bg_rd30 ?_;apply LW.v0;rfl;rfl;exact ValP.buildW0;refine lvz (.neW rfl rfl (by assumption) (by omega)) ?_;refine vNz<|vFz ?_;apply zR;rfl;rfl;apply qA;apply bg_wr34 (z:=.bool false);refine nSz<|vMz<|vMz<|vNz<|vFz<|ldz rfl .head bg_rd27<|vNz<|vFz ?_;apply zR;rfl;rfl;apply qA;apply bg_wr28 (z:=.int .u64 0);refine nSz<|vMz<|vNz<|vFz<|vFz<|ldz rfl .head bg_rd20 ?_;refine lvz (.eqF rfl rfl (by omega)) ?_;refine nNz<|cFz<|zJ ?_)
    exact inPI (.inr rfl) .nil rfl .nil rfl ⟨rfl,rfl⟩
 ·have hWt:=fun c=>hW c (-1) (by rw [hq] at hlen;dsimp only at hlen;omega)
  have hWv:=fun c=>hW c 0 (by rw [hq] at hlen;dsimp only at hlen;omega)
  have hs15:∀ {f c E fr},Rd Tryz.prog 3 (.cells (bga f A c) E fr) 15 (.int .i64 (-1)):=fun {f c E fr}=>by have h:=bg_rd15 (P:=Tryz.prog) (T:=3) (E:=E) (fr:=fr) (A:=A) (f:=f) (c:=c);rw [hq] at h;exact h
  have hs16:∀ {f c E fr},Rd Tryz.prog 3 (.cells (bga f A c) E fr) 16 (.int .i64 0):=fun {f c E fr}=>by have h:=bg_rd16 (P:=Tryz.prog) (T:=3) (E:=E) (fr:=fr) (A:=A) (f:=f) (c:=c);rw [hq] at h;exact h
  have hv2:=hvl 0
  cases stat with
  |true =>
   rw [show whoC ⟨code,pc,stk,mem,gas,self,frm,val,inp,back,true⟩ A.op ws=⟨A.op,wordI ws (-1) % 18446744073709551616,wordI ws (-1) % 18446744073709551616,self,wordI ws 0,!decide (wordI ws 0=0),0,.slice none 0 0,.slice none 0 0,0,0,true⟩ by unfold whoC;rw [if_neg (by omega),hq];rfl]
   (refine sRz<|vMz<|vNz<|vFz<|vAz<|nNz<|zI ?_;apply CW.pre;refine AnyW.any 23 mixed (by decide +kernel) ?_;(try simp only [tsOf_cons,tsOf_nil,tsOf_app]);refine dvz (.move rfl)<|dvz (.move rfl)<|dvz (.move rfl)<|dvz (.nilCheck rfl)<|dvz (.fieldAddr rfl rfl)<|dvz (.fieldAddr rfl rfl) ?_;apply qD;rfl;rfl;rfl;exact zC;rfl;apply zP;exact zN;exact bg_rd20;refine dvz (.move rfl)<|dvz (.nilCheck rfl)<|dvz (.fieldAddr rfl rfl)<|dvz (.fieldAddr rfl rfl) ?_;apply qD;rfl;rfl;rfl;exact zC;rfl;apply zP;exact zN;exact bg_rd13;refine dvz (.move rfl) ?_;(iterate 6 refine dSz ?_);refine dvz (.pickT' rfl (by with_reducible rfl) rfl) ?_;refine dvz (.nilCheck rfl)<|dvz (.fieldAddr rfl rfl) ?_;apply DW.store;rfl;rfl;exact zC;rfl;rfl;apply TSet.head;exact zN;kernel_rfl;apply bg_wr26 (z:=.int .u8 0);apply DW.nil;simp only [fsOf_cons,fsOf_nil,fsOf_app,fsOf_tsOf,fsOf_new];refine vNz<|vFz ?_;apply zR;rfl;rfl;apply qA;apply bg_wr40 (z:=.bool false);refine nNz<|zI ?_;apply CW.pre;refine AnyW.any 29 mixed (by decide +kernel) ?_;(try simp only [tsOf_cons,tsOf_nil,tsOf_app]);refine dvz (.move rfl)<|dvz (.move rfl)<|dvz (.move rfl)<|dvz (.move rfl)<|dvz (.move rfl)<|dvz (.nilCheck rfl)<|dvz (.fieldAddr rfl rfl)<|dvz (.fieldAddr rfl rfl) ?_;apply qD;rfl;rfl;rfl;exact zC;rfl;apply zP;exact zN;exact hs15;apply DW.callE;rfl;rfl;rfl;exact zC;rfl;infer_instance;exact .cons rfl (.cons rfl .nil);rfl;apply ReadAll.own;apply zP;exact zN;exact ReadAll.nil;intro w _ _;exact hWt _ w (by assumption) (by assumption);apply DW.callE;rfl;rfl;rfl;exact zC;rfl;infer_instance;exact .cons rfl .nil;rfl;exact ReadAll.nil;intro w _ _;exact aOf_calls _ w;refine dvz (.move rfl)<|dvz (.nilCheck rfl)<|dvz (.fieldAddr rfl rfl)<|dvz (.fieldAddr rfl rfl) ?_;apply qD;rfl;rfl;rfl;exact zC;rfl;apply zP;exact zN;exact bg_rd5;refine dvz (.move rfl)<|dvz (.move rfl)<|dvz (.nilCheck rfl)<|dvz (.fieldAddr rfl rfl)<|dvz (.fieldAddr rfl rfl) ?_;apply qD;rfl;rfl;rfl;exact zC;rfl;apply zP;exact zN;exact hs16;apply DW.callE;rfl;rfl;rfl;exact zC;rfl;infer_instance;exact .cons rfl (.cons rfl .nil);rfl;apply ReadAll.own;apply zP;exact zN;exact ReadAll.nil;intro w _ _;exact hWv _ w (by assumption) (by assumption);refine dvz (.nilCheck rfl)<|dvz (.fieldAddr rfl rfl) ?_;apply DW.store;rfl;rfl;exact zC;rfl;rfl;apply TSet.head;exact zN;kernel_rfl;apply bg_wr27 (z:=.int .u64 0);refine dvz (.nilCheck rfl)<|dvz (.fieldAddr rfl rfl) ?_;apply DW.store;rfl;rfl;exact zC;rfl;rfl;apply TSet.head;kernel_rfl;kernel_rfl;apply bg_wr29 (z:=.int .u64 0);apply DW.nil;simp only [fsOf_cons,fsOf_nil,fsOf_app,fsOf_tsOf,fsOf_new];refine vNz<|vFz ?_;refine zR rfl rfl .head bg_wr30<|nSz<|vMz<|vMz<|vNz<|vFz<|ldz rfl .head bg_rd30 ?_;apply LW.v0;rfl;rfl;exact ValP.buildW0;refine lvz (.neW rfl rfl (by assumption) (by omega)) ?_;refine vNz<|vFz ?_;apply zR;rfl;rfl;apply qA;apply bg_wr34 (z:=.bool false);refine nSz<|vMz<|vMz<|vNz<|vFz<|ldz rfl .head bg_rd27<|vNz<|vFz ?_;apply zR;rfl;rfl;apply qA;apply bg_wr28 (z:=.int .u64 0);refine nSz<|vMz<|vNz<|vFz<|vFz<|ldz rfl .head bg_rd20 ?_;refine lvz (.eqF rfl rfl (by omega)) ?_;refine nNz<|cFz<|zJ ?_)
   exact inPI (.inr rfl) .nil rfl .nil rfl ⟨rfl,rfl⟩
  |false =>
   rw [show whoC ⟨code,pc,stk,mem,gas,self,frm,val,inp,back,false⟩ A.op ws=⟨A.op,wordI ws (-1) % 18446744073709551616,wordI ws (-1) % 18446744073709551616,self,wordI ws 0,!decide (wordI ws 0=0),0,.slice none 0 0,.slice none 0 0,0,0,false⟩ by unfold whoC;rw [if_neg (by omega),hq];rw [show decide (A.op=250)=false from decide_eq_false (by omega)];rfl]
   (refine sRz<|vMz<|vNz<|vFz<|vAz<|nNz<|zI ?_;apply CW.pre;refine AnyW.any 23 mixed (by decide +kernel) ?_;(try simp only [tsOf_cons,tsOf_nil,tsOf_app]);refine dvz (.move rfl)<|dvz (.move rfl)<|dvz (.move rfl)<|dvz (.nilCheck rfl)<|dvz (.fieldAddr rfl rfl)<|dvz (.fieldAddr rfl rfl) ?_;apply qD;rfl;rfl;rfl;exact zC;rfl;apply zP;exact zN;exact bg_rd20;refine dvz (.move rfl)<|dvz (.nilCheck rfl)<|dvz (.fieldAddr rfl rfl)<|dvz (.fieldAddr rfl rfl) ?_;apply qD;rfl;rfl;rfl;exact zC;rfl;apply zP;exact zN;exact bg_rd13;refine dvz (.move rfl)<|dwz (.move rfl)<|dwz (.nilCheck rfl)<|dwz (.fieldAddr rfl rfl)<|dwz (.fieldAddr rfl rfl) ?_;apply qD;rfl;rfl;rfl;apply wantYes;rfl;rfl;(with_reducible rfl);rfl;apply zP;exact zN;exact bg_rd20;refine dwz (.eqF rfl rfl (by omega)) ?_;refine dvz (.pickF' rfl (by with_reducible rfl) rfl) ?_;refine dvz (.nilCheck rfl)<|dvz (.fieldAddr rfl rfl) ?_;apply DW.store;rfl;rfl;exact zC;rfl;rfl;apply TSet.head;exact zN;kernel_rfl;apply bg_wr26 (z:=.int .u8 0);apply DW.nil;simp only [fsOf_cons,fsOf_nil,fsOf_app,fsOf_tsOf,fsOf_new];refine vNz<|vFz ?_;apply zR;rfl;rfl;apply qA;apply bg_wr40 (z:=.bool false);refine nNz<|zI ?_;apply CW.pre;refine AnyW.any 29 mixed (by decide +kernel) ?_;(try simp only [tsOf_cons,tsOf_nil,tsOf_app]);refine dvz (.move rfl)<|dvz (.move rfl)<|dvz (.move rfl)<|dvz (.move rfl)<|dvz (.move rfl)<|dvz (.nilCheck rfl)<|dvz (.fieldAddr rfl rfl)<|dvz (.fieldAddr rfl rfl) ?_;apply qD;rfl;rfl;rfl;exact zC;rfl;apply zP;exact zN;exact hs15;apply DW.callE;rfl;rfl;rfl;exact zC;rfl;infer_instance;exact .cons rfl (.cons rfl .nil);rfl;apply ReadAll.own;apply zP;exact zN;exact ReadAll.nil;intro w _ _;exact hWt _ w (by assumption) (by assumption);apply DW.callE;rfl;rfl;rfl;exact zC;rfl;infer_instance;exact .cons rfl .nil;rfl;exact ReadAll.nil;intro w _ _;exact aOf_calls _ w;refine dvz (.move rfl)<|dvz (.nilCheck rfl)<|dvz (.fieldAddr rfl rfl)<|dvz (.fieldAddr rfl rfl) ?_;apply qD;rfl;rfl;rfl;exact zC;rfl;apply zP;exact zN;exact bg_rd5;refine dvz (.move rfl)<|dvz (.move rfl)<|dvz (.nilCheck rfl)<|dvz (.fieldAddr rfl rfl)<|dvz (.fieldAddr rfl rfl) ?_;apply qD;rfl;rfl;rfl;exact zC;rfl;apply zP;exact zN;exact hs16;apply DW.callE;rfl;rfl;rfl;exact zC;rfl;infer_instance;exact .cons rfl (.cons rfl .nil);rfl;apply ReadAll.own;apply zP;exact zN;exact ReadAll.nil;intro w _ _;exact hWv _ w (by assumption) (by assumption);refine dvz (.nilCheck rfl)<|dvz (.fieldAddr rfl rfl) ?_;apply DW.store;rfl;rfl;exact zC;rfl;rfl;apply TSet.head;exact zN;kernel_rfl;apply bg_wr27 (z:=.int .u64 0);refine dvz (.nilCheck rfl)<|dvz (.fieldAddr rfl rfl) ?_;apply DW.store;rfl;rfl;exact zC;rfl;rfl;apply TSet.head;kernel_rfl;kernel_rfl;apply bg_wr29 (z:=.int .u64 0);apply DW.nil;simp only [fsOf_cons,fsOf_nil,fsOf_app,fsOf_tsOf,fsOf_new];refine vNz<|vFz ?_;refine zR rfl rfl .head bg_wr30<|nSz<|vMz<|vMz<|vNz<|vFz<|ldz rfl .head bg_rd30 ?_;apply LW.v0;rfl;rfl;exact ValP.buildW0;refine lvz (.neW rfl rfl (by assumption) (by omega)) ?_;refine vNz<|vFz ?_;apply zR;rfl;rfl;apply qA;apply bg_wr34 (z:=.bool false);refine nSz<|vMz<|vMz<|vNz<|vFz<|ldz rfl .head bg_rd27<|vNz<|vFz ?_;apply zR;rfl;rfl;apply qA;apply bg_wr28 (z:=.int .u64 0);refine nSz<|vMz<|vNz<|vFz<|vFz<|ldz rfl .head bg_rd20 ?_;refine lvz (.eqF rfl rfl (by omega)) ?_;refine nNz<|cFz<|zJ ?_)
   exact inPI (.inr rfl) .nil rfl .nil rfl ⟨rfl,rfl⟩
end
section
theorem grow_in (ws:List Nat) (ms:List UInt8) (p0 n:Nat) (s m:Value) (w:World) (hs:RowAt w 4 s ws.length (wcs ws)) (hm:RowAt w 1 m ms.length (ucs ms)) (hok:okSc ws.length ms.length) (hn:0 < n) (hn2:p0+n≤ms.length) :
  Calls Tryz.prog 147 #[.agg #[s,m],.int .u64 (p0:Int),.int .u64 (n:Int)] w (RetG w [] (fun r gs=>∃ o,r=.tuple #[o,.int .i64 0]∧ScO ws ms o gs)):=by
 have hs0:=hs
 have hm0:=hm
 obtain ⟨p,c,rfl,_,hc⟩:=hs.form
 obtain ⟨p2,c2,rfl,_,hc2⟩:=hm.form
 have hC:∀ w,Calls Tryz.prog 66 #[.agg #[.slice p ws.length c,.slice p2 ms.length c2]] w (Ret w (.int .i64 0)):=fun w=>by
  have h:=scCheck_calls p p2 ws.length c ms.length c2 (by omega) (by omega) w
  rwa [if_pos hok] at h
 have hok2:=hok
 unfold okSc at hok2
 obtain ⟨hn1,hk1,hk2⟩:=hok2
 refine enter (args:=[_,_,_]) _ [] [] Tryz.func147 rfl Tryz.ntmps147 rfl (by simp) .nil ?_
 (refine sRz ?_;apply zT;rfl;rfl;intro _;apply zU;rfl;intro _;refine vAz<|nNz<|zI<|sRz<|ldz rfl (.tail .head) (qF rfl) ?_;apply zS;rfl;rfl;infer_instance;exact .cons rfl .nil;intro w _;exact hC w;refine vAz<|nSz<|vMz ?_;refine lvz (.neF rfl rfl (by omega)) ?_;refine nNz<|cFz<|zJ<|thenN<|sRz<|ldz rfl (.tail .head) (qF rfl) ?_)
 (apply LW.callR;rfl;rfl;infer_instance;exact .cons rfl .nil;intro w hs)
 exact copied_calls ws ms _ _ w (hs0.st hs) (hm0.st hs) (by omega) (by omega)
 rintro vo gso ⟨s1,m1,g1,g2,rfl,rfl,h1,h2⟩
 have h1':=h1
 have h2':=h2
 unfold wM at h1'
 unfold bM at h2'
 obtain ⟨q1,k1,rfl⟩:=h1'.form
 obtain ⟨q2,k2,rfl⟩:=h2'.form
 (apply zU;rfl;intro _;refine zR rfl rfl .head (.whole rfl rfl rfl)<|nNz<|zI<|sRz<|vMz ?_;refine lvz (.eqF rfl rfl (by omega)) ?_;refine nNz<|cFz<|zJ<|thenN<|zI<|sRz<|vMz ?_;refine lvz (.gtrF rfl rfl (by omega)) ?_;refine vMz<|gTz<|vMz<|gTz ?_;refine lvz (.gtrF rfl rfl (by omega)) ?_;refine pFz<|vMz<|gTz<|vMz<|gTz<|vMz<|gTz<|lvz (.addN rfl rfl)<|gTz ?_;refine lvz (.gtrF rfl rfl (by omega)) ?_;refine pFz<|nNz<|cFz<|zJ<|thenN<|sRz<|vMz<|vMz<|lvz (.addN rfl rfl) ?_;refine lvz (.convI rfl (by omega) (by omega)) ?_;refine lvz (.addZL rfl rfl (by decide) (by omega)) ?_;refine lvz (.subZL rfl rfl (by decide) (by omega) (by omega)) ?_;refine lvz (.quoZL rfl rfl (by decide) (by omega) (by omega)) ?_;refine lvz (.mulZL rfl rfl (by decide) (by omega)) ?_;refine vAz<|nNz<|zI<|sRz<|vMz<|vFz<|ldz rfl .head sc_rd1<|lvz (.lenR rfl inferInstance rfl) ?_;refine lvz (.subI rfl rfl (by omega) (by omega)) ?_;apply LW.v0;rfl;rfl;apply ValP.maxD;rfl;rfl;refine vMz<|nNz<|zM ?_)
 rename_i b3 b6 b9
 have hD:((p0+n) % 18446744073709551616+32 - 1) / 32 * 32 - ms.length=0:=by omega
 rw [hD]
 refine CW.loop (fun x:Unit=>([(9,.pointer (some ⟨b9,0,none⟩)),(6,.pointer (some ⟨b6,0,none⟩)),(48,.int .i64 ((0:Nat):Int)),(49,.int .i64 ((0:Nat):Int))],(b9,.cells #[.slice q1 ws.length k1,.slice q2 ms.length k2] 25 (0,0))::(g2++(g1++[(b6,.cells #[.slice none 0 0,.slice none 0 0] 25 (0,0))]))))
  (fun x=>True) (fun x=>0) () trivial ⟨rfl,rfl,rfl,rfl,trivial⟩ (by simp) ?_
 intro _ _
 dsimp only
 (refine sRz ?_;refine lvz (.lssF rfl rfl (by omega)) ?_;refine nNz<|zI<|cFz<|CW.exit<|thenE<|thenE<|blkE rfl<|thenN<|sRz<|ldz rfl .head (qF rfl) ?_;refine zR rfl rfl (.tail (.app (.app .head))) (.whole rfl rfl rfl)<|vAz<|nNz<|zK ?_)
 refine fin (vs:=[.agg #[.slice q1 ws.length k1,.slice q2 ms.length k2],.int .i64 0]) (g2++g1) (.inl rfl) rfl rfl (by (apply zD;apply zH;rfl;apply qE;apply zX;apply zZ;apply zZ;apply zY;exact qF rfl;apply zD;exact zG rfl;exact zF)) ?_ ⟨_,rfl,_,_,g1,g2,rfl,rfl,h1,h2⟩
 exact qQ _ (List.Sublist.append_left (qP _ _) _)
def CutR (ws:List Nat) (ms:List UInt8) (p0 n:Nat) (r:Value) (gs:Fs):Prop:=∃ o v go gv,r=.tuple #[o,v,.int .i64 0]∧gs=gv++go∧ScO ws ms o go∧bM ((ms.drop p0).take n) v gv
theorem RowAt.mid {w:World} {g o N c k n:Nat} {xs:List Value} (h:RowAt w 1 (.slice (some ⟨g,o,none⟩) N c) N xs) (hn:0 < n) (hk:k+n≤N):RowAt w 1 (.slice (some ⟨g,o+k,none⟩) n n) n ((xs.drop (k * 1)).take (n * 1)):=by
 obtain ⟨_,_,he,hle,_⟩:=h.form
 cases he
 have h1:=h.drop (k:=k) (by omega)
 have e1:cutAt (some ⟨g,o,none⟩) k N c 1=.slice (some ⟨g,o+k,none⟩) (N - k) (c - k):=by
  unfold cutAt
  rw [if_neg (by omega)]
  simp [Addr.add]
 rw [e1] at h1
 exact RowAt.cutMax h1 (by omega)
theorem cut_in (ws:List Nat) (ms:List UInt8) (p0 n:Nat) (s m:Value) (w:World) (hs:RowAt w 4 s ws.length (wcs ws)) (hm:RowAt w 1 m ms.length (ucs ms)) (hok:okSc ws.length ms.length) (hn:0 < n) (hn2:p0+n≤ms.length) :
  Calls Tryz.prog 124 #[.agg #[s,m],.int .u64 (p0:Int),.int .u64 (n:Int)] w (RetG w [] (CutR ws ms p0 n)):=by
 have hs0:=hs
 have hm0:=hm
 have hk1:=hok.2.1
 obtain ⟨p,c,rfl,_,hc⟩:=id hs.form
 obtain ⟨p2,c2,rfl,_,hc2⟩:=id hm.form
 refine enter (args:=[_,_,_]) _ [] [] Tryz.func124 rfl Tryz.ntmps124 rfl (by simp) .nil ?_
 (refine sRz ?_;apply zT;rfl;rfl;intro _;apply zU;rfl;intro _;refine vAz<|vAz<|nSz<|ldz rfl (.tail .head) (qF rfl)<|vMz<|vMz ?_)
 (apply LW.callR;rfl;rfl;infer_instance;exact .cons rfl (.cons rfl (.cons rfl .nil));intro w hs)
 exact grow_in ws ms p0 n _ _ w (hs0.st hs) (hm0.st hs) hok hn hn2
 rintro vo gso ⟨o,rfl,s1,m1,g1,g2,rfl,rfl,h1,h2⟩
 have h1':=h1
 have h2':=h2
 unfold wM at h1'
 unfold bM at h2'
 obtain ⟨q1,k1,rfl⟩:=id h1'.form
 obtain ⟨q2,k2,rfl⟩:=id h2'.form
 have hle2:=IsRow.le h2'
 have hmod:(p0+n) % 18446744073709551616=p0+n:=Nat.mod_eq_of_lt (by omega)
 obtain ⟨gm,cur,rfl,rfl,hn3,hm3,hsz3,htk3⟩:=id (h2'.pos (by omega))
 (refine vMz ?_;refine vEz ?_;refine vEz ?_;apply zU;rfl;intro _;refine zR rfl rfl .head (.whole rfl rfl rfl)<|vAz<|nNz<|zI<|sRz<|vMz ?_;refine lvz (.neF rfl rfl (by omega)) ?_;refine vMz<|gTz<|vMz<|gTz ?_;refine lvz (.eqF rfl rfl (by omega)) ?_;refine pFz<|nNz<|cFz<|zJ<|thenN<|zI ?_)
 apply CW.pre
 (refine AnyW.anyM [(11,bM ((ms.drop p0).take n))] 12 mixed (by decide +kernel) ?_)
 ((try simp only [tsOf_cons,tsOf_nil,tsOf_app]);apply qD;rfl;rfl;rfl;exact zC;rfl;apply zP;exact zN;exact qF rfl;refine dvz (.fieldAddr rfl rfl) ?_;apply qD;rfl;rfl;rfl;exact zC;rfl;apply zP;exact zN;exact sc_rd1;refine dvz (.move rfl)<|dvz (.move rfl)<|dvz (.move rfl)<|dvz (.addN rfl rfl)<|dvz (.move rfl)<|dvz (.move rfl)<|dvz (.addN rfl rfl) ?_;apply DW.v0;rfl;rfl;rfl;exact zC;rfl;refine SK.ValP.cut3o (m:=n) (o':=0+p0) inferInstance inferInstance rfl rfl rfl rfl ?_ ?_ ?_ ?_ ?_;omega;omega;omega;omega;rfl)
 (apply DW.manyV;rfl;rfl;rfl;exact zC;rfl;infer_instance;exact .cons rfl .nil;apply RdV.own;assumption;apply zO;apply zP;exact zN;exact RdV.nil;intro w _ _)
 ·have hr:=RowAt.mid (k:=p0) (n:=n) (IsRow.us h2' (fun p hp=>by obtain rfl:=List.mem_singleton.1 hp;rename_i hu;exact hu _ List.mem_cons_self) (qM _)) hn (by omega)
  rw [ucs_drop,ucs_take] at hr
  have hlen:((ms.drop p0).take n).length=n:=by rw [List.length_take,List.length_drop];omega
  have h9:=SK.Clone_calls ((ms.drop p0).take n) _ w (by rw [hlen];exact hr) (by omega)
  exact h9
 intro v3 g3 h3
 have h3':=h3
 unfold bM at h3'
 obtain ⟨q3,k3,rfl⟩:=id h3'.form
 ((try simp only [tsOf_cons,tsOf_nil,tsOf_app]);apply DW.nil;simp only [fsOf_cons,fsOf_nil,fsOf_app,fsOf_tsOf,fsOf_new,fsOf_tag])
 simp only [fsOf_cons,fsOf_nil,fsOf_app,fsOf_tsOf,List.append_eq,List.nil_append]
 (refine zR rfl rfl (.app (.tail (.tail (.app .head)))) (.whole rfl rfl rfl)<|vAz<|vAz<|nNz<|zK ?_)
 refine fin (vs:=[.agg #[.slice q1 ws.length k1,.slice (some ⟨gm,0,none⟩) ms.length k2],.slice q3 ((ms.drop p0).take n).length k3,.int .i64 0]) (g3++((gm,.cells cur 5 (0,0))::g1)) (.inl rfl) rfl rfl (by (apply zD;apply zH;rfl;apply qE;apply zZ;apply zX;apply zX;apply zZ;apply zY;exact qF rfl;apply zD;exact zG rfl;apply zD;exact zG rfl;exact zF)) ?_ ⟨_,_,_,g3,rfl,rfl,⟨_,_,g1,[(gm,.cells cur 5 (0,0))],rfl,rfl,h1,h2⟩,h3⟩
 exact List.Sublist.append_left (qQ _ (List.Sublist.cons_cons _ (qP _ _))) _
abbrev offV:Value:=.iface 98 (.agg #[])
abbrev offC:List PanicEntry:=[{ v:=offV,recovered:=false }]
attribute [local irreducible] SL.inP
def FrV.setGas (f:FrV) (g:Nat):FrV:={ f with gas:=g }
theorem bspend_calls (w0:World) (b:Nat) (f:FrV) (A:AkV) (c:ClV) (n:Nat) (hg:f.gas < 18446744073709551616) (rest:Fs) (w:World) (hs:St w0 [] ((b,bgO f A c)::rest) w) :
  Calls Tryz.prog 85 #[.pointer (some ⟨b,0,none⟩),.int .u64 (n:Int)] w (fun x w'=>∃ fs',((n≤f.gas∧x=.returned (.tuple #[])∧fs'=(b,bgO (f.setGas (f.gas - n)) A c)::rest)∨(f.gas < n∧x=.panicked offC∧fs'=rest))∧St w0 [] fs' w'):=by
 refine calls_anyO (calls_inlineP (K:=anyO fun x fs'=>(n≤f.gas∧x=.returned (.tuple #[])∧fs'=(b,bgO (f.setGas (f.gas - n)) A c)::rest)∨(f.gas < n∧x=.panicked offC∧fs'=rest)) (args:=[_,_]) Tryz.func85 rfl Tryz.ntmps85 rfl ?_ hs)
 obtain ⟨code,pc,stk,mem,gas,self,frm,val,inp,back,stat⟩:=f
 dsimp only at hg ⊢
 rcases Nat.lt_or_ge gas n with hlt|hge
 ·(refine sRz<|vMz<|vNz<|vFz<|vFz<|ldz rfl .head bg_rd4<|vMz ?_;apply LW.lay1;rfl;infer_instance;infer_instance;rfl;rfl;rfl;rfl;rfl;rfl;intro _)
  rename_i b13
  (apply zS;rfl;rfl;infer_instance;exact .cons rfl (.cons rfl .nil);intro w _)
  rename_i hst
  have h:=Spend_calls gas [n] hg _ w (row_cells (hst.own (b13,_) List.mem_cons_self).2 rfl rfl (by simp [maxLen]))
  rw [spendV,if_neg (by simp;omega)] at h
  exact h
  (refine vMz ?_;refine vEz ?_;refine vEz ?_;refine vAz<|vAz<|nNz<|zI<|sRz<|vMz ?_;refine lvz (.notF rfl (by with_reducible rfl)) ?_;refine nNz<|cTz<|zL ?_;apply LW.v0;rfl;rfl;apply zW;infer_instance;infer_instance;exact zB;rfl;simp only [fillP,wrCells,Value.cells,qH,qI,qJ,qG,qL,qK,Nat.reduceAdd,qN];rfl;apply LW.v0;rfl;rfl;apply ValP.mkIface;kernel_rfl;rfl;apply LW.panic;rfl;refine thenP ?_)
  exact inPP .nil ⟨rest,.inr ⟨hlt,rfl,rfl⟩,subp_ix [[_],[_]] (xs:=[]) (ys:=[0,1]) rest rfl⟩
 ·(refine sRz<|vMz<|vNz<|vFz<|vFz<|ldz rfl .head bg_rd4<|vMz ?_;apply LW.lay1;rfl;infer_instance;infer_instance;rfl;rfl;rfl;rfl;rfl;rfl;intro _)
  rename_i b13
  (apply zS;rfl;rfl;infer_instance;exact .cons rfl (.cons rfl .nil);intro w _)
  rename_i hst
  have h:=Spend_calls gas [n] hg _ w (row_cells (hst.own (b13,_) List.mem_cons_self).2 rfl rfl (by simp [maxLen]))
  rw [spendV,if_pos (by simp;omega),show gas - [n].sum=gas - n by simp] at h
  exact h
  (refine vMz ?_;refine vEz ?_;refine vEz ?_;refine vAz<|vAz<|nNz<|zI<|sRz<|vMz ?_;refine lvz (.notT rfl (by with_reducible rfl)) ?_;refine nNz<|cFz<|zJ<|thenN<|zL<|vMz<|vMz<|vNz<|vFz<|vFz ?_;apply zR;rfl;rfl;apply qB;apply qA;apply bg_wr4 (z:=.int .u64 0);apply zV)
  exact inPI (.inr rfl) .nil rfl .nil rfl ⟨_,.inl ⟨hge,rfl,rfl⟩,subp_ix [[_],[_]] (xs:=[1]) (ys:=[0,1]) rest rfl⟩
end
section
theorem rowU_own {E:TypeId} {sz n:Nat} {v:Value} {xs:List Value} {seg:Fs} (h:IsRow E sz v n xs seg):∃ us:Fs,blocksN 4 v=us.map (·.1)∧(∀ p∈us,p∈seg)∧∀ w:World,(∀ p∈us,w.heap[p.1]?=some p.2)→RowAt w sz v n xs:=by
 cases h with
 |nil=>exact ⟨[],rfl,(fun p h=>by cases h),fun w _=>.nil⟩
 |@own g _ cap cur _ hn hm hc ht hl =>
  rcases Nat.eq_zero_or_pos cap with h0|h0
  ·subst h0
   obtain rfl:n=0:=by omega
   refine ⟨[],by simp [blocksN],(fun p h=>by cases h),fun w _=>⟨⟨_,_,rfl,Nat.le_refl _,hm⟩,hl,(fun h=>by cases h),fun p n c he=>by cases he;exact .inr (.inl rfl)⟩⟩
  ·exact ⟨[(g,.cells cur E (0,0))],by simp [blocksN,Nat.ne_of_gt h0],fun p h=>h,fun w hw=>IsRow.us (.own hn hm hc ht hl) hw (qM _)⟩
theorem rowU_ext {sz n:Nat} {v:Value} {xs:List Value} {w0:World} (h:RowAt w0 sz v n xs):∃ us:Fs,blocksN 4 v=us.map (·.1)∧∀ p∈us,w0.heap[p.1]?=some p.2:=by
 obtain ⟨p,c,rfl,_,_⟩:=h.form
 rcases h.lies _ _ _ rfl with rfl|rfl|⟨b,off,o,rfl,hb⟩
 ·exact ⟨[],rfl,fun p h=>by cases h⟩
 ·exact ⟨[],by cases p<;>simp [blocksN],fun p h=>by cases h⟩
 ·rcases Nat.eq_zero_or_pos c with hc|hc
  ·subst hc
   exact ⟨[],by simp [blocksN],fun p h=>by cases h⟩
  ·exact ⟨[(b,o)],by simp [blocksN,Nat.ne_of_gt hc],fun p h=>by obtain rfl:=List.mem_singleton.1 h;exact hb⟩
def FrA (w0:World) (f:FrV) (L:FrL) (gs:Fs):Prop:=(gs=[]∧FrRows w0 f L)∨FrO f L gs
theorem FrA.lie {w0:World} {f:FrV} {L:FrL} {gs:Fs} (h:FrA w0 f L gs):∃ us:Fs,blocksN 4 (frv f)=us.map (·.1)∧(∀ p∈us,p∈gs∨w0.heap[p.1]?=some p.2)∧∀ w:World,Bel w0.heap.size [] w0 w→(∀ p∈us,w.heap[p.1]?=some p.2)→FrRows w f L:=by
 rcases h with ⟨_,h⟩|h
 ·obtain ⟨u1,a1,b1⟩:=rowU_ext h.c
  obtain ⟨u2,a2,b2⟩:=rowU_ext h.s
  obtain ⟨u3,a3,b3⟩:=rowU_ext h.m
  obtain ⟨u4,a4,b4⟩:=rowU_ext h.i
  obtain ⟨u5,a5,b5⟩:=rowU_ext h.b
  refine ⟨u1++(u2++(u3++(u4++u5))),?_,fun p hp=>.inr ?_,fun w hb _=>h.bel hb⟩
  ·rw [blocks_frv h.sl]
   simp [a1,a2,a3,a4,a5]
  ·simp only [List.mem_append] at hp
   rcases hp with h|h|h|h|h
   ·exact b1 p h
   ·exact b2 p h
   ·exact b3 p h
   ·exact b4 p h
   ·exact b5 p h
 ·have hsl:=h.sl
  obtain ⟨g1,g2,g3,g4,g5,hp,h1,h2,h3,h4,h5⟩:=h
  unfold bM at h1 h3 h4 h5
  unfold wM at h2
  obtain ⟨u1,a1,b1,c1⟩:=rowU_own h1
  obtain ⟨u2,a2,b2,c2⟩:=rowU_own h2
  obtain ⟨u3,a3,b3,c3⟩:=rowU_own h3
  obtain ⟨u4,a4,b4,c4⟩:=rowU_own h4
  obtain ⟨u5,a5,b5,c5⟩:=rowU_own h5
  refine ⟨u1++(u2++(u3++(u4++u5))),?_,fun p hq=>.inl (hp.subset ?_),fun w _ hw=>⟨c1 w fun p h=>hw p (by simp [h]),c2 w fun p h=>hw p (by simp [h]),c3 w fun p h=>hw p (by simp [h]),c4 w fun p h=>hw p (by simp [h]),c5 w fun p h=>hw p (by simp [h])⟩⟩
  ·rw [blocks_frv hsl]
   simp [a1,a2,a3,a4,a5]
  ·simp only [List.mem_append] at hq ⊢
   rcases hq with h|h|h|h|h
   ·exact .inl (b1 p h)
   ·exact .inr (.inl (b2 p h))
   ·exact .inr (.inr (.inl (b3 p h)))
   ·exact .inr (.inr (.inr (.inl (b4 p h))))
   ·exact .inr (.inr (.inr (.inr (b5 p h))))
theorem anc_nil {ops:Array Oper} {k:Nat}:ancB ops k []=true:=rfl
theorem wrCells_list:∀ (vs:List Value) (c:Array Value) (off:Nat),off+vs.length≤c.size→(wrCells c off vs).toList=c.toList.take off++vs++c.toList.drop (off+vs.length):=by
 intro vs
 induction vs with
 |nil=>intro c off h;simp [wrCells]
 |cons v r ih =>
  intro c off h
  simp only [List.length_cons] at h
  rw [wrCells,ih _ _ (by simp;omega)]
  simp only [Array.toList_setIfInBounds,List.length_cons]
  have hlt:off < c.toList.length:=by simp;omega
  have hl:(c.toList.take off).length=off:=by simp;omega
  rw [List.take_set,List.take_succ_eq_append_getElem hlt,List.set_append_right _ _ (by rw [hl];exact Nat.le_refl _),hl,Nat.sub_self,List.drop_set_of_lt (by omega)]
  simp [Nat.add_assoc,Nat.add_comm 1]
theorem bg_put (f f':FrV) (A:AkV) (c:ClV):wrCells (bga f A c) (0+0) (frc f')=bga f' A c:=by
 apply Array.toList_inj.1
 rw [wrCells_list _ _ _ (by show 0+0+14≤41;omega)]
 rw [show 0+0+(frc f').length=(frc f).length from rfl,show (bga f A c).toList=frc f++(shc A.op++([.int .i64 A.kind,.int .u8 (A.op:Int),A.ws,A.dt]++([.bool A.cold,.bool A.vl,.bool A.new]++clc c))) from rfl,List.drop_left]
 rfl
section wr
variable {P : Program} {T E : TypeId} {A : AkV} {f f' : FrV} {c : ClV} {z : Value}
theorem bg_wrF [InfoI P T 14 z] (h:FrSl f'):Wr P T (.cells (bga f A c) E (0,0)) (0+0) (frv f') (.cells (bga f' A c) E (0,0)):=Wr.cells (n:=14) (z:=z) rfl (fr_cells h) (by show 0+0+14≤41;omega) (bg_put f f' A c)
end wr
attribute [local irreducible] SL.inP wordI shq
theorem reach_bounds {L:FrL} {a n:Nat} (hok:okSc L.ws.length L.ms.length) (h0:0 < n) (hE:endV a n≤1024):a+n≤1024∧a+n≤(memR L a n).ms.length∧okSc (memR L a n).ws.length (memR L a n).ms.length:=by
 have h1:a+n≤endV a n:=by
  unfold endV at hE ⊢
  rw [if_neg (by omega)] at hE ⊢
  unfold NOG at hE ⊢
  omega
 obtain ⟨h2,h3,h4⟩:=hok
 have h5:(memR L a n).ms.length=L.ms.length+(upW (endV a n) - L.ms.length):=by unfold memR FrL.setM;simp
 unfold upW at h5
 refine ⟨by omega,by omega,?_⟩
 unfold okSc
 refine ⟨h2,by omega,by omega⟩
def BReachK (w0:World) (b:Nat) (f:FrV) (L:FrL) (A:AkV) (c:ClV) (a n:Nat) (rest:Fs):Out:=fun x fs'=>match reachR f L a n with
 |none=>x=.panicked offC∧fs'=rest
 |some (g,L')=>∃ cc s m i b5 gs' lv gl,x=.returned (.tuple #[lv,.int .u64 ((if n=0 then 0 else a:Nat):Int),.int .u64 (n:Int)])∧FrO (f.rowsG g cc s m i b5) L' gs'∧bM ((L'.ms.drop a).take n) lv gl∧fs'=(b,bgO (f.rowsG g cc s m i b5) A c)::(gs'++(gl++rest))
theorem breach_calls (w0:World) (b:Nat) (f:FrV) (L:FrL) (A:AkV) (c:ClV) (ws:List Nat) (hM:∀ x∈ws,x < M256) (i:Nat) (hi:i+1 < ws.length) (hll:ws.length≤100) (hF:okF f L) (gs rest:Fs) (hfr:FrA w0 f L gs) (w:World) (hv:RowAt w0 4 A.ws ws.length (wcs ws)) (hs:St w0 [] ((b,bgO f A c)::(gs++rest)) w) :
  Calls Tryz.prog 90 #[.pointer (some ⟨b,0,none⟩),.int .i64 (i:Int)] w (fun x w'=>∃ fs',BReachK w0 b f L A c (wordI ws (i:Int)) (wordI ws ((i:Int)+1)) rest x fs'∧St w0 [] fs' w'):=by
 obtain ⟨us,hbl,hin,hrows⟩:=hfr.lie
 have hla:=wordI_lt hM (i:Int)
 have hln:=wordI_lt hM ((i:Int)+1)
 have hWa:∀ (f:FrV) (c:ClV) w',Bel w0.heap.size [] w0 w'→(∀ p∈[(b,bgO f A c)],w'.heap[p.1]?=some p.2)→Calls Tryz.prog 89 #[.pointer (some ⟨b,0,none⟩),.int .i64 (i:Int)] w' (Ret w' (wv (wordI ws (i:Int)))):=fun f c w' hb hp=>bword_calls f A c b ws _ (by omega) w' (hp _ List.mem_cons_self) (hv.bel hb)
 have hWn:∀ (f:FrV) (c:ClV) w',Bel w0.heap.size [] w0 w'→(∀ p∈[(b,bgO f A c)],w'.heap[p.1]?=some p.2)→Calls Tryz.prog 89 #[.pointer (some ⟨b,0,none⟩),.int .i64 ((i:Int)+1)] w' (Ret w' (wv (wordI ws ((i:Int)+1)))):=fun f c w' hb hp=>bword_calls f A c b ws _ (by omega) w' (hp _ List.mem_cons_self) (hv.bel hb)
 obtain ⟨a,ha⟩:∃ a,wordI ws (i:Int)=a:=⟨_,rfl⟩
 obtain ⟨n,hn⟩:∃ n,wordI ws ((i:Int)+1)=n:=⟨_,rfl⟩
 rw [ha] at hla hWa ⊢
 rw [hn] at hln hWn ⊢
 refine calls_anyO (calls_inlineP (K:=anyO (BReachK w0 b f L A c a n rest)) (args:=[_,_]) Tryz.func90 rfl Tryz.ntmps90 rfl ?_ hs)
 (refine sRz<|vAz<|vAz<|vAz<|nNz<|zI<|sRz<|vMz ?_;refine lvz (.lssF rfl rfl (by omega)) ?_;refine nNz<|cFz<|zJ<|thenN<|zI ?_)
 apply CW.pre
 (refine AnyW.anyM [(11,ToldR f (reachR f L a n))] 17 mixed (by decide +kernel) ?_)
 ((try simp only [tsOf_cons,tsOf_nil,tsOf_app]);refine dvz (.move rfl)<|dvz (.nilCheck rfl)<|dvz (.fieldAddr rfl rfl) ?_;apply qD;rfl;rfl;rfl;exact zC;rfl;apply zP;exact zN;exact bg_rdF;refine dvz (.move rfl)<|dvz (.move rfl) ?_;apply DW.callE;rfl;rfl;rfl;exact zC;rfl;infer_instance;exact .cons rfl (.cons rfl .nil);rfl;apply ReadAll.own;apply zP;exact zN;exact ReadAll.nil;intro w _ _;exact hWa _ _ w (by assumption) (by assumption);refine dvz (.move rfl)<|dvz (.move rfl) ?_;refine dvz (.addZL rfl rfl (by decide) (by omega)) ?_;apply DW.callE;rfl;rfl;rfl;exact zC;rfl;infer_instance;exact .cons rfl (.cons rfl .nil);rfl;apply ReadAll.own;apply zP;exact zN;exact ReadAll.nil;intro w _ _;exact hWn _ _ w (by assumption) (by assumption))
 refine DW.manyA us rfl rfl rfl (by (exact zC)) rfl inferInstance (by (exact .cons rfl (.cons rfl (.cons rfl .nil)))) (by rw [List.flatMap_cons,hbl];exact List.append_nil _) (fun p hp=>?_) (fun w hb hu=>?_) ?_
 ·rcases hin p hp with h|h
  ·exact .inl ⟨[],[],by simp [tsOf,h],anc_nil⟩
  ·exact .inr ⟨h,by simp⟩
 ·have h:=Reach_calls f L a n hla hln w (hrows w hb hu)
  rw [if_pos hF] at h
  exact h
 intro vT gT hT
 unfold BReachK
 cases hR:reachR f L a n with
 |none =>
  rw [hR] at hT
  obtain ⟨rfl,rfl⟩:=hT
  have hzs:=zero_sl
  ((try simp only [tsOf_cons,tsOf_nil,tsOf_app]);refine dvz (.move rfl) ?_;refine dvz (.extractN rfl rfl) ?_;refine dvz (.extractN rfl rfl) ?_;apply DW.allocA;rfl;rfl;rfl;exact zC;intro _;apply DW.store;rfl;rfl;exact zC;rfl;rfl;apply TSet.head;kernel_rfl;exact zN;apply Wr.whole;rfl;rfl;rfl;apply DW.nil;simp only [fsOf_cons,fsOf_nil,fsOf_app,fsOf_tsOf,fsOf_new])
  simp only [fsOf_mark,fsOf_cons,fsOf_nil,fsOf_app,fsOf_tsOf,fsOf_new,List.append_eq,List.nil_append]
  (refine vAz<|nNz<|zI<|sRz<|vMz ?_;refine lvz (.notF rfl (by with_reducible rfl)) ?_;refine nNz<|cTz<|zL ?_;apply LW.v0;rfl;rfl;apply zW;infer_instance;infer_instance;exact zB;rfl;simp only [fillP,wrCells,Value.cells,qH,qI,qJ,qG,qL,qK,Nat.reduceAdd,qN];rfl;apply LW.v0;rfl;rfl;apply ValP.mkIface;kernel_rfl;rfl;apply LW.panic;rfl;refine thenP ?_)
  exact inPP .nil ⟨rest,⟨rfl,rfl⟩,subp_ix [[_],[_],gs] (xs:=[]) (ys:=[0,1,2]) rest rfl⟩
 |some x =>
  rw [hR] at hT
  obtain ⟨g,L'⟩:=x
  obtain ⟨cc,s1,m1,i1,b1,rfl,hfr1⟩:=hT
  have hsl1:=hfr1.sl
  have hc:costR L a n≤f.gas:=by
   rcases Nat.lt_or_ge f.gas (costR L a n) with h|h
   ·unfold reachR at hR;rw [if_neg (by omega)] at hR;cases hR
   ·exact h
  obtain ⟨rfl,rfl⟩:g=f.gas - costR L a n∧L'=memR L a n:=by
   unfold reachR at hR;rw [if_pos hc] at hR;cases hR;exact ⟨rfl,rfl⟩
  have hE:=memV_le hF.2.2.2.1.2.1 hF.1.2.2 hc
  have hWn':∀ w' {fs:Fs},St w0 [] fs w'→(b,bgO (f.rowsG (f.gas - costR L a n) cc s1 m1 i1 b1) A c)∈fs→Calls Tryz.prog 89 #[.pointer (some ⟨b,0,none⟩),.int .i64 ((i:Int)+1)] w' (Ret w' (wv n)):=fun w' fs hst hm=>hWn _ c w' hst.bel (fun p hp=>by obtain rfl:=List.mem_singleton.1 hp;exact (hst.own _ hm).2)
  have hWa':∀ w' {fs:Fs},St w0 [] fs w'→(b,bgO (f.rowsG (f.gas - costR L a n) cc s1 m1 i1 b1) A c)∈fs→Calls Tryz.prog 89 #[.pointer (some ⟨b,0,none⟩),.int .i64 (i:Int)] w' (Ret w' (wv a)):=fun w' fs hst hm=>hWa _ c w' hst.bel (fun p hp=>by obtain rfl:=List.mem_singleton.1 hp;exact (hst.own _ hm).2)
  rcases Nat.eq_zero_or_pos n with h0|h0
  ·have hSn:∀ w,Calls Tryz.prog 121 #[wv n] w (Ret w (.tuple #[.int .u64 (n:Int),.bool true])):=fun w=>by
    have h:=Small_calls n hln w
    rwa [if_pos (by omega),decide_eq_true (by omega)] at h
   ((try simp only [tsOf_cons,tsOf_nil,tsOf_app]);refine dvz (.move rfl) ?_;refine dvz (.extractN rfl rfl) ?_;refine dvz (.extractN rfl rfl) ?_;apply DW.allocA;rfl;rfl;rfl;exact zC;intro _;apply DW.store;rfl;rfl;exact zC;rfl;rfl;apply TSet.head;kernel_rfl;exact zN;apply fr_wrW;rfl;assumption;apply DW.nil;simp only [fsOf_cons,fsOf_nil,fsOf_app,fsOf_tsOf,fsOf_new])
   simp only [fsOf_mark,fsOf_cons,fsOf_nil,fsOf_app,fsOf_tsOf,fsOf_new,List.append_eq,List.nil_append]
   (refine vAz<|nNz<|zI<|sRz<|vMz ?_;refine lvz (.notT rfl (by with_reducible rfl)) ?_;refine nNz<|cFz<|zJ<|thenN<|sRz<|vMz<|ldz rfl .head fr_rdW<|vNz<|vFz ?_;apply zR;rfl;rfl;apply qB;apply qC;apply qA;apply bg_wrF;assumption;refine nSz<|vMz<|vMz ?_;refine lvz (.addZL rfl rfl (by decide) (by omega)) ?_;apply zS;rfl;rfl;infer_instance;exact .cons rfl (.cons rfl .nil);intro w _;exact hWn' w (by assumption) (by simp);apply zS;rfl;rfl;infer_instance;exact .cons rfl .nil;intro w _;exact hSn w;refine vMz ?_;refine vEz ?_;refine vEz ?_;refine vAz<|vAz<|nNz<|zI<|sRz<|vMz ?_;refine lvz (.eqT rfl rfl (by omega)) ?_;refine nNz<|cTz<|sRz<|vAz<|vAz<|vAz<|nNz<|zK<|thenR ?_)
   refine inPI (.inl rfl) .nil rfl (by (apply zD;exact zG rfl;apply zD;exact zG rfl;apply zD;exact zG rfl;exact zF)) rfl ⟨_,⟨cc,s1,m1,i1,b1,gT,.slice none 0 0,[],?_,hfr1,?_,rfl⟩,?_⟩
   ·rw [if_pos h0,h0];rfl
   ·rw [h0,List.take_zero];exact .nil
   ·exact subp_ix [[_],gT,[_],gs] (xs:=[2,1]) (ys:=[0,1,2,3]) rest rfl
  ·obtain ⟨hb1,hb2,hok2⟩:=reach_bounds hF.2.2.2.1 h0 hE
   have hSn:∀ w,Calls Tryz.prog 121 #[wv n] w (Ret w (.tuple #[.int .u64 (n:Int),.bool true])):=fun w=>by
    have h:=Small_calls n hln w
    rwa [if_pos (by omega),decide_eq_true (by omega)] at h
   have hSa:∀ w,Calls Tryz.prog 121 #[wv a] w (Ret w (.tuple #[.int .u64 (a:Int),.bool true])):=fun w=>by
    have h:=Small_calls a hla w
    rwa [if_pos (by omega),decide_eq_true (by omega)] at h
   ((try simp only [tsOf_cons,tsOf_nil,tsOf_app]);refine dvz (.move rfl) ?_;refine dvz (.extractN rfl rfl) ?_;refine dvz (.extractN rfl rfl) ?_;apply DW.allocA;rfl;rfl;rfl;exact zC;intro _;apply DW.store;rfl;rfl;exact zC;rfl;rfl;apply TSet.head;kernel_rfl;exact zN;apply fr_wrW;rfl;assumption;apply DW.nil;simp only [fsOf_cons,fsOf_nil,fsOf_app,fsOf_tsOf,fsOf_new])
   simp only [fsOf_mark,fsOf_cons,fsOf_nil,fsOf_app,fsOf_tsOf,fsOf_new,List.append_eq,List.nil_append]
   (refine vAz<|nNz<|zI<|sRz<|vMz ?_;refine lvz (.notT rfl (by with_reducible rfl)) ?_;refine nNz<|cFz<|zJ<|thenN<|sRz<|vMz<|ldz rfl .head fr_rdW<|vNz<|vFz ?_;apply zR;rfl;rfl;apply qB;apply qC;apply qA;apply bg_wrF;assumption;refine nSz<|vMz<|vMz ?_;refine lvz (.addZL rfl rfl (by decide) (by omega)) ?_;apply zS;rfl;rfl;infer_instance;exact .cons rfl (.cons rfl .nil);intro w _;exact hWn' w (by assumption) (by simp);apply zS;rfl;rfl;infer_instance;exact .cons rfl .nil;intro w _;exact hSn w;refine vMz ?_;refine vEz ?_;refine vEz ?_;refine vAz<|vAz<|nNz<|zI<|sRz<|vMz ?_;refine lvz (.eqF rfl rfl (by omega)) ?_;refine nNz<|cFz<|zJ<|thenN<|sRz<|vMz<|vMz ?_;apply zS;rfl;rfl;infer_instance;exact .cons rfl (.cons rfl .nil);intro w _;exact hWa' w (by assumption) (by simp);apply zS;rfl;rfl;infer_instance;exact .cons rfl .nil;intro w _;exact hSa w;refine vMz ?_;refine vEz ?_;refine vEz ?_;refine vAz<|vAz<|nSz<|vFz<|ldz rfl .head fr_rd2<|vMz<|vMz ?_)
   (apply LW.callR;rfl;rfl;infer_instance;exact .cons rfl (.cons rfl (.cons rfl .nil));intro w hs)
   exact cut_in (memR L a n).ws (memR L a n).ms a n _ _ w ((hfr1.st hs (fun p hp=>qO _ (List.mem_append_left _ hp))).s) ((hfr1.st hs (fun p hp=>qO _ (List.mem_append_left _ hp))).m) hok2 h0 hb2
   rintro vo go ⟨o,lv,gsc,gv,rfl,rfl,⟨s2,m2,ga,gb,rfl,rfl,hh2,hh3⟩,hlv⟩
   unfold wM at hh2
   unfold bM at hh3
   obtain ⟨q2,k2,rfl⟩:=hh2.form
   obtain ⟨q3,k3,rfl⟩:=hh3.form
   have hlv':=hlv
   unfold bM at hlv'
   obtain ⟨q4,k4,rfl⟩:=hlv'.form
   (refine vMz ?_;refine vEz ?_;refine vEz ?_;refine vEz ?_;apply zU;rfl;intro _;refine zR rfl rfl .head (.whole rfl rfl rfl)<|vAz<|vAz<|nNz<|zI<|sRz<|vMz ?_;refine lvz (.neF rfl rfl (by omega)) ?_;refine nNz<|cFz<|zJ<|thenN<|sRz<|vMz<|vMz<|vMz<|vAz<|vAz<|vAz<|nNz<|zK ?_)
   refine inPI (.inl rfl) .nil rfl (by (apply zD;exact zG rfl;apply zD;exact zG rfl;apply zD;exact zG rfl;exact zF)) rfl ⟨_,⟨cc,s1,m1,i1,b1,gT,_,gv,?_,hfr1,hlv,rfl⟩,?_⟩
   ·rw [if_neg (by omega)];rfl
   ·simp only [List.append_assoc,List.cons_append]
    exact subp_ix [[_],gv,gb,ga,[_],gT,[_],gs] (xs:=[6,5,1]) (ys:=[0,1,2,3,4,5,6,7]) rest rfl
end
def callV (a b c:Bool):Nat:=(if a then 260 else 10)+if b then 900+(if c then 2500 else 0) else 0
theorem Far_calls (k:Bool) (w:World):Calls Tryz.prog 120 #[.bool k] w (Ret w (.int .u64 ((callV k false false:Nat):Int))):=by
 refine enter (args:=[_]) _ [] [] Tryz.func120 rfl Tryz.ntmps120 rfl (by simp) .nil ?_
 cases k
 ·(refine sRz<|vAz<|nNz<|zI<|sRz<|vMz<|nNz<|cFz<|zJ<|thenN<|sRz<|vAz<|nNz<|zK ?_)
  (apply finR;exact .inl rfl;rfl;rfl;rfl;apply zD;exact zG rfl;exact zF)
  rfl
 ·(refine sRz<|vAz<|nNz<|zI<|sRz<|vMz<|nNz<|cTz<|sRz<|vAz<|nNz<|zK<|thenR ?_)
  (apply finR;exact .inl rfl;rfl;rfl;rfl;apply zD;exact zG rfl;exact zF)
  rfl
theorem Call_calls (a b c:Bool) (w:World):Calls Tryz.prog 86 #[.agg #[.bool a,.bool b,.bool c]] w (Ret w (.int .u64 ((callV a b c:Nat):Int))):=by
 refine enter (args:=[_]) _ [] [] Tryz.func86 rfl Tryz.ntmps86 rfl (by simp) .nil ?_
 cases a
 ·cases b
  ·cases c
   ·(refine sRz ?_;apply zT;rfl;rfl;intro _;refine vAz<|nSz<|vFz<|ldz rfl .head (Rd.one' rfl) ?_;apply zS;rfl;rfl;infer_instance;exact .cons rfl .nil;intro w _;exact Far_calls _ w;refine vAz<|nNz<|zI<|sRz<|vFz<|ldz rfl .head (Rd.one' rfl)<|nNz<|cFz<|zJ<|thenN<|zI<|sRz<|vFz<|ldz rfl .head (Rd.one' rfl) ?_;refine vMz<|gFz<|gFz<|pFz<|nNz<|cFz<|zJ<|thenN<|sRz<|vMz<|vAz<|nNz<|zK ?_)
    (apply finR;exact .inl rfl;rfl;rfl;rfl;apply zD;exact zG rfl;exact zF)
    rfl
   ·(refine sRz ?_;apply zT;rfl;rfl;intro _;refine vAz<|nSz<|vFz<|ldz rfl .head (Rd.one' rfl) ?_;apply zS;rfl;rfl;infer_instance;exact .cons rfl .nil;intro w _;exact Far_calls _ w;refine vAz<|nNz<|zI<|sRz<|vFz<|ldz rfl .head (Rd.one' rfl)<|nNz<|cFz<|zJ<|thenN<|zI<|sRz<|vFz<|ldz rfl .head (Rd.one' rfl) ?_;refine vMz<|gFz<|gFz<|pFz<|nNz<|cFz<|zJ<|thenN<|sRz<|vMz<|vAz<|nNz<|zK ?_)
    (apply finR;exact .inl rfl;rfl;rfl;rfl;apply zD;exact zG rfl;exact zF)
    rfl
  ·cases c
   ·(refine sRz ?_;apply zT;rfl;rfl;intro _;refine vAz<|nSz<|vFz<|ldz rfl .head (Rd.one' rfl) ?_;apply zS;rfl;rfl;infer_instance;exact .cons rfl .nil;intro w _;exact Far_calls _ w;refine vAz<|nNz<|zI<|sRz<|vFz<|ldz rfl .head (Rd.one' rfl)<|nNz<|cTz<|zL<|vMz ?_;refine lvz (.addNL rfl rfl (by decide)) ?_;refine vAz<|nNz<|zI<|sRz<|vFz<|ldz rfl .head (Rd.one' rfl)<|vMz<|gTz<|vFz<|gTz<|ldz rfl .head (Rd.one' rfl)<|pTz<|nNz<|cFz ?_;refine zJ<|thenN<|sRz<|vMz<|vAz<|nNz<|zK ?_)
    (apply finR;exact .inl rfl;rfl;rfl;rfl;apply zD;exact zG rfl;exact zF)
    rfl
   ·(refine sRz ?_;apply zT;rfl;rfl;intro _;refine vAz<|nSz<|vFz<|ldz rfl .head (Rd.one' rfl) ?_;apply zS;rfl;rfl;infer_instance;exact .cons rfl .nil;intro w _;exact Far_calls _ w;refine vAz<|nNz<|zI<|sRz<|vFz<|ldz rfl .head (Rd.one' rfl)<|nNz<|cTz<|zL<|vMz ?_;refine lvz (.addNL rfl rfl (by decide)) ?_;refine vAz<|nNz<|zI<|sRz<|vFz<|ldz rfl .head (Rd.one' rfl)<|vMz<|gTz<|vFz<|gTz<|ldz rfl .head (Rd.one' rfl)<|pTz<|nNz<|cTz ?_;refine zL<|vMz ?_;refine lvz (.addNL rfl rfl (by decide)) ?_;refine vAz<|nSz<|vMz<|vAz<|nNz<|zK ?_)
    (apply finR;exact .inl rfl;rfl;rfl;rfl;apply zD;exact zG rfl;exact zF)
    rfl
 ·cases b
  ·cases c
   ·(refine sRz ?_;apply zT;rfl;rfl;intro _;refine vAz<|nSz<|vFz<|ldz rfl .head (Rd.one' rfl) ?_;apply zS;rfl;rfl;infer_instance;exact .cons rfl .nil;intro w _;exact Far_calls _ w;refine vAz<|nNz<|zI<|sRz<|vFz<|ldz rfl .head (Rd.one' rfl)<|nNz<|cFz<|zJ<|thenN<|zI<|sRz<|vFz<|ldz rfl .head (Rd.one' rfl) ?_;refine vMz<|gFz<|gFz<|pFz<|nNz<|cFz<|zJ<|thenN<|sRz<|vMz<|vAz<|nNz<|zK ?_)
    (apply finR;exact .inl rfl;rfl;rfl;rfl;apply zD;exact zG rfl;exact zF)
    rfl
   ·(refine sRz ?_;apply zT;rfl;rfl;intro _;refine vAz<|nSz<|vFz<|ldz rfl .head (Rd.one' rfl) ?_;apply zS;rfl;rfl;infer_instance;exact .cons rfl .nil;intro w _;exact Far_calls _ w;refine vAz<|nNz<|zI<|sRz<|vFz<|ldz rfl .head (Rd.one' rfl)<|nNz<|cFz<|zJ<|thenN<|zI<|sRz<|vFz<|ldz rfl .head (Rd.one' rfl) ?_;refine vMz<|gFz<|gFz<|pFz<|nNz<|cFz<|zJ<|thenN<|sRz<|vMz<|vAz<|nNz<|zK ?_)
    (apply finR;exact .inl rfl;rfl;rfl;rfl;apply zD;exact zG rfl;exact zF)
    rfl
  ·cases c
   ·(refine sRz ?_;apply zT;rfl;rfl;intro _;refine vAz<|nSz<|vFz<|ldz rfl .head (Rd.one' rfl) ?_;apply zS;rfl;rfl;infer_instance;exact .cons rfl .nil;intro w _;exact Far_calls _ w;refine vAz<|nNz<|zI<|sRz<|vFz<|ldz rfl .head (Rd.one' rfl)<|nNz<|cTz<|zL<|vMz ?_;refine lvz (.addNL rfl rfl (by decide)) ?_;refine vAz<|nNz<|zI<|sRz<|vFz<|ldz rfl .head (Rd.one' rfl)<|vMz<|gTz<|vFz<|gTz<|ldz rfl .head (Rd.one' rfl)<|pTz<|nNz<|cFz ?_;refine zJ<|thenN<|sRz<|vMz<|vAz<|nNz<|zK ?_)
    (apply finR;exact .inl rfl;rfl;rfl;rfl;apply zD;exact zG rfl;exact zF)
    rfl
   ·(refine sRz ?_;apply zT;rfl;rfl;intro _;refine vAz<|nSz<|vFz<|ldz rfl .head (Rd.one' rfl) ?_;apply zS;rfl;rfl;infer_instance;exact .cons rfl .nil;intro w _;exact Far_calls _ w;refine vAz<|nNz<|zI<|sRz<|vFz<|ldz rfl .head (Rd.one' rfl)<|nNz<|cTz<|zL<|vMz ?_;refine lvz (.addNL rfl rfl (by decide)) ?_;refine vAz<|nNz<|zI<|sRz<|vFz<|ldz rfl .head (Rd.one' rfl)<|vMz<|gTz<|vFz<|gTz<|ldz rfl .head (Rd.one' rfl)<|pTz<|nNz<|cTz ?_;refine zL<|vMz ?_;refine lvz (.addNL rfl rfl (by decide)) ?_;refine vAz<|nSz<|vMz<|vAz<|nNz<|zK ?_)
    (apply finR;exact .inl rfl;rfl;rfl;rfl;apply zD;exact zG rfl;exact zF)
    rfl
section
def reachG (g:Nat) (L:FrL) (a n:Nat):Option (Nat × FrL):=if costR L a n≤g then some (g - costR L a n,memR L a n) else none
theorem reachR_G (f:FrV) (L:FrL) (a n:Nat):reachR f L a n=reachG f.gas L a n:=rfl
theorem reachG_some {g g':Nat} {L L':FrL} {a n:Nat} (h:reachG g L a n=some (g',L')):costR L a n≤g∧g'=g - costR L a n∧L'=memR L a n:=by
 unfold reachG at h
 split at h
 ·cases h;exact ⟨by assumption,rfl,rfl⟩
 ·cases h
theorem okF_reach {f:FrV} {L L':FrL} {a n g:Nat} {c s m i b:Value} (h:okF f L) (hr:reachG f.gas L a n=some (g,L')):okF (f.rowsG g c s m i b) L':=by
 obtain ⟨hc,rfl,rfl⟩:=reachG_some hr
 have hE:=memV_le h.2.2.2.1.2.1 h.1.2.2 hc
 obtain ⟨⟨h1,h2,h3⟩,h4,h5,h6,h7⟩:=h
 refine ⟨⟨h1,h2,by show f.gas - _≤_;omega⟩,h4,h5,?_,h7⟩
 obtain ⟨k1,k2,k3⟩:=h6
 have h5:(memR L a n).ms.length=L.ms.length+(upW (endV a n) - L.ms.length):=by unfold memR FrL.setM;simp
 unfold upW at h5
 exact ⟨k1,by omega,by omega⟩
attribute [local irreducible] SL.inP wordI shq
def BReachesK (b:Nat) (f:FrV) (L:FrL) (A:AkV) (c:ClV) (a1 n1 a2 n2:Nat) (rest:Fs):Out:=fun x fs'=>match reachG f.gas L a1 n1 with
 |none=>x=.panicked offC∧fs'=rest
 |some (g1,L1)=>match reachG g1 L1 a2 n2 with
  |none=>x=.panicked offC∧fs'=rest
  |some (g2,L2)=>∃ cc s m i b5 gs' lv gl,x=.returned (.tuple #[])∧FrO (f.rowsG g2 cc s m i b5) L2 gs'∧bM ((L1.ms.drop a1).take n1) lv gl∧fs'=(b,bgO (f.rowsG g2 cc s m i b5) A { c with inp:=lv,pl:=if n2=0 then 0 else a2,n:=n2 })::(gs'++(gl++rest))
section bk
variable {b : Nat} {f : FrV} {L L1 L2 : FrL} {A : AkV} {c : ClV} {a1 n1 a2 n2 g1 g2 : Nat} {rest fs' : Fs} {x : Ending}
theorem BReachesK.no1 (h:reachG f.gas L a1 n1=none):BReachesK b f L A c a1 n1 a2 n2 rest (.panicked offC) rest:=by
 unfold BReachesK;rw [h];exact ⟨rfl,rfl⟩
theorem BReachesK.no2 (h:reachG f.gas L a1 n1=some (g1,L1)) (h2:reachG g1 L1 a2 n2=none):BReachesK b f L A c a1 n1 a2 n2 rest (.panicked offC) rest:=by
 unfold BReachesK;rw [h];dsimp only;rw [h2];exact ⟨rfl,rfl⟩
theorem BReachesK.mk (h:reachG f.gas L a1 n1=some (g1,L1)) (h2:reachG g1 L1 a2 n2=some (g2,L2)) (hk:∃ cc s m i b5 gs' lv gl,x=.returned (.tuple #[])∧FrO (f.rowsG g2 cc s m i b5) L2 gs'∧bM ((L1.ms.drop a1).take n1) lv gl∧fs'=(b,bgO (f.rowsG g2 cc s m i b5) A { c with inp:=lv,pl:=if n2=0 then 0 else a2,n:=n2 })::(gs'++(gl++rest))):BReachesK b f L A c a1 n1 a2 n2 rest x fs':=by
 unfold BReachesK;rw [h];dsimp only;rw [h2];exact hk
end bk
theorem BReachK.plain {w0:World} {b:Nat} {f:FrV} {L:FrL} {A:AkV} {c:ClV} {a n:Nat} {rest:Fs}:(BReachK w0 b f L A c a n rest).plain:=fun fs h=>by
 unfold BReachK at h
 cases hR:reachR f L a n with
 |none=>rw [hR] at h;cases h.1
 |some x=>rw [hR] at h;obtain ⟨_,_,_,_,_,_,_,_,h,_⟩:=h;cases h
theorem breaches_calls (w0:World) (b:Nat) (f:FrV) (L:FrL) (A:AkV) (c:ClV) (ws:List Nat) (hM:∀ x∈ws,x < M256) (i j:Nat) (hqi:(shq A.op).2.2.2.1=(i:Int)) (hqj:(shq A.op).2.2.2.2.1=(j:Int)) (hi:i+1 < ws.length) (hj:j+1 < ws.length) (hll:ws.length≤100) (hF:okF f L) (gs rest:Fs) (hfr:FrA w0 f L gs) (w:World) (hv:RowAt w0 4 A.ws ws.length (wcs ws)) (hs:St w0 [] ((b,bgO f A c)::(gs++rest)) w) :
  Calls Tryz.prog 58 #[.pointer (some ⟨b,0,none⟩)] w (fun x w'=>∃ fs',BReachesK b f L A c (wordI ws (i:Int)) (wordI ws ((i:Int)+1)) (wordI ws (j:Int)) (wordI ws ((j:Int)+1)) rest x fs'∧St w0 [] fs' w'):=by
 obtain ⟨cop,cdst,cself,cfrm,cval,cmv,cgas,cinp,ccode,cpl,cn,cstat⟩:=c
 have hs17:∀ {f c E fr},Rd Tryz.prog 3 (.cells (bga f A c) E fr) 17 (.int .i64 (i:Int)):=fun {f c E fr}=>by have h:=bg_rd17 (P:=Tryz.prog) (T:=3) (E:=E) (fr:=fr) (A:=A) (f:=f) (c:=c);rw [hqi] at h;exact h
 have hs18:∀ {f c E fr},Rd Tryz.prog 3 (.cells (bga f A c) E fr) 18 (.int .i64 (j:Int)):=fun {f c E fr}=>by have h:=bg_rd18 (P:=Tryz.prog) (T:=3) (E:=E) (fr:=fr) (A:=A) (f:=f) (c:=c);rw [hqj] at h;exact h
 refine calls_anyO (calls_inlineP (K:=anyO (BReachesK b f L A ⟨cop,cdst,cself,cfrm,cval,cmv,cgas,cinp,ccode,cpl,cn,cstat⟩ (wordI ws (i:Int)) (wordI ws ((i:Int)+1)) (wordI ws (j:Int)) (wordI ws ((j:Int)+1)) rest)) (args:=[_]) Tryz.func58 rfl Tryz.ntmps58 rfl ?_ hs)
 (refine sRz<|vMz<|vMz<|vMz<|vNz<|vFz<|vFz<|ldz rfl .head hs17 ?_)
 refine LW.callP (K:=BReachK w0 b f L A _ (wordI ws (i:Int)) (wordI ws ((i:Int)+1)) rest) rfl rfl inferInstance (by (exact .cons rfl (.cons rfl .nil))) rfl BReachK.plain (fun w' hst=>breach_calls w0 b f L A _ ws hM i hi hll hF gs rest hfr w' hv hst) ?_ ?_
 ·intro v fs' hK
  unfold BReachK at hK
  rw [reachR_G] at hK
  cases hR:reachG f.gas L (wordI ws (i:Int)) (wordI ws ((i:Int)+1)) with
  |none=>rw [hR] at hK;cases hK.1
  |some x =>
   obtain ⟨g1,L1⟩:=x
   rw [hR] at hK
   obtain ⟨cc,s1,m1,i1,b1,gs1,lv,gl,h1,hfr1,hlv,rfl⟩:=hK
   cases h1
   have hlv':=hlv
   unfold bM at hlv'
   obtain ⟨q1,k1,rfl⟩:=hlv'.form
   have hF1:=okF_reach (c:=cc) (s:=s1) (m:=m1) (i:=i1) (b:=b1) hF hR
   (refine vMz ?_;refine vEz ?_;refine vEz ?_;refine vEz ?_;refine vNz<|vFz<|vFz ?_;refine zR rfl rfl .head bg_wr36<|nNz<|zL<|vMz<|vMz<|vMz<|vMz<|vNz<|vFz<|vFz<|ldz rfl .head hs18 ?_)
   refine LW.callP (K:=BReachK w0 b (f.rowsG g1 cc s1 m1 i1 b1) L1 A _ (wordI ws (j:Int)) (wordI ws ((j:Int)+1)) (gl++rest)) rfl rfl inferInstance (by (exact .cons rfl (.cons rfl .nil))) rfl BReachK.plain (fun w' hst=>breach_calls w0 b _ L1 A _ ws hM j hj hll hF1 gs1 (gl++rest) (.inr hfr1) w' hv hst) ?_ ?_
   ·intro v fs' hK
    unfold BReachK at hK
    rw [reachR_G] at hK
    change match reachG g1 L1 (wordI ws (j:Int)) (wordI ws ((j:Int)+1)) with|none=>_|some (g,L')=>_ at hK
    cases hR2:reachG g1 L1 (wordI ws (j:Int)) (wordI ws ((j:Int)+1)) with
    |none=>rw [hR2] at hK;cases hK.1
    |some x =>
     obtain ⟨g2,L2⟩:=x
     rw [hR2] at hK
     obtain ⟨cc2,s2,m2,i2,b2,gs2,lv2,gl2,h1,hfr2,hlv2,rfl⟩:=hK
     cases h1
     (refine vMz ?_;refine vEz ?_;refine vEz ?_;refine vEz ?_;refine vNz<|vFz<|vFz ?_;apply zR;rfl;rfl;apply qA;apply bg_wr38 (z:=.int .u64 0);refine vNz<|vFz<|vFz ?_;apply zR;rfl;rfl;apply qA;apply bg_wr39 (z:=.int .u64 0);apply zV)
     refine inPI (.inr rfl) .nil rfl .nil rfl ⟨_,BReachesK.mk hR hR2 ⟨cc2,s2,m2,i2,b2,gs2,_,gl,rfl,hfr2,hlv,rfl⟩,?_⟩
     exact subp_ix [[_],gs2,gl2,gl] (xs:=[0,1,3]) (ys:=[0,1,2,3]) rest rfl
   ·intro ch fs' hK
    unfold BReachK at hK
    rw [reachR_G] at hK
    change match reachG g1 L1 (wordI ws (j:Int)) (wordI ws ((j:Int)+1)) with|none=>_|some (g,L')=>_ at hK
    cases hR2:reachG g1 L1 (wordI ws (j:Int)) (wordI ws ((j:Int)+1)) with
    |none =>
     rw [hR2] at hK
     obtain ⟨h1,rfl⟩:=hK
     cases h1
     exact inPP .nil ⟨_,BReachesK.no2 hR hR2,subp_ix [gl] (xs:=[]) (ys:=[0]) rest rfl⟩
    |some x=>rw [hR2] at hK;obtain ⟨_,_,_,_,_,_,_,_,h,_⟩:=hK;cases h
 ·intro ch fs' hK
  unfold BReachK at hK
  rw [reachR_G] at hK
  cases hR:reachG f.gas L (wordI ws (i:Int)) (wordI ws ((i:Int)+1)) with
  |none =>
   rw [hR] at hK
   obtain ⟨h1,rfl⟩:=hK
   cases h1
   refine thenP ?_
   exact inPP .nil ⟨_,BReachesK.no1 hR,_,.refl _,.refl _⟩
  |some x=>rw [hR] at hK;obtain ⟨_,_,_,_,_,_,_,_,h,_⟩:=hK;cases h
def lentG (g k w:Nat):Nat:=min w (g - k - (g - k) / 64)
def BCallsK (b:Nat) (f:FrV) (A:AkV) (c:ClV) (w:Nat) (rest:Fs):Out:=fun x fs' =>
 (f.gas < callV A.cold c.mv A.new∧x=.panicked offC∧fs'=rest) ∨
 (callV A.cold c.mv A.new≤f.gas∧x=.returned (.tuple #[])∧fs'=(b,bgO (f.setGas (f.gas - callV A.cold c.mv A.new - lentG f.gas (callV A.cold c.mv A.new) w)) A { c with gas:=lentG f.gas (callV A.cold c.mv A.new) w+(if c.mv then 230 else 0) })::rest)
theorem bcalls_calls (w0:World) (b:Nat) (f:FrV) (A:AkV) (c:ClV) (ws:List Nat) (hM:∀ x∈ws,x < M256) (h0:0 < ws.length) (hll:ws.length≤100) (hg:f.gas≤20000) (rest:Fs) (w:World) (hv:RowAt w0 4 A.ws ws.length (wcs ws)) (hs:St w0 [] ((b,bgO f A c)::rest) w) :
  Calls Tryz.prog 55 #[.pointer (some ⟨b,0,none⟩)] w (fun x w'=>∃ fs',BCallsK b f A c (ws.getD 0 0) rest x fs'∧St w0 [] fs' w'):=by
 obtain ⟨code,pc,stk,mem,gas,self,frm,val,inp,back,stat⟩:=f
 obtain ⟨cop,cdst,cself,cfrm,cval,cmv,cgas,cinp,ccode,cpl,cn,cstat⟩:=c
 obtain ⟨kind,op,aws,dt,cold,vl,new⟩:=A
 dsimp only at hg hv
 obtain ⟨bw,off,cc,cs,E,fr,heq,hbw,hx⟩:=hv.pos (by omega)
 subst heq
 have hrd:=word_rd (P:=Tryz.prog) (T:=29) (E:=E) (fr:=fr) hx 0 (by omega)
 have hw0:ws.getD 0 0 < M256:=by rw [List.getD_eq_getElem?_getD,List.getElem?_eq_getElem h0];exact hM _ (List.getElem_mem h0)
 obtain ⟨x0,hx0⟩:∃ x,ws.getD 0 0=x:=⟨_,rfl⟩
 rw [hx0] at hrd hw0 ⊢
 unfold BCallsK
 dsimp only
 obtain ⟨k,hk⟩:∃ k,callV cold cmv new=k:=⟨_,rfl⟩
 refine calls_anyO (calls_inlineP (K:=anyO fun x fs'=>(gas < callV cold cmv new∧x=.panicked offC∧fs'=rest)∨(callV cold cmv new≤gas∧x=.returned (.tuple #[])∧fs'=(b,bgO (FrV.setGas ⟨code,pc,stk,mem,gas,self,frm,val,inp,back,stat⟩ (gas - callV cold cmv new - lentG gas (callV cold cmv new) x0)) ⟨kind,op,.slice (some ⟨bw,off,none⟩) ws.length cc,dt,cold,vl,new⟩ ⟨cop,cdst,cself,cfrm,cval,cmv,lentG gas (callV cold cmv new) x0+(if cmv then 230 else 0),cinp,ccode,cpl,cn,cstat⟩)::rest)) (args:=[_]) Tryz.func55 rfl Tryz.ntmps55 rfl ?_ hs)
 (refine zI ?_;apply CW.pre;refine AnyW.any 18 mixed (by decide +kernel) ?_;(try simp only [tsOf_cons,tsOf_nil,tsOf_app]);refine dvz (.move rfl)<|dvz (.move rfl)<|dvz (.nilCheck rfl)<|dvz (.fieldAddr rfl rfl)<|dvz (.fieldAddr rfl rfl) ?_;apply qD;rfl;rfl;rfl;exact zC;rfl;apply zP;exact zN;exact bg_rd23;refine dvz (.move rfl)<|dvz (.nilCheck rfl)<|dvz (.fieldAddr rfl rfl)<|dvz (.fieldAddr rfl rfl) ?_;apply qD;rfl;rfl;rfl;exact zC;rfl;apply zP;exact zN;exact bg_rd34;refine dvz (.move rfl)<|dvz (.nilCheck rfl)<|dvz (.fieldAddr rfl rfl)<|dvz (.fieldAddr rfl rfl) ?_;apply qD;rfl;rfl;rfl;exact zC;rfl;apply zP;exact zN;exact bg_rd25;apply DW.v0;rfl;rfl;rfl;exact zC;rfl;apply zW;infer_instance;infer_instance;apply zA;rfl;apply zA;rfl;apply zA;rfl;exact zB;rfl;simp only [fillP,wrCells,Value.cells,qH,qI,qJ,qG,qL,qK,Nat.reduceAdd,qN];rfl;apply DW.callE;rfl;rfl;rfl;exact zC;rfl;infer_instance;exact .cons rfl .nil;rfl;exact ReadAll.nil;intro w _ _;exact Call_calls _ _ _ w;apply DW.nil;simp only [fsOf_cons,fsOf_nil,fsOf_app,fsOf_tsOf,fsOf_new])
 rw [hk]
 refine LW.callP (K:=fun x fs'=>(k≤gas∧x=.returned (.tuple #[])∧fs'=(b,bgO (FrV.setGas ⟨code,pc,stk,mem,gas,self,frm,val,inp,back,stat⟩ (gas - k)) ⟨kind,op,.slice (some ⟨bw,off,none⟩) ws.length cc,dt,cold,vl,new⟩ ⟨cop,cdst,cself,cfrm,cval,cmv,cgas,cinp,ccode,cpl,cn,cstat⟩)::rest)∨(gas < k∧x=.panicked offC∧fs'=rest)) rfl rfl inferInstance (by (exact .cons rfl (.cons rfl .nil))) rfl (fun fs h=>by rcases h with ⟨_,h,_⟩|⟨_,h,_⟩<;>cases h) (fun w' hst=>bspend_calls w0 b ⟨code,pc,stk,mem,gas,self,frm,val,inp,back,stat⟩ _ _ k (by dsimp only;omega) rest w' hst) ?_ ?_
 ·rintro v fs' (⟨hkg,h,rfl⟩|⟨_,h,_⟩)
  ·cases h
   have hLend:∀ w,Calls Tryz.prog 87 #[.int .u64 ((gas - k:Nat):Int),wv x0] w (Ret w (.int .u64 ((lentG gas k x0:Nat):Int))):=fun w=>Lend_calls (gas - k) x0 (by omega) hw0 w
   have hll2:lentG gas k x0≤gas - k:=by unfold lentG;omega
   change LW _ _ _ _ _ ((b,bgO ⟨code,pc,stk,mem,gas - k,self,frm,val,inp,back,stat⟩ ⟨kind,op,.slice (some ⟨bw,off,none⟩) ws.length cc,dt,cold,vl,new⟩ ⟨cop,cdst,cself,cfrm,cval,cmv,cgas,cinp,ccode,cpl,cn,cstat⟩)::rest)
   (refine nNz<|zI ?_;apply CW.pre;refine AnyW.any 14 mixed (by decide +kernel) ?_;(try simp only [tsOf_cons,tsOf_nil,tsOf_app]);refine dvz (.move rfl)<|dvz (.move rfl)<|dvz (.nilCheck rfl)<|dvz (.fieldAddr rfl rfl)<|dvz (.fieldAddr rfl rfl) ?_;apply qD;rfl;rfl;rfl;exact zC;rfl;apply zP;exact zN;exact bg_rd4;refine dvz (.move rfl)<|dvz (.nilCheck rfl)<|dvz (.fieldAddr rfl rfl)<|dvz (.fieldAddr rfl rfl) ?_;apply qD;rfl;rfl;rfl;exact zC;rfl;apply zP;exact zN;exact bg_rd21;refine dvz (.indexAddrSL rfl rfl (by decide) (by omega)) ?_;apply DW.loadX;rfl;rfl;rfl;exact zC;rfl;assumption;simp;assumption;apply DW.callE;rfl;rfl;rfl;exact zC;rfl;infer_instance;exact .cons rfl (.cons rfl .nil);rfl;exact ReadAll.nil;intro w _ _;exact hLend w;apply DW.nil;simp only [fsOf_cons,fsOf_nil,fsOf_app,fsOf_tsOf,fsOf_new];refine vNz<|vFz<|vFz ?_;apply zR;rfl;rfl;apply qA;apply bg_wr35 (z:=.int .u64 0);refine nSz<|vMz<|vMz<|vNz<|vFz<|vFz<|ldz rfl .head bg_rd35 ?_)
   refine LW.callP (K:=fun x fs'=>(lentG gas k x0≤gas - k∧x=.returned (.tuple #[])∧fs'=(b,bgO (FrV.setGas ⟨code,pc,stk,mem,gas - k,self,frm,val,inp,back,stat⟩ (gas - k - lentG gas k x0)) ⟨kind,op,.slice (some ⟨bw,off,none⟩) ws.length cc,dt,cold,vl,new⟩ ⟨cop,cdst,cself,cfrm,cval,cmv,lentG gas k x0,cinp,ccode,cpl,cn,cstat⟩)::rest)∨(gas - k < lentG gas k x0∧x=.panicked offC∧fs'=rest)) rfl rfl inferInstance (by (exact .cons rfl (.cons rfl .nil))) rfl (fun fs h=>by rcases h with ⟨_,h,_⟩|⟨_,h,_⟩<;>cases h) (fun w' hst=>bspend_calls w0 b ⟨code,pc,stk,mem,gas - k,self,frm,val,inp,back,stat⟩ ⟨kind,op,.slice (some ⟨bw,off,none⟩) ws.length cc,dt,cold,vl,new⟩ ⟨cop,cdst,cself,cfrm,cval,cmv,lentG gas k x0,cinp,ccode,cpl,cn,cstat⟩ (lentG gas k x0) (by dsimp only;omega) rest w' hst) ?_ ?_
   ·rintro v fs' (⟨_,h,rfl⟩|⟨_,h,_⟩)
    ·cases h
     change LW _ _ _ _ _ ((b,bgO ⟨code,pc,stk,mem,gas - k - lentG gas k x0,self,frm,val,inp,back,stat⟩ ⟨kind,op,.slice (some ⟨bw,off,none⟩) ws.length cc,dt,cold,vl,new⟩ ⟨cop,cdst,cself,cfrm,cval,cmv,lentG gas k x0,cinp,ccode,cpl,cn,cstat⟩)::rest)
     cases cmv with
     |true =>
      have hmod:(lentG gas k x0+230) % 18446744073709551616=lentG gas k x0+230:=Nat.mod_eq_of_lt (by omega)
      (refine nSz<|vMz<|vNz<|vFz<|vFz<|ldz rfl .head bg_rd34<|nNz<|cTz<|zL<|vMz<|vNz<|vFz<|vFz<|ldz rfl .head bg_rd35 ?_;refine lvz (.addNL rfl rfl (by decide)) ?_;refine vNz<|vFz<|vFz ?_;apply zR;rfl;rfl;apply qA;apply bg_wr35 (z:=.int .u64 0);apply zV)
      rw [hmod]
      exact inPI (.inr rfl) .nil rfl .nil rfl ⟨_,.inr ⟨hkg,rfl,rfl⟩,_,.refl _,.refl _⟩
     |false =>
      (refine nSz<|vMz<|vNz<|vFz<|vFz<|ldz rfl .head bg_rd34<|nNz<|cFz<|zJ ?_)
      exact inPI (.inr rfl) .nil rfl .nil rfl ⟨_,.inr ⟨hkg,rfl,rfl⟩,_,.refl _,.refl _⟩
    ·cases h
   ·rintro ch fs' (⟨_,h,_⟩|⟨hkg,h,rfl⟩)
    ·cases h
    ·omega
  ·cases h
 ·rintro ch fs' (⟨_,h,_⟩|⟨hkg,h,rfl⟩)
  ·cases h
  ·cases h
   refine thenP ?_
   exact inPP .nil ⟨_,.inl ⟨hkg,rfl,rfl⟩,_,.refl _,.refl _⟩
end



section
attribute [local irreducible] askB
end

section
attribute [local irreducible] SL.inP SL.inD SL.outD wordI shq
theorem neNil {P:Program} {e:Env} {T ty:TypeId} {x:Operand} (hI:P.underlying T=some (.interface (P.methodsAt T))) (hx:e.ev x=some .nilIface):ValP P e [] (.binOp .neq T x (.const .nilIface) ty) (.bool false) :=
 .bin hx rfl (fun w=>by rw [Go.eqGuard_nil_constR];rfl) fun w=>by
  simp only [binOp,Sem.run_bind,run_equal_nil_nil w T hI];rfl
theorem begin1_idle (w0:World) (S:List Nat) (fs:Fs) (w:World) (hs:St w0 S fs w) :
  CallsDIn (FR none) 0 Tryz.prog 54 #[] .returning w (fun e u' w'=>u'=.returning∧∃ fs',(e=.returned (.tuple #[])∧∃ b1,fs'=b1::fs)∧St w0 S fs' w'):=by
 refine callsD_cw (args:=[]) _ Tryz.func54 rfl Tryz.ntmps54 rfl (Rec1.two rfl rfl) ?_ hs
 rw [recV_ret]
 (refine sRz<|vMz ?_;apply LW.v0;rfl;rfl;apply ValP.assertNil;infer_instance;kernel_rfl;rfl;refine vMz ?_;refine vEz ?_;refine vEz ?_;apply zU;rfl;intro _;refine zR rfl rfl .head (.whole rfl rfl rfl)<|vAz<|nSz<|vMz ?_;refine lvz (.notF rfl (by with_reducible rfl)) ?_;refine vMz<|gTz<|vMz<|gTz ?_;apply LW.v0;rfl;rfl;apply neNil;kernel_rfl;rfl;refine pTz<|nNz<|cFz<|zJ ?_)
 exact inDI (.inr rfl) rfl .nil rfl ⟨rfl,_,rfl⟩
theorem begin1_off (w0:World) (S:List Nat) (fs:Fs) (w:World) (hs:St w0 S fs w) :
  CallsDIn (FR none) 0 Tryz.prog 54 #[] (.panicking offC) w (fun e u' w'=>u'=.panicking [{ v:=offV,recovered:=true }]∧∃ fs',(e=.returned (.tuple #[])∧∃ b1,fs'=b1::fs)∧St w0 S fs' w'):=by
 refine callsD_cw (args:=[]) _ Tryz.func54 rfl Tryz.ntmps54 rfl (Rec1.two rfl rfl) ?_ hs
 rw [recV_pan]
 (refine sRz<|vMz ?_;apply LW.v0;rfl;rfl;apply ValP.assertHit;kernel_rfl;rfl;refine vMz ?_;refine vEz ?_;refine vEz ?_;apply zU;rfl;intro _;refine zR rfl rfl .head (.whole rfl rfl rfl)<|vAz<|nSz<|vMz ?_;refine lvz (.notT rfl (by with_reducible rfl)) ?_;refine vMz<|gFz<|gFz<|pFz<|nNz<|cFz<|zJ ?_)
 exact inDI (.inr rfl) rfl .nil rfl ⟨rfl,_,rfl⟩
def beginG (f:FrV) (L:FrL) (A:AkV) (ws:List Nat):Option (Nat × FrL × List UInt8 × ClV) :=
 let i:=(shq A.op).2.2.2.1
 let j:=(shq A.op).2.2.2.2.1
 match reachG f.gas L (wordI ws i) (wordI ws (i+1)) with
 |none=>none
 |some (g1,L1)=>match reachG g1 L1 (wordI ws j) (wordI ws (j+1)) with
  |none=>none
  |some (g2,L2) =>
   let c:=whoC f A.op ws
   let k:=callV A.cold c.mv A.new
   if k≤g2 then some (g2 - k - lentG g2 k (ws.getD 0 0),L2,(L1.ms.drop (wordI ws i)).take (wordI ws (i+1)),
    { c with pl:=if wordI ws (j+1)=0 then 0 else wordI ws j,n:=wordI ws (j+1),gas:=lentG g2 k (ws.getD 0 0)+(if c.mv then 230 else 0) }) else none
def BegR (f:FrV) (R:Option (Nat × FrL × List UInt8 × ClV)) (v:Value) (gs:Fs):Prop:=match R with
 |none=>v=.tuple #[frv zeroF,clv zeroC,.bool false]∧gs=[]
 |some (g,L',l,c)=>∃ cc s m i b lv g1 g2,v=.tuple #[frv (f.rowsG g cc s m i b),clv { c with inp:=lv },.bool true]∧gs=g1++g2∧FrO (f.rowsG g cc s m i b) L' g1∧bM l lv g2
theorem Begin_bad (f:FrV) (L:FrL) (A:AkV) (ws:List Nat) (hd:∃ p n c,A.dt=.slice p n c) (hbad:askB A.kind A.op ws.length=false∨¬ okF f L) (w:World) (hf:FrRows w f L) (hv:RowAt w 4 A.ws ws.length (wcs ws)) :
  Calls Tryz.prog 26 #[frv f,.agg (aska A.kind A.op A.ws A.dt),.agg #[.bool A.cold,.bool A.vl,.bool A.new]] w (RetG w [] (BegR f none)):=by
 obtain ⟨kind,op,aws,dt,cold,vl,new⟩:=A
 obtain ⟨q,d,e,hd⟩:=hd
 dsimp only at hd hbad hv ⊢
 subst hd
 obtain ⟨p,c,rfl,_,_⟩:=id hv.form
 have hzs:=zero_sl
 have hSh0:=shapeOf_calls kind op ws.length c p q d e
 have hFc0:=fun w' {fs:Fs} (hst:St w [] fs w')=>fCheck_calls f L w' (hf.st hst)
 refine enter (args:=[_,_,_]) _ [] [] Tryz.func26 rfl Tryz.ntmps26 rfl (by simp) .nil ?_
 cases hb:askB kind op ws.length with
 |false =>
  rw [hb] at hSh0
  have hSh:∀ w,Calls Tryz.prog 53 #[.agg (aska kind op (.slice p ws.length c) (.slice q d e))] w (Ret w (.tuple #[.agg (shc op).toArray,.bool false])):=hSh0
  (refine sRz ?_;apply zT;rfl;rfl;intro _;apply zT;rfl;rfl;intro _;apply zT;rfl;rfl;intro _;apply zU;rfl;intro _;apply zU;rfl;intro _;refine vAz<|nSz<|ldz rfl (.tail (.tail (.tail .head))) ask_rdW ?_;apply zS;rfl;rfl;infer_instance;exact .cons rfl .nil;intro w _;exact hSh w;refine vMz ?_;refine vEz ?_;refine vEz ?_;apply zU;rfl;intro _;refine zR rfl rfl .head (.whole rfl rfl rfl)<|vAz<|nNz<|zI<|sRz<|vMz ?_;refine lvz (.notF rfl (by with_reducible rfl)) ?_;refine vMz ?_;(iterate 3 refine gFz ?_);refine pTz<|nNz<|cTz<|zI ?_;apply CW.pre;refine AnyW.any 3 mixed (by decide +kernel) ?_;(try simp only [tsOf_cons,tsOf_nil,tsOf_app]);apply qD;rfl;rfl;rfl;exact zC;rfl;apply zO;apply zO;apply zP;exact zN;exact qF rfl;apply qD;rfl;rfl;rfl;exact zC;rfl;apply zO;apply zP;exact zN;exact qF rfl;apply DW.store;rfl;rfl;exact zC;rfl;rfl;apply TSet.tail;apply TSet.tail;apply TSet.head;exact zN;kernel_rfl;apply Wr.whole;rfl;rfl;rfl;apply DW.nil;simp only [fsOf_cons,fsOf_nil,fsOf_app,fsOf_tsOf,fsOf_new];refine zR rfl rfl (.tail .head) (.whole rfl rfl rfl)<|vAz<|nNz<|zK<|thenR ?_)
  exact fin (vs:=[frv zeroF,clv zeroC,.bool false]) [] (.inl rfl) rfl rfl (by (apply zD;apply zH;rfl;apply qE;apply zX;apply zX;apply zY;exact qF rfl;apply zD;apply zH;rfl;apply qE;apply zX;apply zY;exact qF rfl;apply zD;exact zG rfl;exact zF)) (List.nil_sublist _) ⟨rfl,rfl⟩
 |true =>
  have hF:¬ okF f L:=by
   rcases hbad with h|h
   ·rw [hb] at h;cases h
   ·exact h
  rw [hb] at hSh0
  have hSh:∀ w,Calls Tryz.prog 53 #[.agg (aska kind op (.slice p ws.length c) (.slice q d e))] w (Ret w (.tuple #[.agg (shc op).toArray,.bool true])):=hSh0
  have hFc:∀ w' {fs:Fs},St w [] fs w'→Calls Tryz.prog 31 #[frv f] w' (Ret w' (.int .i64 240)):=fun w' fs hst=>by have h:=hFc0 w' hst;rwa [if_neg hF] at h
  (refine sRz ?_;apply zT;rfl;rfl;intro _;apply zT;rfl;rfl;intro _;apply zT;rfl;rfl;intro _;apply zU;rfl;intro _;apply zU;rfl;intro _;refine vAz<|nSz<|ldz rfl (.tail (.tail (.tail .head))) ask_rdW ?_;apply zS;rfl;rfl;infer_instance;exact .cons rfl .nil;intro w _;exact hSh w;refine vMz ?_;refine vEz ?_;refine vEz ?_;apply zU;rfl;intro _;refine zR rfl rfl .head (.whole rfl rfl rfl)<|vAz<|nNz<|zI<|sRz<|vMz ?_;refine lvz (.notT rfl (by with_reducible rfl)) ?_;refine vMz<|gTz<|ldz rfl (.tail (.tail (.tail (.tail (.tail .head))))) fr_rdW<|gTz ?_;apply zS;rfl;rfl;infer_instance;exact .cons rfl .nil;intro w _;exact hFc w (by assumption);refine gTz ?_;refine lvz (.neT rfl rfl (by omega)) ?_;refine pFz<|nNz<|cTz<|zI ?_;apply CW.pre;refine AnyW.any 3 mixed (by decide +kernel) ?_;(try simp only [tsOf_cons,tsOf_nil,tsOf_app]);apply qD;rfl;rfl;rfl;exact zC;rfl;apply zO;apply zO;apply zP;exact zN;exact qF rfl;apply qD;rfl;rfl;rfl;exact zC;rfl;apply zO;apply zP;exact zN;exact qF rfl;apply DW.store;rfl;rfl;exact zC;rfl;rfl;apply TSet.tail;apply TSet.tail;apply TSet.head;exact zN;kernel_rfl;apply Wr.whole;rfl;rfl;rfl;apply DW.nil;simp only [fsOf_cons,fsOf_nil,fsOf_app,fsOf_tsOf,fsOf_new];refine zR rfl rfl (.tail .head) (.whole rfl rfl rfl)<|vAz<|nNz<|zK<|thenR ?_)
  exact fin (vs:=[frv zeroF,clv zeroC,.bool false]) [] (.inl rfl) rfl rfl (by (apply zD;apply zH;rfl;apply qE;apply zX;apply zX;apply zY;exact qF rfl;apply zD;apply zH;rfl;apply qE;apply zX;apply zY;exact qF rfl;apply zD;exact zG rfl;exact zF)) (List.nil_sublist _) ⟨rfl,rfl⟩
section bl
variable {f : FrV} {L L1 L2 : FrL} {A : AkV} {ws : List Nat} {i j g1 g2 : Nat}
theorem beginG_no1 (hi:(shq A.op).2.2.2.1=(i:Int)) (h1:reachG f.gas L (wordI ws (i:Int)) (wordI ws ((i:Int)+1))=none):beginG f L A ws=none:=by
 unfold beginG
 dsimp only
 rw [hi,h1]
theorem beginG_no2 (hi:(shq A.op).2.2.2.1=(i:Int)) (hj:(shq A.op).2.2.2.2.1=(j:Int)) (h1:reachG f.gas L (wordI ws (i:Int)) (wordI ws ((i:Int)+1))=some (g1,L1)) (h2:reachG g1 L1 (wordI ws (j:Int)) (wordI ws ((j:Int)+1))=none):beginG f L A ws=none:=by
 unfold beginG
 dsimp only
 rw [hi,h1]
 dsimp only
 rw [hj,h2]
theorem beginG_no3 (hi:(shq A.op).2.2.2.1=(i:Int)) (hj:(shq A.op).2.2.2.2.1=(j:Int)) (h1:reachG f.gas L (wordI ws (i:Int)) (wordI ws ((i:Int)+1))=some (g1,L1)) (h2:reachG g1 L1 (wordI ws (j:Int)) (wordI ws ((j:Int)+1))=some (g2,L2)) (h3:g2 < callV A.cold (whoC f A.op ws).mv A.new):beginG f L A ws=none:=by
 unfold beginG
 dsimp only
 rw [hi,h1]
 dsimp only
 rw [hj,h2]
 dsimp only
 rw [if_neg (by omega)]
theorem beginG_some (hi:(shq A.op).2.2.2.1=(i:Int)) (hj:(shq A.op).2.2.2.2.1=(j:Int)) (h1:reachG f.gas L (wordI ws (i:Int)) (wordI ws ((i:Int)+1))=some (g1,L1)) (h2:reachG g1 L1 (wordI ws (j:Int)) (wordI ws ((j:Int)+1))=some (g2,L2)) (h3:callV A.cold (whoC f A.op ws).mv A.new≤g2) :
  beginG f L A ws=some (g2 - callV A.cold (whoC f A.op ws).mv A.new - lentG g2 (callV A.cold (whoC f A.op ws).mv A.new) (ws.getD 0 0),L2,(L1.ms.drop (wordI ws (i:Int))).take (wordI ws ((i:Int)+1)),
   { whoC f A.op ws with pl:=if wordI ws ((j:Int)+1)=0 then 0 else wordI ws (j:Int),n:=wordI ws ((j:Int)+1),gas:=lentG g2 (callV A.cold (whoC f A.op ws).mv A.new) (ws.getD 0 0)+(if (whoC f A.op ws).mv then 230 else 0) }):=by
 unfold beginG
 dsimp only
 rw [hi,h1]
 dsimp only
 rw [hj,h2]
 dsimp only
 rw [if_pos h3]
end bl
theorem shq_ij {op n:Nat} (hne:op ≠ 245) (h1:(shq op).2.2.2.2.2=true) (h2:(n:Int)=(shq op).1):n≤7∧0 < n∧∃ i j:Nat,(shq op).2.2.2.1=(i:Int)∧(shq op).2.2.2.2.1=(j:Int)∧i+1 < n∧j+1 < n:=by
 rcases shq_ok h1 with ⟨_,hs⟩|⟨_,hs⟩|⟨ho,_⟩
 ·rw [hs] at h2 ⊢
  dsimp only at h2 ⊢
  exact ⟨by omega,by omega,3,5,rfl,rfl,by omega,by omega⟩
 ·rw [hs] at h2 ⊢
  dsimp only at h2 ⊢
  exact ⟨by omega,by omega,2,4,rfl,rfl,by omega,by omega⟩
 ·exact absurd ho hne
theorem cl_cells {c:ClV} (h1:∃ p n q,c.inp=.slice p n q) (h2:∃ p n q,c.code=.slice p n q):(cla c).toList.all Value.oneCell'=true:=by
 obtain ⟨_,_,_,h1⟩:=h1
 obtain ⟨_,_,_,h2⟩:=h2
 simp only [cla,clc,wc,List.cons_append,List.nil_append,List.all_cons,List.all_nil,h1,h2];rfl
theorem cl_wrW {P:Program} {T E:TypeId} {c:ClV} {z:Value} {cs:Array Value} [InfoI P T 15 z] (h:cs.size=15) (h1:(cla c).toList.all Value.oneCell'=true):Wr P T (.cells cs E (0,0)) 0 (clv c) (.cells (cla c) E (0,0)):=Wr.whole h rfl h1
section bk
variable {b : Nat} {f : FrV} {L : FrL} {A : AkV} {c : ClV} {a1 n1 a2 n2 : Nat} {rest fs' : Fs}
theorem BReachesK.plain:(BReachesK b f L A c a1 n1 a2 n2 rest).plain:=fun fs h=>by
 unfold BReachesK at h
 split at h
 ·cases h.1
 ·split at h
  ·cases h.1
  ·obtain ⟨_,_,_,_,_,_,_,_,h,_⟩:=h;cases h
theorem BReachesK.ret {v:Value} (h:BReachesK b f L A c a1 n1 a2 n2 rest (.returned v) fs'):∃ g1 L1 g2 L2,reachG f.gas L a1 n1=some (g1,L1)∧reachG g1 L1 a2 n2=some (g2,L2)∧∃ cc s m i b5 gs' lv gl,Ending.returned v=.returned (.tuple #[])∧FrO (f.rowsG g2 cc s m i b5) L2 gs'∧bM ((L1.ms.drop a1).take n1) lv gl∧fs'=(b,bgO (f.rowsG g2 cc s m i b5) A { c with inp:=lv,pl:=if n2=0 then 0 else a2,n:=n2 })::(gs'++(gl++rest)):=by
 unfold BReachesK at h
 split at h
 ·cases h.1
 ·rename_i h1
  split at h
  ·cases h.1
  ·rename_i h2
   exact ⟨_,_,_,_,h1,h2,h⟩
theorem BReachesK.pan {ch:List PanicEntry} (h:BReachesK b f L A c a1 n1 a2 n2 rest (.panicked ch) fs'):(reachG f.gas L a1 n1=none∨∃ g1 L1,reachG f.gas L a1 n1=some (g1,L1)∧reachG g1 L1 a2 n2=none)∧Ending.panicked ch=.panicked offC∧fs'=rest:=by
 unfold BReachesK at h
 split at h
 ·rename_i h1
  exact ⟨.inl h1,h⟩
 ·rename_i h1
  split at h
  ·rename_i h2
   exact ⟨.inr ⟨_,_,h1,h2⟩,h⟩
  ·obtain ⟨_,_,_,_,_,_,_,_,h,_⟩:=h;cases h
end bk
theorem whoC_code (f:FrV) (op:Nat) (ws:List Nat):∃ p n q,(whoC f op ws).code=.slice p n q:=by
 unfold whoC
 split<;>exact ⟨_,_,_,rfl⟩
theorem BeginC_calls (f:FrV) (L:FrL) (A:AkV) (ws:List Nat) (hM:∀ x∈ws,x < M256) (hd:∃ p n c,A.dt=.slice p n c) (hask:askB A.kind A.op ws.length=true) (hne:A.op ≠ 245) (hF:okF f L) (w:World) (hf:FrRows w f L) (hv:RowAt w 4 A.ws ws.length (wcs ws)) :
  Calls Tryz.prog 26 #[frv f,.agg (aska A.kind A.op A.ws A.dt),.agg #[.bool A.cold,.bool A.vl,.bool A.new]] w (RetG w [] (BegR f (beginG f L A ws))):=by
 have hst0:St w [] [] w:=⟨Bel.refl _ _ _,(fun p h=>by cases h),.nil⟩
 have hv0:=hv
 have hq0:=hask
 unfold askB at hq0
 rw [Bool.and_eq_true,Bool.and_eq_true,decide_eq_true_eq,decide_eq_true_eq] at hq0
 obtain ⟨hq1,hq2,hq3⟩:=hq0
 obtain ⟨kind,op,aws,dt,cold,vl,new⟩:=A
 obtain ⟨q,d,e,hd⟩:=hd
 dsimp only at hd hask hne hq1 hq2 hq3 hv ⊢
 subst hd
 obtain ⟨p,c,rfl,_,_⟩:=id hv.form
 have hzs:=zero_sl
 have hsl:=hf.sl
 have hSh:∀ w,Calls Tryz.prog 53 #[.agg (aska kind op (.slice p ws.length c) (.slice q d e))] w (Ret w (.tuple #[.agg (shc op).toArray,.bool true])):=fun w=>by
  have h:=shapeOf_calls kind op ws.length c p q d e w
  rwa [hask] at h
 have hFc:∀ w' {fs:Fs},St w [] fs w'→Calls Tryz.prog 31 #[frv f] w' (Ret w' (.int .i64 0)):=fun w' fs hst=>by have h:=fCheck_calls f L w' (hf.st hst);rwa [if_pos hF] at h
 refine calls_inlineD (w0:=w) (S:=[]) (args:=[_,_,_]) (R:=RetG w [] (BegR f (beginG f L ⟨kind,op,.slice p ws.length c,.slice q d e,cold,vl,new⟩ ws))) Tryz.func26 rfl Tryz.ntmps26 rfl ?_ hst0
 (refine sRz ?_;apply zT;rfl;rfl;intro _;apply zT;rfl;rfl;intro _;apply zT;rfl;rfl;intro _;apply zU;rfl;intro _;apply zU;rfl;intro _;refine vAz<|nSz<|ldz rfl (.tail (.tail (.tail .head))) ask_rdW ?_;apply zS;rfl;rfl;infer_instance;exact .cons rfl .nil;intro w _;exact hSh w;refine vMz ?_;refine vEz ?_;refine vEz ?_;apply zU;rfl;intro _;refine zR rfl rfl .head (.whole rfl rfl rfl)<|vAz<|nNz<|zI<|sRz<|vMz ?_;refine lvz (.notT rfl (by with_reducible rfl)) ?_;refine vMz<|gTz<|ldz rfl (.tail (.tail (.tail (.tail (.tail .head))))) fr_rdW<|gTz ?_;apply zS;rfl;rfl;infer_instance;exact .cons rfl .nil;intro w _;exact hFc w (by assumption);refine gTz ?_;refine lvz (.neF rfl rfl (by omega)) ?_;refine pFz<|nNz<|cFz<|zJ<|thenN<|sRz<|ldz rfl (.tail (.tail (.tail (.tail (.tail .head))))) fr_rdW<|ldz rfl .head sh_rdW<|ldz rfl (.tail (.tail (.tail (.tail .head)))) ask_rdW<|ldz rfl (.tail (.tail (.tail .head))) (qF rfl) ?_;apply LW.v0;rfl;rfl;apply zW;infer_instance;infer_instance;apply zA;rfl;apply zA;rfl;apply zA;rfl;apply zA;rfl;exact zB;rfl;simp only [fillP,wrCells,fra,frc,bga,bgl,shc,aska,wc,zeroC,clc,Value.cells,qH,qI,qJ,qG,qL,qK,List.cons_append,List.nil_append,Nat.reduceAdd,qN];rfl;apply zT;rfl;rfl;intro _;refine vAz<|nSz ?_)
 rename_i b3 b4 b5 b6 b7 b9 bB
 refine LW.subP (fs':=(bB,bgO f ⟨kind,op,.slice p ws.length c,.slice q d e,cold,vl,new⟩ zeroC)::(b6,.cells (fra zeroF) 31 (0,0))::(b7,.cells (cla zeroC) 33 (0,0))::(b4,.cells (aska kind op (.slice p ws.length c) (.slice q d e)) 61 (0,0))::[]) ?_ ?_
 ·exact subp_ix [[_],[_],[_],[_],[_],[_],[_]] (xs:=[0,3,2,5]) (ys:=[0,1,2,3,4,5,6]) [] rfl
 apply LW.defer
 rfl
 rfl
 (apply zV;refine thenM<|sRz<|vMz ?_;apply LW.v0;rfl;rfl;apply ValP.makeFunc;exact .cons rfl .nil;exact ArgsOk.nil;refine vAz<|nNz<|zI<|sRz<|vFz<|ldz rfl (.tail (.tail (.tail .head))) ask_rd1 ?_;refine lvz (.eqF rfl rfl (by omega)) ?_;refine nNz<|cFz<|zJ<|thenN<|zI<|sRz<|vMz ?_;apply LW.v0;rfl;rfl;apply ValP.makeFunc;exact .cons rfl .nil;exact ArgsOk.nil;refine vMz ?_;apply LW.v0;rfl;rfl;apply ValP.makeFunc;exact .cons rfl .nil;exact ArgsOk.nil;refine vMz ?_;apply LW.v0;rfl;rfl;apply ValP.buildA;apply zA;rfl;apply zA;rfl;apply zA;rfl;exact zB;rfl;simp only [fillC,wc,wrCells,Value.cells,qJ,qG,qL,qK,Nat.reduceAdd,Nat.reduceMul,qN,Nat.mul_one];rfl;refine vMz<|nNz<|zM ?_)
 obtain ⟨hw7,hw0,i,j,hqi,hqj,hi,hj⟩:=shq_ij hne hq1 hq3
 apply CW.rounds 4
 apply RW.step
 (refine sRz ?_;refine lvz (.lssT rfl rfl (by omega)) ?_;refine nNz<|zI<|cTz<|zJ<|thenN<|zI<|zM<|sRz<|lvz (.indexAL rfl rfl rfl rfl rfl)<|vAz<|nNz<|zL<|vMz ?_)
 refine LW.callP (K:=fun x fs'=>x=.returned (.tuple #[])∧fs'=(bB,bgO f ⟨kind,op,.slice p ws.length c,.slice q d e,cold,vl,new⟩ (whoC f op ws))::((b6,.cells (fra zeroF) 31 (0,0))::(b7,.cells (cla zeroC) 33 (0,0))::(b4,.cells (aska kind op (.slice p ws.length c) (.slice q d e)) 61 (0,0))::[])) rfl rfl inferInstance (by (exact ArgsOk.nil)) rfl (fun fs h=>by cases h.1) (fun w' hst=>who_calls w bB f ⟨kind,op,.slice p ws.length c,.slice q d e,cold,vl,new⟩ ws hM hq3.symm hq1 _ w' hv hst) ?_ ?_
 ·rintro v fs' ⟨h,rfl⟩
  cases h
  (apply zV;refine blkN<|thenN<|zL ?_;refine lvz (.addI rfl rfl (by omega) (by omega)) ?_;refine vMz ?_;apply zV;refine thenL ?_)
  apply RW.step
  (refine sRz ?_;refine lvz (.lssT rfl rfl (by omega)) ?_;refine nNz<|zI<|cTz<|zJ<|thenN<|zI<|zM<|sRz<|lvz (.indexAL rfl rfl rfl rfl rfl)<|vAz<|nNz<|zL<|vMz ?_)
  refine LW.callP (K:=BReachesK bB f L ⟨kind,op,.slice p ws.length c,.slice q d e,cold,vl,new⟩ (whoC f op ws) (wordI ws (i:Int)) (wordI ws ((i:Int)+1)) (wordI ws (j:Int)) (wordI ws ((j:Int)+1)) ((b6,.cells (fra zeroF) 31 (0,0))::(b7,.cells (cla zeroC) 33 (0,0))::(b4,.cells (aska kind op (.slice p ws.length c) (.slice q d e)) 61 (0,0))::[])) rfl rfl inferInstance (by (exact ArgsOk.nil)) rfl BReachesK.plain (fun w' hst=>breaches_calls w bB f L ⟨kind,op,.slice p ws.length c,.slice q d e,cold,vl,new⟩ _ ws hM i j hqi hqj hi hj (by omega) hF [] _ (.inl ⟨rfl,hf⟩) w' hv hst) ?_ ?_
  ·intro v fs' hK
   obtain ⟨g1,L1,g2,L2,hR1,hR2,cc,s1,m1,i1,x1,gs1,lv,gl,h1,hfr,hlv,rfl⟩:=hK.ret
   cases h1
   have hF1:=okF_reach (c:=cc) (s:=s1) (m:=m1) (i:=i1) (b:=x1) (okF_reach (c:=cc) (s:=s1) (m:=m1) (i:=i1) (b:=x1) hF hR1) hR2
   (apply zV;refine blkN<|thenN<|zL ?_;refine lvz (.addI rfl rfl (by omega) (by omega)) ?_;refine vMz ?_;apply zV;refine thenL ?_)
   apply RW.step
   (refine sRz ?_;refine lvz (.lssT rfl rfl (by omega)) ?_;refine nNz<|zI<|cTz<|zJ<|thenN<|zI<|zM<|sRz<|lvz (.indexAL rfl rfl rfl rfl rfl)<|vAz<|nNz<|zL<|vMz ?_)
   refine LW.callP (K:=BCallsK bB (f.rowsG g2 cc s1 m1 i1 x1) ⟨kind,op,.slice p ws.length c,.slice q d e,cold,vl,new⟩ { whoC f op ws with inp:=lv,pl:=if wordI ws ((j:Int)+1)=0 then 0 else wordI ws (j:Int),n:=wordI ws ((j:Int)+1) } (ws.getD 0 0) (gs1++(gl++((b6,.cells (fra zeroF) 31 (0,0))::(b7,.cells (cla zeroC) 33 (0,0))::(b4,.cells (aska kind op (.slice p ws.length c) (.slice q d e)) 61 (0,0))::[])))) rfl rfl inferInstance (by (exact ArgsOk.nil)) rfl (fun fs h=>by rcases h with ⟨_,h,_⟩|⟨_,h,_⟩<;>cases h) (fun w' hst=>bcalls_calls w bB (f.rowsG g2 cc s1 m1 i1 x1) ⟨kind,op,.slice p ws.length c,.slice q d e,cold,vl,new⟩ _ ws hM hw0 (by omega) hF1.1.2.2 _ w' hv hst) ?_ ?_
   ·rintro v fs' (⟨_,h,_⟩|⟨hk,h,rfl⟩)
    ·cases h
    ·cases h
     have hBeg:=beginG_some (f:=f) (L:=L) (A:=⟨kind,op,.slice p ws.length c,.slice q d e,cold,vl,new⟩) (ws:=ws) hqi hqj hR1 hR2 hk
     rw [hBeg]
     (apply zV;refine blkN<|thenN<|zL ?_;refine lvz (.addI rfl rfl (by omega) (by omega)) ?_;refine vMz ?_;apply zV;refine thenL ?_)
     apply RW.step
     (refine sRz ?_;refine lvz (.lssF rfl rfl (by omega)) ?_;refine nNz<|zI<|cFz<|CW.exit<|thenE<|thenE<|blkE rfl<|thenN<|zI ?_)
     have hfr3:FrO ((f.rowsG g2 cc s1 m1 i1 x1).setGas (g2 - callV cold (whoC f op ws).mv new - lentG g2 (callV cold (whoC f op ws).mv new) (ws.getD 0 0))) L2 gs1:=hfr
     have hfa:FrA w ((f.rowsG g2 cc s1 m1 i1 x1).setGas (g2 - callV cold (whoC f op ws).mv new - lentG g2 (callV cold (whoC f op ws).mv new) (ws.getD 0 0))) L2 gs1:=.inr hfr3
     obtain ⟨us,hbl,hin,hrows⟩:=hfa.lie
     have hlv':=hlv
     unfold bM at hlv'
     obtain ⟨q4,k4,rfl⟩:=hlv'.form
     apply CW.pre
     (refine AnyW.anyM [(4,CopyR ((f.rowsG g2 cc s1 m1 i1 x1).setGas (g2 - callV cold (whoC f op ws).mv new - lentG g2 (callV cold (whoC f op ws).mv new) (ws.getD 0 0))) L2)] 10 mixed (by decide +kernel) ?_)
     ((try simp only [tsOf_cons,tsOf_nil,tsOf_app]);refine dvz (.move rfl)<|dvz (.nilCheck rfl)<|dvz (.fieldAddr rfl rfl) ?_;apply qD;rfl;rfl;rfl;exact zC;rfl;apply zP;exact zN;exact bg_rdF)
     refine DW.manyA us rfl rfl rfl (by (exact zC)) rfl inferInstance (by (exact .cons rfl .nil)) (by rw [List.flatMap_cons];exact (List.append_nil _).trans hbl) (fun p hp=>?_) (fun w' hb hu=>callCopied_calls _ L2 hF1.short w' (hrows w' hb hu)) ?_
     ·rcases hin p hp with h|h
      ·exact .inl ⟨[],[],by simp [tsOf,h],anc_nil⟩
      ·exact .inr ⟨h,by simp⟩
     rintro vT gT ⟨c4,s4,m4,i4,x4,rfl,hfr4⟩
     have hsl4:=hfr4.sl
     have hcl4:=cl_cells (c:={ whoC f op ws with pl:=if wordI ws ((j:Int)+1)=0 then 0 else wordI ws (j:Int),n:=wordI ws ((j:Int)+1),gas:=lentG g2 (callV cold (whoC f op ws).mv new) (ws.getD 0 0)+(if (whoC f op ws).mv then 230 else 0),inp:=.slice q4 (List.take (wordI ws ((i:Int)+1)) (List.drop (wordI ws (i:Int)) L1.ms)).length k4 }) ⟨_,_,_,rfl⟩ (whoC_code f op ws)
     simp only [markAll_app,markAll_cons,markAll_tsOf,markAll_nil]
     ((try simp only [tsOf_cons,tsOf_nil,tsOf_app]);refine dvz (.move rfl)<|dvz (.nilCheck rfl)<|dvz (.fieldAddr rfl rfl) ?_;apply qD;rfl;rfl;rfl;exact zC;rfl;apply zQ;apply zP;exact zN;exact bg_rdC;apply DW.store;rfl;rfl;exact zC;rfl;rfl;apply TSet.app;apply TSet.tail;apply TSet.app;apply TSet.app;apply TSet.head;exact zN;kernel_rfl;apply fr_wrW;rfl;assumption;apply DW.nil;simp only [fsOf_cons,fsOf_nil,fsOf_app,fsOf_tsOf,fsOf_new,fsOf_tag])
     try simp only [fsOf_mark,fsOf_cons,fsOf_nil,fsOf_app,fsOf_tsOf,fsOf_new,fsOf_tag,List.append_eq,List.nil_append]
     (apply zR;rfl;rfl;apply qC;apply qB;apply qC;apply qC;apply qB;apply qA;apply cl_wrW;rfl;exact hcl4;refine vAz<|nNz<|zK ?_)
     refine outDI (.inl rfl) rfl fun a w2 s2=>?_
     refine leaves_clo (K:=fun e fs'=>e=.returned (.tuple #[])∧∃ b1,fs'=b1::_) inferInstance (fun h=>by cases h) (begin1_idle w [] _ w2 s2.st) (fun fs h=>by cases h.1) ?_ ?_
     ·rintro v fs' w' ⟨_,b1,rfl⟩ hst
      refine leaves_end (vs:=[frv (f.rowsG (g2 - callV cold (whoC f op ws).mv new - lentG g2 (callV cold (whoC f op ws).mv new) (ws.getD 0 0)) c4 s4 m4 i4 x4),clv { whoC f op ws with pl:=if wordI ws ((j:Int)+1)=0 then 0 else wordI ws (j:Int),n:=wordI ws ((j:Int)+1),gas:=lentG g2 (callV cold (whoC f op ws).mv new) (ws.getD 0 0)+(if (whoC f op ws).mv then 230 else 0),inp:=.slice q4 (List.take (wordI ws ((i:Int)+1)) (List.drop (wordI ws (i:Int)) L1.ms)).length k4 },.bool true]) (w:=w') rfl s2.env hst ?_ rfl ?_
      ·(apply zD;apply zH;rfl;apply qE;apply zX;apply zZ;apply zX;apply zZ;apply zZ;apply zY;exact fr_rdW;apply zD;apply zH;rfl;apply qE;apply zX;apply zZ;apply zX;apply zZ;apply zZ;apply zX;apply zY;exact cl_rdW;apply zD;exact zG rfl;exact zF)
      ·have h9:=st_sub (gs:=gT++gl) hst (.cons _ (.append_left (.cons _ (List.Sublist.trans (qP gl _) (List.sublist_append_right gs1 _))) _))
       unfold RetG
       exact ⟨_,gT++gl,rfl,⟨c4,s4,m4,i4,x4,_,gT,gl,rfl,rfl,hfr4,hlv⟩,hst.bel,h9.own,h9.nd⟩
     ·rintro ch fs' w' ⟨h,_⟩
      cases h
   ·rintro ch fs' (⟨hk,h,rfl⟩|⟨_,h,_⟩)
    ·cases h
     have hBeg:=beginG_no3 (f:=f) (L:=L) (A:=⟨kind,op,.slice p ws.length c,.slice q d e,cold,vl,new⟩) (ws:=ws) hqi hqj hR1 hR2 hk
     rw [hBeg]
     (repeat (first|refine thenP ?_|refine blkP ?_))
     refine outDP rfl fun a w2 s2=>?_
     refine leaves_clo (K:=fun e fs'=>e=.returned (.tuple #[])∧∃ b1,fs'=b1::_) inferInstance (fun h=>by cases h) (begin1_off w [] _ w2 s2.st) (fun fs h=>by cases h.1) ?_ ?_
     ·rintro v fs' w' ⟨_,b1,rfl⟩ hst
      refine leaves_end (vs:=[frv zeroF,clv zeroC,.bool false]) (w:=w') rfl s2.env hst ?_ rfl ?_
      ·(apply zD;apply zH;rfl;apply qE;apply zX;apply zZ;apply zZ;apply zY;exact fr_rdW;apply zD;apply zH;rfl;apply qE;apply zX;apply zZ;apply zZ;apply zX;apply zY;exact cl_rdW;apply zD;exact zG rfl;exact zF)
      ·unfold RetG;exact ⟨_,[],rfl,⟨rfl,rfl⟩,hst.bel,(fun p hp=>by cases hp),.nil⟩
     ·rintro ch fs' w' ⟨h,_⟩
      cases h
    ·cases h
  ·intro ch fs' hK
   obtain ⟨hno,h1,rfl⟩:=hK.pan
   cases h1
   have hBeg:beginG f L ⟨kind,op,.slice p ws.length c,.slice q d e,cold,vl,new⟩ ws=none:=by
    rcases hno with h|⟨g1,L1,h1,h2⟩
    ·exact beginG_no1 hqi h
    ·exact beginG_no2 hqi hqj h1 h2
   rw [hBeg]
   (repeat (first|refine thenP ?_|refine blkP ?_))
   refine outDP rfl fun a w2 s2=>?_
   refine leaves_clo (K:=fun e fs'=>e=.returned (.tuple #[])∧∃ b1,fs'=b1::_) inferInstance (fun h=>by cases h) (begin1_off w [] _ w2 s2.st) (fun fs h=>by cases h.1) ?_ ?_
   ·rintro v fs' w' ⟨_,b1,rfl⟩ hst
    refine leaves_end (vs:=[frv zeroF,clv zeroC,.bool false]) (w:=w') rfl s2.env hst ?_ rfl ?_
    ·(apply zD;apply zH;rfl;apply qE;apply zX;apply zY;exact fr_rdW;apply zD;apply zH;rfl;apply qE;apply zX;apply zX;apply zY;exact cl_rdW;apply zD;exact zG rfl;exact zF)
    ·unfold RetG;exact ⟨_,[],rfl,⟨rfl,rfl⟩,hst.bel,(fun p hp=>by cases hp),.nil⟩
   ·rintro ch fs' w' ⟨h,_⟩
    cases h
 ·rintro ch fs' ⟨h,_⟩
  cases h
end
section
attribute [local irreducible] shq
def plF:FrV:=⟨.slice none 0 0,0,.slice none 0 0,.slice none 0 0,5000,20,0,0,.slice none 0 0,.slice none 0 0,false⟩
def plW:List Nat:=[100,21,0,0,0,0,32]
def PlainK (v:Value) (gs:Fs):Prop:=∃ b,v=.tuple #[frv plF,.agg (aska 2 241 (.slice (some ⟨b,0,none⟩) 7 7) (.slice none 0 0))]∧gs=[(b,.cells (wcs plW).toArray 29 (0,0))]
theorem lplain_calls (w:World):Calls Tryz.prog 37 #[.int .u64 100,.int .u64 0] w (RetG w [] PlainK):=by
 refine enter (args:=[_,_]) _ [] [] Tryz.func37 rfl Tryz.ntmps37 rfl (by simp) .nil ?_
 (refine sRz ?_;apply zU;rfl;intro _;apply zU;rfl;intro _;refine nSz ?_;apply LW.v0;rfl;rfl;apply zW;infer_instance;infer_instance;apply zA;rfl;apply zA;rfl;exact zB;rfl;simp only [fillP,wrCells,fra,frc,wc,Value.cells,qH,qI,qJ,qG,qL,qK,List.cons_append,List.nil_append,Nat.reduceAdd,qN];rfl;refine vMz ?_;refine lvz (.buildW1L rfl (by decide) rfl) ?_;refine lvz (.buildW1L rfl (by decide) rfl) ?_;refine vMz ?_;refine lvz (.buildW1L rfl (by decide) rfl) ?_;apply LW.v0;rfl;rfl;exact ValP.buildW0;apply LW.v0;rfl;rfl;exact ValP.buildW0;apply LW.v0;rfl;rfl;exact ValP.buildW0;refine lvz (.buildW1L rfl (by decide) rfl) ?_)
 refine LW.n0 rfl rfl (NewP.buildSN (vs:=[(0,wv 100),(1,wv 21),(2,wv 0),(3,wv 0),(4,wv 0),(5,wv 0),(6,wv 32)]) (c:=(wcs plW).toArray) inferInstance inferInstance (by (apply zA;rfl;apply zA;rfl;apply zA;rfl;apply zA;rfl;apply zA;rfl;apply zA;rfl;apply zA;rfl;exact zB)) rfl rfl (by kernel_rfl) (by kernel_rfl)) fun g=>?_
 simp only [Sh.val]
 (apply LW.v0;rfl;rfl;apply zW;infer_instance;infer_instance;apply zA;rfl;apply zA;rfl;apply zA;rfl;exact zB;rfl;simp only [fillP,wrCells,fra,frc,wc,Value.cells,qH,qI,qJ,qG,qL,qK,List.cons_append,List.nil_append,Nat.reduceAdd,qN];rfl;refine zR rfl rfl (.tail (.tail .head)) (.whole rfl rfl rfl) ?_;refine zR rfl rfl (.tail .head) (.whole rfl rfl rfl)<|nNz<|zK ?_)
 refine fin (vs:=[frv plF,.agg (aska 2 241 (.slice (some ⟨g,0,none⟩) 7 7) (.slice none 0 0))]) [(g,.cells (wcs plW).toArray 29 (0,0))] (.inl rfl) rfl rfl (by (apply zD;apply zH;rfl;apply qE;apply zX;apply zX;apply zY;exact qF rfl;apply zD;apply zH;rfl;apply qE;apply zX;apply zY;exact qF rfl;exact zF)) ?_ ⟨g,rfl,rfl⟩
 exact List.Sublist.cons_cons _ (List.nil_sublist _)
def wkL:FrL:=⟨[],[],List.replicate 32 0,[],[]⟩
def wkC (lv:Value):ClV:=⟨241,21,21,20,0,false,100,lv,.slice none 0 0,0,32,false⟩
def wkE:FrL:=⟨[],[1],7::List.replicate 31 0,[],[7]⟩
theorem wk_begin (v:Value):beginG plF zeroL ⟨2,241,v,.slice none 0 0,false,false,false⟩ plW=some (4887,wkL,[],wkC (.slice none 0 0)):=by kernel_rfl
theorem wk_ask:askB 2 241 7=true:=by kernel_rfl
theorem wk_okF:okF plF zeroL:=by unfold okF okSc plF zeroL;simp
theorem wk_okC (lv:Value):okC (wkC lv) ⟨[],[]⟩:=by unfold okC wkC;simp
theorem wk_okS (lv:Value):okS (wkC lv) ⟨[],[]⟩ [0]:=⟨wk_okC lv,by unfold wkC;simp,by simp⟩
theorem wk_okE {c s m i b lv:Value}:okE (plF.rowsG 4887 c s m i b) wkL (wkC lv) ⟨[],[]⟩ 40 [7]:=by
 refine ⟨?_,wk_okC lv,?_,?_⟩
 ·unfold okF okSc wkL FrV.rowsG plF;simp
 ·unfold wkC FrV.rowsG wkL;simp
 ·unfold wkL;simp
theorem wk_end (lv:Value):endL wkL (wkC lv) true [7]=wkE:=by
 unfold endL wkE wkL wkC overL laidW
 simp
theorem lwakes_calls (w:World):Calls Tryz.prog 9 #[] w (Ret w (.bool true)):=by
 refine enter (args:=[]) _ [] [] Tryz.func9 rfl Tryz.ntmps9 rfl (by simp) .nil ?_
 (refine sRz<|vAz<|nSz ?_)
 (apply LW.callR;rfl;rfl;infer_instance;exact .cons rfl (.cons rfl .nil);intro w hs)
 exact lplain_calls w
 rintro v1 gs1 ⟨bp,rfl,rfl⟩
 have hsl0:FrSl plF:=⟨⟨_,_,_,rfl⟩,⟨_,_,_,rfl⟩,⟨_,_,_,rfl⟩,⟨_,_,_,rfl⟩,⟨_,_,_,rfl⟩⟩
 (refine vMz ?_;refine vEz ?_;refine vEz ?_;apply zU;rfl;intro _;apply zU;rfl;intro _;refine zR rfl rfl (.tail .head) (.whole rfl rfl rfl) ?_;refine zR rfl rfl .head (.whole rfl rfl rfl)<|nSz<|ldz rfl (.tail .head) fr_rdW<|ldz rfl .head ask_rdW ?_;apply LW.v0;rfl;rfl;apply zW;infer_instance;infer_instance;exact zB;rfl;simp only [fillP,wrCells,fra,frc,wc,Value.cells,qH,qI,qJ,qG,qL,qK,List.cons_append,List.nil_append,Nat.reduceAdd,qN];rfl)
 rename_i b1 b2
 (apply LW.callR;rfl;rfl;infer_instance;exact .cons rfl (.cons rfl (.cons rfl .nil));intro w hs)
 have h:=BeginC_calls plF zeroL ⟨2,241,.slice (some ⟨bp,0,none⟩) 7 7,.slice none 0 0,false,false,false⟩ plW (by intro x hx;simp [plW] at hx;rcases hx with rfl|rfl|rfl|rfl<;>decide) ⟨_,_,_,rfl⟩ wk_ask (by show (241:Nat) ≠ 245;decide) wk_okF w ⟨.nil,.nil,.nil,.nil,.nil⟩ (row_cells (hs.own (bp,_) (qO _ (qO _ List.mem_cons_self))).2 rfl rfl (by simp [maxLen]))
 rw [wk_begin] at h
 exact h
 rintro v2 gs2 ⟨c1,s1,m1,i1,x1,lv,g1,g2,rfl,rfl,hfr,hlv⟩
 change LW _ _ _ _ ((17,.tuple #[frv ⟨c1,0,s1,m1,4887,20,0,0,i1,x1,false⟩,clv (wkC lv),.bool true])::_) _
 have hsl1:FrSl ⟨c1,0,s1,m1,4887,20,0,0,i1,x1,false⟩:=hfr.sl
 have hlv':=hlv
 unfold bM at hlv'
 obtain ⟨ql,kl,rfl⟩:=hlv'.form
 have hcl:=cl_cells (c:=wkC (.slice ql ([]:List UInt8).length kl)) ⟨_,_,_,rfl⟩ ⟨_,_,_,rfl⟩
 (refine vMz ?_;refine vEz ?_;refine vEz ?_;refine vEz ?_;apply zU;rfl;intro _;apply zU;rfl;intro _;apply zR;rfl;rfl;apply qB;apply qA;apply fr_wrW;rfl;assumption;refine zR rfl rfl .head (.whole rfl rfl rfl)<|vAz<|nNz<|zI<|sRz<|vMz ?_;refine lvz (.notT rfl (by with_reducible rfl)) ?_;refine vMz<|gTz<|vFz<|gTz<|ldz rfl (.tail .head) fr_rd4<|gTz ?_;refine lvz (.neF rfl rfl (by omega)) ?_;refine pFz<|vMz<|gTz<|vFz<|gTz<|ldz rfl .head cl_rd1<|gTz ?_;refine lvz (.neF rfl rfl (by omega)) ?_;refine pFz<|vMz<|gTz<|vFz<|gTz<|ldz rfl .head cl_rd3<|gTz ?_;refine lvz (.neF rfl rfl (by omega)) ?_;refine pFz<|vMz<|gTz<|vFz<|gTz<|ldz rfl .head cl_rd9<|gTz ?_;refine lvz (.neF rfl rfl (by omega)) ?_;refine pFz<|vMz<|gTz<|vFz<|gTz<|ldz rfl .head cl_rd13<|gTz ?_;refine lvz (.neF rfl rfl (by omega)) ?_;refine pFz<|nNz<|cFz<|zJ<|thenN<|sRz<|ldz rfl .head cl_rdW ?_;apply LW.lay1;rfl;infer_instance;infer_instance;rfl;rfl;rfl;rfl;rfl;rfl;intro _)
 rename_i b3 b4 b50
 (apply LW.callR;rfl;rfl;infer_instance;exact .cons rfl (.cons rfl .nil);intro w hs)
 have hri:RowAt w 1 (.slice ql ([]:List UInt8).length kl) ([]:List UInt8).length (ucs []):=IsRow.us hlv' (fun p hp=>(hs.own p (qO _ (qO _ (qO _ (List.mem_append_left _ (List.mem_append_right _ hp)))))).2) (qM _)
 have h:=Start_calls (wkC (.slice ql ([]:List UInt8).length kl)) ⟨[],[]⟩ [0] (by simp) (by simp) (by simp) _ w (row_cells (n:=1) (hs.own (b50,_) List.mem_cons_self).2 rfl rfl (by simp [maxLen])) ⟨hri,.nil⟩
 exact h
 rintro v3 gs3 (⟨_,a3,b3',d3,e3,f3,rfl,hfr3⟩|⟨hno,_,_⟩)
 ·change LW _ _ _ _ ((51,.tuple #[frv ⟨a3,0,b3',d3,100,21,20,0,e3,f3,false⟩,.int .i64 0])::_) _
  have hsl3:FrSl ⟨a3,0,b3',d3,100,21,20,0,e3,f3,false⟩:=hfr3.sl
  (refine vMz ?_;refine vEz ?_;refine vEz ?_;apply zU;rfl;intro _;apply zR;rfl;rfl;apply qA;apply fr_wrW;rfl;assumption;refine vAz<|nSz<|ldz rfl (.tail (.app (.tail (.tail .head)))) fr_rdW<|ldz rfl (.tail (.app (.tail .head))) cl_rdW ?_;apply LW.lay1;rfl;infer_instance;infer_instance;rfl;rfl;rfl;rfl;rfl;rfl;intro _;apply LW.v0;rfl;rfl;apply zW;infer_instance;infer_instance;apply zA;rfl;apply zA;rfl;apply zA;rfl;exact zB;rfl;simp only [fillP,wrCells,fra,frc,wc,Value.cells,qH,qI,qJ,qG,qL,qK,List.cons_append,List.nil_append,Nat.reduceAdd,qN];rfl)
  rename_i b6 b57
  (apply LW.callR;rfl;rfl;infer_instance;exact .cons rfl (.cons rfl (.cons rfl .nil));intro w hs)
  have hri:RowAt w 1 (.slice ql ([]:List UInt8).length kl) ([]:List UInt8).length (ucs []):=IsRow.us hlv' (fun p hp=>(hs.own p (qO _ (qO _ (List.mem_append_right _ (qO _ (qO _ (qO _ (List.mem_append_left _ (List.mem_append_right _ hp))))))))).2) (qM _)
  have h:=callEnd_calls ⟨c1,0,s1,m1,4887,20,0,0,i1,x1,false⟩ wkL (wkC (.slice ql ([]:List UInt8).length kl)) ⟨[],[]⟩ true 40 [7] (by show (21:Nat) < 18446744073709551616;decide) (by decide) _ w (hfr.st hs (fun p hp=>qO _ (qO _ (List.mem_append_right _ (qO _ (qO _ (qO _ (List.mem_append_left _ (List.mem_append_left _ hp))))))))) ⟨hri,.nil⟩ (row_cells (n:=1) (hs.own (b57,_) List.mem_cons_self).2 rfl rfl (by simp [maxLen]))
  exact h
  rintro v4 gs4 (⟨_,a4,s4,m4,i4,x4,rfl,hfr4⟩|⟨hno,_,_⟩)
  ·rw [wk_end] at hfr4
   change LW _ _ _ _ ((59,.tuple #[frv ⟨a4,0,s4,m4,4927,20,0,0,i4,x4,false⟩,.bool true])::_) _
   have hsl4:FrSl ⟨a4,0,s4,m4,4927,20,0,0,i4,x4,false⟩:=hfr4.sl
   obtain ⟨h1,h2,h3,h4,h5,hperm,k1,k2,k3,k4,k5⟩:=hfr4
   refine LW.perm (fs':=(h1++(h2++(h3++(h4++h5))))++_) (hperm.append_right _) ?_
   unfold bM at k3
   unfold wM at k2
   obtain ⟨q2,c2,rfl⟩:=k2.form
   obtain ⟨q3,c3,rfl⟩:=k3.form
   obtain ⟨gm,cur,rfl,rfl,hn3,hm3,hsz3,htk3⟩:=k3.pos (by show 0 < wkE.ms.length;unfold wkE;simp)
   have hrd7:Rd Tryz.prog 5 (.cells cur 5 (0,0)) (0+0 * 1) (.int .u8 7):=Rd.elem1 (l:=wkE.ms) (i:=0) (m:=wkE.ms.length * 1) (by rw [List.drop_zero];exact htk3) (ucs_one _) rfl rfl
   have hw1:wkE.ws.length=1:=rfl
   have hw2:wkE.ms.length=32:=rfl
   simp only [List.append_assoc,List.cons_append,List.nil_append]
   (refine vMz ?_;refine vEz ?_;refine vEz ?_;apply zU;rfl;intro _;apply zR;rfl;rfl;apply qA;apply fr_wrW;rfl;assumption;refine vAz<|nSz<|vMz ?_;refine lvz (.eqT rfl rfl (by omega)) ?_;refine vMz<|gTz<|vFz<|gTz<|ldz rfl (.tail (.app (.app (.tail (.app (.app (.tail .head))))))) fr_rd5<|gTz ?_;refine lvz (.eqT rfl rfl (by omega)) ?_;refine pTz<|vMz<|gTz<|vMz<|pTz<|vMz<|gTz<|vFz<|gTz<|ldz rfl .head fr_rd4<|gTz ?_;refine lvz (.eqT rfl rfl (by omega)) ?_;refine pTz<|vMz<|gTz<|vFz<|gTz<|vFz<|gTz<|ldz rfl .head fr_rd2s<|gTz<|lvz (.lenR rfl inferInstance rfl)<|gTz ?_;refine lvz (.eqT rfl rfl (by omega)) ?_;refine pTz<|vMz<|gTz<|vFz<|gTz<|vFz<|gTz<|ldz rfl .head fr_rd3<|gTz ?_;refine lvz (.indexAddrSL rfl rfl (by decide) (by omega)) ?_;refine gTz ?_;refine ldz rfl (.tail (.app (.app .head))) (by assumption) ?_;refine gTz ?_;refine lvz (.eqT rfl rfl (by omega)) ?_;refine pTz<|vAz<|nNz<|zK ?_)
   (apply finR;exact .inl rfl;rfl;rfl;rfl;apply zD;exact zG rfl;exact zF)
   rfl
  ·exact absurd wk_okE hno
 ·exact absurd (wk_okS _) hno
end
section
theorem row_few {w:World} {l:List UInt8} {n k c:Nat} {p:Option Addr} (h:RowAt w 1 (.slice p l.length c) l.length (ucs l)) (hn:n=min l.length k):RowAt w 1 (.slice p n c) (l.take k).length (ucs (l.take k)):=by
 have h1:=h.take (k:=n) (by omega)
 rw [ucs_take] at h1
 have h2:l.take n=l.take k:=by rw [hn,Nat.min_comm,← List.take_take,List.take_length]
 have h3:(l.take k).length=n:=by rw [List.length_take];omega
 rw [h2] at h1
 rw [h3]
 exact h1
theorem row_fewW {w:World} {l:List Nat} {n k c:Nat} {p:Option Addr} (h:RowAt w 4 (.slice p l.length c) l.length (wcs l)) (hn:n=min l.length k):RowAt w 4 (.slice p n c) (l.take k).length (wcs (l.take k)):=by
 have h1:=h.take (k:=n) (by omega)
 rw [wcs_take] at h1
 have h2:l.take n=l.take k:=by rw [hn,Nat.min_comm,← List.take_take,List.take_length]
 have h3:(l.take k).length=n:=by rw [List.length_take];omega
 rw [h2] at h1
 rw [h3]
 exact h1
section wr
variable {P : Program} {T E : TypeId} {op dst self frm val gas pl n q k : Nat} {inp code z : Value} {mv stat : Bool} {p : Option Addr}
end wr
def ClO (c:ClV) (L:ClL) (gs:Fs):Prop:=∃ g1 g2,gs=g2++g1∧bM L.il c.inp g1∧bM L.cl c.code g2
end
section
attribute [local irreducible] SL.inP
end
end Go.Proofs.YtpgdnfgjbhdbpaaGreatDoor
