/-
  Texts that were built apart, put behind one another (4 of 6).
  Conditions: none.
-/
import Derived.Test.YtdeggbkbblfpoaaGreatDoorZ3
open Go.Proofs.Tryz
namespace Go.Proofs.YtdeggbkbblfpoaaGreatDoor
open Go Go.RowKit SL
set_option maxRecDepth 8000
set_option maxHeartbeats 4000000
set_option linter.unusedSimpArgs false
set_option linter.unusedVariables false
attribute [local irreducible] SL.CW SL.LW SL.DW Calls SL.Ret SL.RetG SL.beginQ SL.roundQ SL.rangeQ SL.inQ SL.RW SL.AnyW SL.thenQ SL.thenC SL.thenW SL.blkQ SL.finQ SL.ValP SL.NewP SL.SetP SL.CallP SL.Rd SL.Wr SL.Known
section
theorem dTBqMR {P:Prop} (h:P:=by
 obtain ⟨_,_,h1⟩:=h1.form
 obtain ⟨_,_,h2⟩:=h2.form
 obtain ⟨_,_,h3⟩:=h3.form
 obtain ⟨_,_,h4⟩:=h4.form
 obtain ⟨_,_,h5⟩:=h5.form
 exact ⟨⟨_,_,_,h1⟩,⟨_,_,_,h2⟩,⟨_,_,_,h3⟩,⟨_,_,_,h4⟩,⟨_,_,_,h5⟩⟩):P:=h
theorem dTBQoW {P:Prop} (h:P:=by
 simp only [jR,yA,jQ]
 exact subp_ix [[_],gg2,gg1,[_],g1,g2,g3,g4,g5] (xs:=[3,4,2,1,7,8]) (ys:=[0,1,2,3,4,5,6,7,8]) rest rfl):P:=h
attribute [local irreducible] SL.inP
def FrV.setR (f:FrV) (g:Nat) (s k:Value):FrV:={ f with gas:=g,stk:=s,mem:=k }
def FrV.rowsG (f:FrV) (g:Nat) (c s m i b:Value):FrV:=⟨c,f.pc,s,m,g,f.self,f.frm,f.val,i,b,f.stat⟩
def FrL.setW (L:FrL) (ws:List Nat):FrL:={ L with ws:=ws }
theorem FrO.sl {f:FrV} {L:FrL} {gs:Fs} (h:FrO f L gs):FrSl f:=by
 obtain ⟨g1,g2,g3,g4,g5,_,h1,h2,h3,h4,h5⟩:=h
 unfold bM at h1 h3 h4 h5
 unfold wM at h2
 exact dTBqMR
def LayK (b:Nat) (m:MaV) (L:FrL) (gs:Fs) (l:List Nat) (rest:Fs):Out:=fun x fs' =>
 (64 < L.ws.length+l.length∧x=.panicked failC∧fs'=(b,maO m)::(gs++rest)) ∨
 (L.ws.length+l.length≤64∧∃ s k gs',x=.returned (.tuple #[])∧FrO (m.fr.setR m.fr.gas s k) (L.setW (L.ws++l)) gs'∧fs'=(b,maO (m.setF (m.fr.setR m.fr.gas s k)))::(gs'++rest))
theorem lay_calls (w0:World) (S:List Nat) (b:Nat) (m:MaV) (L:FrL) (gs:Fs) (l:List Nat) (v:Value) (hok:okSc L.ws.length L.ms.length) (hll:l.length≤100000) (hfr:FrO m.fr L gs) (rest:Fs) (w:World)
  (hv:∀ w',St w0 S ((b,maO m)::(gs++rest)) w'→RowAt w' 4 v l.length (wcs l)) (hs:St w0 S ((b,maO m)::(gs++rest)) w) :
  Calls prog 74 #[.pointer (some ⟨b,0,none⟩),v] w (fun x w'=>∃ fs',LayK b m L gs l rest x fs'∧St w0 S fs' w'):=by
 have h1:∀ w',St w0 S ((b,maO m)::(gs++rest)) w'→RowAt w' 4 m.fr.stk L.ws.length (wcs L.ws)∧RowAt w' 1 m.fr.mem L.ms.length (ucs L.ms)∧RowAt w' 4 v l.length (wcs l):=fun w' h=>by
  have hr:=hfr.st h fun p hp=>jI _ (yG _ hp)
  exact ⟨hr.s,hr.m,hv w' h⟩
 rcases jM 64 (L.ws.length+l.length) with hlt|hge
 ·refine vG (lay_full w0 S b m L.ws L.ms l v (gs++rest) w hs h1 hok hll hlt) ?_
  rintro x w' ⟨fs',⟨rfl,c4,rfl⟩,hst⟩
  exact ⟨_,.inl ⟨hlt,rfl,rfl⟩,st_sub hst (jK _ (jG _))⟩
 ·refine vG (lay_ok w0 S b m L.ws L.ms l v (gs++rest) w hs h1 hok hll hge) ?_
  rintro x w' ⟨fs',⟨rfl,s,k,gs2,c4,⟨s',k',gg1,gg2,he,rfl,hw1,hb1⟩,rfl⟩,hst⟩
  cases he
  obtain ⟨g1,g2,g3,g4,g5,hp,hall⟩:=hfr
  replace hst:=hst.perm (fs':=c4::((gg2++gg1)++(b,maO (m.setSc s k))::((g1++(g2++(g3++(g4++g5))))++rest))) (List.Perm.cons _ (List.Perm.append_left _ (List.Perm.cons _ (hp.append_right rest))))
  refine ⟨_,.inr ⟨hge,s,k,g1++(gg1++(gg2++(g4++g5))),rfl,⟨g1,gg1,gg2,g4,g5,.refl _,hall.1,hw1,hb1,hall.2.2.2.1,hall.2.2.2.2⟩,rfl⟩,SubP.st ?_ hst⟩
  exact dTBQoW
def DoK (b:Nat) (f:FrV) (R:Option (Nat × FrL)) (rest:Fs):Out:=fun x fs'=>match R with
 |none=>x=.panicked failC∧fs'=rest
 |some (g,L')=>∃ s k gs',x=.returned (.tuple #[])∧FrO (f.setR g s k) L' gs'∧fs'=(b,maO (ma0 (f.setR g s k) 0 0 0 0))::(gs'++rest)
def zeroF:FrV:=⟨.slice none 0 0,0,.slice none 0 0,.slice none 0 0,0,0,0,0,.slice none 0 0,.slice none 0 0,false⟩
def zeroL:FrL:=⟨[],[],[],[],[]⟩
theorem zero_frO:FrO zeroF zeroL []:=⟨[],[],[],[],[],.refl _,.nil,.nil,.nil,.nil,.nil⟩
def ToldK (f:FrV) (R:Option (Nat × FrL)) (fs:Fs):Out:=fun x fs'=>match R with
 |none=>x=.returned (.tuple #[frv zeroF,.bool false])∧fs'=fs
 |some (g,L')=>∃ c s m i b gs',x=.returned (.tuple #[frv (f.rowsG g c s m i b),.bool true])∧FrO (f.rowsG g c s m i b) L' gs'∧fs'=gs'++fs
def Does (w0:World) (S:List Nat) (f:FrV) (L:FrL) (fs:Fs) (fn:FuncId) (cap:Array Value) (R:Option (Nat × FrL)):Prop :=
 ∀ b c s m i b5 gs rest w',FrO (f.rows c s m i b5) L gs→(∀ p∈fs,p∈rest)→St w0 S ((b,maO (ma0 (f.rows c s m i b5) 0 0 0 0))::(gs++rest)) w' →
  Calls prog fn (Value.pointer (some ⟨b,0,none⟩)::cap.toList).toArray w' (fun x w''=>∃ fs',DoK b (f.rows c s m i b5) R rest x fs'∧St w0 S fs' w'')
theorem told1_calls (w0:World) (S:List Nat) (f:FrV) (L:FrL) (fs:Fs) (fn:FuncId) (cap:Array Value) (R:Option (Nat × FrL)) (hF:FnI prog fn) (hd:Does w0 S f L fs fn cap R) (b b3 b6:Nat) (c s m i b5:Value) (gs R0:Fs) (hfr:FrO (f.rows c s m i b5) L gs)
  (hsub:∀ p∈fs,p∈R0) (h3:(b3,Obj.cells #[.func (.func fn) #[] cap] 116 (0,0))∈R0) (h6:(b6,Obj.cells #[.pointer (some ⟨b,0,none⟩)] 74 (0,0))∈R0) (w:World) (hs:St w0 S ((b,maO (ma0 (f.rows c s m i b5) 0 0 0 0))::(gs++R0)) w) :
  Calls prog 117 #[.pointer (some ⟨b3,0,none⟩),.pointer (some ⟨b6,0,none⟩)] w (fun x w'=>∃ fs',DoK b (f.rows c s m i b5) R R0 x fs'∧St w0 S fs' w'):=by
 have k3:(b3,Obj.cells #[.func (.func fn) #[] cap] 116 (0,0))∈(b,maO (ma0 (f.rows c s m i b5) 0 0 0 0))::(gs++R0):=jI _ (jT _ h3)
 have k6:(b6,Obj.cells #[.pointer (some ⟨b,0,none⟩)] 74 (0,0))∈(b,maO (ma0 (f.rows c s m i b5) 0 0 0 0))::(gs++R0):=jI _ (jT _ h6)
 refine qX (K:=DoK b (f.rows c s m i b5) R R0) (args:=[_,_]) func117 rfl ntmps117 rfl ?_ hs
 (refine goZ ?_;apply LW.load;rfl;rfl;exact Known.own k3;exact Rd.one' rfl;apply LW.load;rfl;rfl;exact Known.own k6;exact Rd.one' rfl)
 refine qP (K:=DoK b (f.rows c s m i b5) R R0) (aas:=.pointer (some ⟨b,0,none⟩)::cap.toList) rfl rfl hF (by (exact .cons rfl .nil)) rfl (fun fs h=>?_) (fun w' hst=>hd b c s m i b5 gs R0 w' hfr hsub hst) ?_ ?_
 ·unfold DoK at h
  cases R with
  |none=>cases h.1
  |some x=>obtain ⟨_,_,_,h,_⟩:=h;cases h
 ·intro v fs' h
  cases R with
  |none=>cases h.1
  |some x =>
   obtain ⟨s',k',gs',h1,h2,h3⟩:=h
   cases h1
   (refine goZ ?_)
   exact inPI (.inr rfl) .nil rfl .nil rfl ⟨s',k',gs',rfl,h2,h3⟩
 ·intro ch fs' h
  cases R with
  |none =>
   obtain ⟨h1,h2⟩:=h
   cases h1
   exact inPP .nil ⟨rfl,h2⟩
  |some x=>obtain ⟨_,_,_,h,_⟩:=h;cases h
theorem DoK.try {b:Nat} {f:FrV} {R:Option (Nat × FrL)} {fs:Fs}:TryK (DoK b f R fs):=fun x fs' h=>by
 cases R with
 |none=>exact .inr h.1
 |some x=>obtain ⟨_,_,_,h,_⟩:=h;exact .inl h
theorem DoK.app {b:Nat} {f:FrV} {R:Option (Nat × FrL)} {R0 rest:Fs} {x:Ending} {fs':Fs} (h:DoK b f R (R0++rest) x fs'):∃ own',DoK b f R R0 x own'∧fs'=own'++rest:=by
 cases R with
 |none =>
  obtain ⟨h1,rfl⟩:=h
  exact ⟨R0,⟨h1,rfl⟩,rfl⟩
 |some x =>
  obtain ⟨s,k,gs',h1,h2,rfl⟩:=h
  exact ⟨_,⟨s,k,gs',h1,h2,rfl⟩,by simp⟩
section rd
variable {P : Program} {T E : TypeId} {fr : Nat × Nat} {m : MaV}
theorem ma_rdF [AgI P T true] {z:Value} [InfoI P T 14 z]:Rd P T (.cells (mca m) E fr) 0 (frv m.fr):=Rd.mid (cs:=frc m.fr) rfl rfl
end rd
theorem told_calls (w0:World) (S:List Nat) (f:FrV) (L:FrL) (fs:Fs) (fn:FuncId) (cap:Array Value) (R:Option (Nat × FrL)) (hl:L.short) (hF:FnI prog fn) (hd:Does w0 S f L fs fn cap R) (hok:okF f L) (w:World) (hs:St w0 S fs w) (hf:∀ w',Bel w0.heap.size S w0 w'→FrRows w' f L) :
  Calls prog 71 #[frv f,.func (.func fn) #[] cap] w (fun x w'=>∃ fs',ToldK f R fs x fs'∧St w0 S fs' w'):=by
 refine calls_anyO (qX (K:=anyO (ToldK f R fs)) (args:=[_,_]) func71 rfl ntmps71 rfl ?_ hs)
 (refine goZ ?_;intro _;apply LW.box1;rfl;rfl;rfl;intro _;refine goZ ?_;intro _)
 (apply zS;rfl;rfl;exact vF;exact .cons rfl .nil;intro w _)
 rename_i hst
 have h0:=fCheck_calls f L w (hf w hst.bel)
 rw [if_pos hok] at h0
 exact h0
 (refine goZ ?_;refine bTz ?_)
 (refine crz (c:=fun w hs=>by exact fOf_calls f L 0 0 0 0 hl w (hf w hs.bel)) (k:=?_))
 rintro v gso ⟨bm,c,s,m,i,b5,g,rfl,rfl,hfr⟩
 rename_i b2 b3 b4
 (apply LW.alloc1;rfl;rfl;intro _;refine goZ ?_;apply qN;rfl;rfl;apply ValP.makeFunc;exact qT;exact .cons rfl (.cons rfl .nil))
 rename_i b6
 refine qV (fs':=(bm,maO (ma0 (f.rows c s m i b5) 0 0 0 0))::(g++((b6,.cells #[.pointer (some ⟨bm,0,none⟩)] 74 (0,0))::(b4,.cells #[.slice none 0 0,.int .i64 0,.slice none 0 0,.slice none 0 0,.int .u64 0,.int .u64 0,.int .u64 0,.int .u64 0,.int .u64 0,.int .u64 0,.int .u64 0,.slice none 0 0,.slice none 0 0,.bool false] 31 (0,0))::(b3,.cells #[.func (.func fn) #[] cap] 116 (0,0))::(b2,.cells (fra f) 31 (0,0))::fs))) ?_ ?_
 ·simp only [yA]
  exact perm_ix [[_],[_],g,[_],[_],[_]] (xs:=[1,2,0,3,4,5]) (ys:=[0,1,2,3,4,5]) fs rfl
 generalize hR0:((b6,Obj.cells #[.pointer (some ⟨bm,0,none⟩)] 74 (0,0))::(b4,Obj.cells #[.slice none 0 0,.int .i64 0,.slice none 0 0,.slice none 0 0,.int .u64 0,.int .u64 0,.int .u64 0,.int .u64 0,.int .u64 0,.int .u64 0,.int .u64 0,.slice none 0 0,.slice none 0 0,.bool false] 31 (0,0))::(b3,Obj.cells #[.func (.func fn) #[] cap] 116 (0,0))::(b2,Obj.cells (fra f) 31 (0,0))::fs)=R0
 refine qP (K:=fun x fs'=>∃ ok own',x=.returned (.bool ok)∧DoK bm (f.rows c s m i b5) R R0 (match ok with|true=>.returned (.tuple #[])|false=>.panicked failC) own'∧fs'=own'++[]) rfl rfl vF agZ rfl (fun fs h=>by obtain ⟨_,_,h,_⟩:=h;cases h)
  (fun w' hst=>tries_calls w0 S 117 #[.pointer (some ⟨b3,0,none⟩),.pointer (some ⟨b6,0,none⟩)] (DoK bm (f.rows c s m i b5) R R0) DoK.try vF ((bm,maO (ma0 (f.rows c s m i b5) 0 0 0 0))::(g++R0)) [] w' (fun rest w2 h2=>?_) (by rw [yM];exact hst)) ?_ ?_
 ·rw [yA,jR] at h2
  refine vG (told1_calls w0 S f L fs fn cap R hF hd bm b3 b6 c s m i b5 g (R0++rest) hfr ?_ ?_ ?_ w2 h2) ?_
  ·intro p hp;rw [← hR0];simp [hp]
  ·rw [← hR0];simp
  ·rw [← hR0];simp
  ·rintro x w3 ⟨fs',hk,h3⟩
   obtain ⟨own',h4,rfl⟩:=hk.app
   exact ⟨_,⟨own',h4,rfl⟩,h3⟩
 ·rintro v fs' ⟨ok,own',h1,h2,rfl⟩
  cases h1
  rw [yM]
  cases R with
  |none =>
   obtain ⟨h3,rfl⟩:=h2
   cases ok with
   |true=>cases h3
   |false =>
    subst hR0
    (refine goZ ?_;refine bTz ?_)
    refine inPI (.inl rfl) .nil rfl rsZ rfl ⟨fs,⟨rfl,rfl⟩,subp_ix [[_],[_],[_],[_]] (xs:=[]) (ys:=[0,1,2,3]) fs rfl⟩
  |some x =>
   obtain ⟨gg,L'⟩:=x
   obtain ⟨s',k',gs',h3,h4,rfl⟩:=h2
   cases ok with
   |false=>cases h3
   |true =>
    subst hR0
    have hsl:FrSl (ma0 ((f.rows c s m i b5).setR gg s' k') 0 0 0 0).fr:=h4.sl
    (refine goZ ?_;refine ldy (c:=by exact ma_rdF) (k:=?_))
    refine inPI (.inl rfl) .nil rfl rsZ rfl ⟨gs'++fs,⟨c,s',k',i,b5,gs',rfl,h4,rfl⟩,subp_ix [[_],gs',[_],[_],[_],[_]] (xs:=[1]) (ys:=[0,1,2,3,4,5]) fs rfl⟩
 ·rintro ch fs' ⟨_,_,h,_⟩
  cases h
end
section
attribute [local irreducible] SL.inP
def ToldR (f:FrV) (R:Option (Nat × FrL)) (v:Value) (gs:Fs):Prop:=match R with
 |none=>v=.tuple #[frv zeroF,.bool false]∧gs=[]
 |some (g,L')=>∃ c s m i b,v=.tuple #[frv (f.rowsG g c s m i b),.bool true]∧FrO (f.rowsG g c s m i b) L' gs
def reachR (f:FrV) (L:FrL) (a n:Nat):Option (Nat × FrL):=if costR L a n≤f.gas then some (f.gas - costR L a n,memR L a n) else none
def tellR (f:FrV) (L:FrL) (cost:Nat) (l:List Nat):Option (Nat × FrL):=if cost≤f.gas∧L.ws.length+l.length≤64 then some (f.gas - cost,L.setW (L.ws++l)) else none
theorem okF.short {f:FrV} {L:FrL} (h:okF f L):L.short:=by
 obtain ⟨⟨h1,h2,_⟩,_,h4,⟨h5,h6,_⟩,_⟩:=h
 exact ⟨by omega,by omega,by omega,by omega,by omega⟩
theorem told_bad (w0:World) (S:List Nat) (f:FrV) (L:FrL) (fs:Fs) (fn:FuncId) (cap:Array Value) (hok:¬ okF f L) (w:World) (hs:St w0 S fs w) (hf:∀ w',Bel w0.heap.size S w0 w'→FrRows w' f L) :
  Calls prog 71 #[frv f,.func (.func fn) #[] cap] w (fun x w'=>∃ fs',ToldK f none fs x fs'∧St w0 S fs' w'):=by
 have hC:∀ w' {fs},St w0 S fs w'→Calls prog 34 #[frv f] w' (Ret w' (.int .i64 240)):=fun w' fs hst=>by
  have h0:=fCheck_calls f L w' (hf w' hst.bel)
  rw [if_neg hok] at h0
  exact h0
 refine calls_anyO (qX (K:=anyO (ToldK f none fs)) (args:=[_,_]) func71 rfl ntmps71 rfl ?_ hs)
 (refine goZ ?_;intro _;apply LW.box1;rfl;rfl;rfl;intro _;refine goZ ?_;intro _;refine cEz (c:=fun w _=>by exact hC w (by assumption)) (k:=?_);refine bTz ?_)
 refine inPI (.inl rfl) .nil rfl rsZ rfl ⟨fs,⟨rfl,rfl⟩,subp_ix [[_],[_],[_]] (xs:=[]) (ys:=[0,1,2]) fs rfl⟩
theorem zero_sl:FrSl zeroF:=zero_frO.sl
theorem ToldK.ret {f:FrV} {R:Option (Nat × FrL)} {fs fs':Fs} {x:Ending} (h:ToldK f R fs x fs'):∃ v,x=.returned v:=by
 cases R with
 |none=>exact ⟨_,h.1⟩
 |some x=>obtain ⟨_,_,_,_,_,_,h,_⟩:=h;exact ⟨_,h⟩
theorem tell1_does (w0:World) (S:List Nat) (f:FrV) (L:FrL) (cost:Nat) (l:List Nat) (v:Value) (hll:l.length≤100000) (hv:∀ w',Bel w0.heap.size S w0 w'→RowAt w' 4 v l.length (wcs l)) (hok:okF f L) (fs:Fs) (b4 b5:Nat) (k4:(b4,Obj.cells #[.int .u64 (cost:Int)] 26 (0,0))∈fs) (k5:(b5,Obj.cells #[v] 23 (0,0))∈fs) :
  Does w0 S f L fs 72 #[.pointer (some ⟨b4,0,none⟩),.pointer (some ⟨b5,0,none⟩)] (tellR f L cost l):=by
 intro b c s m i b0 gs rest w hfr hsub hs
 have k4:=jI (b,maO (ma0 (f.rows c s m i b0) 0 0 0 0)) (jT gs (hsub _ k4))
 have k50:=jI (b,maO (ma0 (f.rows c s m i b0) 0 0 0 0)) (jT gs (hsub _ k5))
 refine calls_anyO (qX (K:=anyO (DoK b (f.rows c s m i b0) (tellR f L cost l) rest)) (args:=[_,_,_]) func72 rfl ntmps72 rfl ?_ hs)
 (refine goZ ?_;apply LW.load;rfl;rfl;exact Known.own k4;exact Rd.one' rfl;refine goZ ?_;intro _)
 rename_i b6
 refine qV (fs':=(b,maO (ma0 (f.rows c s m i b0) 0 0 0 0))::(gs++((b6,.cells #[.int .u64 (cost:Int)] 26 (0,0))::rest))) ?_ ?_
 ·exact perm_ix [[_],[_],gs] (xs:=[1,2,0]) (ys:=[0,1,2]) rest rfl
 refine qP (K:=MaK b (ma0 (f.rows c s m i b0) 0 0 0 0) (spendM (ma0 (f.rows c s m i b0) 0 0 0 0) [cost]) (gs++((b6,.cells #[.int .u64 (cost:Int)] 26 (0,0))::rest))) rfl rfl vF agZ rfl (fun fs h=>?_) (fun w' hst=>spend_calls w0 S b _ [cost] (yR hok.1.2.2 (by decide)) _ _ w' hst (fun w2 h2=>row_cells (h2.own (b6,_) (jI _ (jT _ jV))).2 rfl rfl (by simp [maxLen]))) ?_ ?_
 ·unfold MaK at h
  split at h<;>cases h.1
 ·rcases jM f.gas cost with hlt|hge
  ·have hsp:spendM (ma0 (f.rows c s m i b0) 0 0 0 0) [cost]=none:=by unfold spendM;rw [if_neg (by simp;exact hlt)]
   rw [hsp]
   rintro v fs' ⟨h,_⟩
   cases h
  ·have hsp:spendM (ma0 (f.rows c s m i b0) 0 0 0 0) [cost]=some (ma0 ((f.rows c s m i b0).setR (f.gas - cost) s m) 0 0 0 0):=by unfold spendM;rw [if_pos (by simp;exact hge)];simp;rfl
   rw [hsp]
   rintro v fs' ⟨h,rfl⟩
   cases h
   have k5:(b5,Obj.cells #[v] 23 (0,0))∈(b,maO (ma0 ((f.rows c s m i b0).setR (f.gas - cost) s m) 0 0 0 0))::(gs++(b6,Obj.cells #[.int .u64 (cost:Int)] 26 (0,0))::rest):=jI _ (jT _ (jI _ (hsub _ k5)))
   (refine goZ ?_;apply LW.load;rfl;rfl;exact Known.own k5;exact Rd.one' rfl)
   have hfr1:FrO ((f.rows c s m i b0).setR (f.gas - cost) s m) L gs:=hfr
   refine qP (K:=LayK b (ma0 ((f.rows c s m i b0).setR (f.gas - cost) s m) 0 0 0 0) L gs l ((b6,Obj.cells #[.int .u64 (cost:Int)] 26 (0,0))::rest)) rfl rfl vF agZ rfl (fun fs h=>by rcases h with ⟨_,h,_⟩|⟨_,_,_,_,h,_⟩<;>cases h) (fun w' hst=>lay_calls w0 S b _ L gs l v hok.2.2.2.1 hll hfr1 _ w' (fun w2 h2=>hv w2 h2.bel) hst) ?_ ?_
   ·rintro v fs' (⟨_,h,_⟩|⟨hc,s',k',gs',h,hfr',rfl⟩)
    ·cases h
    ·have hR:tellR f L cost l=some (f.gas - cost,L.setW (L.ws++l)):=by unfold tellR;exact if_pos ⟨hge,hc⟩
     rw [hR]
     cases h
     (refine goZ ?_)
     exact inPI (.inr rfl) .nil rfl .nil rfl ⟨_,⟨s',k',gs',rfl,hfr',rfl⟩,_,jP _ (jL (List.sublist_cons_self _ _) _),.refl _⟩
   ·rintro ch fs' (⟨hc,h,rfl⟩|⟨_,_,_,_,h,_⟩)
    ·have hR:tellR f L cost l=none:=by unfold tellR;exact if_neg (fun h=>by omega)
     rw [hR]
     cases h
     exact inPP .nil ⟨rest,⟨rfl,rfl⟩,_,jK _ (List.Sublist.trans (List.sublist_cons_self _ _) (jN _ _)),.refl _⟩
    ·cases h
 ·rcases jM f.gas cost with hlt|hge
  ·have hsp:spendM (ma0 (f.rows c s m i b0) 0 0 0 0) [cost]=none:=by unfold spendM;rw [if_neg (by simp;exact hlt)]
   rw [hsp]
   rintro ch fs' ⟨h,rfl⟩
   have hR:tellR f L cost l=none:=by unfold tellR;exact if_neg (fun h=>by omega)
   rw [hR]
   cases h
   refine thenP ?_
   exact inPP .nil ⟨rest,⟨rfl,rfl⟩,_,jK _ (List.Sublist.trans (List.sublist_cons_self _ _) (jN _ _)),.refl _⟩
  ·have hsp:spendM (ma0 (f.rows c s m i b0) 0 0 0 0) [cost]=some (ma0 ((f.rows c s m i b0).setR (f.gas - cost) s m) 0 0 0 0):=by unfold spendM;rw [if_pos (by simp;exact hge)];simp;rfl
   rw [hsp]
   rintro ch fs' ⟨h,_⟩
   cases h
theorem Tell_calls (f:FrV) (L:FrL) (cost:Nat) (l:List Nat) (v:Value) (hll:l.length≤100000) (w:World) (hv:RowAt w 4 v l.length (wcs l)) (h:FrRows w f L):Calls prog 28 #[frv f,.int .u64 (cost:Int),v] w (RetG w [] (ToldR f (if okF f L then tellR f L cost l else none))):=by
 obtain ⟨p,cc,rfl,_,_⟩:=id hv.form
 refine enter (args:=[_,_,_]) _ [] [] func28 rfl ntmps28 rfl (by simp) .nil ?_
 have hzs:=zero_sl
 (refine goZ ?_;intro _;apply LW.box1;rfl;rfl;rfl;intro _;apply LW.box1;rfl;rfl;rfl;intro _;refine goZ ?_;intro _;apply qN;rfl;rfl;apply ValP.makeFunc;exact qT;exact .cons rfl (.cons rfl .nil))
 rename_i b3 b4 b5 b6
 refine qP (K:=ToldK f (if okF f L then tellR f L cost l else none) ((b6,Obj.cells (fra zeroF) 31 (0,0))::(b5,Obj.cells #[.slice p l.length cc] 23 (0,0))::(b4,Obj.cells #[.int .u64 (cost:Int)] 26 (0,0))::(b3,Obj.cells (fra f) 31 (0,0))::[])) rfl rfl vF agZ rfl (fun fs h=>?_) (fun w' hst=>?_) ?_ ?_
 ·obtain ⟨_,h⟩:=h.ret;cases h
 ·by_cases hok:okF f L
  ·rw [if_pos hok]
   exact told_calls w [] f L _ _ _ _ hok.short vF (tell1_does w [] f L cost l _ hll (fun w2 hb=>hv.bel hb) hok _ b4 b5 (by simp) (by simp)) hok w' hst fun w2 hb=>h.bel hb
  ·rw [if_neg hok]
   exact told_bad w [] f L _ _ _ hok w' hst fun w2 hb=>h.bel hb
 ·intro v fs' hk
  cases hR:(if okF f L then tellR f L cost l else none) with
  |none =>
   rw [hR] at hk
   obtain ⟨h1,rfl⟩:=hk
   cases h1
   (refine goZ ?_)
   exact fin (vs:=[frv zeroF,.bool false]) [] (.inl rfl) rfl rfl rsZ (List.nil_sublist _) ⟨rfl,rfl⟩
  |some x =>
   rw [hR] at hk
   obtain ⟨g,L'⟩:=x
   obtain ⟨c,s,m,i,b,gs',h1,hfr,rfl⟩:=hk
   cases h1
   have hsl:=hfr.sl
   (refine goZ ?_)
   exact fin (vs:=[frv (f.rowsG g c s m i b),.bool true]) gs' (.inl rfl) rfl rfl rsZ (jJ _ _) ⟨c,s,m,i,b,rfl,hfr⟩
 ·intro ch fs' h
  obtain ⟨_,h⟩:=h.ret
  cases h
end
section
open CK (CheckC_calls)
def aska (kind:Int) (op:Nat) (ws dt:Value):Array Value:=#[.int .i64 kind,.int .u8 (op:Int),ws,dt]
section rd
variable {P : Program} {T E : TypeId} {fr : Nat × Nat} {kind : Int} {op : Nat} {ws dt : Value}
end rd
theorem word_rd {P:Program} {T E:TypeId} {fr:Nat × Nat} {cs:Array Value} {off m:Nat} {l:List Nat} [AgI P T true] {z:Value} [InfoI P T 4 z] (hx:(cs.toList.drop off).take m=wcs l) (i:Nat) (hi:i < l.length):Rd P T (.cells cs E fr) (off+i * 4) (wv (l.getD i 0)):=by
 have h:=Rd.elemA (P:=P) (T:=T) (E:=E) (fr:=fr) (g:=fun a=>(wc a).toList) (l:=l) (a:=l[i]) hx (wcs_len l) (jO hi)
 rw [jU,jO hi]
 exact h
end
section
open CK (CheckC_calls)
structure ClV where
 op:Nat
 dst:Nat
 self:Nat
 frm:Nat
 val:Nat
 mv:Bool
 gas:Nat
 inp:Value
 code:Value
 pl:Nat
 n:Nat
 stat:Bool
section rd
variable {P : Program} {T E : TypeId} {fr : Nat × Nat} {op dst self frm val gas pl n : Nat} {inp code : Value} {mv stat : Bool}
end rd
end
theorem dTBSxj {P:Prop} (h:P:=by
 obtain ⟨b1,off1,c',cs1,E1,fr1,heq,hbk1,hx1⟩:=ha.pos (by omega)
 cases heq
 obtain ⟨b2,off2,c',cs2,E2,fr2,heq,hbk2,hx2⟩:=hb.pos (by omega)
 cases heq
 have hlt2:k < b.length:=by omega
 obtain ⟨x,hx⟩:∃ x,a[k]=x:=⟨_,rfl⟩
 obtain ⟨y,hy⟩:∃ y,b[k]=y:=⟨_,rfl⟩
 have hrd1:Rd prog 5 (.cells cs1 E1 fr1) (off1+k * 1) (.int .u8 (x.toNat:Int)):=Rd.elem1 hx1 (ucs_one a) (jO hlt) (by rw [hx])
 have hrd2:Rd prog 5 (.cells cs2 E2 fr2) (off2+k * 1) (.int .u8 (y.toNat:Int)):=Rd.elem1 hx2 (ucs_one b) (jO hlt2) (by rw [hy])
 by_cases he:x=y
 ·subst he
  (refine goZ ?_;refine CW.quiet rfl mixed (by decide +kernel) ?_;refine goZ ?_)
  apply thenX
  refine ⟨rfl,k+1,⟨hlt,fun j hj=>?_⟩,by omega,⟨rfl,rfl,rfl,rfl,trivial⟩,jG _⟩
  rcases jM j k with h|h
  ·exact hall j h
  ·obtain rfl:j=k:=by omega
   rw [jO hlt,jO hlt2,hx,hy]
 ·have hne:¬ (x.toNat:Int)=(y.toNat:Int):=fun h=>he (UInt8.toNat_inj.1 (by omega))
  rw [vA (fun h:a=b=>he (by rw [← hx,← hy];subst h;rfl))]
  (refine goZ ?_;refine CW.quiet rfl mixed (by decide +kernel) ?_;refine goZ ?_)
  (refine fiz ?_)
  rfl):P:=h
theorem rSame1_calls (a b:List UInt8) (va vb:Value) (w:World) (ha:RowAt w 1 va a.length (ucs a)) (hb:RowAt w 1 vb b.length (ucs b)):Calls prog 46 #[va,vb] w (Ret w (.bool (decide (a=b)))):=by
 obtain ⟨p0,c0,rfl,hc0,hm0⟩:=ha.form
 obtain ⟨p1,c1,rfl,hc1,hm1⟩:=hb.form
 simp only [maxLen] at hm0 hm1
 refine enter (args:=[_,_]) _ [] [] func46 rfl ntmps46 rfl (by simp) .nil ?_
 by_cases hl:a.length=b.length
 ·(refine goZ ?_)
  refine qM (fun k:Nat=>([(0,.slice p0 a.length c0),(1,.slice p1 b.length c1),(12,.int .i64 (a.length:Int)),(13,.int .i64 (k:Int))],[]))
   (fun k=>k≤a.length∧∀ j,j < k→a[j]?=b[j]?) (fun k=>a.length - k) 0 ⟨Nat.zero_le _,fun j h=>absurd h (Nat.not_lt_zero _)⟩ ⟨rfl,rfl,rfl,rfl,trivial⟩ (jG _) ?_
  rintro k ⟨hk,hall⟩
  dsimp only
  rcases jM k a.length with hlt|hge
  ·exact dTBSxj
  ·rw [vE (List.ext_getElem? fun j=>by
    rcases jM j k with h|h
    ·exact hall j h
    ·rw [yN (by omega),yN (by omega)])]
   exact dTBJyT
 ·rw [vA (fun h:a=b=>hl (by rw [h]))]
  exact dTBJyT
theorem rSameB_calls (a b:List UInt8) (va vb:Value) (w:World) (ha:RowAt w 1 va a.length (ucs a)) (hb:RowAt w 1 vb b.length (ucs b)):Calls prog 101 #[va,vb] w (Ret w (.bool (decide (a=b)))):=by
 obtain ⟨p0,c0,rfl,hc0,hm0⟩:=ha.form
 obtain ⟨p1,c1,rfl,hc1,hm1⟩:=hb.form
 simp only [maxLen] at hm0 hm1
 refine enter (args:=[_,_]) _ [] [] func101 rfl ntmps101 rfl (by simp) .nil ?_
 by_cases hl:a.length=b.length
 ·(refine goZ ?_)
  refine qM (fun k:Nat=>([(0,.slice p0 a.length c0),(1,.slice p1 b.length c1),(4,.bool false),(5,.int .i64 (k:Int))],[]))
   (fun k=>k≤a.length∧∀ j,j < k→a[j]?=b[j]?) (fun k=>a.length - k) 0 ⟨Nat.zero_le _,fun j h=>absurd h (Nat.not_lt_zero _)⟩ ⟨rfl,rfl,rfl,rfl,trivial⟩ (jG _) ?_
  rintro k ⟨hk,hall⟩
  dsimp only
  rcases jM k a.length with hlt|hge
  ·exact dTBSxj
  ·rw [vE (List.ext_getElem? fun j=>by
    rcases jM j k with h|h
    ·exact hall j h
    ·rw [yN (by omega),yN (by omega)])]
   exact dTBJyT
 ·rw [vA (fun h:a=b=>hl (by rw [h]))]
  exact dTBJyT
theorem rSameW_calls (a b:List Nat) (hwa:∀ x∈a,x < M256) (hwb:∀ x∈b,x < M256) (va vb:Value) (w:World) (ha:RowAt w 4 va a.length (wcs a)) (hb:RowAt w 4 vb b.length (wcs b)):Calls prog 48 #[va,vb] w (Ret w (.bool (decide (a=b)))):=by
 obtain ⟨p0,c0,rfl,hc0,hm0⟩:=ha.form
 obtain ⟨p1,c1,rfl,hc1,hm1⟩:=hb.form
 simp only [maxLen] at hm0 hm1
 refine enter (args:=[_,_]) _ [] [] func48 rfl ntmps48 rfl (by simp) .nil ?_
 by_cases hl:a.length=b.length
 ·(refine goZ ?_)
  refine qM (fun k:Nat=>([(0,.slice p0 a.length c0),(1,.slice p1 b.length c1),(4,.bool false),(5,.int .i64 (k:Int))],[]))
   (fun k=>k≤a.length∧∀ j,j < k→a[j]?=b[j]?) (fun k=>a.length - k) 0 ⟨Nat.zero_le _,fun j h=>absurd h (Nat.not_lt_zero _)⟩ ⟨rfl,rfl,rfl,rfl,trivial⟩ (jG _) ?_
  rintro k ⟨hk,hall⟩
  dsimp only
  rcases jM k a.length with hlt|hge
  ·obtain ⟨b1,off1,c',cs1,E1,fr1,heq,hbk1,hx1⟩:=ha.pos (by omega)
   cases heq
   obtain ⟨b2,off2,c',cs2,E2,fr2,heq,hbk2,hx2⟩:=hb.pos (by omega)
   cases heq
   have hlt2:k < b.length:=by omega
   obtain ⟨x,hx⟩:∃ x,a[k]=x:=⟨_,rfl⟩
   obtain ⟨y,hy⟩:∃ y,b[k]=y:=⟨_,rfl⟩
   have hxl:x < M256:=by rw [← hx];exact hwa _ (List.getElem_mem hlt)
   have hyl:y < M256:=by rw [← hy];exact hwb _ (List.getElem_mem hlt2)
   have hrd1:Rd prog 29 (.cells cs1 E1 fr1) (off1+k * 4) (wv x):=by have h:=word_rd (P:=prog) (T:=29) (E:=E1) (fr:=fr1) hx1 k hlt;rwa [jU,jO hlt,Option.getD_some,hx] at h
   have hrd2:Rd prog 29 (.cells cs2 E2 fr2) (off2+k * 4) (wv y):=by have h:=word_rd (P:=prog) (T:=29) (E:=E2) (fr:=fr2) hx2 k hlt2;rwa [jU,jO hlt2,Option.getD_some,hy] at h
   by_cases he:x=y
   ·subst he
    (refine goZ ?_;refine CW.quiet rfl mixed (by decide +kernel) ?_;refine goZ ?_;apply QW.v0;rfl;exact zC;apply ValP.neWF;rfl;rfl;(with_reducible rfl);refine goZ ?_)
    apply thenX
    refine ⟨rfl,k+1,⟨hlt,fun j hj=>?_⟩,by omega,⟨rfl,rfl,rfl,rfl,trivial⟩,jG _⟩
    rcases jM j k with h|h
    ·exact hall j h
    ·obtain rfl:j=k:=by omega
     rw [jO hlt,jO hlt2,hx,hy]
   ·have hne:=he
    rw [vA (fun h:a=b=>he (by rw [← hx,← hy];subst h;rfl))]
    (refine goZ ?_;refine CW.quiet rfl mixed (by decide +kernel) ?_;refine goZ ?_;apply QW.v0;rfl;exact zC;apply ValP.neWT;rfl;rfl;assumption;assumption;assumption;refine goZ ?_)
    (refine fiz ?_)
    rfl
  ·rw [vE (List.ext_getElem? fun j=>by
    rcases jM j k with h|h
    ·exact hall j h
    ·rw [yN (by omega),yN (by omega)])]
   exact dTBJyT
 ·rw [vA (fun h:a=b=>hl (by rw [h]))]
  exact dTBJyT
theorem dTBqmG {P:Prop} (h:P:=by
 exact joinI ⟨getB rfl (by (rfl)),rfl,rfl,trivial⟩ (jG _)):P:=h
theorem dTBOLe {P:Prop} (h:P:=by
 (refine goZ ?_;intro _ _;refine cEz (c:=fun w _=>by exact hW w (by assumption)) (k:=?_);refine cEz (c:=fun w _=>by exact hB w (by assumption)) (k:=?_))
 (refine fiz ?_)
 rfl):P:=h
theorem dTBcBf {P:Prop} (h:P:=by
 (refine goZ ?_;refine lvz (.ne rfl rfl) ?_;refine goZ ?_)
 exact joinI ⟨getB rfl (by (exact congrArg not (decide_eq_decide.2 Int.ofNat_inj))),rfl,rfl,trivial⟩ (jG _)):P:=h
theorem dTBvSJ {P:Prop} (h:P:=by
 (refine goZ ?_;intro _ _;refine cEz (c:=fun w _=>by exact hW w (by assumption)) (k:=?_))
 (refine fiz ?_)
 rfl):P:=h
structure FrNum (f:FrV) (L:FrL):Prop where
 gas:f.gas < 18446744073709551616
 self:f.self < 18446744073709551616
 frm:f.frm < 18446744073709551616
 val:f.val < M256
 ws:∀ x∈L.ws,x < M256
def sameF (f:FrV) (L:FrL) (g:FrV) (M:FrL):Prop:=f.pc=g.pc∧f.gas=g.gas∧f.self=g.self∧f.frm=g.frm∧f.val=g.val∧f.stat=g.stat∧L.cl=M.cl∧L.il=M.il∧L.bl=M.bl∧(L.ws=M.ws∧L.ms=M.ms)
instance (f:FrV) (L:FrL) (g:FrV) (M:FrL):Decidable (sameF f L g M):=by unfold sameF;exact vF
theorem SL.LW.joinF {C:Cu} {ops:Array Oper} {Q:Post} {l:List Oper} {e:Env} {fs:Fs} (k:Nat) (e1:Env) (h2:LW C ops Q (l.drop k) e1 fs) (h1:LW C ops (joinQ C e1 fs Q) (l.take k) e fs):LW C ops Q l e fs:=LW.join k e1 fs h2 h1
theorem rScSame_calls (a b:List Nat) (x y:List UInt8) (hwa:∀ x∈a,x < M256) (hwb:∀ x∈b,x < M256) (va vb vx vy:Value) (w:World) (ha:RowAt w 4 va a.length (wcs a)) (hb:RowAt w 4 vb b.length (wcs b)) (hx:RowAt w 1 vx x.length (ucs x)) (hy:RowAt w 1 vy y.length (ucs y)) :
  Calls prog 47 #[.agg #[va,vx],.agg #[vb,vy]] w (Ret w (.bool (decide (a=b∧x=y)))):=by
 obtain ⟨p0,c0,rfl,_,_⟩:=id ha.form
 obtain ⟨p1,c1,rfl,_,_⟩:=id hb.form
 obtain ⟨p2,c2,rfl,_,_⟩:=id hx.form
 obtain ⟨p3,c3,rfl,_,_⟩:=id hy.form
 have hW0:=fun w' {fs:Fs} (hst:St w [] fs w')=>rSameW_calls a b hwa hwb _ _ w' (ha.st hst) (hb.st hst)
 have hB0:=fun w' {fs:Fs} (hst:St w [] fs w')=>rSameB_calls x y _ _ w' (hx.st hst) (hy.st hst)
 refine enter (args:=[_,_]) _ [] [] func47 rfl ntmps47 rfl (by simp) .nil ?_
 by_cases e:a=b
 ·have hW:∀ w' {fs:Fs},St w [] fs w'→Calls prog 48 #[.slice p0 a.length c0,.slice p1 b.length c1] w' (Ret w' (.bool true)):=fun w' fs hst=>by have h:=hW0 w' hst;rwa [vE e] at h
  by_cases e2:x=y
  ·have hB:∀ w' {fs:Fs},St w [] fs w'→Calls prog 101 #[.slice p2 x.length c2,.slice p3 y.length c3] w' (Ret w' (.bool true)):=fun w' fs hst=>by have h:=hB0 w' hst;rwa [vE e2] at h
   rw [vE ⟨e,e2⟩]
   exact dTBOLe
  ·have hB:∀ w' {fs:Fs},St w [] fs w'→Calls prog 101 #[.slice p2 x.length c2,.slice p3 y.length c3] w' (Ret w' (.bool false)):=fun w' fs hst=>by have h:=hB0 w' hst;rwa [vA e2] at h
   rw [vA (fun h=>e2 h.2)]
   exact dTBOLe
 ·have hW:∀ w' {fs:Fs},St w [] fs w'→Calls prog 48 #[.slice p0 a.length c0,.slice p1 b.length c1] w' (Ret w' (.bool false)):=fun w' fs hst=>by have h:=hW0 w' hst;rwa [vA e] at h
  rw [vA (fun h=>e h.1)]
  exact dTBvSJ
theorem rfSame_calls (f g:FrV) (L M:FrL) (hf:FrNum f L) (hg:FrNum g M) (w:World) (h:FrRows w f L) (h':FrRows w g M):Calls prog 12 #[frv f,frv g] w (Ret w (.bool (decide (sameF f L g M)))):=by
 have hww:=hf.ws
 have hwm:=hg.ws
 have hv1:=hf.val
 have hv2:=hg.val
 obtain ⟨code,pc,stk,mem,gas,self,frm,val,inp,back,stat⟩:=f
 obtain ⟨code',pc',stk',mem',gas',self',frm',val',inp',back',stat'⟩:=g
 obtain ⟨h0,h2,h3,h11,h12⟩:=h
 obtain ⟨k0,k2,k3,k11,k12⟩:=h'
 dsimp only at h0 h2 h3 h11 h12 k0 k2 k3 k11 k12 hv1 hv2
 obtain ⟨p0,c0,rfl,_,_⟩:=id h0.form
 obtain ⟨p2,c2,rfl,_,_⟩:=id h2.form
 obtain ⟨p3,c3,rfl,_,_⟩:=id h3.form
 obtain ⟨p11,c11,rfl,_,_⟩:=id h11.form
 obtain ⟨p12,c12,rfl,_,_⟩:=id h12.form
 obtain ⟨r0,d0,rfl,_,_⟩:=id k0.form
 obtain ⟨r2,d2,rfl,_,_⟩:=id k2.form
 obtain ⟨r3,d3,rfl,_,_⟩:=id k3.form
 obtain ⟨r11,d11,rfl,_,_⟩:=id k11.form
 obtain ⟨r12,d12,rfl,_,_⟩:=id k12.form
 have hq6:=fun w' {fs:Fs} (hst:St w [] fs w')=>rSame1_calls L.cl M.cl _ _ w' (h0.st hst) (k0.st hst)
 have hq7:=fun w' {fs:Fs} (hst:St w [] fs w')=>rSame1_calls L.il M.il _ _ w' (h11.st hst) (k11.st hst)
 have hq8:=fun w' {fs:Fs} (hst:St w [] fs w')=>rSame1_calls L.bl M.bl _ _ w' (h12.st hst) (k12.st hst)
 have hq9:=fun w' {fs:Fs} (hst:St w [] fs w')=>rScSame_calls L.ws M.ws L.ms M.ms hww hwm _ _ _ _ w' (h2.st hst) (k2.st hst) (h3.st hst) (k3.st hst)
 refine enter (args:=[_,_]) _ [] [] func12 rfl ntmps12 rfl (by simp) .nil ?_
 (refine goZ ?_;intro _ _;refine lvz (.ne rfl rfl) ?_;refine goZ ?_)
 rename_i b2 b3
 obtain ⟨y0,hy0⟩:∃ c:Bool,c=decide (pc=pc'):=⟨_,rfl⟩
 refine LW.joinF 0 ((10,.bool (!y0))::[(2,.pointer (some ⟨b2,0,none⟩)),(3,.pointer (some ⟨b3,0,none⟩))]) ?_ ?_
 rotate_left
 ·rw [hy0]
  (refine goZ ?_)
  exact dTBqmG
 obtain ⟨y1,hy1⟩:∃ c:Bool,c=(y0 && decide (gas=gas')):=⟨_,rfl⟩
 refine LW.joinF 7 ((17,.bool (!y1))::[(2,.pointer (some ⟨b2,0,none⟩)),(3,.pointer (some ⟨b3,0,none⟩))]) ?_ ?_
 rotate_left
 ·rw [hy1]
  clear hy1 hy0
  cases y0
  ·(refine goZ ?_)
   exact dTBqmG
  ·exact dTBcBf
 obtain ⟨y2,hy2⟩:∃ c:Bool,c=(y1 && decide (self=self')):=⟨_,rfl⟩
 refine LW.joinF 7 ((24,.bool (!y2))::[(2,.pointer (some ⟨b2,0,none⟩)),(3,.pointer (some ⟨b3,0,none⟩))]) ?_ ?_
 rotate_left
 ·rw [hy2]
  clear hy2 hy1 hy0
  cases y1
  ·(refine goZ ?_)
   exact dTBqmG
  ·exact dTBcBf
 obtain ⟨y3,hy3⟩:∃ c:Bool,c=(y2 && decide (frm=frm')):=⟨_,rfl⟩
 refine LW.joinF 7 ((31,.bool (!y3))::[(2,.pointer (some ⟨b2,0,none⟩)),(3,.pointer (some ⟨b3,0,none⟩))]) ?_ ?_
 rotate_left
 ·rw [hy3]
  clear hy3 hy2 hy1 hy0
  cases y2
  ·(refine goZ ?_)
   exact dTBqmG
  ·exact dTBcBf
 obtain ⟨y4,hy4⟩:∃ c:Bool,c=(y3 && decide (val=val')):=⟨_,rfl⟩
 refine LW.joinF 7 ((38,.bool (!y4))::[(2,.pointer (some ⟨b2,0,none⟩)),(3,.pointer (some ⟨b3,0,none⟩))]) ?_ ?_
 rotate_left
 ·rw [hy4]
  clear hy4 hy3 hy2 hy1 hy0
  cases y3
  ·(refine goZ ?_)
   exact dTBqmG
  ·(refine gTsz<|vFz<|gTsz<|ldz rfl (.tail .head) fr_rd7<|gTsz<|vFz<|gTsz<|ldz rfl .head fr_rd7<|gTsz ?_;refine lvz (.neW rfl rfl (by assumption) (by assumption)) ?_;apply qN;rfl;rfl;apply ValP.pickF';rfl;simp only [Bool.not_true,Bool.not_false];rfl;refine vMz ?_;apply zV)
   exact dTBqmG
 obtain ⟨y5,hy5⟩:∃ c:Bool,c=(y4 && decide (stat=stat')):=⟨_,rfl⟩
 refine LW.joinF 6 ((44,.bool (!y5))::[(2,.pointer (some ⟨b2,0,none⟩)),(3,.pointer (some ⟨b3,0,none⟩))]) ?_ ?_
 rotate_left
 ·rw [hy5]
  clear hy5 hy4 hy3 hy2 hy1 hy0
  cases y4
  ·(refine goZ ?_)
   exact dTBqmG
  ·(refine goZ ?_;refine lvz (.boolNe rfl rfl) ?_;refine goZ ?_)
   exact dTBqmG
 cases hyy:y5
 ·rw [show decide (sameF ⟨.slice p0 L.cl.length c0,pc,.slice p2 L.ws.length c2,.slice p3 L.ms.length c3,gas,self,frm,val,.slice p11 L.il.length c11,.slice p12 L.bl.length c12,stat⟩ L ⟨.slice r0 M.cl.length d0,pc',.slice r2 M.ws.length d2,.slice r3 M.ms.length d3,gas',self',frm',val',.slice r11 M.il.length d11,.slice r12 M.bl.length d12,stat'⟩ M)=false from vA fun h=>by unfold sameF at h;dsimp only at h;obtain ⟨e0,e1,e2,e3,e4,e5,e6,e7,e8,e9⟩:=h;simp [hy5,hy4,hy3,hy2,hy1,hy0,e0,e1,e2,e3,e4,e5] at hyy]
  exact dTBJyT
 simp only [hy5,hy4,hy3,hy2,hy1,hy0,yQ,decide_eq_true_eq] at hyy
 obtain ⟨⟨⟨⟨⟨e0,e1⟩,e2⟩,e3⟩,e4⟩,e5⟩:=hyy
 (refine goZ ?_;refine cEz (c:=fun w _=>by exact hq6 w (by assumption)) (k:=?_))
 obtain ⟨y6,hy6⟩:∃ c:Bool,c=decide (L.cl=M.cl):=⟨_,rfl⟩
 refine LW.joinF 0 ((50,.bool (y6))::[(2,.pointer (some ⟨b2,0,none⟩)),(3,.pointer (some ⟨b3,0,none⟩))]) ?_ ?_
 rotate_left
 ·rw [hy6]
  (refine goZ ?_)
  exact dTBqmG
 obtain ⟨y7,hy7⟩:∃ c:Bool,c=(y6 && decide (L.il=M.il)):=⟨_,rfl⟩
 refine LW.joinF 7 ((57,.bool (y7))::[(2,.pointer (some ⟨b2,0,none⟩)),(3,.pointer (some ⟨b3,0,none⟩))]) ?_ ?_
 rotate_left
 ·rw [hy7]
  clear hy7 hy6 hy5 hy4 hy3 hy2 hy1 hy0
  cases y6
  ·(refine goZ ?_)
   exact dTBqmG
  ·(refine goZ ?_;refine cEz (c:=fun w _=>by exact hq7 w (by assumption)) (k:=?_))
   exact dTBqmG
 obtain ⟨y8,hy8⟩:∃ c:Bool,c=(y7 && decide (L.bl=M.bl)):=⟨_,rfl⟩
 refine LW.joinF 7 ((64,.bool (y8))::[(2,.pointer (some ⟨b2,0,none⟩)),(3,.pointer (some ⟨b3,0,none⟩))]) ?_ ?_
 rotate_left
 ·rw [hy8]
  clear hy8 hy7 hy6 hy5 hy4 hy3 hy2 hy1 hy0
  cases y7
  ·(refine goZ ?_)
   exact dTBqmG
  ·(refine goZ ?_;refine cEz (c:=fun w _=>by exact hq8 w (by assumption)) (k:=?_))
   exact dTBqmG
 obtain ⟨y9,hy9⟩:∃ c:Bool,c=(y8 && decide (L.ws=M.ws∧L.ms=M.ms)):=⟨_,rfl⟩
 refine LW.joinF 7 ((4,.bool (y9))::[(2,.pointer (some ⟨b2,0,none⟩)),(3,.pointer (some ⟨b3,0,none⟩))]) ?_ ?_
 rotate_left
 ·rw [hy9]
  clear hy9 hy8 hy7 hy6 hy5 hy4 hy3 hy2 hy1 hy0
  cases y8
  ·(refine goZ ?_)
   exact dTBqmG
  ·(refine gTz<|vFz<|gTz<|ldz rfl (.tail .head) fr_rd2<|gTz<|vFz<|gTz<|ldz rfl .head fr_rd2<|gTz ?_;apply zS;rfl;rfl;exact vF;exact .cons rfl (.cons rfl .nil);intro w _;exact hq9 w (by assumption);refine pTz<|vAz ?_;apply zV)
   exact joinI ⟨getB rfl (by (rfl)),rfl,rfl,trivial⟩ (jG _)
 have hfin:y9=decide (sameF ⟨.slice p0 L.cl.length c0,pc,.slice p2 L.ws.length c2,.slice p3 L.ms.length c3,gas,self,frm,val,.slice p11 L.il.length c11,.slice p12 L.bl.length c12,stat⟩ L ⟨.slice r0 M.cl.length d0,pc',.slice r2 M.ws.length d2,.slice r3 M.ms.length d3,gas',self',frm',val',.slice r11 M.il.length d11,.slice r12 M.bl.length d12,stat'⟩ M):=by
  rw [Bool.eq_iff_iff]
  simp only [hy9,hy8,hy7,hy6,yQ,decide_eq_true_eq]
  unfold sameF
  dsimp only
  exact ⟨fun ⟨⟨⟨e6,e7⟩,e8⟩,e9⟩=>⟨e0,e1,e2,e3,e4,e5,e6,e7,e8,e9⟩,fun ⟨e0,e1,e2,e3,e4,e5,e6,e7,e8,e9⟩=>⟨⟨⟨e6,e7⟩,e8⟩,e9⟩⟩
 rw [← hfin]
 exact dTBJyT
section
open CK (readB)
theorem rScRight_calls (p q:Option Addr) (n c k d:Nat) (hn1:n≤maxLen) (hk1:k≤maxLen) (w:World):Calls prog 44 #[.agg #[.slice p n c,.slice q k d]] w (Ret w (.bool (decide (okSc n k)))):=by
 obtain ⟨e,he⟩:∃ e:Bool,e=decide (okSc n k):=⟨_,rfl⟩
 have hp:okSc n k→e=true:=fun h=>by rw [he,vE h]
 have hn:¬ okSc n k→e=false:=fun h=>by rw [he,vA h]
 rw [← he]
 clear he
 unfold okSc at hp hn
 refine enter (args:=[_]) _ [] [] func44 rfl ntmps44 rfl (by simp) .nil ?_
 by_cases hz:k % 32=0
 ·(refine goZ ?_;intro _;refine lvz (.leq rfl rfl) ?_;refine goZ ?_)
  (refine LW.guardDT rfl rfl rfl (fun hsq hsp=>?_) (fun hsq hsp=>?_))
  (refine goZ ?_;refine lvz (.leq rfl rfl) ?_;refine goZ ?_;refine LW.guardDT rfl rfl rfl (fun hsq hsp=>?_) (fun hsq hsp=>?_);refine goZ ?_;refine fiz ?_;rw [hp (by omega)];rfl;refine goZ ?_;refine fiz ?_;rw [hn (by omega)];rfl;refine goZ ?_;refine fiz ?_;rw [hn (by omega)];rfl)
 ·(refine goZ ?_;intro _;refine lvz (.leq rfl rfl) ?_;refine goZ ?_)
  (refine LW.guardDT rfl rfl rfl (fun hsq hsp=>?_) (fun hsq hsp=>?_))
  (refine goZ ?_;refine lvz (.leq rfl rfl) ?_;refine goZ ?_;refine LW.guardDT rfl rfl rfl (fun hsq hsp=>?_) (fun hsq hsp=>?_);refine goZ ?_;refine fiz ?_;rw [hn (by omega)];rfl;refine goZ ?_;refine fiz ?_;rw [hn (by omega)];rfl;refine goZ ?_;refine fiz ?_;rw [hn (by omega)];rfl)
theorem rfRight_calls (f:FrV) (L:FrL) (w:World) (h:FrRows w f L):Calls prog 11 #[frv f] w (Ret w (.bool (decide (okF f L)))):=by
 obtain ⟨e,he⟩:∃ e:Bool,e=decide (okF f L):=⟨_,rfl⟩
 have hp:okF f L→e=true:=fun h=>by rw [he,vE h]
 have hn:¬ okF f L→e=false:=fun h=>by rw [he,vA h]
 rw [← he]
 clear he
 unfold okF at hp hn
 obtain ⟨code,pc,stk,mem,gas,self,frm,val,inp,back,stat⟩:=f
 obtain ⟨h0,h2,h3,h11,h12⟩:=h
 dsimp only at h0 h2 h3 h11 h12 hp hn
 obtain ⟨p0,c0,rfl,_,hm0⟩:=h0.form
 obtain ⟨p2,c2,rfl,_,hm2⟩:=h2.form
 obtain ⟨p3,c3,rfl,_,hm3⟩:=h3.form
 obtain ⟨p11,c11,rfl,_,hm11⟩:=h11.form
 obtain ⟨p12,c12,rfl,_,hm12⟩:=h12.form
 have hS0:=rScRight_calls p2 p3 L.ws.length c2 L.ms.length c3 (by omega) (by omega)
 have hC0:∀ w' {fs},St w [] fs w'→Calls prog 43 #[.slice p0 L.cl.length c0] w' (Ret w' (.bool (decide (L.cl.length≤200)))):=fun w' fs hst=>CK.Right_calls _ _ _ w' (h0.st hst)
 simp only [maxLen] at hm0 hm2 hm3 hm11 hm12
 refine enter (args:=[_]) _ [] [] func11 rfl ntmps11 rfl (by simp) .nil ?_
 by_cases hc:L.cl.length≤200
 ·have hRd0:∀ w' {fs},St w [] fs w'→Calls prog 45 #[.slice p0 L.cl.length c0,.int .i64 pc] w' (Ret w' (.bool (readB L.cl pc))):=fun w' fs hst=>CK.Read_calls _ (by omega) _ _ w' (h0.st hst)
  rw [vE hc] at hC0
  have hC:∀ w' {fs},St w [] fs w'→Calls prog 43 #[.slice p0 L.cl.length c0] w' (Ret w' (.bool true)):=hC0
  by_cases hs:okSc L.ws.length L.ms.length
  ·rw [vE hs] at hS0
   have hS:∀ w',Calls prog 44 #[.agg #[.slice p2 L.ws.length c2,.slice p3 L.ms.length c3]] w' (Ret w' (.bool true)):=hS0
   simp only [hs,true_and] at hp hn
   by_cases hpc:pc=(L.cl.length:Int)
   ·simp only [hpc,true_or,and_true] at hp hn
    subst hpc
    (refine sRz ?_;apply zT;rfl;rfl;intro _;refine vAz<|nNz<|zI<|sRz<|vFz<|ldz rfl .head fr_rd0 ?_;apply zS;rfl;rfl;exact vF;exact .cons rfl .nil;intro w _;exact hC w (by assumption);refine lvz (.notT rfl (by with_reducible rfl)) ?_;refine vMz<|gTz<|vFz<|gTz<|ldz rfl .head fr_rd2<|gTz ?_;apply zS;rfl;rfl;exact vF;exact .cons rfl .nil;intro w _;exact hS w;refine gTz ?_;refine lvz (.notT rfl (by with_reducible rfl)) ?_;refine pFz<|vMz<|gTz<|vFz<|gTz<|ldz rfl .head fr_rd4<|gTz<|lvz (.gtr rfl rfl)<|pFz<|vMz ?_)
    (refine LW.guardDF rfl rfl rfl (fun hsq hsp=>?_) (fun hsq hsp=>?_))
    (refine vFz<|gTaz<|ldz rfl .head fr_rd5<|gTaz<|lvz (.eq rfl rfl)<|pFaz<|nNz ?_;refine CW.condD rfl (fun hsq hsp=>?_) (fun hsq hsp=>?_);refine sRz<|vAz<|nNz<|zK ?_;refine thenR (finR (.inl rfl) rfl rfl rfl (.cons (.tmp rfl) .nil) ?_);rw [hn (by omega)];rfl;refine zJ<|thenN<|zI<|sRz<|vFz<|ldz rfl .head fr_rd11<|lvz (.lenR rfl vF rfl)<|lvz (.gtr rfl rfl)<|vMz ?_;refine LW.guardDF rfl rfl rfl (fun hsq hsp=>?_) (fun hsq hsp=>?_);refine vFz<|gTaz<|ldz rfl .head fr_rd12<|gTaz<|lvz (.lenR rfl vF rfl)<|gTaz<|lvz (.gtr rfl rfl)<|pFaz<|nNz ?_;refine CW.condD rfl (fun hsq hsp=>?_) (fun hsq hsp=>?_);refine sRz<|vAz<|nNz<|zK ?_;refine thenR (finR (.inl rfl) rfl rfl rfl (.cons (.tmp rfl) .nil) ?_);rw [hn (by omega)];rfl;refine zJ<|thenN<|sRz<|vFz<|ldz rfl .head fr_rd1<|vFz<|ldz rfl .head fr_rd0<|lvz (.lenR rfl vF rfl) ?_;refine lvz (.eqT rfl rfl (by omega)) ?_;refine vMz ?_;(iterate 5 refine gFz ?_);refine pTz<|vAz<|nNz<|zK ?_;apply finR;exact .inl rfl;rfl;rfl;rfl;apply zD;exact zG rfl;exact zF;rw [hp (by omega)];rfl;(iterate 3 refine gFaz ?_);refine pTaz<|nNz<|cTz<|sRz<|vAz<|nNz<|zK ?_;refine thenR (finR (.inl rfl) rfl rfl rfl (.cons (.tmp rfl) .nil) ?_);rw [hn (by omega)];rfl;refine gFaz<|gFaz<|pTaz<|nNz<|cTz<|sRz<|vAz<|nNz<|zK ?_;refine thenR (finR (.inl rfl) rfl rfl rfl (.cons (.tmp rfl) .nil) ?_);rw [hn (by omega)];rfl)
   ·cases hr:readB L.cl pc with
    |true =>
     rw [hr] at hRd0 hp hn
     have hRd:∀ w' {fs},St w [] fs w'→Calls prog 45 #[.slice p0 L.cl.length c0,.int .i64 pc] w' (Ret w' (.bool true)):=hRd0
     simp only [or_true,and_true] at hp hn
     (refine sRz ?_;apply zT;rfl;rfl;intro _;refine vAz<|nNz<|zI<|sRz<|vFz<|ldz rfl .head fr_rd0 ?_;apply zS;rfl;rfl;exact vF;exact .cons rfl .nil;intro w _;exact hC w (by assumption);refine lvz (.notT rfl (by with_reducible rfl)) ?_;refine vMz<|gTz<|vFz<|gTz<|ldz rfl .head fr_rd2<|gTz ?_;apply zS;rfl;rfl;exact vF;exact .cons rfl .nil;intro w _;exact hS w;refine gTz ?_;refine lvz (.notT rfl (by with_reducible rfl)) ?_;refine pFz<|vMz<|gTz<|vFz<|gTz<|ldz rfl .head fr_rd4<|gTz<|lvz (.gtr rfl rfl)<|pFz<|vMz ?_)
     (refine LW.guardDF rfl rfl rfl (fun hsq hsp=>?_) (fun hsq hsp=>?_))
     (refine vFz<|gTaz<|ldz rfl .head fr_rd5<|gTaz<|lvz (.eq rfl rfl)<|pFaz<|nNz ?_;refine CW.condD rfl (fun hsq hsp=>?_) (fun hsq hsp=>?_);refine sRz<|vAz<|nNz<|zK ?_;refine thenR (finR (.inl rfl) rfl rfl rfl (.cons (.tmp rfl) .nil) ?_);rw [hn (by omega)];rfl;refine zJ<|thenN<|zI<|sRz<|vFz<|ldz rfl .head fr_rd11<|lvz (.lenR rfl vF rfl)<|lvz (.gtr rfl rfl)<|vMz ?_;refine LW.guardDF rfl rfl rfl (fun hsq hsp=>?_) (fun hsq hsp=>?_);refine vFz<|gTaz<|ldz rfl .head fr_rd12<|gTaz<|lvz (.lenR rfl vF rfl)<|gTaz<|lvz (.gtr rfl rfl)<|pFaz<|nNz ?_;refine CW.condD rfl (fun hsq hsp=>?_) (fun hsq hsp=>?_);refine sRz<|vAz<|nNz<|zK ?_;refine thenR (finR (.inl rfl) rfl rfl rfl (.cons (.tmp rfl) .nil) ?_);rw [hn (by omega)];rfl;refine zJ<|thenN<|sRz<|vFz<|ldz rfl .head fr_rd1<|vFz<|ldz rfl .head fr_rd0<|lvz (.lenR rfl vF rfl) ?_;refine lvz (.eqF rfl rfl (by omega)) ?_;refine vMz<|gTz<|vFz<|gTz<|ldz rfl .head fr_rd0<|gTz<|vFz<|gTz<|ldz rfl .head fr_rd1<|gTz ?_;apply zS;rfl;rfl;exact vF;exact .cons rfl (.cons rfl .nil);intro w _;exact hRd w (by assumption);refine pFz<|vAz<|nNz<|zK ?_;apply finR;exact .inl rfl;rfl;rfl;rfl;apply zD;exact zG rfl;exact zF;rw [hp (by omega)];rfl;(iterate 3 refine gFaz ?_);refine pTaz<|nNz<|cTz<|sRz<|vAz<|nNz<|zK ?_;refine thenR (finR (.inl rfl) rfl rfl rfl (.cons (.tmp rfl) .nil) ?_);rw [hn (by omega)];rfl;refine gFaz<|gFaz<|pTaz<|nNz<|cTz<|sRz<|vAz<|nNz<|zK ?_;refine thenR (finR (.inl rfl) rfl rfl rfl (.cons (.tmp rfl) .nil) ?_);rw [hn (by omega)];rfl)
    |false =>
     rw [hr] at hRd0 hp hn
     have hRd:∀ w' {fs},St w [] fs w'→Calls prog 45 #[.slice p0 L.cl.length c0,.int .i64 pc] w' (Ret w' (.bool false)):=hRd0
     simp only [Bool.false_eq_true,or_false] at hp hn
     (refine sRz ?_;apply zT;rfl;rfl;intro _;refine vAz<|nNz<|zI<|sRz<|vFz<|ldz rfl .head fr_rd0 ?_;apply zS;rfl;rfl;exact vF;exact .cons rfl .nil;intro w _;exact hC w (by assumption);refine lvz (.notT rfl (by with_reducible rfl)) ?_;refine vMz<|gTz<|vFz<|gTz<|ldz rfl .head fr_rd2<|gTz ?_;apply zS;rfl;rfl;exact vF;exact .cons rfl .nil;intro w _;exact hS w;refine gTz ?_;refine lvz (.notT rfl (by with_reducible rfl)) ?_;refine pFz<|vMz<|gTz<|vFz<|gTz<|ldz rfl .head fr_rd4<|gTz<|lvz (.gtr rfl rfl)<|pFz<|vMz ?_)
     (refine LW.guardDF rfl rfl rfl (fun hsq hsp=>?_) (fun hsq hsp=>?_))
     (refine goZ ?_;refine lvz (.eq rfl rfl) ?_;refine goZ ?_;refine CW.condD rfl (fun hsq hsp=>?_) (fun hsq hsp=>?_);refine goZ ?_;refine fiz ?_;rw [hn (by omega)];rfl;refine goZ ?_;refine lvz (.gtr rfl rfl) ?_;refine goZ ?_;refine LW.guardDF rfl rfl rfl (fun hsq hsp=>?_) (fun hsq hsp=>?_);refine goZ ?_;refine lvz (.gtr rfl rfl) ?_;refine goZ ?_;refine CW.condD rfl (fun hsq hsp=>?_) (fun hsq hsp=>?_);refine goZ ?_;refine fiz ?_;rw [hn (by omega)];rfl;refine goZ ?_;refine cEz (c:=fun w _=>by exact hRd w (by assumption)) (k:=?_);refine fiz ?_;rw [hn (by omega)];rfl;refine goZ ?_;refine fiz ?_;rw [hn (by omega)];rfl;refine goZ ?_;refine fiz ?_;rw [hn (by omega)];rfl)
  ·rw [vA hs] at hS0
   have hS:∀ w',Calls prog 44 #[.agg #[.slice p2 L.ws.length c2,.slice p3 L.ms.length c3]] w' (Ret w' (.bool false)):=hS0
   rw [hn (fun h=>hs h.2.2.2.1)] at *
   clear hp hn
   (refine sRz ?_;apply zT;rfl;rfl;intro _;refine vAz<|nNz<|zI<|sRz<|vFz<|ldz rfl .head fr_rd0 ?_;apply zS;rfl;rfl;exact vF;exact .cons rfl .nil;intro w _;exact hC w (by assumption);refine lvz (.notT rfl (by with_reducible rfl)) ?_;refine vMz<|gTz<|vFz<|gTz<|ldz rfl .head fr_rd2<|gTz ?_;apply zS;rfl;rfl;exact vF;exact .cons rfl .nil;intro w _;exact hS w;refine gTz ?_;refine lvz (.notF rfl (by with_reducible rfl)) ?_;refine pFz<|vMz ?_;(iterate 3 refine gFz ?_);refine pTz<|vMz ?_;(iterate 3 refine gFz ?_);refine pTz<|nNz<|cTz<|sRz<|vAz<|nNz<|zK<|thenR ?_)
   (refine fiz ?_)
   rfl
 ·rw [vA hc] at hC0
  have hC:∀ w' {fs},St w [] fs w'→Calls prog 43 #[.slice p0 L.cl.length c0] w' (Ret w' (.bool false)):=hC0
  rw [hn (fun h=>hc h.2.2.1)] at *
  clear hp hn
  (refine goZ ?_;intro _;refine cEz (c:=fun w _=>by exact hC w (by assumption)) (k:=?_))
  (refine fiz ?_)
  rfl
theorem IsRow.le {E:TypeId} {sz n n' c:Nat} {p:Option Addr} {xs:List Value} {seg:Fs} (h:IsRow E sz (.slice p n' c) n xs seg):n'≤c:=by
 cases h with
 |nil=>exact yD _
 |own hn _ _ _ _=>exact hn
theorem rBoth_calls (l:List UInt8) (v:Value) (w:World) (hv:RowAt w 1 v l.length (ucs l)) (hl:l.length≤100000):Calls prog 102 #[v,.slice none 0 0] w (RetG w [] (bM l)):=by
 obtain ⟨p,c,rfl,_,_⟩:=id hv.form
 refine enter (args:=[_,_]) _ [] [] func102 rfl ntmps102 rfl (by simp) .nil ?_
 (refine goZ ?_)
 refine LW.n0 rfl rfl (NewP.make0 (c:=l.length+0) vF vF vF rfl rfl (by omega) (by omega)) fun g=>?_
 simp only [Sh.val]
 (refine goZ ?_)
 have hrow0:IsRow 5 1 (.slice (some ⟨g,0,none⟩) 0 (l.length+0)) 0 [] [(g,.cells (madeCells (Value.int .u8 0).cells ((l.length+0) * 1)) 5 (0,0))]:=.own (by omega) (by simp only [maxLen];omega) (by rw [← Array.length_toList,made_one rfl,List.length_replicate,yE]) rfl rfl
 (apply LW.appendAny;(case hrow=>exact hrow0);rfl;rfl;exact vF;exact vF;exact vF;rfl;rfl;rfl;exact qJ (seg:=[_]) (post:=[]))
 ·exact fun w hs=>hv.st hs
 ·exact ucs_cells _
 ·simp only [maxLen];omega
 ·omega
 intro v1 seg1 hrow1
 refine ⟨_,qJ (post:=[]),?_⟩
 simp only [jQ,jH] at hrow1
 obtain ⟨q1,k1,rfl⟩:=hrow1.form
 have hle1:l.length≤k1:=IsRow.le hrow1
 (refine goZ ?_;apply qN;rfl;rfl;apply ValP.append0;rfl;exact vF;exact vF;rfl;rfl;assumption;refine goZ ?_)
 exact fin (vs:=[.slice q1 l.length k1]) seg1 (.inl rfl) rfl rfl rsZ (jJ _ _) hrow1
theorem rScCopy_calls (ws:List Nat) (ms:List UInt8) (s m:Value) (w:World) (hs:RowAt w 4 s ws.length (wcs ws)) (hm:RowAt w 1 m ms.length (ucs ms)) (hl:ws.length≤100000) (hl2:ms.length≤100000) :
  Calls prog 103 #[.agg #[s,m]] w (RetG w [] (fun v gs=>∃ s m g1 g2,v=.agg #[s,m]∧gs=g2++g1∧wM ws s g1∧bM ms m g2∧(ws.length=0→∃ p,s=.slice p 0 0))):=by
 obtain ⟨p,c,rfl,_,_⟩:=id hs.form
 obtain ⟨p2,c2,rfl,_,_⟩:=id hm.form
 refine enter (args:=[_]) _ [] [] func103 rfl ntmps103 rfl (by simp) .nil ?_
 (refine goZ ?_;intro _ _)
 apply CW.pre
 rcases yB ws.length with h0|h0
 ·have hw:ws=[]:=List.length_eq_zero_iff.1 h0
  subst hw
  (refine AnyW.anyS [(3,sameR)] 7 mixed (by decide +kernel) ?_)
  ((try simp only [tsOf_cons,tsOf_nil,tsOf_app]);apply DW.lay0;rfl;rfl;rfl;exact zC;exact vF;exact vF;intro _;refine dvz (.fieldAddr rfl rfl) ?_;apply qG;rfl;rfl;rfl;exact zC;rfl;apply zO;apply zO;apply zP;exact zN;exact sc_rd0)
  refine DW.appendN rfl rfl rfl (by (exact zC)) rfl vF vF rfl rfl hs rfl ?_
  ((try simp only [tsOf_cons,tsOf_nil,tsOf_app]);apply DW.lay0;rfl;rfl;rfl;exact zC;exact vF;exact vF;intro _;refine dvz (.fieldAddr rfl rfl) ?_;apply qG;rfl;rfl;rfl;exact zC;rfl;apply zO;apply zO;apply zO;apply zP;exact zN;exact sc_rd1;apply DW.nil;simp only [fsOf_cons,fsOf_nil,fsOf_app,fsOf_tsOf,fsOf_new])
  rename_i ba bb bc bd
  have hrow0:IsRow 5 1 (.slice (some ⟨bd,0,none⟩) 0 0) 0 [] [(bd,.cells #[] 5 (0,0))]:=.own (yD 0) (by simp [maxLen]) rfl rfl rfl
  (apply LW.appendAny;(case hrow=>exact hrow0);rfl;rfl;exact vF;exact vF;exact vF;rfl;rfl;rfl;exact qJ (seg:=[_]) (post:=_::_))
  ·exact fun w hs=>hm.st hs
  ·exact ucs_cells _
  ·simp only [maxLen];omega
  ·omega
  intro v2 g2 h2
  simp only [jQ,jH] at h2
  refine ⟨_,qJ,?_⟩
  obtain ⟨q2,k2,rfl⟩:=id h2.form
  (refine bTz ?_)
  refine fin (vs:=[.agg #[.slice (some ⟨bc,0,none⟩) 0 0,.slice q2 ms.length k2]]) (g2++[(bc,.cells #[] 29 (0,0))]) (.inl rfl) rfl rfl rsZ ?_ ⟨_,_,[(bc,.cells #[] 29 (0,0))],g2,rfl,rfl,.own (yD 0) (by simp [maxLen]) rfl rfl rfl,h2,fun _=>⟨_,rfl⟩⟩
  (apply jL;apply jP;apply jK;apply jK;exact jG _)
 ·(refine AnyW.anyS [(3,cst (wM ws))] 7 mixed (by decide +kernel) ?_)
  ((try simp only [tsOf_cons,tsOf_nil,tsOf_app]);apply DW.lay0;rfl;rfl;rfl;exact zC;exact vF;exact vF;intro _;refine dvz (.fieldAddr rfl rfl) ?_;apply qG;rfl;rfl;rfl;exact zC;rfl;apply zO;apply zO;apply zP;exact zN;exact sc_rd0)
  refine DW.appendE rfl rfl rfl (by (exact zC)) rfl vF vF vF rfl rfl rfl hs rfl h0 (by simp only [maxLen];omega) (by omega) (fun v gs h=>h) ?_
  intro v1 g1 h1
  have h1':=h1
  unfold wM at h1'
  obtain ⟨q1,k1,rfl⟩:=h1'.form
  ((try simp only [tsOf_cons,tsOf_nil,tsOf_app]);apply DW.lay0;rfl;rfl;rfl;exact zC;exact vF;exact vF;intro _;refine dvz (.fieldAddr rfl rfl) ?_;apply qG;rfl;rfl;rfl;exact zC;rfl;apply zO;apply zQ;apply zO;apply zO;apply zP;exact zN;exact sc_rd1;apply DW.nil;simp only [fsOf_cons,fsOf_nil,fsOf_app,fsOf_tsOf,fsOf_new])
  simp only [fsOf_tag]
  rename_i ba bb bc bd
  have hrow0:IsRow 5 1 (.slice (some ⟨bd,0,none⟩) 0 0) 0 [] [(bd,.cells #[] 5 (0,0))]:=.own (yD 0) (by simp [maxLen]) rfl rfl rfl
  (apply LW.appendAny;(case hrow=>exact hrow0);rfl;rfl;exact vF;exact vF;exact vF;rfl;rfl;rfl;exact qJ (seg:=[_]) (post:=g1++_))
  ·exact fun w hs=>hm.st hs
  ·exact ucs_cells _
  ·simp only [maxLen];omega
  ·omega
  intro v2 g2 h2
  simp only [jQ,jH] at h2
  refine ⟨_,qJ,?_⟩
  obtain ⟨q2,k2,rfl⟩:=id h2.form
  (refine bTz ?_)
  refine fin (vs:=[.agg #[.slice q1 ws.length k1,.slice q2 ms.length k2]]) (g2++g1) (.inl rfl) rfl rfl rsZ ?_ ⟨_,_,g1,g2,rfl,rfl,h1,h2,fun h=>absurd h0 (by omega)⟩
  exact jL (jJ _ _) _
end
section
structure AskQ where
 kind:Int
 op:Nat
 ws:Value
 l:List Nat
 dt:Value
 d:List UInt8
structure AskQAt (w:World) (a:AskQ):Prop where
 row:RowAt w 4 a.ws a.l.length (wcs a.l)
 dat:RowAt w 1 a.dt a.d.length (ucs a.d)
 lt:∀ x∈a.l,x < M256
def sameA (a b:AskQ):Prop:=a.kind=b.kind∧a.op=b.op∧a.l=b.l∧a.d=b.d
instance (a b:AskQ):Decidable (sameA a b):=by unfold sameA;exact vF
def aqa (a:AskQ):Array Value:=aska a.kind a.op a.ws a.dt
section rd
variable {P : Program} {T E : TypeId} {fr : Nat × Nat} {kind : Int} {op : Nat} {u v : Value}
end rd
theorem rSameAsk_calls (a b:AskQ) (w:World) (ha:AskQAt w a) (hb:AskQAt w b):Calls prog 13 #[.agg (aqa a),.agg (aqa b)] w (Ret w (.bool (decide (sameA a b)))):=by
 obtain ⟨ak,ao,aw,al,av,ad⟩:=a
 obtain ⟨bk,bo,bw,bl,bv,bd⟩:=b
 obtain ⟨h1r,h1d,h1l⟩:=ha
 obtain ⟨h2r,h2d,h2l⟩:=hb
 dsimp only at h1r h1d h1l h2r h2d h2l
 obtain ⟨p0,c0,rfl,_,_⟩:=id h1r.form
 obtain ⟨p1,c1,rfl,_,_⟩:=id h1d.form
 obtain ⟨p2,c2,rfl,_,_⟩:=id h2r.form
 obtain ⟨p3,c3,rfl,_,_⟩:=id h2d.form
 have hW0:=fun w' {fs:Fs} (hst:St w [] fs w')=>rSameW_calls al bl h1l h2l _ _ w' (h1r.st hst) (h2r.st hst)
 have hB0:=fun w' {fs:Fs} (hst:St w [] fs w')=>rSame1_calls ad bd _ _ w' (h1d.st hst) (h2d.st hst)
 unfold aqa
 dsimp only
 obtain ⟨r,hr⟩:∃ r,decide (sameA ⟨ak,ao,.slice p0 al.length c0,al,.slice p1 ad.length c1,ad⟩ ⟨bk,bo,.slice p2 bl.length c2,bl,.slice p3 bd.length c3,bd⟩)=r:=⟨_,rfl⟩
 rw [hr]
 refine enter (args:=[_,_]) _ [] [] func13 rfl ntmps13 rfl (by simp) .nil ?_
 by_cases e1:ak=bk
 ·subst e1
  by_cases e2:ao=bo
  ·subst e2
   by_cases e3:al=bl
   ·have hW:∀ w' {fs:Fs},St w [] fs w'→Calls prog 48 #[.slice p0 al.length c0,.slice p2 bl.length c2] w' (Ret w' (.bool true)):=fun w' fs hst=>by have h:=hW0 w' hst;rwa [vE e3] at h
    by_cases e4:ad=bd
    ·have hB:∀ w' {fs:Fs},St w [] fs w'→Calls prog 46 #[.slice p1 ad.length c1,.slice p3 bd.length c3] w' (Ret w' (.bool true)):=fun w' fs hst=>by have h:=hB0 w' hst;rwa [vE e4] at h
     obtain rfl:r=true:=hr.symm.trans (vE ⟨rfl,rfl,e3,e4⟩)
     exact dTBOLe
    ·have hB:∀ w' {fs:Fs},St w [] fs w'→Calls prog 46 #[.slice p1 ad.length c1,.slice p3 bd.length c3] w' (Ret w' (.bool false)):=fun w' fs hst=>by have h:=hB0 w' hst;rwa [vA e4] at h
     obtain rfl:r=false:=hr.symm.trans (vA fun h=>e4 h.2.2.2)
     exact dTBOLe
   ·have hW:∀ w' {fs:Fs},St w [] fs w'→Calls prog 48 #[.slice p0 al.length c0,.slice p2 bl.length c2] w' (Ret w' (.bool false)):=fun w' fs hst=>by have h:=hW0 w' hst;rwa [vA e3] at h
    obtain rfl:r=false:=hr.symm.trans (vA fun h=>e3 h.2.2.1)
    exact dTBvSJ
  ·obtain rfl:r=false:=hr.symm.trans (vA fun h=>e2 h.2.1)
   (refine goZ ?_;intro _ _)
   (refine fiz ?_)
   rfl
 ·obtain rfl:r=false:=hr.symm.trans (vA fun h=>e1 h.1)
  (refine goZ ?_;intro _ _)
  (refine fiz ?_)
  rfl
def opF (f:FrV) (L:FrL):Nat:=if f.pc=(L.cl.length:Int) then 0 else (L.cl.getD f.pc.toNat 0).toNat
theorem next_calls (f:FrV) (L:FrL) (hp:f.pc=(L.cl.length:Int)∨(0≤f.pc∧f.pc < (L.cl.length:Int))) (w:World) (h:FrRows w f L):Calls prog 82 #[frv f] w (Ret w (.int .u8 ((opF f L:Nat):Int))):=by
 obtain ⟨code,pc,stk,mem,gas,self,frm,val,inp,back,stat⟩:=f
 obtain ⟨h0,h2,h3,h11,h12⟩:=h
 dsimp only at h0 hp
 unfold opF
 dsimp only
 by_cases he:pc=(L.cl.length:Int)
 ·obtain ⟨p0,c0,rfl,hl0,_⟩:=id h0.form
  rw [if_pos he]
  refine enter (args:=[_]) _ [] [] func82 rfl ntmps82 rfl (by simp) .nil ?_
  exact dTBTSr
 ·rw [if_neg he]
  obtain ⟨k,rfl⟩:∃ k:Nat,pc=(k:Int):=⟨pc.toNat,by omega⟩
  have hk:k < L.cl.length:=by omega
  obtain ⟨b0,o0,c0,cs,E,fr,rfl,hb,hx⟩:=h0.pos (by omega)
  obtain ⟨bk,hbk⟩:∃ bk,L.cl[k]?=some bk:=⟨_,jO hk⟩
  have hrd:Rd prog 5 (.cells cs E fr) (o0+k * 1) (.int .u8 (bk.toNat:Int)):=Rd.elem1 hx (ucs_one _) hbk rfl
  rw [yY,jU,hbk]
  refine enter (args:=[_]) _ [] [] func82 rfl ntmps82 rfl (by simp) .nil ?_
  exact dTBTSr
theorem rOp_calls (f:FrV) (L:FrL) (hp:f.pc=(L.cl.length:Int)∨(0≤f.pc∧f.pc < (L.cl.length:Int))) (w:World) (h:FrRows w f L):Calls prog 35 #[frv f] w (Ret w (.int .u8 ((opF f L:Nat):Int))):=by
 obtain ⟨code,pc,stk,mem,gas,self,frm,val,inp,back,stat⟩:=f
 obtain ⟨h0,h2,h3,h11,h12⟩:=h
 dsimp only at h0 hp
 unfold opF
 dsimp only
 by_cases he:pc=(L.cl.length:Int)
 ·obtain ⟨p0,c0,rfl,hl0,_⟩:=id h0.form
  rw [if_pos he]
  refine enter (args:=[_]) _ [] [] func35 rfl ntmps35 rfl (by simp) .nil ?_
  exact dTBTSr
 ·rw [if_neg he]
  obtain ⟨k,rfl⟩:∃ k:Nat,pc=(k:Int):=⟨pc.toNat,by omega⟩
  have hk:k < L.cl.length:=by omega
  obtain ⟨b0,o0,c0,cs,E,fr,rfl,hb,hx⟩:=h0.pos (by omega)
  obtain ⟨bk,hbk⟩:∃ bk,L.cl[k]?=some bk:=⟨_,jO hk⟩
  have hrd:Rd prog 5 (.cells cs E fr) (o0+k * 1) (.int .u8 (bk.toNat:Int)):=Rd.elem1 hx (ucs_one _) hbk rfl
  rw [yY,jU,hbk]
  refine enter (args:=[_]) _ [] [] func35 rfl ntmps35 rfl (by simp) .nil ?_
  exact dTBTSr
theorem okF_pc {f:FrV} {L:FrL} (h:okF f L):f.pc=(L.cl.length:Int)∨(0≤f.pc∧f.pc < (L.cl.length:Int)):=by
 rcases h.2.2.2.2 with h|h
 ·exact .inl h
 ·exact .inr (CK.readB_range h)
end
section
open CK (readB readFrom readFrom_hit)
section wr
variable {P : Program} {T E : TypeId} {code stk mem inp back z : Value} {pc : Int} {gas self frm val n c n2 c2 : Nat} {stat : Bool} {p p2 : Option Addr}
theorem fr_wr23 [InfoI P T 2 z]:Wr P T (.cells (fra ⟨code,pc,stk,mem,gas,self,frm,val,inp,back,stat⟩) E (0,0)) (0+2) (.agg #[.slice p n c,.slice p2 n2 c2]) (.cells (fra ⟨code,pc,.slice p n c,.slice p2 n2 c2,gas,self,frm,val,inp,back,stat⟩) E (0,0)):=qU (n:=2) (z:=z) rfl rfl (by show 0+2+2≤14;omega) rfl
end wr
def rCopyR (f:FrV) (L:FrL) (v:Value) (gs:Fs):Prop:=∃ c s m i b,v=frv (f.rows c s m i b)∧FrO (f.rows c s m i b) L gs∧(L.ws.length=0→∃ p,s=.slice p 0 0)
theorem rfCopy_calls (f:FrV) (L:FrL) (hl:L.short) (w:World) (h:FrRows w f L):Calls prog 49 #[frv f] w (RetG w [] (rCopyR f L)):=by
 obtain ⟨code,pc,stk,mem,gas,self,frm,val,inp,back,stat⟩:=f
 obtain ⟨h0,h2,h3,h11,h12⟩:=h
 dsimp only at h0 h2 h3 h11 h12
 obtain ⟨p0,c0,rfl,_,hm0⟩:=id h0.form
 obtain ⟨p2,c2,rfl,_,hm2⟩:=id h2.form
 obtain ⟨p3,c3,rfl,_,hm3⟩:=id h3.form
 obtain ⟨p11,c11,rfl,_,hm11⟩:=id h11.form
 obtain ⟨p12,c12,rfl,_,hm12⟩:=id h12.form
 refine enter (args:=[_]) _ [] [] func49 rfl ntmps49 rfl (by simp) .nil ?_
 (refine goZ ?_;intro _ _)
 rename_i b1 b2
 apply CW.pre
 (refine qY [(2,bM L.cl),(5,bM L.il),(8,bM L.bl)] 10 mixed (by decide +kernel) ?_)
 (refine tsZ ?_)
 (apply DW.manyV;rfl;rfl;rfl;exact zC;rfl;exact vF;exact .cons rfl (.cons rfl .nil);apply RdV.ext;assumption;rfl;apply RdV.plain;rfl;exact RdV.nil;intro w _ _)
 exact rBoth_calls _ _ w (h0.bel (by assumption)) hl.1
 intro v1 g1 h1
 (refine tsZ ?_)
 (apply DW.manyV;rfl;rfl;rfl;exact zC;rfl;exact vF;exact .cons rfl (.cons rfl .nil);apply RdV.ext;assumption;rfl;apply RdV.plain;rfl;exact RdV.nil;intro w _ _)
 exact rBoth_calls _ _ w (h11.bel (by assumption)) hl.2.2.2.1
 intro v4 g4 h4
 (refine tsZ ?_)
 (apply DW.manyV;rfl;rfl;rfl;exact zC;rfl;exact vF;exact .cons rfl (.cons rfl .nil);apply RdV.ext;assumption;rfl;apply RdV.plain;rfl;exact RdV.nil;intro w _ _)
 exact rBoth_calls _ _ w (h12.bel (by assumption)) hl.2.2.2.2
 intro v5 g5 h5
 have h1':=h1
 have h4':=h4
 have h5':=h5
 unfold bM at h1' h4' h5'
 obtain ⟨q1,k1,rfl⟩:=h1'.form
 obtain ⟨q4,k4,rfl⟩:=h4'.form
 obtain ⟨q5,k5,rfl⟩:=h5'.form
 (refine tsZ ?_)
 (refine zR rfl rfl (.app (.app (.app (.tail .head)))) fr_wr0<|vFz ?_;refine zR rfl rfl (.app (.app (.app (.tail .head)))) fr_wr11<|vFz ?_;refine zR rfl rfl (.app (.app (.app (.tail .head)))) fr_wr12<|nSz<|vFz<|ldz rfl (.app (.app (.app (.tail .head)))) fr_rd2 ?_)
 (apply LW.callR;rfl;rfl;exact vF;exact .cons rfl .nil;intro w hs)
 exact rScCopy_calls L.ws L.ms _ _ w (h2.st hs) (h3.st hs) hl.2.1 hl.2.2.1
 rintro vo gso ⟨s1,m1,g2,g3,rfl,rfl,hh2,hh3,h00⟩
 have h2':=hh2
 have h3':=hh3
 unfold wM at h2'
 unfold bM at h3'
 obtain ⟨q2,k2,rfl⟩:=h2'.form
 obtain ⟨q3,k3,rfl⟩:=h3'.form
 rw [jR]
 have hsl:FrSl ⟨.slice q1 L.cl.length k1,pc,.slice q2 L.ws.length k2,.slice q3 L.ms.length k3,gas,self,frm,val,.slice q4 L.il.length k4,.slice q5 L.bl.length k5,stat⟩:=⟨⟨_,_,_,rfl⟩,⟨_,_,_,rfl⟩,⟨_,_,_,rfl⟩,⟨_,_,_,rfl⟩,⟨_,_,_,rfl⟩⟩
 (refine goZ ?_;refine zR rfl rfl (.app (.app (.app (.app (.app (.tail .head)))))) fr_wr23 ?_;refine goZ ?_)
 refine fin (vs:=[frv ⟨.slice q1 L.cl.length k1,pc,.slice q2 L.ws.length k2,.slice q3 L.ms.length k3,gas,self,frm,val,.slice q4 L.il.length k4,.slice q5 L.bl.length k5,stat⟩]) (g3++(g2++(g5++(g4++g1)))) (.inl rfl) rfl rfl (by (apply zD;apply zH;rfl;apply qH;apply zZ;apply zZ;apply zZ;apply zZ;apply zZ;apply zY;exact fr_rdW;exact zF)) ?_ ⟨_,_,_,_,_,rfl,⟨g1,g2,g3,g4,g5,perm5 g1 g2 g3 g4 g5,h1,hh2,hh3,h4,h5⟩,h00⟩
 exact jL (jL (jL (jL (jJ _ _) _) _) _) _
end
section
section rd
variable {P : Program} {T E : TypeId} {fr : Nat × Nat} {ok : Bool} {left : Nat} {out : Value}
end rd
theorem blocks_frv {f:FrV} (h:FrSl f):blocksN 4 (frv f)=[f.code,f.stk,f.mem,f.inp,f.back].flatMap (blocksN 4):=by
 show (frc f).flatMap (blocksN 3)=_
 have e:∀ (k:IntKind) (n:Int),blocksN 3 (.int k n)=[]:=fun _ _=>rfl
 have e2:∀ b:Bool,blocksN 3 (.bool b)=[]:=fun _=>rfl
 simp only [frc,wc,yJ,List.flatMap_nil,yA,jQ,e,e2,yM,blocks_sl h.c,blocks_sl h.s,blocks_sl h.m,blocks_sl h.i,blocks_sl h.b]
theorem RowAt.cutMax {w:World} {sz n c k:Nat} {p:Option Addr} {xs:List Value} (h:RowAt w sz (.slice p n c) n xs) (hk:k≤n):RowAt w sz (.slice p k k) k (xs.take (k * sz)):=by
 have h1:=h.take hk
 obtain ⟨_,_,he,hle,hmx⟩:=h.form
 cases he
 refine ⟨⟨_,_,rfl,yD _,by omega⟩,h1.len,fun h0=>?_,fun p' n' c' he=>?_⟩
 ·obtain ⟨b,off,c2,cs,E,fr,he,hb,hx⟩:=h1.pos h0
  cases he
  exact ⟨b,off,k,cs,E,fr,rfl,hb,hx⟩
 ·cases he
  rcases yB k with h0|h0
  ·exact .inr (.inl h0)
  ·rcases h1.lies _ _ _ rfl with h2|h2|h2
   ·exact .inl h2
   ·omega
   ·exact .inr (.inr h2)
end
section
theorem dTBSYc {P:Prop} (h:P:=by
 obtain ⟨u3,a3,b3,c3⟩:=rowU_own h3
 obtain ⟨u4,a4,b4,c4⟩:=rowU_own h4
 obtain ⟨u5,a5,b5,c5⟩:=rowU_own h5
 refine ⟨u1++(u2++(u3++(u4++u5))),?_,fun p hq=>hp.subset ?_,fun w hw=>⟨c1 w fun p h=>hw p (by simp [h]),c2 w fun p h=>hw p (by simp [h]),c3 w fun p h=>hw p (by simp [h]),c4 w fun p h=>hw p (by simp [h]),c5 w fun p h=>hw p (by simp [h])⟩⟩
 ·rw [blocks_frv hsl]
  simp [a1,a2,a3,a4,a5]
 ·simp only [List.mem_append] at hq ⊢
  rcases hq with h|h|h|h|h
  ·exact .inl (b1 p h)
  ·exact .inr (.inl (b2 p h))
  ·exact .inr (.inr (.inl (b3 p h)))
  ·exact .inr (.inr (.inr (.inl (b4 p h))))
  ·exact .inr (.inr (.inr (.inr (b5 p h))))):P:=h
theorem rowU_own {E:TypeId} {sz n:Nat} {v:Value} {xs:List Value} {seg:Fs} (h:IsRow E sz v n xs seg):∃ us:Fs,blocksN 4 v=us.map (·.1)∧(∀ p∈us,p∈seg)∧∀ w:World,(∀ p∈us,w.heap[p.1]?=some p.2)→RowAt w sz v n xs:=by
 cases h with
 |nil=>exact ⟨[],rfl,(fun p h=>by cases h),fun w _=>.nil⟩
 |@own g _ cap cur _ hn hm hc ht hl =>
  rcases yB cap with h0|h0
  ·subst h0
   obtain rfl:n=0:=by omega
   refine ⟨[],by simp [blocksN],(fun p h=>by cases h),fun w _=>⟨⟨_,_,rfl,yD _,hm⟩,hl,(fun h=>by cases h),fun p n c he=>by cases he;exact .inr (.inl rfl)⟩⟩
  ·exact ⟨[(g,.cells cur E (0,0))],by simp [blocksN,Nat.ne_of_gt h0],fun p h=>h,fun w hw=>IsRow.us (.own hn hm hc ht hl) hw (jG _)⟩
theorem FrO.lie {f:FrV} {L:FrL} {gs:Fs} (h:FrO f L gs):∃ us:Fs,blocksN 4 (frv f)=us.map (·.1)∧(∀ p∈us,p∈gs)∧∀ w:World,(∀ p∈us,w.heap[p.1]?=some p.2)→FrRows w f L:=by
 have hsl:=h.sl
 obtain ⟨g1,g2,g3,g4,g5,hp,h1,h2,h3,h4,h5⟩:=h
 unfold bM at h1 h3 h4 h5
 unfold wM at h2
 obtain ⟨u1,a1,b1,c1⟩:=rowU_own h1
 obtain ⟨u2,a2,b2,c2⟩:=rowU_own h2
 exact dTBSYc
theorem zeroF_num:FrNum zeroF zeroL:=⟨by decide,by decide,by decide,by decide,fun x hx=>by cases hx⟩
theorem FrO.us {f:FrV} {L:FrL} {gs:Fs} {w:World} (h:FrO f L gs) (hw:∀ p∈gs,w.heap[p.1]?=some p.2):FrRows w f L:=h.rows hw
def LikeF (x y:FrV):Prop:=∃ c s m i b,y=x.rows c s m i b
theorem LikeF.num {x y:FrV} {L:FrL} (h:LikeF x y) (hx:FrNum x L):FrNum y L:=by
 obtain ⟨c,s,m,i,b,rfl⟩:=h
 exact ⟨hx.gas,hx.self,hx.frm,hx.val,hx.ws⟩
theorem LikeF.same {x y z:FrV} {L:FrL} (h:LikeF x y) (h2:LikeF x z):sameF y L z L:=by
 obtain ⟨c,s,m,i,b,rfl⟩:=h
 obtain ⟨c2,s2,m2,i2,b2,rfl⟩:=h2
 exact ⟨rfl,rfl,rfl,rfl,rfl,rfl,rfl,rfl,rfl,rfl,rfl⟩
theorem anc_nil {ops:Array Oper} {k:Nat}:ancB ops k []=true:=rfl
theorem st_ou {w0 w:World} {S:List Nat} {fs gs:Fs} (hs:St w0 S fs w) (h:List.Sublist gs fs):∀ p∈gs,w.heap[p.1]?=some p.2:=fun p hp=>(hs.own p (h.subset hp)).2
theorem markAll_tag {k:Nat} {ws rs:List Nat} {g:Fs}:markAll k (tsTag ws rs g)=tsTag ws (k::rs) g:=by simp [markAll,tsTag]
theorem markAll_new {k j:Nat} {g:Fs}:markAll k (tsNew j g)=tsTag [j] [k] g:=by simp [markAll,tsTag,tsNew]
def AncT (ops:Array Oper) (k:Nat) (ts:Ts):Prop:=∀ q∈ts,ancB ops k q.2.2.1=true
section anc
variable {ops : Array Oper} {k j : Nat} {s ts : Ts} {gs : Fs} {b : Nat} {o : Obj} {ws rs : List Nat}
theorem AncT.nil:AncT ops k []:=fun q h=>by cases h
theorem AncT.cons (h:ancB ops k ws=true) (ht:AncT ops k ts):AncT ops k ((b,o,ws,rs)::ts):=fun q hq=>by
 rcases List.mem_cons.1 hq with rfl|hq
 ·exact h
 ·exact ht q hq
theorem AncT.app (h:AncT ops k s) (ht:AncT ops k ts):AncT ops k (s++ts):=fun q hq=>by
 rcases List.mem_append.1 hq with hq|hq
 ·exact h q hq
 ·exact ht q hq
theorem AncT.tsOf:AncT ops k (tsOf gs):=fun q hq=>by
 obtain ⟨p,_,rfl⟩:=List.mem_map.1 (show q∈gs.map _ from hq)
 exact anc_nil
theorem AncT.tag (h:ancB ops k ws=true):AncT ops k (tsTag ws rs gs):=fun q hq=>by
 obtain ⟨p,_,rfl⟩:=List.mem_map.1 (show q∈gs.map _ from hq)
 exact h
theorem AncT.new (h:ancB ops k [j]=true):AncT ops k (tsNew j gs):=fun q hq=>by
 obtain ⟨p,_,rfl⟩:=List.mem_map.1 (show q∈gs.map _ from hq)
 exact h
theorem AncT.lie {C:Cu} {p:Nat × Obj} (h:AncT ops k ts) (hp:p∈fsOf ts):Lie C ops k ts p:=by
 obtain ⟨q,hq,rfl⟩:=List.mem_map.1 (show p∈ts.map _ from hp)
 exact .inl ⟨q.2.2.1,q.2.2.2,hq,h q hq⟩
end anc
end
section
def revS (l L:List Nat) (k:Nat):Prop:=L.length=l.length∧∀ i,i < l.length→L[i]?=if i < k∨l.length - 1 - i < k then l[l.length - 1 - i]? else l[i]?
theorem revS_zero (l:List Nat):revS l l 0:=⟨rfl,fun i hi=>by rw [if_neg (by omega)]⟩
theorem revS_step {l L:List Nat} {k x y:Nat} (h:revS l L k) (hk:2 * k+1 < l.length) (hx:L[l.length - 1 - k]?=some x) (hy:L[k]?=some y):revS l ((L.set k x).set (l.length - 1 - k) y) (k+1):=by
 obtain ⟨h1,h2⟩:=h
 have hx0:=h2 (l.length - 1 - k) (by omega)
 rw [if_neg (by omega),hx] at hx0
 have hy0:=h2 k (by omega)
 rw [if_neg (by omega),hy] at hy0
 refine ⟨by rw [List.length_set,List.length_set,h1],fun i hi=>?_⟩
 by_cases e1:i=l.length - 1 - k
 ·subst e1
  rw [List.getElem?_set_self (by rw [List.length_set];omega),if_pos (by omega),show l.length - 1 - (l.length - 1 - k)=k by omega]
  exact hy0
 ·rw [List.getElem?_set_ne (fun h=>e1 h.symm)]
  by_cases e2:i=k
  ·subst e2
   rw [List.getElem?_set_self (by omega),if_pos (by omega)]
   exact hx0
  ·rw [List.getElem?_set_ne (fun h=>e2 h.symm),h2 i hi]
   by_cases c:i < k∨l.length - 1 - i < k
   ·rw [if_pos c,if_pos (by omega)]
   ·rw [if_neg c,if_neg (by omega)]
theorem revS_end {l L:List Nat} {k:Nat} (h:revS l L k) (hk:l.length≤2 * k+1):L=l.reverse:=by
 obtain ⟨h1,h2⟩:=h
 refine List.ext_getElem? fun i=>?_
 rcases jM i l.length with hi|hi
 ·rw [h2 i hi,List.getElem?_reverse hi]
  by_cases c:i < k∨l.length - 1 - i < k
  ·rw [if_pos c]
  ·rw [if_neg c,show l.length - 1 - i=i by omega]
 ·rw [yN (by omega),yN (by rw [List.length_reverse];exact hi)]
theorem wcs_lenN (L:List Nat):(wcs L).length=L.length * 4:=by
 induction L with
 |nil=>rfl
 |cons x L ih =>
  show ((wc x).toList++wcs L).length=_
  rw [yC,ih,yK]
  show 4+_=_
  omega
theorem wcs_set (L:List Nat) (i x:Nat) (hi:i < L.length):(wcs L).take (i * 4)++(wc x).toList++(wcs L).drop ((i+1) * 4)=wcs (L.set i x):=by
 rw [wcs_take,wcs_drop,List.set_eq_take_append_cons_drop,if_pos hi,wcs_app]
 show _++_++_=wcs (L.take i)++((wc x).toList++wcs (L.drop (i+1)))
 rw [jR]
attribute [local irreducible] SL.inP
theorem reverse_calls (w0:World) (S:List Nat) (l:List Nat) (v:Value) (g rest:Fs) (hr:wM l v g) (hl:l.length≤100000) (w:World) (hs:St w0 S (g++rest) w) :
  Calls prog 136 #[v] w (fun x w'=>∃ fs',(x=.returned (.tuple #[])∧∃ g',wM l.reverse v g'∧fs'=g'++rest)∧St w0 S fs' w'):=by
 unfold wM at hr ⊢
 obtain ⟨q,c,rfl⟩:=id hr.form
 refine qX (K:=fun x fs'=>x=.returned (.tuple #[])∧∃ g',IsRow 29 4 (.slice q l.length c) l.reverse.length (wcs l.reverse) g'∧fs'=g'++rest) (args:=[_]) func136 rfl ntmps136 rfl ?_ hs
 (refine goZ ?_;refine lvz (.subI rfl rfl (by omega) (by omega)) ?_;refine goZ ?_)
 refine qM (fun x:Nat × List Nat × Fs=>([(3,.int .i64 ((l.length:Int) - 1 - (x.1:Int))),(2,.int .i64 (x.1:Int)),(0,.slice q l.length c)],x.2.2++rest))
  (fun x=>x.1≤l.length∧revS l x.2.1 x.1∧IsRow 29 4 (.slice q l.length c) l.length (wcs x.2.1) x.2.2) (fun x=>l.length - x.1) (0,l,g) ⟨Nat.zero_le _,revS_zero l,hr⟩ ⟨(by have h:(l.length:Int) - 1=(l.length:Int) - 1 - ((0:Nat):Int):=by { omega };exact congrArg (fun z=>some (Value.int .i64 z)) h),rfl,rfl,trivial⟩ (jG _) ?_
 rintro ⟨k,L,seg⟩ ⟨hk,hrev,hrow⟩
 dsimp only at hk hrev hrow ⊢
 rcases jM (2 * k+1) l.length with hlt|hge
 ·obtain ⟨gm,cur,rfl,rfl,hn9,hm9,hsz9,htk9⟩:=hrow.pos (by omega)
  have hLl:L.length=l.length:=hrev.1
  obtain ⟨j,hj⟩:∃ j,l.length - 1 - k=j:=⟨_,rfl⟩
  rw [show (l.length:Int) - 1 - (k:Int)=(j:Int) by omega]
  have hrdK:Rd prog 29 (.cells cur 29 (0,0)) (0+k * 4) (wv (L.getD k 0)):=word_rd (by rw [yW];exact htk9) k (by omega)
  have hrdJ:Rd prog 29 (.cells cur 29 (0,0)) (0+j * 4) (wv (L.getD j 0)):=word_rd (by rw [yW];exact htk9) j (by omega)
  have hgk:L[k]?=some (L.getD k 0):=by rw [jU,jO (by omega)];rfl
  have hgj:L[l.length - 1 - k]?=some (L.getD j 0):=by rw [hj,jU,jO (by omega)];rfl
  have hstep:=revS_step hrev hlt hgj hgk
  rw [hj] at hstep
  obtain ⟨x,hx⟩:∃ x,L.getD j 0=x:=⟨_,rfl⟩
  obtain ⟨y,hy⟩:∃ y,L.getD k 0=y:=⟨_,rfl⟩
  rw [hx] at hrdJ hstep
  rw [hy] at hrdK hstep
  obtain ⟨w1,w2⟩:=wr_take (i:=k) (vs:=(wc x).toList) htk9 rfl (by omega) (by omega)
  rw [wcs_set L k x (by omega)] at w1
  obtain ⟨w3,w4⟩:=wr_take (i:=j) (vs:=(wc y).toList) w1 rfl (by omega) (by omega)
  rw [wcs_set _ j y (by rw [List.length_set];omega)] at w3
  have hW1:Wr prog 29 (.cells cur 29 (0,0)) (0+k * 4) (wv x) (.cells (wrCells cur (k * 4) (wc x).toList) 29 (0,0)):=qU (z:=wv 0) (n:=4) rfl rfl (by rw [hsz9];show 0+k * 4+4≤c * 4;omega) (by rw [jH];rfl)
  have hW2:Wr prog 29 (.cells (wrCells cur (k * 4) (wc x).toList) 29 (0,0)) (0+j * 4) (wv y) (.cells (wrCells (wrCells cur (k * 4) (wc x).toList) (j * 4) (wc y).toList) 29 (0,0)):=qU (z:=wv 0) (n:=4) rfl rfl (by rw [w2,hsz9];show 0+j * 4+4≤c * 4;omega) (by rw [jH];rfl)
  (refine goZ ?_)
  apply CW.pre
  (refine qY [] 14 mixed (by decide +kernel) ?_)
  (refine tsZ ?_;apply DW.store;rfl;rfl;exact zC;rfl;rfl;apply qR;exact zN;kernel_rfl;exact hW1;refine goZ ?_)
  refine fsZ ?_
  (refine goZ ?_)
  apply thenX
  exact ⟨rfl,(k+1,_,_),⟨by omega,hstep,.own hn9 hm9 (by rw [w4,w2,hsz9]) w3 (by rw [wcs_lenN,List.length_set,List.length_set,hLl])⟩,by show l.length - (k+1) < l.length - k;omega,⟨(by have h:((j - 1:Nat):Int)=(l.length:Int) - 1 - ((k+1:Nat):Int):=by { omega };exact congrArg (fun z=>some (Value.int .i64 z)) h),rfl,rfl,trivial⟩,jG _⟩
 ·obtain rfl:=revS_end hrev hge
  (refine goZ ?_)
  exact inPI (.inr rfl) .nil rfl .nil rfl ⟨rfl,seg,by rw [List.length_reverse];exact hrow,rfl⟩
def wP (l:List Nat) (v:Value) (gs:Fs):Prop:=wM l v gs∨∃ g cur,v=.slice (some ⟨g,0,none⟩) l.length l.length∧gs=[(g,.cells cur 29 (0,0))]∧l.length * 4≤cur.size∧cur.toList.take (l.length * 4)=wcs l∧l.length≤maxLen
theorem wP.form {l:List Nat} {v:Value} {gs:Fs} (h:wP l v gs):∃ p c,v=.slice p l.length c:=by
 rcases h with h|⟨g,cur,rfl,_⟩
 ·unfold wM at h
  exact h.form
 ·exact ⟨_,_,rfl⟩
theorem wP.at {l:List Nat} {v:Value} {g:Fs} {w:World} (h:wP l v g) (hw:∀ p∈g,w.heap[p.1]?=some p.2):RowAt w 4 v l.length (wcs l):=by
 rcases h with h|⟨b,cur,rfl,rfl,hsz,htk,hm⟩
 ·exact wM_at h hw
 ·exact RowAt.us (us:=[]) hw (yD _) hm htk (wcs_lenN l)
theorem wM_cut {l:List Nat} {p:Option Addr} {c k:Nat} {gs:Fs} (h:wM l (.slice p l.length c) gs) (hk:k≤l.length):wP (l.take k) (.slice p k k) gs:=by
 unfold wM at h
 have hlk:(l.take k).length=k:=by rw [yH];omega
 rcases yB l.length with h0|h0
 ·have hl0:=List.length_eq_zero_iff.1 h0
  subst hl0
  obtain rfl:k=0:=by simpa using hk
  generalize hn:([]:List Nat).length=n at h
  generalize hx:wcs []=xs at h
  cases h with
  |nil=>exact .inl .nil
  |own hn hm hc ht hl=>exact .inr ⟨_,_,rfl,rfl,yT _,rfl,yT _⟩
 ·obtain ⟨g,cur,rfl,rfl,hn,hm,hsz,htk⟩:=IsRow.pos h h0
  refine .inr ⟨g,cur,by rw [hlk],rfl,by rw [hlk,hsz];omega,?_,by rw [hlk];omega⟩
  rw [hlk,← wcs_take,← htk,List.take_take,Nat.min_eq_left (by omega)]
def PopR (ws:List Nat) (ms:List UInt8) (n:Nat) (v:Value) (gs:Fs):Prop:=∃ s k t g1 g2 g3,v=.tuple #[.agg #[s,k],t,.int .i64 0]∧gs=g3++(g2++g1)∧wP (ws.take (ws.length - n)) s g1∧bM ms k g2∧wM ((ws.drop (ws.length - n)).reverse) t g3
theorem pop_calls (ws:List Nat) (ms:List UInt8) (n:Nat) (s m:Value) (hn:n≤ws.length) (w:World) (hs:RowAt w 4 s ws.length (wcs ws)) (hm:RowAt w 1 m ms.length (ucs ms)) (hok:okSc ws.length ms.length) :
  Calls prog 95 #[.agg #[s,m],.int .i64 (n:Int)] w (RetG w [] (PopR ws ms n)):=by
 have hs0:=hs
 have hm0:=hm
 obtain ⟨p,c,rfl,_,hc⟩:=hs.form
 obtain ⟨p2,c2,rfl,_,hc2⟩:=hm.form
 have hC:∀ w,Calls prog 84 #[.agg #[.slice p ws.length c,.slice p2 ms.length c2]] w (Ret w (.int .i64 0)):=fun w=>by
  exact dTBxIv
 have hok2:=hok
 unfold okSc at hok2
 obtain ⟨hn1,hk1,hk2⟩:=hok2
 refine enter (args:=[_,_]) _ [] [] func95 rfl ntmps95 rfl (by simp) .nil ?_
 (refine goZ ?_;intro _ _;refine cEv hC ?_)
 refine dQBlKy ?_
 rintro vo gso ⟨s1,m1,g1,g2,rfl,rfl,h1,h2⟩
 have h1':=h1
 have h2':=h2
 unfold wM at h1'
 unfold bM at h2'
 obtain ⟨q1,k1,rfl⟩:=h1'.form
 obtain ⟨q2,k2,rfl⟩:=h2'.form
 rw [jR]
 (refine goZ ?_;intro _;refine lvz (.cutFrom vF vF rfl rfl (by omega)) ?_)
 refine LW.callR rfl rfl vF agZ (fun w hst=>CloneW_calls (ws.drop (ws.length - n)) _ w (by
  have h:=(h1'.us (fun p hp=>(hst.own p (jI _ (jT _ (yG _ hp)))).2) (jG _)).drop (k:=ws.length - n) (by omega)
  rw [wcs_drop] at h
  rw [yL]
  exact h) (by rw [yL];omega)) ?_
 intro v3 g3 h3
 have h3':=h3
 unfold wM at h3'
 obtain ⟨q3,k3,rfl⟩:=id h3'.form
 (refine goZ ?_)
 rename_i b2 b4 b8
 have hrl:(ws.drop (ws.length - n)).length≤100000:=by rw [yL];omega
 replace h3:wM (ws.drop (ws.length - n)) (.slice q3 (ws.drop (ws.length - n)).length k3) g3:=h3
 refine qO (K:=fun v fs'=>v=.tuple #[]∧∃ g',wM (ws.drop (ws.length - n)).reverse (.slice q3 (ws.drop (ws.length - n)).length k3) g'∧fs'=g'++((b8,.cells #[.slice q1 ws.length k1,.slice q2 ms.length k2] 25 (0,0))::(g2++(g1++[(b4,.cells #[.slice none 0 0,.slice none 0 0] 25 (0,0)),(b2,.cells #[.slice p ws.length c,.slice p2 ms.length c2] 25 (0,0))])))) rfl rfl vF agZ (fun w' hst=>vG (reverse_calls _ _ _ _ g3 _ h3 hrl w' hst) fun x w'' ⟨fs',⟨h1,h2⟩,hst⟩=>⟨_,_,h1,⟨rfl,h2⟩,hst⟩) ?_
 rintro _ _ ⟨rfl,g4,h4,rfl⟩
 have hroom:ws.length≤k1:=IsRow.le h1'
 (refine nSz<|vFz<|ldz rfl (.app .head) sc_rd0<|vMz<|vMz ?_;apply qN;rfl;rfl;apply ValP.cutMax;exact vF;exact vF;rfl;rfl;rfl;omega;omega;refine vFz ?_;refine zR rfl rfl (.app .head) sc_wr0<|nSz<|ldz rfl (.app .head) (qI rfl)<|vMz ?_;refine zR rfl rfl (.app (.tail (.app (.app .head)))) (.whole rfl rfl rfl)<|vAz<|vAz<|nNz<|zK ?_)
 refine fin (vs:=[.agg #[.slice q1 (ws.length - n) (ws.length - n),.slice q2 ms.length k2],.slice q3 (ws.drop (ws.length - n)).length k3,.int .i64 0]) (g4++(g2++g1)) (.inl rfl) rfl rfl rsZ ?_ ⟨_,_,_,g1,g2,g4,rfl,rfl,wM_cut h1 (by omega),h2,h4⟩
 exact jL (jL (jJ _ _) _ |>.cons _) _
end
section
open CK (dataC)
theorem dQBVgc {P Q:Prop} (k:Q) (h:BoxZ Q→P:=by
 intro kQ
 (try simp only [markAll_cons,markAll_app,markAll_tsOf,markAll_tag,markAll_new,markAll_nil])
 exact kQ.k):P:=h ⟨k⟩
theorem number_calls (l:List UInt8) (v:Value) (hl:l.length≤32) (w:World) (h:RowAt w 1 v l.length (ucs l)):Calls prog 131 #[v] w (Ret w (wv (bev l))):=by
 obtain ⟨p,c,rfl,_,_⟩:=id h.form
 have hR:=fun w' {fs:Fs} (hst:St w [] fs w')=>Read_calls _ l w' (h.st hst) hl
 refine enter (args:=[_]) _ [] [] func131 rfl ntmps131 rfl (by simp) .nil ?_
 (refine goZ ?_;intro _;refine cEz (c:=fun w _=>by exact hR w (by assumption)) (k:=?_);intro _;refine cEv need_true ?_)
 (refine fiz ?_)
 rfl
theorem dataL_len (bs:List UInt8) (i:Int):(CK.dataL bs i).length≤32:=by
 unfold CK.dataL
 split
 ·rw [CK.datF_len]
  exact CK.szOf_le _
 ·exact yT _
theorem dataC_len (bs:List UInt8) (i:Int):(dataC bs i).length≤32:=by
 unfold CK.dataC
 split
 ·exact dataL_len bs i
 ·exact yT _
section rd
variable {P : Program} {T E : TypeId} {fr : Nat × Nat} {m : MaV}
theorem ma_rd0 [AgI P T false]:Rd P T (.cells (mca m) E fr) 0 m.fr.code:=Rd.one rfl
theorem ma_rd1 [AgI P T false]:Rd P T (.cells (mca m) E fr) 1 (.int .i64 m.fr.pc):=Rd.one rfl
theorem ma_rd2s [AgI P T false]:Rd P T (.cells (mca m) E fr) 2 m.fr.stk:=Rd.one rfl
end rd
attribute [local irreducible] SL.inP
def RowK (b:Nat) (m:MaV) (L:FrL) (ws:List Nat) (rest:Fs):Out:=fun x fs'=>x=.returned (.bool true)∧∃ s k gs',FrO (m.fr.setR m.fr.gas s k) (L.setW ws) gs'∧fs'=(b,maO (m.setF (m.fr.setR m.fr.gas s k)))::(gs'++rest)
theorem row_push (w0:World) (S:List Nat) (b:Nat) (m:MaV) (L:FrL) (gs rest:Fs) (op:Nat) (h1:96≤op) (h2:op≤127) (hok:okSc L.ws.length L.ms.length) (hf:L.ws.length+1≤64) (hfr:FrO m.fr L gs) (w:World) (hs:St w0 S ((b,maO m)::(gs++rest)) w) :
  Calls prog 94 #[.pointer (some ⟨b,0,none⟩),.int .u8 (op:Int)] w (fun x w'=>∃ fs',RowK b m L (L.ws++[bev (dataC L.cl m.fr.pc)]) rest x fs'∧St w0 S fs' w'):=by
 obtain ⟨g1,g2,g3,g4,g5,hp,hall⟩:=hfr
 replace hs:St w0 S ((b,maO m)::(g1++(g2++(g3++(g4++g5)))++rest)) w:=hs.perm (List.Perm.cons _ (hp.append_right rest))
 clear hp
 obtain ⟨r1,r2,r3,r4,r5⟩:=id hall
 unfold bM at r1 r3
 unfold wM at r2
 obtain ⟨fr,e0,e1,e2,e3,took,kind,aop,awords,adata⟩:=m
 obtain ⟨code,pc,stk,mem,gas,self,frm,val,inp,back,stat⟩:=fr
 dsimp only at r1 r2 r3
 obtain ⟨q1,k1,rfl⟩:=id r1.form
 obtain ⟨q2,k2,rfl⟩:=id r2.form
 obtain ⟨q3,k3,rfl⟩:=id r3.form
 obtain ⟨us1,hbl1,hin1,hrows1⟩:=rowU_own r1
 obtain ⟨us2,hbl2,hin2,hrows2⟩:=rowU_own r2
 obtain ⟨us3,hbl3,hin3,hrows3⟩:=rowU_own r3
 dsimp only
 obtain ⟨x,hx⟩:∃ x,bev (dataC L.cl pc)=x:=⟨_,rfl⟩
 rw [hx]
 refine calls_anyO (qX (K:=anyO (RowK b ⟨⟨.slice q1 L.cl.length k1,pc,.slice q2 L.ws.length k2,.slice q3 L.ms.length k3,gas,self,frm,val,inp,back,stat⟩,e0,e1,e2,e3,took,kind,aop,awords,adata⟩ L (L.ws++[x]) rest)) (args:=[_,_]) func94 rfl ntmps94 rfl ?_ hs)
 (refine sRz<|vAz<|nSz<|vMz<|vNz<|vFz<|vFz<|ldz rfl .head ma_rd2 ?_;apply zU;rfl;intro _;refine zR rfl rfl .head (.whole rfl rfl rfl)<|vAz<|nNz<|zI<|zM<|sRz<|vMz ?_;refine lvz (.geqT rfl rfl (by omega)) ?_;refine vMz<|gTz<|vMz<|gTz ?_;refine lvz (.leqT rfl rfl (by omega)) ?_;refine pTz<|vAz<|nNz<|cTz ?_)
 apply CW.pre
 (refine qY [(11,bM (dataC L.cl pc)),(14,fun r gs=>∃ o,r=.tuple #[o,.int .i64 0]∧ScO (L.ws++[x]) L.ms o gs)] 19 mixed (by decide +kernel) ?_)
 (refine tsZ ?_)
 dsimp only
 refine DW.manyA us1 rfl rfl rfl (by (exact zC)) rfl vF agZ (by rw [yJ,hbl1];exact yM _) (fun p hp=>AncT.lie (by (refine AncT.cons ?_ ?_;exact zN;refine AncT.cons ?_ ?_;exact zN;refine AncT.app ?_ ?_;refine AncT.app ?_ ?_;exact AncT.tsOf;refine AncT.app ?_ ?_;exact AncT.tsOf;refine AncT.app ?_ ?_;exact AncT.tsOf;refine AncT.app ?_ ?_;exact AncT.tsOf;exact AncT.tsOf;exact AncT.tsOf)) (by have hp:=hin1 p hp;simp [fsOf,tsOf,tsNew,tsTag,markAll,Function.comp_def,hp])) (fun w _ hu=>CK.Data_calls L.cl pc _ w (hrows1 w hu)) ?_
 intro vD gD hD
 have hD':=hD
 obtain ⟨q4,k4,rfl⟩:=id (IsRow.form hD')
 obtain ⟨us4,hbl4,hin4,hrows4⟩:=rowU_own hD'
 (try simp only [markAll_cons,markAll_app,markAll_tsOf,markAll_tag,markAll_new,markAll_nil])
 (refine tsZ ?_)
 refine DW.callA us4 (v:=wv x) rfl rfl rfl (by (exact zC)) rfl vF agZ (by rw [yJ,hbl4];exact yM _) (fun p hp=>AncT.lie (by (refine AncT.app ?_ ?_;refine AncT.new ?_;kernel_rfl;refine AncT.cons ?_ ?_;exact zN;refine AncT.cons ?_ ?_;exact zN;refine AncT.app ?_ ?_;refine AncT.app ?_ ?_;refine AncT.tag ?_;exact zN;refine AncT.app ?_ ?_;refine AncT.tag ?_;exact zN;refine AncT.app ?_ ?_;refine AncT.tag ?_;exact zN;refine AncT.app ?_ ?_;refine AncT.tag ?_;exact zN;refine AncT.tag ?_;exact zN;refine AncT.tag ?_;exact zN)) (by have hp:=hin4 p hp;simp [fsOf,tsOf,tsNew,tsTag,markAll,Function.comp_def,hp])) (fun w _ hu=>by rw [← hx];exact number_calls _ _ (dataC_len _ _) w (hrows4 w hu)) ?_
 (try simp only [markAll_cons,markAll_app,markAll_tsOf,markAll_tag,markAll_new,markAll_nil])
 (refine tsZ ?_;apply DW.layA;rfl;rfl;rfl;exact zC;exact vF;exact vF;rfl;rfl;rfl;rfl;rfl;intro _)
 rename_i b5 b33
 have hrow33:∀ w':World,w'.heap[b33]?=some (.cells (wc x) 29 (0,0))→RowAt w' 4 (.slice (some ⟨b33,0,none⟩) 1 1) 1 (wcs [x]):=fun w' h=>row_cells h rfl rfl (by decide)
 refine DW.manyA (us2++(us3++[(b33,.cells (wc x) 29 (0,0))])) rfl rfl rfl (by (exact zC)) rfl vF agZ ?_ (fun p hp=>AncT.lie (by (refine AncT.cons ?_ ?_;kernel_rfl;refine AncT.app ?_ ?_;refine AncT.tag ?_;kernel_rfl;refine AncT.cons ?_ ?_;exact zN;refine AncT.cons ?_ ?_;exact zN;refine AncT.app ?_ ?_;refine AncT.app ?_ ?_;refine AncT.tag ?_;exact zN;refine AncT.app ?_ ?_;refine AncT.tag ?_;exact zN;refine AncT.app ?_ ?_;refine AncT.tag ?_;exact zN;refine AncT.app ?_ ?_;refine AncT.tag ?_;exact zN;refine AncT.tag ?_;exact zN;refine AncT.tag ?_;exact zN)) ?_) (fun w _ hu=>?_) ?_
 ·rw [yJ,yJ,List.map_append,List.map_append,← hbl2,← hbl3,← blocks_sl ⟨q2,_,k2,rfl⟩,← blocks_sl ⟨q3,_,k3,rfl⟩]
  show ((blocksN 3 _++(blocksN 3 _++[]))++([b33]++[]))=_
  simp only [yM,jR]
  rfl
 ·rcases List.mem_append.1 hp with hp|hp
  ·have hp:=hin2 p hp
   simp [fsOf,tsOf,tsNew,tsTag,markAll,Function.comp_def,hp]
  ·rcases List.mem_append.1 hp with hp|hp
   ·have hp:=hin3 p hp
    simp [fsOf,tsOf,tsNew,tsTag,markAll,Function.comp_def,hp]
   ·obtain rfl:=List.mem_singleton.1 hp
    simp [fsOf,tsOf,tsNew,tsTag,markAll,Function.comp_def]
 ·exact push_ok L.ws L.ms [x] _ _ _ w (hrows2 w fun q hq=>hu q (yG _ hq)) (hrows3 w fun q hq=>hu q (jT _ (yG _ hq))) (hrow33 w (hu _ (jT _ (jT _ jV)))) hok (by show 1≤100000;omega) hf
 rintro vP gP ⟨o,rfl,s1,m1,gg1,gg2,rfl,rfl,hw1,hb1⟩
 have hw1':=hw1
 have hb1':=hb1
 unfold wM at hw1'
 unfold bM at hb1'
 obtain ⟨q5,k5,rfl⟩:=hw1'.form
 obtain ⟨q6,k6,rfl⟩:=hb1'.form
 refine dQBVgc ?_
 (refine tsZ ?_;apply DW.store;rfl;rfl;exact zC;rfl;rfl;apply TSet.app;apply qQ;apply TSet.app;apply qR;exact zN;kernel_rfl;apply Wr.whole;rfl;rfl;rfl;refine goZ ?_)
 refine fsZ ?_
 (refine goZ ?_;refine cEv need_true ?_;refine zR rfl rfl (.app (.tail (.app (.tail .head)))) (ma_wr2 rfl rfl rfl rfl) ?_;refine goZ ?_)
 refine inPI (.inl rfl) .nil rfl rsZ rfl ⟨_,⟨rfl,.slice q5 (L.ws++[x]).length k5,.slice q6 L.ms.length k6,g1++(gg1++(gg2++(g4++g5))),⟨g1,gg1,gg2,g4,g5,.refl _,hall.1,hw1,hb1,hall.2.2.2.1,hall.2.2.2.2⟩,rfl⟩,?_⟩
 simp only [jR,yA,jQ]
 exact subp_ix [gg2,gg1,[_],gD,[_],[_],g1,g2,g3,g4,g5] (xs:=[5,6,1,0,9,10]) (ys:=[0,1,2,3,4,5,6,7,8,9,10]) rest rfl
theorem row_none (w0:World) (S:List Nat) (b:Nat) (m:MaV) (rest:Fs) (op:Nat) (h1:¬ (96≤op∧op≤127)) (h2:¬ (128≤op∧op≤143)) (h3:¬ (144≤op∧op≤159)) (hsl:∃ p n c,m.fr.stk=.slice p n c) (hml:∃ p n c,m.fr.mem=.slice p n c) (w:World) (hs:St w0 S ((b,maO m)::rest) w) :
  Calls prog 94 #[.pointer (some ⟨b,0,none⟩),.int .u8 (op:Int)] w (fun x w'=>∃ fs',(x=.returned (.bool false)∧fs'=(b,maO m)::rest)∧St w0 S fs' w'):=by
 obtain ⟨fr,e0,e1,e2,e3,took,kind,aop,awords,adata⟩:=m
 obtain ⟨code,pc,stk,mem,gas,self,frm,val,inp,back,stat⟩:=fr
 dsimp only at hsl hml
 obtain ⟨q2,n2,k2,rfl⟩:=hsl
 obtain ⟨q3,n3,k3,rfl⟩:=hml
 refine calls_anyO (qX (K:=anyO fun x fs'=>x=.returned (.bool false)∧fs'=(b,maO ⟨⟨code,pc,.slice q2 n2 k2,.slice q3 n3 k3,gas,self,frm,val,inp,back,stat⟩,e0,e1,e2,e3,took,kind,aop,awords,adata⟩)::rest) (args:=[_,_]) func94 rfl ntmps94 rfl ?_ hs)
 rcases (by omega:op < 96∨(96≤op∧127 < op∧128≤op∧143 < op∧144≤op∧159 < op)) with hlt|⟨g1,g2,g3,g4,g5,g6⟩
 ·(refine sRz<|vAz<|nSz<|vMz<|vNz<|vFz<|vFz<|ldz rfl .head ma_rd2 ?_;apply zU;rfl;intro _;refine zR rfl rfl .head (.whole rfl rfl rfl)<|vAz<|nNz<|zI<|zM<|sRz<|vMz ?_;refine lvz (.geqF rfl rfl (by omega)) ?_;refine vMz<|gFz<|gFz<|pFz<|vAz<|nNz<|cFz<|sRz<|vMz ?_;refine lvz (.geqF rfl rfl (by omega)) ?_;refine vMz<|gFz<|gFz<|pFz<|vAz<|nNz<|cFz<|sRz<|vMz ?_;refine lvz (.geqF rfl rfl (by omega)) ?_;refine vMz<|gFz<|gFz<|pFz<|vAz<|nNz<|cFz<|sRz<|vAz<|nNz<|zK<|blkR<|thenR ?_)
  refine inPI (.inl rfl) .nil rfl rsZ rfl ⟨_,⟨rfl,rfl⟩,_,jK _ (jG _),.refl _⟩
 ·(refine sRz<|vAz<|nSz<|vMz<|vNz<|vFz<|vFz<|ldz rfl .head ma_rd2 ?_;apply zU;rfl;intro _;refine zR rfl rfl .head (.whole rfl rfl rfl)<|vAz<|nNz<|zI<|zM<|sRz<|vMz ?_;refine lvz (.geqT rfl rfl (by omega)) ?_;refine vMz<|gTz<|vMz<|gTz ?_;refine lvz (.leqF rfl rfl (by omega)) ?_;refine pTz<|vAz<|nNz<|cFz<|sRz<|vMz ?_;refine lvz (.geqT rfl rfl (by omega)) ?_;refine vMz<|gTz<|vMz<|gTz ?_;refine lvz (.leqF rfl rfl (by omega)) ?_;refine pTz<|vAz<|nNz<|cFz<|sRz<|vMz ?_;refine lvz (.geqT rfl rfl (by omega)) ?_;refine vMz<|gTz<|vMz<|gTz ?_;refine lvz (.leqF rfl rfl (by omega)) ?_;refine pTz<|vAz<|nNz<|cFz<|sRz<|vAz<|nNz<|zK<|blkR<|thenR ?_)
  refine inPI (.inl rfl) .nil rfl rsZ rfl ⟨_,⟨rfl,rfl⟩,_,jK _ (jG _),.refl _⟩
end
section
open CK (dataC)
theorem dQBoUk {P Q:Prop} (k:Q) (h:BoxZ Q→P:=by
 intro kQ
 (refine goZ ?_;refine cEv need_true ?_)
 apply CW.pre
 (refine qY [] 15 mixed (by decide +kernel) ?_)
 (refine tsZ ?_)
 refine fsZ ?_
 (refine lvz (.minZ rfl rfl) ?_;refine goZ ?_)
 exact kQ.k):P:=h ⟨k⟩
theorem dTBIsP {P:Prop} (h:P:=by
 rintro v fs' ⟨hv,s,k,gs',hfr',rfl⟩
 cases hv
 (refine goZ ?_;apply zR;rfl;rfl;apply qA;apply ma_wr1 (z:=.int .i64 0);refine goZ ?_)
 refine inPI (.inl rfl) .nil rfl .nil rfl ⟨_,⟨rfl,s,k,gs',hfr',rfl⟩,_,?_,.refl _⟩
 exact jP _ (jL (.cons _ (.cons _ (.refl _))) gs')):P:=h
theorem dTBjLF {P:Prop} (h:P:=by
 rcases okF_pc hF with h|h
 ·exact ⟨_,h⟩
 ·exact ⟨f.pc.toNat,by omega⟩):P:=h
def FrV.setPc (f:FrV) (p:Int):FrV:={ f with pc:=p }
section wr
variable {P : Program} {T E : TypeId} {fr : Nat × Nat} {m : MaV} {x : OpV}
theorem ma_wr1 {z:Value} {p:Int} [InfoI P T 1 z]:Wr P T (.cells (mca m) E (0,0)) 1 (.int .i64 p) (.cells (mca (m.setF (m.fr.setPc p))) E (0,0)):=qU (n:=1) (z:=z) rfl rfl (by show 1+1≤23;omega) rfl
end wr
theorem op_wrW {P:Program} {T E:TypeId} {x:OpV} {z:Value} {cs:Array Value} [InfoI P T 5 z] (h:cs.size=5):Wr P T (.cells cs E (0,0)) 0 (.agg (opc x)) (.cells (opc x) E (0,0)):=Wr.whole h rfl rfl
attribute [local irreducible] SL.inP opOf opX gasB
theorem push_op {op:Nat} (h1:96≤op) (h2:op≤127):(opOf op).isSome=true∧(opX op).tk=0∧(opX op).ly=1∧gasB op=3:=by
 have hr:opOf op=some ⟨op,[80,85,83,72]++itoa (op - 95),0,1,op - 95⟩:=by
  unfold opOf rowOp
  rw [if_pos ⟨h1,h2⟩]
 refine ⟨by rw [hr];rfl,by unfold opX;rw [hr];rfl,by unfold opX;rw [hr];rfl,?_⟩
 unfold gasB
 repeat rw [if_neg (by omega)]
theorem step_push (w0:World) (S:List Nat) (b:Nat) (f:FrV) (L:FrL) (e0 e1 e2 e3:Nat) (gs rest:Fs) (hF:okF f L) (h1:96≤opF f L) (h2:opF f L≤127) (hg:3≤f.gas) (hf:L.ws.length+1≤64) (hfr:FrO f L gs) (w:World) (hs:St w0 S ((b,maO (ma0 f e0 e1 e2 e3))::(gs++rest)) w) :
  Calls prog 42 #[.pointer (some ⟨b,0,none⟩)] w (fun x w'=>∃ fs',(x=.returned (.tuple #[])∧∃ s k gs',FrO ((f.setR (f.gas - 3) s k).setPc ((min (f.pc.toNat+1+(opX (opF f L)).dt) L.cl.length:Nat):Int)) (L.setW (L.ws++[bev (dataC L.cl f.pc)])) gs'∧fs'=(b,maO (ma0 ((f.setR (f.gas - 3) s k).setPc ((min (f.pc.toNat+1+(opX (opF f L)).dt) L.cl.length:Nat):Int)) e0 e1 e2 e3))::(gs'++rest))∧St w0 S fs' w'):=by
 obtain ⟨code,pc,stk,mem,gas,self,frm,val,inp,back,stat⟩:=f
 obtain ⟨g1,g2,g3,g4,g5,hp,r1,r2,r3,r4,r5⟩:=id hfr
 unfold bM at r1 r3
 unfold wM at r2
 dsimp only at r1 r2 r3
 obtain ⟨q1,k1,rfl⟩:=id r1.form
 obtain ⟨q2,k2,rfl⟩:=id r2.form
 obtain ⟨q3,k3,rfl⟩:=id r3.form
 obtain ⟨f,hfe⟩:∃ f:FrV,f=⟨.slice q1 L.cl.length k1,pc,.slice q2 L.ws.length k2,.slice q3 L.ms.length k3,gas,self,frm,val,inp,back,stat⟩:=⟨_,rfl⟩
 rw [← hfe] at hF h1 h2 hg hfr hs ⊢
 have hst1:f.code=.slice q1 L.cl.length k1:=by rw [hfe]
 have hst2:f.stk=.slice q2 L.ws.length k2:=by rw [hfe]
 clear hfe
 have hrdS:∀ {g E fr},Rd prog 23 (.cells (mca ((ma0 f e0 e1 e2 e3).setGas g)) E fr) 2 (.slice q2 L.ws.length k2):=fun {g E fr}=>by rw [← hst2];exact ma_rd2s (m:=(ma0 f e0 e1 e2 e3).setGas g)
 have hrdC:∀ {g E fr},Rd prog 22 (.cells (mca ((ma0 f e0 e1 e2 e3).setGas g)) E fr) 0 (.slice q1 L.cl.length k1):=fun {g E fr}=>by rw [← hst1];exact ma_rd0 (m:=(ma0 f e0 e1 e2 e3).setGas g)
 obtain ⟨pn,hpn⟩:∃ pn:Nat,f.pc=(pn:Int):=by
  exact dTBjLF
 have hpl:pn≤L.cl.length:=by
  rcases okF_pc hF with h|h<;>omega
 have hcl2:L.cl.length≤200:=hF.2.2.1
 have hrdP:∀ {g E fr},Rd prog 3 (.cells (mca ((ma0 f e0 e1 e2 e3).setGas g)) E fr) 1 (.int .i64 (pn:Int)):=fun {g E fr}=>by rw [← hpn];exact ma_rd1 (m:=(ma0 f e0 e1 e2 e3).setGas g)
 have hpt:f.pc.toNat=pn:=by rw [hpn];exact yY pn
 rw [hpt]
 have hgl:f.gas < 18446744073709551616:=by have:=hF.1.2.2;omega
 have hok:okSc L.ws.length L.ms.length:=hF.2.2.2.1
 have hrowsF:∀ w',(∀ q∈gs,w'.heap[q.1]?=some q.2)→FrRows w' f L:=fun w' h=>hfr.us h
 have hsl:=hfr.sl
 obtain ⟨op,hop⟩:∃ op,opF f L=op:=⟨_,rfl⟩
 have hN:∀ w',(∀ q∈gs,w'.heap[q.1]?=some q.2)→Calls prog 82 #[frv f] w' (Ret w' (.int .u8 (op:Int))):=fun w' h=>by
  have h:=next_calls f L (okF_pc hF) w' (hrowsF w' h)
  rwa [hop] at h
 rw [hop] at h1 h2 ⊢
 obtain ⟨o1,o2,o3,o4⟩:=push_op h1 h2
 have o5:(opX op).dt≤32:=by rw [opX_dt];exact CK.szOf_le _
 obtain ⟨e,hOf,he⟩:=OfX_calls op (by omega) w
 rw [if_pos o1] at he
 subst he
 have hBs:∀ w',Calls prog 93 #[.int .u8 (op:Int)] w' (Ret w' (.tuple #[.int .u64 3,.int .i64 0])):=fun w'=>by
  have h:=Base_calls op (by omega) w'
  obtain ⟨y,hy⟩:=Option.isSome_iff_exists.1 o1
  rw [hy,o4] at h
  exact h
 refine calls_anyO (qX (K:=anyO fun x fs'=>x=.returned (.tuple #[])∧∃ s k gs',FrO ((f.setR (f.gas - 3) s k).setPc ((min (pn+1+(opX op).dt) L.cl.length:Nat):Int)) (L.setW (L.ws++[bev (dataC L.cl f.pc)])) gs'∧fs'=(b,maO (ma0 ((f.setR (f.gas - 3) s k).setPc ((min (pn+1+(opX op).dt) L.cl.length:Nat):Int)) e0 e1 e2 e3))::(gs'++rest)) (args:=[_]) func42 rfl ntmps42 rfl ?_ hs)
 (refine goZ ?_;refine ldy (c:=by exact ma_rdF) (k:=?_);refine cEz (c:=fun w hst=>by exact hN w (st_ou hst subZ)) (k:=?_);refine cEv hOf ?_;intro _;refine cEv need_true ?_;refine cEv hBs ?_;intro _)
 rename_i b3 b39
 have hsp:spendM (ma0 f e0 e1 e2 e3) [3]=some ((ma0 f e0 e1 e2 e3).setGas (f.gas - 3)):=if_pos (by show 3+0≤f.gas;omega)
 refine qV (fs':=(b,maO (ma0 f e0 e1 e2 e3))::(b39,.cells #[.int .u64 3] 26 (0,0))::(b3,.cells (opc (opX op)) 86 (0,0))::(gs++rest)) (yX (l₁:=[_,_])).symm ?_
 refine qP (K:=MaK b (ma0 f e0 e1 e2 e3) (spendM (ma0 f e0 e1 e2 e3) [3]) _) rfl rfl vF agZ rfl (fun fs h=>by rw [hsp] at h;cases h.1) (fun w' hst=>spend_calls w0 S b _ [3] hgl _ _ w' hst (fun w2 h2=>row_cells (h2.own (b39,_) (jX _ (jW _))).2 rfl rfl (by simp [maxLen]))) ?_ ?_
 rotate_left
 ·exact dTBtqw
 rintro v fs' h
 rw [hsp] at h
 obtain ⟨h,rfl⟩:=h
 cases h
 refine dQBoUk ?_
 refine qV (fs':=(b,maO ((ma0 f e0 e1 e2 e3).setGas (f.gas - 3)))::(gs++([(b39,.cells #[.int .u64 3] 26 (0,0)),(b3,.cells (opc (opX op)) 86 (0,0))]++rest))) (List.Perm.cons _ (List.perm_append_comm_assoc gs [_,_] rest)) ?_
 refine qO (K:=fun v fs'=>RowK b ((ma0 f e0 e1 e2 e3).setGas (f.gas - 3)) L (L.ws++[bev (dataC L.cl f.pc)]) ([(b39,.cells #[.int .u64 3] 26 (0,0)),(b3,.cells (opc (opX op)) 86 (0,0))]++rest) (.returned v) fs') rfl rfl vF agZ (fun w' hst=>vG (row_push w0 S b ((ma0 f e0 e1 e2 e3).setGas (f.gas - 3)) L gs _ op h1 h2 hok hf hfr w' hst) fun x w'' ⟨fs',hk,hst⟩=>⟨.bool true,fs',hk.1,by { have h:=hk;rw [hk.1] at h;exact h },hst⟩) ?_
 exact dTBIsP
end
section
theorem dQBUXS {P Q:Prop} (k:Q) (h:BoxZ Q→P:=by
 intro kQ
 (refine goZ ?_)
 apply CW.pre
 (refine qY [] 9 mixed (by decide +kernel) ?_)
 (refine tsZ ?_;refine dlz (c:=by exact ma_rdF) (k:=?_);refine dlz (c:=by exact ma_rdA) (k:=?_);apply DW.store;rfl;rfl;exact zC;rfl;rfl;apply qQ;apply TSet.app;apply qQ;apply qR;exact zN;exact zN;apply fr_wrW;rfl;exact hsf;refine goZ ?_)
 refine fsZ ?_
 (refine goZ ?_)
 exact kQ.k):P:=h ⟨k⟩
theorem dQBpVj {P Q:Prop} (k:Q) (h:BoxZ Q→P:=by
 intro kQ
 refine LW.callR rfl rfl vF agZ (fun w' hst=>fOf_calls f L e0 e1 e2 e3 hF.short w' (h.st hst)) ?_
 exact kQ.k):P:=h ⟨k⟩
theorem dQBxyQ {P Q:Prop} (k:Q) (h:BoxZ Q→P:=by
 intro kQ
 refine enter (args:=[_,_]) _ [] [] func10 rfl ntmps10 rfl (by simp) .nil ?_
 exact kQ.k):P:=h ⟨k⟩
attribute [local irreducible] SL.inP SL.inD SL.outD
theorem tries_bound (w0:World) (S:List Nat) (f:FuncId) (first:Array Value) (K:Out) (hK:TryK K) (hF:FnI prog f) (own rest:Fs) (w:World)
  (hc:∀ rest w',St w0 S (own++rest) w'→Calls prog f first w' (fun x w''=>∃ fs',(∃ own',K x own'∧fs'=own'++rest)∧St w0 S fs' w'')) (hs:St w0 S (own++rest) w) :
  Calls prog 41 #[.func (.func f) first #[]] w (fun x w'=>∃ fs',(∃ ok own',x=.returned (.bool ok)∧K (match ok with|true=>.returned (.tuple #[])|false=>.panicked failC) own'∧fs'=own'++rest)∧St w0 S fs' w'):=by
 refine calls_inlineD (args:=[_]) func41 rfl ntmps41 rfl ?_ hs
 (refine goZ ?_;apply LW.alloc1;rfl;rfl;intro _;refine goZ ?_;apply qN;rfl;rfl;apply ValP.makeFunc;exact qT;exact .cons rfl .nil)
 rename_i bok
 apply LW.defer
 rfl
 rfl
 (refine goZ ?_;refine thenM ?_;refine goZ ?_)
 refine qV (fs':=own++(bok,.cells #[.bool false] 4 (0,0))::rest) yX ?_
 refine qP (K:=fun x fs'=>∃ own',K x own'∧fs'=own'++(bok,.cells #[.bool false] 4 (0,0))::rest) rfl rfl hF (by (exact qT)) (aas:=first.toList) (by simp) (fun fs ⟨own',h,_⟩=>by rcases hK _ _ h with h|h<;>cases h) (fun w' hst=>by simpa using hc _ w' hst) ?_ ?_
 ·exact dTBSpj
 ·exact dTBpdD
def StepR (R:MaV→Fs→Prop) (v:Value) (gs:Fs):Prop:=∃ m,R m gs∧v=.tuple #[frv m.fr,.agg (aska m.kind m.op m.words m.data),.int .i64 0]
theorem aq_cells {kind:Int} {op:Nat} {u d:Value} (h:∃ p n c,u=.slice p n c) (h2:∃ p n c,d=.slice p n c):(aska kind op u d).toList.all Value.oneCell'=true:=by
 obtain ⟨p,n,c,rfl⟩:=h
 obtain ⟨p,n,c,rfl⟩:=h2
 rfl
theorem aq_wrW {P:Program} {T E:TypeId} {kind:Int} {op:Nat} {u d z:Value} {cs:Array Value} [InfoI P T 4 z] (h:cs.size=4) (h1:∃ p n c,u=.slice p n c) (h2:∃ p n c,d=.slice p n c):Wr P T (.cells cs E (0,0)) 0 (.agg (aska kind op u d)) (.cells (aska kind op u d) E (0,0)):=Wr.whole h rfl (aq_cells h1 h2)
theorem ma_rdA {P:Program} {T E:TypeId} {fr:Nat × Nat} {m:MaV} [AgI P T true] {z:Value} [InfoI P T 4 z]:Rd P T (.cells (mca m) E fr) 19 (.agg (aska m.kind m.op m.words m.data)):=Rd.mid (cs:=[.int .i64 m.kind,.int .u8 (m.op:Int),m.words,m.data]) rfl rfl
theorem Step_ok (f:FrV) (L:FrL) (e0 e1 e2 e3:Nat) (R:MaV→Fs→Prop) (hF:okF f L) (hR:∀ m gs,R m gs→FrSl m.fr∧(∃ p n c,m.words=.slice p n c)∧(∃ p n c,m.data=.slice p n c))
  (hstep:∀ (w0:World) (S:List Nat) (b:Nat) (c s m i b5:Value) (gs rest:Fs) (w':World),FrO (f.rows c s m i b5) L gs→St w0 S ((b,maO (ma0 (f.rows c s m i b5) e0 e1 e2 e3))::(gs++rest)) w' →
   Calls prog 42 #[.pointer (some ⟨b,0,none⟩)] w' (fun x w''=>∃ fs',(x=.returned (.tuple #[])∧∃ m' gs',R m' gs'∧fs'=(b,maO m')::(gs'++rest))∧St w0 S fs' w''))
  (w:World) (h:FrRows w f L):Calls prog 10 #[frv f,.agg (enva e0 e1 e2 e3)] w (RetG w [] (StepR R)):=by
 have hC:∀ w' {fs:Fs},St w [] fs w'→Calls prog 34 #[frv f] w' (Ret w' (.int .i64 0)):=fun w' fs hst=>by
  have h0:=fCheck_calls f L w' (h.st hst)
  rwa [if_pos hF] at h0
 have hs1:=h.sl
 refine dQBxyQ ?_
 (refine goZ ?_;intro _ _ _ _;refine cEz (c:=fun w _=>by exact hC w (by assumption)) (k:=?_))
 refine dQBpVj ?_
 rintro v g ⟨bm,c,s,mm,i,b5x,g1,rfl,rfl,hfr⟩
 rename_i b2 b3 b4 b5
 (refine goZ ?_;apply qN;rfl;rfl;apply ValP.makeFunc;exact .cons rfl .nil;exact qT)
 refine qO (K:=fun v fs'=>v=.bool true∧∃ m' gs',R m' gs'∧fs'=(bm,maO m')::(gs'++[(b5,.cells #[.int .i64 0,.int .u8 0,.slice none 0 0,.slice none 0 0] 37 (0,0)),(b4,.cells #[.slice none 0 0,.int .i64 0,.slice none 0 0,.slice none 0 0,.int .u64 0,.int .u64 0,.int .u64 0,.int .u64 0,.int .u64 0,.int .u64 0,.int .u64 0,.slice none 0 0,.slice none 0 0,.bool false] 31 (0,0)),(b3,.cells (enva e0 e1 e2 e3) 33 (0,0)),(b2,.cells (fra f) 31 (0,0))])) rfl rfl vF agZ (fun w' hst=>vG (tries_bound w [] 42 #[.pointer (some ⟨bm,0,none⟩)] (fun x fs'=>x=.returned (.tuple #[])∧∃ m' gs',R m' gs'∧fs'=(bm,maO m')::gs') (fun x fs' h=>.inl h.1) vF ((bm,maO (ma0 (f.rows c s mm i b5x) e0 e1 e2 e3))::g1) [(b5,.cells #[.int .i64 0,.int .u8 0,.slice none 0 0,.slice none 0 0] 37 (0,0)),(b4,.cells #[.slice none 0 0,.int .i64 0,.slice none 0 0,.slice none 0 0,.int .u64 0,.int .u64 0,.int .u64 0,.int .u64 0,.int .u64 0,.int .u64 0,.int .u64 0,.slice none 0 0,.slice none 0 0,.bool false] 31 (0,0)),(b3,.cells (enva e0 e1 e2 e3) 33 (0,0)),(b2,.cells (fra f) 31 (0,0))] w' (fun rest w2 h2=>vG (hstep w [] bm c s mm i b5x g1 rest w2 hfr h2) fun x w3 ⟨fs',⟨h3,m',gs',h4,h5⟩,hst⟩=>⟨fs',⟨_,⟨h3,m',gs',h4,rfl⟩,h5⟩,hst⟩) hst) fun x w3 ⟨fs',⟨ok,own',h3,h4,h5⟩,hst⟩=>?_) ?_
 ·cases ok with
  |false=>obtain ⟨h6,_⟩:=h4;cases h6
  |true =>
   obtain ⟨_,m',gs',h7,h8⟩:=h4
   exact ⟨_,_,h3,⟨rfl,m',gs',h7,by rw [h5,h8];rfl⟩,hst⟩
 rintro _ _ ⟨rfl,m',gs',hRm,rfl⟩
 obtain ⟨hsf,hsw,hsd⟩:=hR _ _ hRm
 refine dQBUXS ?_
 trace_state
 exact fin (vs:=[frv m'.fr,.agg (aska m'.kind m'.op m'.words m'.data),.int .i64 0]) gs' (.inl rfl) rfl rfl (by (apply zD;apply zH;rfl;apply qH;apply zX;apply zZ;apply zX;apply zY;exact fr_rdW;apply zD;apply zH;rfl;apply qH;apply zX;apply zZ;apply zY;exact qI rfl;apply zD;exact zG rfl;exact zF)) (jK _ (jJ _ _)) ⟨m',hRm,rfl⟩
end
section
open CK (dataC)
theorem dQBCPV {P Q:Prop} (k:Q) (h:BoxZ Q→P:=by
 intro kQ
 (refine goZ ?_;refine bTz ?_;refine zR rfl rfl .head ma_wr19 ?_;refine goZ ?_)
 exact kQ.k):P:=h ⟨k⟩
def FrP (f:FrV) (L:FrL) (gs:Fs):Prop:=∃ g1 g2 g3 g4 g5,(g1++(g2++(g3++(g4++g5)))).Perm gs∧bM L.cl f.code g1∧wP L.ws f.stk g2∧bM L.ms f.mem g3∧bM L.il f.inp g4∧bM L.bl f.back g5
theorem FrP.sl {f:FrV} {L:FrL} {gs:Fs} (h:FrP f L gs):FrSl f:=by
 obtain ⟨g1,g2,g3,g4,g5,_,h1,h2,h3,h4,h5⟩:=h
 unfold bM at h1 h3 h4 h5
 exact dTBqMR
theorem FrP.rows {f:FrV} {L:FrL} {gs:Fs} {w:World} (h:FrP f L gs) (hw:∀ p∈gs,w.heap[p.1]?=some p.2):FrRows w f L:=by
 obtain ⟨g1,g2,g3,g4,g5,hp,h1,h2,h3,h4,h5⟩:=h
 replace hw:∀ p∈g1++(g2++(g3++(g4++g5))),w.heap[p.1]?=some p.2:=fun p h=>hw p (hp.subset h)
 exact ⟨bM_at h1 fun p hp=>hw p (by simp [hp]),h2.at fun p hp=>hw p (by simp [hp]),bM_at h3 fun p hp=>hw p (by simp [hp]),bM_at h4 fun p hp=>hw p (by simp [hp]),bM_at h5 fun p hp=>hw p (by simp [hp])⟩
section wr
variable {P : Program} {T E : TypeId} {fr : Nat × Nat} {m : MaV}
def MaV.setTook (m:MaV) (t:Value):MaV:={ m with took:=t }
def MaV.setOp (m:MaV) (o:Nat):MaV:={ m with op:=o }
def MaV.setAsk (m:MaV) (k:Int) (o:Nat) (u d:Value):MaV:={ m with kind:=k,op:=o,words:=u,data:=d }
theorem ma_wr18 {z:Value} {p:Option Addr} {n c:Nat} [InfoI P T 1 z]:Wr P T (.cells (mca m) E (0,0)) 18 (.slice p n c) (.cells (mca (m.setTook (.slice p n c))) E (0,0)):=qU (n:=1) (z:=z) rfl rfl (by show 18+1≤23;omega) rfl
theorem ma_wr20 {z:Value} {o:Nat} [InfoI P T 1 z]:Wr P T (.cells (mca m) E (0,0)) 20 (.int .u8 (o:Int)) (.cells (mca (m.setOp o)) E (0,0)):=qU (n:=1) (z:=z) rfl rfl (by show 20+1≤23;omega) rfl
theorem ma_wr19 {z:Value} {k:Int} {o:Nat} {p1 p2:Option Addr} {n1 n2 c1 c2:Nat} [InfoI P T 4 z]:Wr P T (.cells (mca m) E (0,0)) 19 (.agg (aska k o (.slice p1 n1 c1) (.slice p2 n2 c2))) (.cells (mca (m.setAsk k o (.slice p1 n1 c1) (.slice p2 n2 c2))) E (0,0)):=qU (n:=4) (z:=z) rfl rfl (by show 19+4≤23;omega) rfl
theorem ma_rd18 [AgI P T false]:Rd P T (.cells (mca m) E fr) 18 m.took:=Rd.one rfl
theorem ma_rd20 [AgI P T false]:Rd P T (.cells (mca m) E fr) 20 (.int .u8 (m.op:Int)):=Rd.one rfl
theorem ma_rd19 [AgI P T false]:Rd P T (.cells (mca m) E fr) 19 (.int .i64 m.kind):=Rd.one rfl
end wr
attribute [local irreducible] SL.inP
theorem asks_calls (w0:World) (S:List Nat) (b:Nat) (m:MaV) (k:Int) (op:Nat) (rest:Fs) (ht:∃ p n c,m.took=.slice p n c) (w:World) (hs:St w0 S ((b,maO m)::rest) w) :
  Calls prog 210 #[.pointer (some ⟨b,0,none⟩),.int .i64 k,.int .u8 (op:Int)] w (fun x w'=>∃ fs',(x=.returned (.tuple #[])∧fs'=(b,maO (m.setAsk k op m.took (.slice none 0 0)))::rest)∧St w0 S fs' w'):=by
 obtain ⟨fr,e0,e1,e2,e3,took,kind,aop,awords,adata⟩:=m
 obtain ⟨p,n,c,rfl⟩:=ht
 refine calls_anyO (qX (K:=anyO fun x fs'=>x=.returned (.tuple #[])∧fs'=(b,maO (MaV.setAsk ⟨fr,e0,e1,e2,e3,.slice p n c,kind,aop,awords,adata⟩ k op (.slice p n c) (.slice none 0 0)))::rest) (args:=[_,_,_]) func210 rfl ntmps210 rfl ?_ hs)
 refine dQBCPV ?_
 refine inPI (.inr rfl) .nil rfl .nil rfl ⟨_,⟨rfl,rfl⟩,_,jG _,.refl _⟩
theorem state_calls (w0:World) (S:List Nat) (b:Nat) (m:MaV) (rest:Fs) (ht:∃ p n c,m.took=.slice p n c) (w:World) (hs:St w0 S ((b,maO m)::rest) w) :
  Calls prog 171 #[.pointer (some ⟨b,0,none⟩)] w (fun x w'=>∃ fs',(x=.returned (.tuple #[])∧fs'=(b,maO (m.setAsk 1 m.op m.took (.slice none 0 0)))::rest)∧St w0 S fs' w'):=by
 refine calls_anyO (qX (K:=anyO fun x fs'=>x=.returned (.tuple #[])∧fs'=(b,maO (m.setAsk 1 m.op m.took (.slice none 0 0)))::rest) (args:=[_]) func171 rfl ntmps171 rfl ?_ hs)
 (refine goZ ?_)
 refine qO (K:=fun v fs'=>v=.tuple #[]∧fs'=(b,maO (m.setAsk 1 m.op m.took (.slice none 0 0)))::rest) rfl rfl vF agZ (fun w' hst=>vG (asks_calls w0 S b m 1 m.op rest ht w' hst) fun x w'' ⟨fs',hk,hst⟩=>⟨_,fs',hk.1,⟨rfl,hk.2⟩,hst⟩) ?_
 rintro v fs' ⟨rfl,rfl⟩
 (refine goZ ?_)
 refine inPI (.inr rfl) .nil rfl .nil rfl ⟨_,⟨rfl,rfl⟩,_,jG _,.refl _⟩
end
section
open CK (dataC)
theorem dQBfSO {P Q:Prop} (k:Q) (h:BoxZ Q→P:=by
 intro kQ
 refine qV (fs':=(b,maO (ma0 f e0 e1 e2 e3))::(b39,.cells #[.int .u64 (G:Int)] 26 (0,0))::(b3,.cells (opc X) 86 (0,0))::(g1++(g2++(g3++(g4++g5)))++rest)) (yX (l₁:=[_,_])).symm ?_
 exact kQ.k):P:=h ⟨k⟩
theorem dQBlXK {P Q:Prop} (k:Q) (h:BoxZ Q→P:=by
 intro kQ
 (try simp only [markAll_cons,markAll_app,markAll_tsOf,markAll_tag,markAll_new,markAll_nil])
 (refine tsZ ?_;apply DW.store;rfl;rfl;exact zC;rfl;rfl;apply TSet.app;apply qR;exact zN;kernel_rfl;exact ma_wr2 rfl rfl rfl rfl;refine goZ ?_;apply DW.store;rfl;rfl;exact zC;rfl;rfl;apply TSet.app;apply qR;kernel_rfl;kernel_rfl;exact ma_wr18;refine goZ ?_)
 refine fsZ ?_
 (refine goZ ?_;refine zR rfl rfl (.app .head) ma_wr20 ?_;refine goZ ?_)
 exact kQ.k):P:=h ⟨k⟩
theorem dQBKQZ {P Q:Prop} (k:Q) (h:BoxZ Q→P:=by
 intro kQ
 refine qO (K:=fun v fs'=>v=.bool false∧fs'=(b,maO ((ma0 f e0 e1 e2 e3).setGas (f.gas - G)))::(b39,.cells #[.int .u64 (G:Int)] 26 (0,0))::(b3,.cells (opc X) 86 (0,0))::(g1++(g2++(g3++(g4++g5)))++rest)) rfl rfl vF agZ (fun w' hst=>vG (row_none w0 S b ((ma0 f e0 e1 e2 e3).setGas (f.gas - G)) _ op (by omega) (by omega) (by omega) ⟨_,_,_,hst2⟩ ⟨_,_,_,hst3⟩ w' hst) fun x w'' ⟨fs',hk,hst⟩=>⟨_,fs',hk.1,⟨rfl,hk.2⟩,hst⟩) ?_
 exact kQ.k):P:=h ⟨k⟩
theorem dQBeDB {P Q:Prop} (k:Q) (h:BoxZ Q→P:=by
 intro kQ
 (refine crz (c:=fun w hs=>by exact halves_calls w) (k:=?_))
 exact kQ.k):P:=h ⟨k⟩
theorem dTBJKw {P:Prop} (h:P:=by
 have h:=Base_calls op (by omega) w'
 obtain ⟨y,hy⟩:=Option.isSome_iff_exists.1 ho
 rw [hy] at h
 rw [← hG]
 exact h):P:=h
theorem dTBKmK {P:Prop} (h:P:=by
 rcases List.mem_append.1 hp with hp|hp
 ·have hp:=hin2 p hp
  simp [fsOf,tsOf,tsNew,tsTag,markAll,Function.comp_def,hp]
 ·have hp:=hin3 p hp
  simp [fsOf,tsOf,tsNew,tsTag,markAll,Function.comp_def,hp]):P:=h
theorem dTBuOw {P:Prop} (h:P:=by
 rw [yJ,yJ,List.map_append,← hbl2,← hbl3,← blocks_sl ⟨q2,_,k2,rfl⟩,← blocks_sl ⟨q3,_,k3,rfl⟩]
 show ((blocksN 3 _++(blocksN 3 _++[]))++[])=_
 simp only [yM]):P:=h
theorem dTBMTc {P:Prop} (h:P:=by
 exact pop_calls L.ws L.ms X.tk _ _ ht w (hrows2 w fun q hq=>hu q (yG _ hq)) (hrows3 w fun q hq=>hu q (jT _ hq)) hok):P:=h
theorem dTBjHd {P:Prop} (h:P:=by
 have h:=next_calls f L (okF_pc hF) w' (hfr.us h)
 rwa [hop] at h):P:=h
attribute [local irreducible] SL.inP opOf opX gasB
theorem opF_lt (f:FrV) (L:FrL):opF f L < 256:=by
 unfold opF
 split
 ·omega
 ·exact UInt8.toNat_lt _
def StateM (f:FrV) (L:FrL) (e0 e1 e2 e3 op:Nat) (m:MaV) (gs:Fs):Prop:=∃ s k t gF gT,m=(((ma0 ((f.setR (f.gas - gasB op) s k).setPc ((min (f.pc.toNat+1+(opX op).dt) L.cl.length:Nat):Int)) e0 e1 e2 e3).setTook t).setAsk 1 op t (.slice none 0 0))∧FrP m.fr (L.setW (L.ws.take (L.ws.length - (opX op).tk))) gF∧wM (L.ws.drop (L.ws.length - (opX op).tk)).reverse t gT∧gs=gT++gF
theorem step_state (w0:World) (S:List Nat) (b:Nat) (f:FrV) (L:FrL) (e0 e1 e2 e3:Nat) (gs rest:Fs) (op i:Nat) (hF:okF f L) (hop:opF f L=op) (ho:(opOf op).isSome=true) (hi:op ≠ 254) (hr1:op < 96∨159 < op) (hd1:halvesF op=none) (hd2:saysF op=none) (hd3:doesF op=some (i,171)) (hg:gasB op≤f.gas) (ht:(opX op).tk≤L.ws.length) (hf:L.ws.length - (opX op).tk+(opX op).ly≤64) (hfr:FrO f L gs) (w:World) (hs:St w0 S ((b,maO (ma0 f e0 e1 e2 e3))::(gs++rest)) w) :
  Calls prog 42 #[.pointer (some ⟨b,0,none⟩)] w (fun x w'=>∃ fs',(x=.returned (.tuple #[])∧∃ m' gs',StateM f L e0 e1 e2 e3 op m' gs'∧fs'=(b,maO m')::(gs'++rest))∧St w0 S fs' w'):=by
 obtain ⟨code,pc,stk,mem,gas,self,frm,val,inp,back,stat⟩:=f
 obtain ⟨g1,g2,g3,g4,g5,hp,r1,r2,r3,r4,r5⟩:=id hfr
 unfold bM at r1 r3
 unfold wM at r2
 dsimp only at r1 r2 r3
 obtain ⟨q1,k1,rfl⟩:=id r1.form
 obtain ⟨q2,k2,rfl⟩:=id r2.form
 obtain ⟨q3,k3,rfl⟩:=id r3.form
 obtain ⟨us2,hbl2,hin2,hrows2⟩:=rowU_own r2
 obtain ⟨us3,hbl3,hin3,hrows3⟩:=rowU_own r3
 replace hs:St w0 S ((b,maO (ma0 _ e0 e1 e2 e3))::(g1++(g2++(g3++(g4++g5)))++rest)) w:=hs.perm (List.Perm.cons _ (hp.append_right rest))
 obtain ⟨f,hfe⟩:∃ f:FrV,f=⟨.slice q1 L.cl.length k1,pc,.slice q2 L.ws.length k2,.slice q3 L.ms.length k3,gas,self,frm,val,inp,back,stat⟩:=⟨_,rfl⟩
 rw [← hfe] at hF hop hg hfr hs ⊢
 have hst1:f.code=.slice q1 L.cl.length k1:=by rw [hfe]
 have hst2:f.stk=.slice q2 L.ws.length k2:=by rw [hfe]
 have hst3:f.mem=.slice q3 L.ms.length k3:=by rw [hfe]
 have hgb5:f.inp=inp∧f.back=back:=by rw [hfe];exact ⟨rfl,rfl⟩
 clear hfe
 have hrdS:∀ {g E fr},Rd prog 23 (.cells (mca ((ma0 f e0 e1 e2 e3).setGas g)) E fr) 2 (.slice q2 L.ws.length k2):=fun {g E fr}=>by rw [← hst2];exact ma_rd2s (m:=(ma0 f e0 e1 e2 e3).setGas g)
 have hrdC:∀ {g E fr},Rd prog 22 (.cells (mca ((ma0 f e0 e1 e2 e3).setGas g)) E fr) 0 (.slice q1 L.cl.length k1):=fun {g E fr}=>by rw [← hst1];exact ma_rd0 (m:=(ma0 f e0 e1 e2 e3).setGas g)
 obtain ⟨pn,hpn⟩:∃ pn:Nat,f.pc=(pn:Int):=by
  exact dTBjLF
 have hpl:pn≤L.cl.length:=by
  rcases okF_pc hF with h|h<;>omega
 have hcl2:L.cl.length≤200:=hF.2.2.1
 have hrdP:∀ {g E fr},Rd prog 3 (.cells (mca ((ma0 f e0 e1 e2 e3).setGas g)) E fr) 1 (.int .i64 (pn:Int)):=fun {g E fr}=>by rw [← hpn];exact ma_rd1 (m:=(ma0 f e0 e1 e2 e3).setGas g)
 have hpt:f.pc.toNat=pn:=by rw [hpn];exact yY pn
 have hgl:f.gas < 18446744073709551616:=by have:=hF.1.2.2;omega
 have hok:okSc L.ws.length L.ms.length:=hF.2.2.2.1
 have hN:∀ w',(∀ q∈gs,w'.heap[q.1]?=some q.2)→Calls prog 82 #[frv f] w' (Ret w' (.int .u8 (op:Int))):=fun w' h=>by
  exact dTBjHd
 have hN:∀ w',(∀ q∈g1++(g2++(g3++(g4++g5))),w'.heap[q.1]?=some q.2)→Calls prog 82 #[frv f] w' (Ret w' (.int .u8 (op:Int))):=fun w' h=>hN w' fun q hq=>h q (hp.symm.subset hq)
 have hsl:=hfr.sl
 have hop2:op < 256:=by rw [← hop];exact opF_lt f L
 have o5:(opX op).dt≤32:=by rw [opX_dt];exact CK.szOf_le _
 obtain ⟨e,hOf,he⟩:=OfX_calls op (by omega) w
 rw [if_pos ho] at he
 subst he
 obtain ⟨G,hG⟩:∃ G,gasB op=G:=⟨_,rfl⟩
 have hBs:∀ w',Calls prog 93 #[.int .u8 (op:Int)] w' (Ret w' (.tuple #[.int .u64 (G:Int),.int .i64 0])):=fun w'=>by
  exact dTBJKw
 have hGd:∀ m gs,(∃ s k t gF gT,m=(((ma0 ((f.setR (f.gas - G) s k).setPc ((min (pn+1+(opX op).dt) L.cl.length:Nat):Int)) e0 e1 e2 e3).setTook t).setAsk 1 op t (.slice none 0 0))∧FrP m.fr (L.setW (L.ws.take (L.ws.length - (opX op).tk))) gF∧wM (L.ws.drop (L.ws.length - (opX op).tk)).reverse t gT∧gs=gT++gF)→StateM f L e0 e1 e2 e3 op m gs:=fun m gs h=>by
  unfold StateM
  rw [hG,hpt]
  exact h
 rw [hG] at hg
 obtain ⟨X,hX⟩:∃ X,opX op=X:=⟨_,rfl⟩
 rw [hX] at ht hf o5 hGd hOf
 refine calls_anyO (qX (K:=anyO fun x fs'=>x=.returned (.tuple #[])∧∃ m' gs',StateM f L e0 e1 e2 e3 op m' gs'∧fs'=(b,maO m')::(gs'++rest)) (args:=[_]) func42 rfl ntmps42 rfl ?_ hs)
 (refine goZ ?_;refine ldy (c:=by exact ma_rdF) (k:=?_);refine cEz (c:=fun w hst=>by exact hN w (st_ou hst subZ)) (k:=?_);refine cEv hOf ?_;intro _;refine cEv need_true ?_;refine cEv hBs ?_;intro _)
 rename_i b3 b39
 have hsp:spendM (ma0 f e0 e1 e2 e3) [G]=some ((ma0 f e0 e1 e2 e3).setGas (f.gas - G)):=if_pos (by show G+0≤f.gas;omega)
 refine dQBfSO ?_
 refine qP (K:=MaK b (ma0 f e0 e1 e2 e3) (spendM (ma0 f e0 e1 e2 e3) [G]) _) rfl rfl vF agZ rfl (fun fs h=>by rw [hsp] at h;cases h.1) (fun w' hst=>spend_calls w0 S b _ [G] hgl _ _ w' hst (fun w2 h2=>row_cells (h2.own (b39,_) (jX _ (jW _))).2 rfl rfl (by simp [maxLen]))) ?_ ?_
 rotate_left
 ·exact dTBtqw
 rintro v fs' h
 rw [hsp] at h
 obtain ⟨h,rfl⟩:=h
 cases h
 (refine goZ ?_;refine lvz (.subI rfl rfl (by omega) (by omega)) ?_;refine goZ ?_;refine lvz (.addI rfl rfl (by omega) (by omega)) ?_;refine goZ ?_;refine cEv need_true ?_)
 apply CW.pre
 (refine qY [] 15 mixed (by decide +kernel) ?_)
 (refine tsZ ?_)
 refine fsZ ?_
 (refine lvz (.minZ rfl rfl) ?_;refine goZ ?_)
 refine dQBKQZ ?_
 rintro _ _ ⟨rfl,rfl⟩
 (refine goZ ?_;apply zR;rfl;rfl;apply qA;apply ma_wr1 (z:=.int .i64 0);refine goZ ?_)
 obtain ⟨m1,hm1⟩:∃ m1,(((ma0 f e0 e1 e2 e3).setGas (f.gas - G)).setF (((ma0 f e0 e1 e2 e3).setGas (f.gas - G)).fr.setPc ((min (pn+1+X.dt) L.cl.length:Nat):Int)))=m1:=⟨_,rfl⟩
 rw [hm1]
 have hs1:m1.fr.stk=.slice q2 L.ws.length k2:=by rw [← hm1];exact hst2
 have hs2:m1.fr.mem=.slice q3 L.ms.length k3:=by rw [← hm1];exact hst3
 have hrd2:∀ {E fr},Rd prog 25 (.cells (mca m1) E fr) 2 (.agg #[.slice q2 L.ws.length k2,.slice q3 L.ms.length k3]):=fun {E fr}=>by rw [← hs1,← hs2];exact ma_rd2 (z:=.agg #[.slice none 0 0,.slice none 0 0])
 apply CW.pre
 (refine qY [(9,PopR L.ws L.ms X.tk)] 21 mixed (by decide +kernel) ?_)
 (refine tsZ ?_)
 refine DW.manyA (us2++us3) rfl rfl rfl (by (exact zC)) rfl vF agZ ?_ (fun p hp=>AncT.lie (by (refine AncT.cons ?_ ?_;exact zN;refine AncT.cons ?_ ?_;exact zN;refine AncT.cons ?_ ?_;exact zN;refine AncT.app ?_ ?_;refine AncT.app ?_ ?_;exact AncT.tsOf;refine AncT.app ?_ ?_;exact AncT.tsOf;refine AncT.app ?_ ?_;exact AncT.tsOf;refine AncT.app ?_ ?_;exact AncT.tsOf;exact AncT.tsOf;exact AncT.tsOf)) ?_) (fun w _ hu=>?_) ?_
 ·exact dTBuOw
 ·exact dTBKmK
 ·exact dTBMTc
 rintro vP gP ⟨s1,c1,t1,h1,h2,h3,rfl,rfl,hw1,hb1,ht1⟩
 have hb1':=hb1
 have ht1':=ht1
 unfold wM at ht1'
 unfold bM at hb1'
 obtain ⟨q5,k5,rfl⟩:=hw1.form
 obtain ⟨q6,k6,rfl⟩:=hb1'.form
 obtain ⟨q7,k7,rfl⟩:=ht1'.form
 refine dQBlXK ?_
 have hL1:Instr.findNow (.int .u8) (.int .u8 (op:Int)) halvesE.toList 0=some none:=by rw [halves_find,hd1];rfl
 have hL2:Instr.findNow (.int .u8) (.int .u8 (op:Int)) saysE.toList 0=some none:=by rw [says_find,hd2];rfl
 have hL3:Instr.findNow (.int .u8) (.int .u8 (op:Int)) doesE.toList 0=some (some (i,.func (.func 171) #[] #[])):=by rw [does_find,hd3];rfl
 obtain ⟨m2,hm2⟩:∃ m2,(((m1.setSc (.slice q5 (List.take (L.ws.length - X.tk) L.ws).length k5) (.slice q6 L.ms.length k6)).setTook (.slice q7 (List.drop (L.ws.length - X.tk) L.ws).reverse.length k7)).setOp op)=m2:=⟨_,rfl⟩
 rw [hm2]
 have hm2t:m2.took=.slice q7 (List.drop (L.ws.length - X.tk) L.ws).reverse.length k7:=by rw [← hm2];rfl
 have hm2o:m2.op=op:=by rw [← hm2];rfl
 refine dQBeDB ?_
 rintro _ _ ⟨bh,rfl,rfl⟩
 refine laZ ?_
 (refine goZ ?_)
 (refine crz (c:=fun w hs=>by exact says_calls w) (k:=?_))
 rintro _ _ ⟨by1,rfl,rfl⟩
 refine laZ ?_
 (refine goZ ?_)
 (refine crz (c:=fun w hs=>by exact does_calls w) (k:=?_))
 rintro _ _ ⟨bd,rfl,rfl⟩
 refine laZ ?_
 (refine goZ ?_)
 refine qV (yX (l₁:=_::_::_::(h3++(h2++h1)))).symm ?_
 refine qO (K:=fun v fs'=>v=.tuple #[]∧fs'=(b,maO (m2.setAsk 1 op m2.took (.slice none 0 0)))::_) rfl rfl vF agZ (fun w' hst=>vG (state_calls w0 S b m2 _ ⟨_,_,_,hm2t⟩ w' hst) fun x w'' ⟨fs',hk,hst⟩=>⟨_,fs',hk.1,⟨rfl,by rw [hk.2,hm2o]⟩,hst⟩) ?_
 rintro _ _ ⟨rfl,rfl⟩
 obtain ⟨m3,hm3⟩:∃ m3,m2.setAsk 1 op m2.took (.slice none 0 0)=m3:=⟨_,rfl⟩
 rw [hm3]
 have hk3:m3.kind=((1:Nat):Int):=by rw [← hm3];rfl
 have hrd19:∀ {E fr},Rd prog 3 (.cells (mca m3) E fr) 19 (.int .i64 1):=fun {E fr}=>by rw [← show m3.kind=1 from hk3];exact ma_rd19
 (refine goZ ?_)
 have hcF:FrP m3.fr (L.setW (L.ws.take (L.ws.length - X.tk))) (g1++(h1++(h2++(g4++g5)))):=by
  have e1:m3.fr.code=f.code:=by rw [← hm3,← hm2,← hm1];rfl
  have e2:m3.fr.stk=.slice q5 (List.take (L.ws.length - X.tk) L.ws).length k5:=by rw [← hm3,← hm2];rfl
  have e3:m3.fr.mem=.slice q6 L.ms.length k6:=by rw [← hm3,← hm2];rfl
  have e4:m3.fr.inp=f.inp:=by rw [← hm3,← hm2,← hm1];rfl
  have e5:m3.fr.back=f.back:=by rw [← hm3,← hm2,← hm1];rfl
  refine ⟨g1,h1,h2,g4,g5,.refl _,?_,?_,?_,?_,?_⟩
  ·rw [e1,hst1];exact r1
  ·rw [e2];exact hw1
  ·rw [e3];exact hb1
  ·rw [e4,hgb5.1];exact r4
  ·rw [e5,hgb5.2];exact r5
 have hmE:m3=(((ma0 ((f.setR (f.gas - G) (.slice q5 (List.take (L.ws.length - X.tk) L.ws).length k5) (.slice q6 L.ms.length k6)).setPc ((min (pn+1+X.dt) L.cl.length:Nat):Int)) e0 e1 e2 e3).setTook (.slice q7 (List.drop (L.ws.length - X.tk) L.ws).reverse.length k7)).setAsk 1 op (.slice q7 (List.drop (L.ws.length - X.tk) L.ws).reverse.length k7) (.slice none 0 0)):=by
  rw [← hm3,← hm2,← hm1]
  rfl
 refine inPI (.inr rfl) .nil rfl .nil rfl ⟨_,⟨rfl,m3,h3++(g1++(h1++(h2++(g4++g5)))),hGd m3 _ ⟨_,_,_,_,_,hmE,hcF,ht1,rfl⟩,rfl⟩,?_⟩
 simp only [jR,yA,jQ]
 exact subp_ix [[_],[_],[_],[_],h3,h2,h1,[_],[_],g1,g2,g3,g4,g5] (xs:=[0,4,9,6,5,12,13]) (ys:=[0,1,2,3,4,5,6,7,8,9,10,11,12,13]) rest rfl
end
section
open CK (dataC)
attribute [local irreducible] SL.inP opOf opX gasB
def LaidM (f:FrV) (L:FrL) (e0 e1 e2 e3 op:Nat) (z:Nat) (m:MaV) (gs:Fs):Prop:=∃ s k t,m=(((ma0 ((f.setR (f.gas - gasB op) s k).setPc ((min (f.pc.toNat+1+(opX op).dt) L.cl.length:Nat):Int)) e0 e1 e2 e3).setTook t).setAsk 0 0 (.slice none 0 0) (.slice none 0 0))∧FrO m.fr (L.setW (L.ws.take (L.ws.length - (opX op).tk)++[z])) gs
theorem step_half (w0:World) (S:List Nat) (b:Nat) (f:FrV) (L:FrL) (e0 e1 e2 e3:Nat) (gs rest:Fs) (op i x y z:Nat) (fid:FuncId) (hFn:FnI prog fid) (hz:∀ w',Calls prog fid #[wv x,wv y] w' (Ret w' (wv z))) (hxy:(L.ws.drop (L.ws.length - 2)).reverse=[x,y]) (htk:(opX op).tk=2) (hly:(opX op).ly=1) (hF:okF f L) (hop:opF f L=op) (ho:(opOf op).isSome=true) (hi:op ≠ 254) (hr1:op < 96∨159 < op) (hd1:halvesF op=some (i,fid)) (hg:gasB op≤f.gas) (ht:(opX op).tk≤L.ws.length) (hf:L.ws.length - (opX op).tk+(opX op).ly≤64) (hfr:FrO f L gs) (w:World) (hs:St w0 S ((b,maO (ma0 f e0 e1 e2 e3))::(gs++rest)) w) :
  Calls prog 42 #[.pointer (some ⟨b,0,none⟩)] w (fun x w'=>∃ fs',(x=.returned (.tuple #[])∧∃ m' gs',LaidM f L e0 e1 e2 e3 op z m' gs'∧fs'=(b,maO m')::(gs'++rest))∧St w0 S fs' w'):=by
 obtain ⟨code,pc,stk,mem,gas,self,frm,val,inp,back,stat⟩:=f
 obtain ⟨g1,g2,g3,g4,g5,hp,r1,r2,r3,r4,r5⟩:=id hfr
 unfold bM at r1 r3
 unfold wM at r2
 dsimp only at r1 r2 r3
 obtain ⟨q1,k1,rfl⟩:=id r1.form
 obtain ⟨q2,k2,rfl⟩:=id r2.form
 obtain ⟨q3,k3,rfl⟩:=id r3.form
 obtain ⟨us2,hbl2,hin2,hrows2⟩:=rowU_own r2
 obtain ⟨us3,hbl3,hin3,hrows3⟩:=rowU_own r3
 replace hs:St w0 S ((b,maO (ma0 _ e0 e1 e2 e3))::(g1++(g2++(g3++(g4++g5)))++rest)) w:=hs.perm (List.Perm.cons _ (hp.append_right rest))
 obtain ⟨f,hfe⟩:∃ f:FrV,f=⟨.slice q1 L.cl.length k1,pc,.slice q2 L.ws.length k2,.slice q3 L.ms.length k3,gas,self,frm,val,inp,back,stat⟩:=⟨_,rfl⟩
 rw [← hfe] at hF hop hg hfr hs ⊢
 have hst1:f.code=.slice q1 L.cl.length k1:=by rw [hfe]
 have hst2:f.stk=.slice q2 L.ws.length k2:=by rw [hfe]
 have hst3:f.mem=.slice q3 L.ms.length k3:=by rw [hfe]
 have hgb5:f.inp=inp∧f.back=back:=by rw [hfe];exact ⟨rfl,rfl⟩
 clear hfe
 have hrdS:∀ {g E fr},Rd prog 23 (.cells (mca ((ma0 f e0 e1 e2 e3).setGas g)) E fr) 2 (.slice q2 L.ws.length k2):=fun {g E fr}=>by rw [← hst2];exact ma_rd2s (m:=(ma0 f e0 e1 e2 e3).setGas g)
 have hrdC:∀ {g E fr},Rd prog 22 (.cells (mca ((ma0 f e0 e1 e2 e3).setGas g)) E fr) 0 (.slice q1 L.cl.length k1):=fun {g E fr}=>by rw [← hst1];exact ma_rd0 (m:=(ma0 f e0 e1 e2 e3).setGas g)
 obtain ⟨pn,hpn⟩:∃ pn:Nat,f.pc=(pn:Int):=by
  exact dTBjLF
 have hpl:pn≤L.cl.length:=by
  rcases okF_pc hF with h|h<;>omega
 have hcl2:L.cl.length≤200:=hF.2.2.1
 have hrdP:∀ {g E fr},Rd prog 3 (.cells (mca ((ma0 f e0 e1 e2 e3).setGas g)) E fr) 1 (.int .i64 (pn:Int)):=fun {g E fr}=>by rw [← hpn];exact ma_rd1 (m:=(ma0 f e0 e1 e2 e3).setGas g)
 have hpt:f.pc.toNat=pn:=by rw [hpn];exact yY pn
 have hgl:f.gas < 18446744073709551616:=by have:=hF.1.2.2;omega
 have hok:okSc L.ws.length L.ms.length:=hF.2.2.2.1
 have hN:∀ w',(∀ q∈gs,w'.heap[q.1]?=some q.2)→Calls prog 82 #[frv f] w' (Ret w' (.int .u8 (op:Int))):=fun w' h=>by
  exact dTBjHd
 have hN:∀ w',(∀ q∈g1++(g2++(g3++(g4++g5))),w'.heap[q.1]?=some q.2)→Calls prog 82 #[frv f] w' (Ret w' (.int .u8 (op:Int))):=fun w' h=>hN w' fun q hq=>h q (hp.symm.subset hq)
 have hsl:=hfr.sl
 have hop2:op < 256:=by rw [← hop];exact opF_lt f L
 have o5:(opX op).dt≤32:=by rw [opX_dt];exact CK.szOf_le _
 obtain ⟨e,hOf,he⟩:=OfX_calls op (by omega) w
 rw [if_pos ho] at he
 subst he
 obtain ⟨G,hG⟩:∃ G,gasB op=G:=⟨_,rfl⟩
 have hBs:∀ w',Calls prog 93 #[.int .u8 (op:Int)] w' (Ret w' (.tuple #[.int .u64 (G:Int),.int .i64 0])):=fun w'=>by
  exact dTBJKw
 have hGd:∀ m gs,(∃ s k t,m=(((ma0 ((f.setR (f.gas - G) s k).setPc ((min (pn+1+(opX op).dt) L.cl.length:Nat):Int)) e0 e1 e2 e3).setTook t).setAsk 0 0 (.slice none 0 0) (.slice none 0 0))∧FrO m.fr (L.setW (L.ws.take (L.ws.length - (opX op).tk)++[z])) gs)→LaidM f L e0 e1 e2 e3 op z m gs:=fun m gs h=>by
  unfold LaidM
  rw [hG,hpt]
  exact h
 rw [hG] at hg
 obtain ⟨X,hX⟩:∃ X,opX op=X:=⟨_,rfl⟩
 rw [hX] at ht hf o5 hGd hOf htk hly
 refine calls_anyO (qX (K:=anyO fun x fs'=>x=.returned (.tuple #[])∧∃ m' gs',LaidM f L e0 e1 e2 e3 op z m' gs'∧fs'=(b,maO m')::(gs'++rest)) (args:=[_]) func42 rfl ntmps42 rfl ?_ hs)
 (refine goZ ?_;refine ldy (c:=by exact ma_rdF) (k:=?_);refine cEz (c:=fun w hst=>by exact hN w (st_ou hst subZ)) (k:=?_);refine cEv hOf ?_;intro _;refine cEv need_true ?_;refine cEv hBs ?_;intro _)
 rename_i b3 b39
 have hsp:spendM (ma0 f e0 e1 e2 e3) [G]=some ((ma0 f e0 e1 e2 e3).setGas (f.gas - G)):=if_pos (by show G+0≤f.gas;omega)
 refine dQBfSO ?_
 refine qP (K:=MaK b (ma0 f e0 e1 e2 e3) (spendM (ma0 f e0 e1 e2 e3) [G]) _) rfl rfl vF agZ rfl (fun fs h=>by rw [hsp] at h;cases h.1) (fun w' hst=>spend_calls w0 S b _ [G] hgl _ _ w' hst (fun w2 h2=>row_cells (h2.own (b39,_) (jX _ (jW _))).2 rfl rfl (by simp [maxLen]))) ?_ ?_
 rotate_left
 ·exact dTBtqw
 rintro v fs' h
 rw [hsp] at h
 obtain ⟨h,rfl⟩:=h
 cases h
 refine dQBoUk ?_
 refine dQBKQZ ?_
 rintro _ _ ⟨rfl,rfl⟩
 (refine goZ ?_;apply zR;rfl;rfl;apply qA;apply ma_wr1 (z:=.int .i64 0);refine goZ ?_)
 obtain ⟨m1,hm1⟩:∃ m1,(((ma0 f e0 e1 e2 e3).setGas (f.gas - G)).setF (((ma0 f e0 e1 e2 e3).setGas (f.gas - G)).fr.setPc ((min (pn+1+X.dt) L.cl.length:Nat):Int)))=m1:=⟨_,rfl⟩
 rw [hm1]
 have hs1:m1.fr.stk=.slice q2 L.ws.length k2:=by rw [← hm1];exact hst2
 have hs2:m1.fr.mem=.slice q3 L.ms.length k3:=by rw [← hm1];exact hst3
 have hrd2:∀ {E fr},Rd prog 25 (.cells (mca m1) E fr) 2 (.agg #[.slice q2 L.ws.length k2,.slice q3 L.ms.length k3]):=fun {E fr}=>by rw [← hs1,← hs2];exact ma_rd2 (z:=.agg #[.slice none 0 0,.slice none 0 0])
 apply CW.pre
 (refine qY [(9,PopR L.ws L.ms X.tk)] 21 mixed (by decide +kernel) ?_)
 (refine tsZ ?_)
 refine DW.manyA (us2++us3) rfl rfl rfl (by (exact zC)) rfl vF agZ ?_ (fun p hp=>AncT.lie (by (refine AncT.cons ?_ ?_;exact zN;refine AncT.cons ?_ ?_;exact zN;refine AncT.cons ?_ ?_;exact zN;refine AncT.app ?_ ?_;refine AncT.app ?_ ?_;exact AncT.tsOf;refine AncT.app ?_ ?_;exact AncT.tsOf;refine AncT.app ?_ ?_;exact AncT.tsOf;refine AncT.app ?_ ?_;exact AncT.tsOf;exact AncT.tsOf;exact AncT.tsOf)) ?_) (fun w _ hu=>?_) ?_
 ·exact dTBuOw
 ·exact dTBKmK
 ·exact dTBMTc
 rintro vP gP ⟨s1,c1,t1,h1,h2,h3,rfl,rfl,hw1,hb1,ht1⟩
 have hb1':=hb1
 have ht1':=ht1
 unfold wM at ht1'
 unfold bM at hb1'
 obtain ⟨q5,k5,rfl⟩:=hw1.form
 obtain ⟨q6,k6,rfl⟩:=hb1'.form
 obtain ⟨q7,k7,rfl⟩:=ht1'.form
 refine dQBlXK ?_
 have hL1:Instr.findNow (.int .u8) (.int .u8 (op:Int)) halvesE.toList 0=some (some (i,.func (.func fid) #[] #[])):=by rw [halves_find,hd1];rfl
 obtain ⟨m2,hm2⟩:∃ m2,(((m1.setSc (.slice q5 (List.take (L.ws.length - X.tk) L.ws).length k5) (.slice q6 L.ms.length k6)).setTook (.slice q7 (List.drop (L.ws.length - X.tk) L.ws).reverse.length k7)).setOp op)=m2:=⟨_,rfl⟩
 rw [hm2]
 have hm2t:m2.took=.slice q7 (List.drop (L.ws.length - X.tk) L.ws).reverse.length k7:=by rw [← hm2];rfl
 have hm2o:m2.op=op:=by rw [← hm2];rfl
 refine dQBeDB ?_
 rintro _ _ ⟨bh,rfl,rfl⟩
 refine laZ ?_
 (refine goZ ?_)
 have hlen2:(List.drop (L.ws.length - X.tk) L.ws).reverse=[x,y]:=by rw [htk];exact hxy
 rw [hlen2] at hm2t
 have ht2:wM [x,y] (.slice q7 2 k7) h3:=by
  have h:=ht1
  rw [hlen2] at h
  exact h
 unfold wM at ht2
 obtain ⟨gt,cur,rfl,rfl,hn9,hm9,hsz9,htk9⟩:=ht2.pos (by show 0 < 2;omega)
 have hrdT:∀ {E fr},Rd prog 23 (.cells (mca m2) E fr) 18 (.slice (some ⟨gt,0,none⟩) 2 k7):=fun {E fr}=>by rw [show Value.slice (some ⟨gt,0,none⟩) 2 k7=m2.took from hm2t.symm];exact ma_rd18
 have hrdX:Rd prog 29 (.cells cur 29 (0,0)) (0+0 * 4) (wv x):=word_rd (l:=[x,y]) (by rw [yW];exact htk9) 0 (by show 0 < 2;omega)
 have hrdY:Rd prog 29 (.cells cur 29 (0,0)) (0+1 * 4) (wv y):=word_rd (l:=[x,y]) (by rw [yW];exact htk9) 1 (by show 1 < 2;omega)
 apply CW.pre
 (refine qY [] 16 mixed (by decide +kernel) ?_)
 (refine tsZ ?_)
 refine DW.callA [] (v:=wv z) rfl rfl rfl (by (exact zC)) rfl hFn (by (exact .cons rfl (.cons rfl .nil))) rfl (fun p hp=>absurd hp List.not_mem_nil) (fun w _ hu=>hz w) ?_
 refine dQBVgc ?_
 (refine tsZ ?_;apply DW.layA;rfl;rfl;rfl;exact zC;exact vF;exact vF;rfl;rfl;rfl;rfl;rfl;intro _;refine goZ ?_)
 refine fsZ ?_
 skip
 rename_i bz
 obtain ⟨R,hR⟩:∃ R,((b39,Obj.cells #[.int .u64 (G:Int)] 26 (0,0))::(b3,Obj.cells (opc X) 86 (0,0))::(g1++(g2++(g3++(g4++g5)))++rest))=R:=⟨_,rfl⟩
 rw [hR]
 have hms:m2.fr.stk=.slice q5 (List.take (L.ws.length - X.tk) L.ws).length k5:=by rw [← hm2];rfl
 have hmm:m2.fr.mem=.slice q6 L.ms.length k6:=by rw [← hm2];rfl
 have hwl:(L.ws.take (L.ws.length - X.tk)).length=L.ws.length - X.tk:=by rw [yH];omega
 have hok3:okSc (L.ws.take (L.ws.length - X.tk)).length L.ms.length:=by
  unfold okSc at hok ⊢
  rw [hwl]
  omega
 refine qV (yX (l₁:=(bz,.cells (wc z) 29 (0,0))::(bh,.map halvesE 13)::(gt,.cells cur 29 (0,0))::(h2++h1))).symm ?_
 refine qO (K:=fun v fs'=>v=.tuple #[]∧∃ s k gs c4,ScO (L.ws.take (L.ws.length - X.tk)++[z]) L.ms (.agg #[s,k]) gs∧fs'=c4::(gs++(b,maO (m2.setSc s k))::(((bz,.cells (wc z) 29 (0,0))::(bh,.map halvesE 13)::(gt,.cells cur 29 (0,0))::(h2++h1))++R))) rfl rfl vF agZ (fun w' hst=>vG (lay_ok w0 S b m2 (L.ws.take (L.ws.length - X.tk)) L.ms [z] _ _ w' hst (fun w2 hw2=>⟨?_,?_,?_⟩) hok3 (by show 1≤100000;omega) (by rw [hwl];show _+1≤64;omega)) fun x w'' ⟨fs',hk,hst⟩=>⟨_,fs',hk.1,⟨rfl,hk.2⟩,hst⟩) ?_
 ·rw [hms]
  exact hw1.at fun p hp=>(hw2.own p (by simp [hp])).2
 ·rw [hmm]
  exact bM_at hb1 fun p hp=>(hw2.own p (by simp [hp])).2
 ·exact row_cells (hw2.own (bz,_) (jX _ (jW _))).2 rfl rfl (by decide)
 rintro _ _ ⟨rfl,s9,k9,gs9,c4,⟨s',k',gg1,gg2,he,rfl,hw9,hb9⟩,rfl⟩
 cases he
 obtain ⟨m3,hm3⟩:∃ m3,m2.setSc s9 k9=m3:=⟨_,rfl⟩
 rw [hm3]
 have hk3:m3.kind=0:=by rw [← hm3,← hm2,← hm1];rfl
 have hrd19:∀ {E fr},Rd prog 3 (.cells (mca m3) E fr) 19 (.int .i64 0):=fun {E fr}=>by rw [← hk3];exact ma_rd19
 (refine goZ ?_;refine bTz ?_;refine zR rfl rfl (.tail (.app .head)) ma_wr19 ?_;refine goZ ?_)
 obtain ⟨m4,hm4⟩:∃ m4,m3.setAsk 0 0 (.slice none 0 0) (.slice none 0 0)=m4:=⟨_,rfl⟩
 rw [hm4]
 have hcF:FrO m4.fr (L.setW (L.ws.take (L.ws.length - X.tk)++[z])) (g1++(gg1++(gg2++(g4++g5)))):=by
  have e1:m4.fr.code=f.code:=by rw [← hm4,← hm3,← hm2,← hm1];rfl
  have e2:m4.fr.stk=s9:=by rw [← hm4,← hm3];rfl
  have e3:m4.fr.mem=k9:=by rw [← hm4,← hm3];rfl
  have e4:m4.fr.inp=f.inp:=by rw [← hm4,← hm3,← hm2,← hm1];rfl
  have e5:m4.fr.back=f.back:=by rw [← hm4,← hm3,← hm2,← hm1];rfl
  refine ⟨g1,gg1,gg2,g4,g5,.refl _,?_,?_,?_,?_,?_⟩
  ·rw [e1,hst1];exact r1
  ·rw [e2];exact hw9
  ·rw [e3];exact hb9
  ·rw [e4,hgb5.1];exact r4
  ·rw [e5,hgb5.2];exact r5
 have hmE:m4=(((ma0 ((f.setR (f.gas - G) s9 k9).setPc ((min (pn+1+X.dt) L.cl.length:Nat):Int)) e0 e1 e2 e3).setTook m2.took).setAsk 0 0 (.slice none 0 0) (.slice none 0 0)):=by
  rw [← hm4,← hm3,← hm2,← hm1]
  rfl
 refine inPI (.inr rfl) .nil rfl .nil rfl ⟨_,⟨rfl,m4,g1++(gg1++(gg2++(g4++g5))),hGd m4 _ ⟨_,_,_,hmE,hcF⟩,rfl⟩,?_⟩
 rw [← hR]
 simp only [jR,yA,jQ]
 exact subp_ix [[_],gg2,gg1,[_],[_],[_],[_],h2,h1,[_],[_],g1,g2,g3,g4,g5] (xs:=[3,11,2,1,14,15]) (ys:=[0,1,2,3,4,5,6,7,8,9,10,11,12,13,14,15]) rest rfl
end
end Go.Proofs.YtdeggbkbblfpoaaGreatDoor
namespace Go.Proofs.YtdeggbkbblfpoaaGreatDoor
open Go Go.RowKit SL
open CK (dataC readB)
theorem SL.RetG.to {w w':World} {S:List Nat} {Φ Ψ:Value→Fs→Prop} {e:Ending} (h:RetG w S Φ e w') (f:∀ v gs,Φ v gs→Ψ v gs):RetG w S Ψ e w':=by
 obtain ⟨v,gs,h1,h2,h3⟩:=h
 exact ⟨v,gs,h1,f v gs h2,h3⟩
set_option maxRecDepth 8000
set_option maxHeartbeats 4000000
set_option linter.unusedSimpArgs false
set_option linter.unusedVariables false
attribute [local irreducible] SL.CW SL.LW SL.DW Calls SL.Ret SL.RetG SL.beginQ SL.roundQ SL.rangeQ SL.inQ SL.RW SL.AnyW SL.thenQ SL.thenC SL.thenW SL.blkQ SL.finQ SL.ValP SL.NewP SL.SetP SL.CallP SL.Rd SL.Wr SL.Known
def wkCode:List UInt8:=[96,2,96,5,3,96,7,84]
def wkPc (k:Nat):Int:=match k with
 |0=>0
 |1=>2
 |2=>4
 |3=>5
 |4=>7
 |_=>8
def wkGas (k:Nat):Nat:=match k with
 |0=>300
 |1=>297
 |2=>294
 |3=>291
 |4=>288
 |_=>288
def wkWs (k:Nat):List Nat:=match k with
 |0=>[]
 |1=>[2]
 |2=>[2,5]
 |3=>[3]
 |4=>[3,7]
 |_=>[3]
def wkV (k:Nat) (c s m i b:Value):FrV:=⟨c,wkPc k,s,m,wkGas k,20,0,0,i,b,false⟩
def wkL4 (k:Nat):FrL:=⟨wkCode,wkWs k,[],[],[]⟩
def WkR (k:Nat) (v:Value) (gs:Fs):Prop:=∃ c s m i b,v=.tuple #[frv (wkV k c s m i b),.agg (aska 0 0 (.slice none 0 0) (.slice none 0 0)),.int .i64 0]∧FrO (wkV k c s m i b) (wkL4 k) gs
def WkS (v:Value) (gs:Fs):Prop:=∃ c s m i b t gF gT,v=.tuple #[frv (wkV 5 c s m i b),.agg (aska 1 84 t (.slice none 0 0)),.int .i64 0]∧FrP (wkV 5 c s m i b) (wkL4 5) gF∧wM [7] t gT∧gs=gT++gF
def WkM (k:Nat) (m:MaV) (gs:Fs):Prop:=∃ c s k' i b,m.fr=wkV k c s k' i b∧m.kind=0∧m.op=0∧m.words=.slice none 0 0∧m.data=.slice none 0 0∧FrO m.fr (wkL4 k) gs
theorem WkM.sl {k:Nat} {m:MaV} {gs:Fs} (h:WkM k m gs):FrSl m.fr∧(∃ p n c,m.words=.slice p n c)∧(∃ p n c,m.data=.slice p n c):=by
 obtain ⟨c,s,k',i,b,_,_,_,hw,hd,hf⟩:=h
 exact ⟨hf.sl,⟨_,_,_,hw⟩,⟨_,_,_,hd⟩⟩
theorem WkM.to {k:Nat} {v:Value} {gs:Fs} (h:StepR (WkM k) v gs):WkR k v gs:=by
 obtain ⟨m,⟨c,s,k',i,b,h1,h2,h3,h4,h5,h6⟩,rfl⟩:=h
 rw [h1] at h6 ⊢
 rw [h2,h3,h4,h5]
 exact ⟨c,s,k',i,b,rfl,h6⟩
theorem wk_ok0 (c s m i b:Value):okF (wkV 0 c s m i b) (wkL4 0):=⟨⟨by decide,by decide,by show wkGas 0≤20000;decide⟩,by show ¬ 20=0;decide,by decide,by decide,.inr (by kernel_rfl)⟩
theorem wk_ok1 (c s m i b:Value):okF (wkV 1 c s m i b) (wkL4 1):=⟨⟨by decide,by decide,by show wkGas 1≤20000;decide⟩,by show ¬ 20=0;decide,by decide,by decide,.inr (by kernel_rfl)⟩
theorem wk_ok2 (c s m i b:Value):okF (wkV 2 c s m i b) (wkL4 2):=⟨⟨by decide,by decide,by show wkGas 2≤20000;decide⟩,by show ¬ 20=0;decide,by decide,by decide,.inr (by kernel_rfl)⟩
theorem wk_ok3 (c s m i b:Value):okF (wkV 3 c s m i b) (wkL4 3):=⟨⟨by decide,by decide,by show wkGas 3≤20000;decide⟩,by show ¬ 20=0;decide,by decide,by decide,.inr (by kernel_rfl)⟩
theorem wk_ok4 (c s m i b:Value):okF (wkV 4 c s m i b) (wkL4 4):=⟨⟨by decide,by decide,by show wkGas 4≤20000;decide⟩,by show ¬ 20=0;decide,by decide,by decide,.inr (by kernel_rfl)⟩
theorem wk_ok5 (c s m i b:Value):okF (wkV 5 c s m i b) (wkL4 5):=⟨⟨by decide,by decide,by show wkGas 5≤20000;decide⟩,by show ¬ 20=0;decide,by decide,by decide,.inl (by rfl)⟩
theorem wk_op0 (c s m i b:Value):opF (wkV 0 c s m i b) (wkL4 0)=96:=by kernel_rfl
theorem wk_pc0:((min ((wkPc 0).toNat+1+(opX 96).dt) (wkL4 0).cl.length:Nat):Int)=wkPc 1:=by kernel_rfl
theorem wk_op1 (c s m i b:Value):opF (wkV 1 c s m i b) (wkL4 1)=96:=by kernel_rfl
theorem wk_pc1:((min ((wkPc 1).toNat+1+(opX 96).dt) (wkL4 1).cl.length:Nat):Int)=wkPc 2:=by kernel_rfl
theorem wk_op2 (c s m i b:Value):opF (wkV 2 c s m i b) (wkL4 2)=3:=by kernel_rfl
theorem wk_pc2:((min ((wkPc 2).toNat+1+(opX 3).dt) (wkL4 2).cl.length:Nat):Int)=wkPc 3:=by kernel_rfl
theorem wk_op3 (c s m i b:Value):opF (wkV 3 c s m i b) (wkL4 3)=96:=by kernel_rfl
theorem wk_pc3:((min ((wkPc 3).toNat+1+(opX 96).dt) (wkL4 3).cl.length:Nat):Int)=wkPc 4:=by kernel_rfl
theorem wk_op4 (c s m i b:Value):opF (wkV 4 c s m i b) (wkL4 4)=84:=by kernel_rfl
theorem wk_pc4:((min ((wkPc 4).toNat+1+(opX 84).dt) (wkL4 4).cl.length:Nat):Int)=wkPc 5:=by kernel_rfl
theorem wk_dat0:wkWs 0++[bev (dataC wkCode (wkPc 0))]=wkWs 1:=by kernel_rfl
theorem wk_step0 (c s m i b:Value) (w:World) (h:FrRows w (wkV 0 c s m i b) (wkL4 0)):Calls Tryz.prog 10 #[frv (wkV 0 c s m i b),.agg (enva 0 0 0 0)] w (RetG w [] (WkR 1)):=by
 refine vG (Step_ok (wkV 0 c s m i b) (wkL4 0) 0 0 0 0 (WkM 1) (wk_ok0 ..) (fun _ _ h=>h.sl) (fun w0 S bb c s m i b gs rest w' hf hs=>?_) w h) fun x w' h=>SL.RetG.to h fun _ _=>WkM.to
 have e:(wkV 0 c s m i b).rows c s m i b=wkV 0 c s m i b:=rfl
 refine vG (step_push w0 S bb (wkV 0 c s m i b) (wkL4 0) 0 0 0 0 gs rest (wk_ok0 ..) (by rw [wk_op0];omega) (by rw [wk_op0];omega) (by show 3≤wkGas 0;decide) (by show (wkWs 0).length+1≤64;decide) hf w' hs) fun x w2 ⟨fs',⟨h1,s2,k2,gs2,h2,h3⟩,hst⟩=>?_
 rw [wk_op0] at h2 h3
 refine ⟨fs',⟨h1,_,gs2,⟨c,s2,k2,i,b,?_,rfl,rfl,rfl,rfl,?_⟩,h3⟩,hst⟩
 ·show FrV.setPc _ _=_
  rw [show (wkV 0 c s m i b).pc.toNat=(wkPc 0).toNat from rfl,wk_pc0]
  rfl
 ·have hd:(wkL4 0).setW ((wkL4 0).ws++[bev (dataC (wkL4 0).cl (wkV 0 c s m i b).pc)])=wkL4 1:=by
   show FrL.setW _ (wkWs 0++[bev (dataC wkCode (wkPc 0))])=_
   rw [wk_dat0]
   rfl
  rw [hd] at h2
  exact h2
theorem wk_dat1:wkWs 1++[bev (dataC wkCode (wkPc 1))]=wkWs 2:=by kernel_rfl
theorem wk_step1 (c s m i b:Value) (w:World) (h:FrRows w (wkV 1 c s m i b) (wkL4 1)):Calls Tryz.prog 10 #[frv (wkV 1 c s m i b),.agg (enva 0 0 0 0)] w (RetG w [] (WkR 2)):=by
 refine vG (Step_ok (wkV 1 c s m i b) (wkL4 1) 0 0 0 0 (WkM 2) (wk_ok1 ..) (fun _ _ h=>h.sl) (fun w0 S bb c s m i b gs rest w' hf hs=>?_) w h) fun x w' h=>SL.RetG.to h fun _ _=>WkM.to
 have e:(wkV 1 c s m i b).rows c s m i b=wkV 1 c s m i b:=rfl
 refine vG (step_push w0 S bb (wkV 1 c s m i b) (wkL4 1) 0 0 0 0 gs rest (wk_ok1 ..) (by rw [wk_op1];omega) (by rw [wk_op1];omega) (by show 3≤wkGas 1;decide) (by show (wkWs 1).length+1≤64;decide) hf w' hs) fun x w2 ⟨fs',⟨h1,s2,k2,gs2,h2,h3⟩,hst⟩=>?_
 rw [wk_op1] at h2 h3
 refine ⟨fs',⟨h1,_,gs2,⟨c,s2,k2,i,b,?_,rfl,rfl,rfl,rfl,?_⟩,h3⟩,hst⟩
 ·show FrV.setPc _ _=_
  rw [show (wkV 1 c s m i b).pc.toNat=(wkPc 1).toNat from rfl,wk_pc1]
  rfl
 ·have hd:(wkL4 1).setW ((wkL4 1).ws++[bev (dataC (wkL4 1).cl (wkV 1 c s m i b).pc)])=wkL4 2:=by
   show FrL.setW _ (wkWs 1++[bev (dataC wkCode (wkPc 1))])=_
   rw [wk_dat1]
   rfl
  rw [hd] at h2
  exact h2
theorem wk_dat3:wkWs 3++[bev (dataC wkCode (wkPc 3))]=wkWs 4:=by kernel_rfl
theorem wk_step3 (c s m i b:Value) (w:World) (h:FrRows w (wkV 3 c s m i b) (wkL4 3)):Calls Tryz.prog 10 #[frv (wkV 3 c s m i b),.agg (enva 0 0 0 0)] w (RetG w [] (WkR 4)):=by
 refine vG (Step_ok (wkV 3 c s m i b) (wkL4 3) 0 0 0 0 (WkM 4) (wk_ok3 ..) (fun _ _ h=>h.sl) (fun w0 S bb c s m i b gs rest w' hf hs=>?_) w h) fun x w' h=>SL.RetG.to h fun _ _=>WkM.to
 have e:(wkV 3 c s m i b).rows c s m i b=wkV 3 c s m i b:=rfl
 refine vG (step_push w0 S bb (wkV 3 c s m i b) (wkL4 3) 0 0 0 0 gs rest (wk_ok3 ..) (by rw [wk_op3];omega) (by rw [wk_op3];omega) (by show 3≤wkGas 3;decide) (by show (wkWs 3).length+1≤64;decide) hf w' hs) fun x w2 ⟨fs',⟨h1,s2,k2,gs2,h2,h3⟩,hst⟩=>?_
 rw [wk_op3] at h2 h3
 refine ⟨fs',⟨h1,_,gs2,⟨c,s2,k2,i,b,?_,rfl,rfl,rfl,rfl,?_⟩,h3⟩,hst⟩
 ·show FrV.setPc _ _=_
  rw [show (wkV 3 c s m i b).pc.toNat=(wkPc 3).toNat from rfl,wk_pc3]
  rfl
 ·have hd:(wkL4 3).setW ((wkL4 3).ws++[bev (dataC (wkL4 3).cl (wkV 3 c s m i b).pc)])=wkL4 4:=by
   show FrL.setW _ (wkWs 3++[bev (dataC wkCode (wkPc 3))])=_
   rw [wk_dat3]
   rfl
  rw [hd] at h2
  exact h2
theorem wk_half:halfV 3 5 2=3:=by kernel_rfl
theorem wk_step2 (c s m i b:Value) (w:World) (h:FrRows w (wkV 2 c s m i b) (wkL4 2)):Calls Tryz.prog 10 #[frv (wkV 2 c s m i b),.agg (enva 0 0 0 0)] w (RetG w [] (WkR 3)):=by
 refine vG (Step_ok (wkV 2 c s m i b) (wkL4 2) 0 0 0 0 (WkM 3) (wk_ok2 ..) (fun _ _ h=>h.sl) (fun w0 S bb c s m i b gs rest w' hf hs=>?_) w h) fun x w' h=>SL.RetG.to h fun _ _=>WkM.to
 have hh:halvesF 3=some (1,139):=rfl
 obtain ⟨hF,hz⟩:=halfs_calls 5 2 (by decide) (by decide) hh
 refine vG (step_half w0 S bb (wkV 2 c s m i b) (wkL4 2) 0 0 0 0 gs rest 3 1 5 2 (halfV 3 5 2) 139 hF hz rfl (by kernel_rfl) (by kernel_rfl) (wk_ok2 ..) (wk_op2 ..) (by kernel_rfl) (by decide) (by decide) hh (by show gasB 3≤294;decide) (by show (opX 3).tk≤2;decide) (by show 2 - (opX 3).tk+(opX 3).ly≤64;decide) hf w' hs) fun x w2 ⟨fs',⟨h1,m',gs2,⟨s2,k2,t2,h2,h2f⟩,h3⟩,hst⟩=>?_
 have e1:m'.fr=wkV 3 c s2 k2 i b:=by
  rw [h2]
  show FrV.setPc _ _=_
  rw [show (wkV 2 c s m i b).pc.toNat=(wkPc 2).toNat from rfl,wk_pc2]
  rfl
 refine ⟨fs',⟨h1,m',gs2,⟨c,s2,k2,i,b,e1,?_,?_,?_,?_,?_⟩,h3⟩,hst⟩
 ·rw [h2];rfl
 ·rw [h2];rfl
 ·rw [h2];rfl
 ·rw [h2];rfl
 ·rw [wk_half] at h2f
  exact h2f
theorem wk_step4 (c s m i b:Value) (w:World) (h:FrRows w (wkV 4 c s m i b) (wkL4 4)):Calls Tryz.prog 10 #[frv (wkV 4 c s m i b),.agg (enva 0 0 0 0)] w (RetG w [] WkS):=by
 refine vG (Step_ok (wkV 4 c s m i b) (wkL4 4) 0 0 0 0 (fun m gs=>∃ c s k i b,StateM (wkV 4 c s k i b) (wkL4 4) 0 0 0 0 84 m gs) (wk_ok4 ..) (fun m gs h=>?_) (fun w0 S bb c1 s1 m1 i1 b1 gs rest w' hf hs=>?_) w h) fun x w' h=>?_
 ·obtain ⟨_,_,_,_,_,s2,k2,t2,gF,gT,hm,hF,hT,_⟩:=h
  unfold wM at hT
  obtain ⟨_,_,hT⟩:=hT.form
  exact ⟨hF.sl,⟨_,_,_,by rw [hm];exact hT⟩,⟨none,0,0,by rw [hm];rfl⟩⟩
 ·refine vG (step_state w0 S bb (wkV 4 c1 s1 m1 i1 b1) (wkL4 4) 0 0 0 0 gs rest 84 14 (wk_ok4 ..) (wk_op4 ..) (by kernel_rfl) (by decide) (by decide) rfl rfl rfl (by show gasB 84≤288;decide) (by show (opX 84).tk≤2;decide) (by show 2 - (opX 84).tk+(opX 84).ly≤64;decide) hf w' hs) fun x w2 ⟨fs',⟨h1,m',gs2,h2,h3⟩,hst⟩=>⟨fs',⟨h1,m',gs2,⟨_,_,_,_,_,h2⟩,h3⟩,hst⟩
 ·refine SL.RetG.to h fun v gs h=>?_
  obtain ⟨m,⟨c,s,k,i,b,s2,k2,t2,gF,gT,hm,hF,hT,hgs⟩,hv⟩:=h
  have e1:m.fr=wkV 5 c s2 k2 i b:=by
   rw [hm]
   show FrV.setPc _ _=_
   rw [show (wkV 4 c s k i b).pc.toNat=(wkPc 4).toNat from rfl,wk_pc4]
   rfl
  have e2:aska m.kind m.op m.words m.data=aska 1 84 t2 (.slice none 0 0):=by rw [hm];rfl
  rw [e1] at hF hv
  rw [e2] at hv
  have hw1:(wkL4 4).setW ((wkL4 4).ws.take ((wkL4 4).ws.length - (opX 84).tk))=wkL4 5:=by kernel_rfl
  have hw2:((wkL4 4).ws.drop ((wkL4 4).ws.length - (opX 84).tk)).reverse=[7]:=by kernel_rfl
  rw [hw1] at hF
  rw [hw2] at hT
  exact ⟨c,s2,k2,i,b,t2,gF,gT,hv,hF,hT,hgs⟩
end Go.Proofs.YtdeggbkbblfpoaaGreatDoor
namespace Go.Proofs.YtdeggbkbblfpoaaGreatDoor
open Go Go.RowKit SL
set_option maxRecDepth 8000
set_option maxHeartbeats 4000000
set_option linter.unusedSimpArgs false
set_option linter.unusedVariables false
attribute [local irreducible] SL.CW SL.LW SL.DW Calls SL.Ret SL.RetG SL.beginQ SL.roundQ SL.rangeQ SL.inQ SL.RW SL.AnyW SL.thenQ SL.thenC SL.thenW SL.blkQ SL.finQ SL.ValP SL.NewP SL.SetP SL.CallP SL.Rd SL.Wr SL.Known
theorem wk_stepk (k:Nat) (hk:k < 4) (c s m i b:Value) (w:World) (h:FrRows w (wkV k c s m i b) (wkL4 k)):Calls prog 10 #[frv (wkV k c s m i b),.agg (enva 0 0 0 0)] w (RetG w [] (WkR (k+1))):=by
 rcases (by omega:k=0∨k=1∨k=2∨k=3) with rfl|rfl|rfl|rfl
 ·exact wk_step0 c s m i b w h
 ·exact wk_step1 c s m i b w h
 ·exact wk_step2 c s m i b w h
 ·exact wk_step3 c s m i b w h
def WkF (k:Nat) (f:FrV) (gs:Fs):Prop:=∃ c s m i b,f=wkV k c s m i b∧FrO f (wkL4 k) gs
theorem wk_f0 (g:Nat):WkF 0 (wkV 0 (.slice (some ⟨g,0,none⟩) 8 8) (.slice none 0 0) (.slice none 0 0) (.slice none 0 0) (.slice none 0 0)) [(g,.cells (ucs wkCode).toArray 5 (0,0))] :=
 ⟨_,_,_,_,_,rfl,[(g,.cells (ucs wkCode).toArray 5 (0,0))],[],[],[],[],.refl _,.own (by decide) (by decide) rfl rfl rfl,.nil,.nil,.nil,.nil⟩
theorem wk_c0 (g:Nat):fra (wkV 0 (.slice (some ⟨g,0,none⟩) 8 8) (.slice none 0 0) (.slice none 0 0) (.slice none 0 0) (.slice none 0 0))=#[.slice (some ⟨g,0,none⟩) 8 8,.int .i64 0,.slice none 0 0,.slice none 0 0,.int .u64 300,.int .u64 20,.int .u64 0,.int .u64 0,.int .u64 0,.int .u64 0,.int .u64 0,.slice none 0 0,.slice none 0 0,.bool false]:=by simp [fra,frc,wkV,wkPc,wkGas,wc]
theorem wakes14_calls (w:World):Calls prog 8 #[] w (Ret w (.bool true)):=by
 refine enter (args:=[]) _ [] [] func8 rfl ntmps8 rfl (by simp) .nil ?_
 (refine goZ ?_)
 refine LW.n0 rfl rfl (NewP.buildSN (vs:=[(0,.int .u8 96),(1,.int .u8 2),(2,.int .u8 96),(3,.int .u8 5),(4,.int .u8 3),(5,.int .u8 96),(6,.int .u8 7),(7,.int .u8 84)]) (c:=(ucs wkCode).toArray) vF vF (by (apply zA;rfl;apply zA;rfl;apply zA;rfl;apply zA;rfl;apply zA;rfl;apply zA;rfl;apply zA;rfl;apply zA;rfl;exact zB)) rfl rfl (by kernel_rfl) (by kernel_rfl)) fun g=>?_
 simp only [Sh.val]
 have hsl0:FrSl (wkV 0 (.slice (some ⟨g,0,none⟩) 8 8) (.slice none 0 0) (.slice none 0 0) (.slice none 0 0) (.slice none 0 0)):=⟨⟨_,_,_,rfl⟩,⟨_,_,_,rfl⟩,⟨_,_,_,rfl⟩,⟨_,_,_,rfl⟩,⟨_,_,_,rfl⟩⟩
 (refine bTz ?_;intro _)
 rename_i b1
 refine qM (fun x:Nat × FrV × Fs=>([(11,.int .i64 (x.1:Int)),(1,.pointer (some ⟨b1,0,none⟩)),(0,.bool false)],(b1,.cells (fra x.2.1) 31 (0,0))::x.2.2))
  (fun x=>x.1≤4∧WkF x.1 x.2.1 x.2.2) (fun x=>4 - x.1) (0,wkV 0 (.slice (some ⟨g,0,none⟩) 8 8) (.slice none 0 0) (.slice none 0 0) (.slice none 0 0) (.slice none 0 0),[(g,.cells (ucs wkCode).toArray 5 (0,0))]) ⟨Nat.zero_le _,wk_f0 g⟩ ⟨rfl,rfl,rfl,trivial⟩ (by rw [← wk_c0 g];exact jG _) ?_
 rintro ⟨k,f,gs⟩ ⟨hk,hf⟩
 dsimp only at hk hf ⊢
 rcases jM k 4 with hlt|hge
 ·obtain ⟨c,s,m,i,b,rfl,hfo⟩:=id hf
  have hsl1:FrSl (wkV k c s m i b):=hfo.sl
  (refine goZ ?_;refine bTz ?_)
  refine LW.callR rfl rfl vF agZ (fun w' hst=>wk_stepk k hlt c s m i b w' (hfo.us fun q hq=>(hst.own q (jI _ hq)).2)) ?_
  rintro v gs2 ⟨c2,s2,m2,i2,b2',rfl,hf2⟩
  refine qV (yX).symm ?_
  have hsl2:FrSl (wkV (k+1) c2 s2 m2 i2 b2'):=hf2.sl
  (refine goZ ?_;intro _ _)
  apply thenX
  exact ⟨rfl,(k+1,wkV (k+1) c2 s2 m2 i2 b2',gs2),⟨by omega,⟨_,_,_,_,_,rfl,hf2⟩⟩,by show 4 - (k+1) < 4 - k;omega,⟨rfl,rfl,rfl,trivial⟩,jK _ (jK _ (jP _ (jJ _ _)))⟩
 ·obtain rfl:k=4:=by omega
  obtain ⟨c,s,m,i,b,rfl,hfo⟩:=id hf
  have hsl1:FrSl (wkV 4 c s m i b):=hfo.sl
  (refine goZ ?_;refine bTz ?_)
  refine LW.callR rfl rfl vF agZ (fun w' hst=>wk_step4 c s m i b w' (hfo.us fun q hq=>(hst.own q (jI _ hq)).2)) ?_
  rintro v gs2 ⟨c2,s2,m2,i2,b2',t2,gF,gT,rfl,hf2,ht2,rfl⟩
  have hsl2:FrSl (wkV 5 c2 s2 m2 i2 b2'):=hf2.sl
  unfold wM at ht2
  obtain ⟨gt,cur,k2,rfl,rfl,htk9⟩:∃ gt cur k2,t2=.slice (some ⟨gt,0,none⟩) 1 k2∧gT=[(gt,.cells cur 29 (0,0))]∧cur.toList.take (([7]:List Nat).length * 4)=wcs [7]:=by
   obtain ⟨q2,k2,rfl⟩:=id ht2.form
   obtain ⟨gt,cur,rfl,rfl,_,_,_,hr⟩:=ht2.pos (by show 0 < 1;omega)
   exact ⟨gt,cur,k2,rfl,rfl,hr⟩
  have hrd7:Rd prog 29 (.cells cur 29 (0,0)) (0+0 * 4) (wv 7):=word_rd (l:=[7]) (by rw [yW];exact htk9) 0 (by show 0 < 1;omega)
  have hsw:∃ p n c,Value.slice (some ⟨gt,0,none⟩) 1 k2=.slice p n c:=⟨_,_,_,rfl⟩
  have hsd:∃ p n c,Value.slice none 0 0=.slice p n c:=⟨_,_,_,rfl⟩
  refine qV (yX (l₁:=[_]++gF)).symm ?_
  (refine goZ ?_;intro _;refine lvz (.buildW1L rfl (by decide) rfl) ?_;refine goZ ?_;intro _)
  rename_i b5 b38
  refine LW.callR rfl rfl vF agZ (fun w' hst=>Tell_calls (wkV 5 c2 s2 m2 i2 b2') (wkL4 5) 210 [9] _ (by decide) w' (row_cells (hst.own (b38,_) (jW _)).2 rfl rfl (by decide)) (hf2.rows fun q hq=>(hst.own q (by simp [hq])).2)) ?_
  rw [if_pos (wk_ok5 ..),show tellR (wkV 5 c2 s2 m2 i2 b2') (wkL4 5) 210 [9]=some (78,⟨wkCode,[3,9],[],[],[]⟩) from rfl]
  rintro v gs5 ⟨c5,s5,m5,i5,b5',rfl,hf5⟩
  have hsl5:FrSl ((wkV 5 c2 s2 m2 i2 b2').rowsG 78 c5 s5 m5 i5 b5'):=hf5.sl
  obtain ⟨h1,h2,h3,h4,h5,hperm,r1,r2,r3,r4,r5⟩:=hf5
  refine qV (fs':=(h1++(h2++(h3++(h4++h5))))++_) (hperm.append_right _) ?_
  unfold wM at r2
  dsimp only [FrV.rowsG] at r2
  obtain ⟨gm,cur5,k5,rfl,rfl,htk5⟩:∃ gm cur5 k5,s5=.slice (some ⟨gm,0,none⟩) 2 k5∧h2=[(gm,.cells cur5 29 (0,0))]∧cur5.toList.take (([3,9]:List Nat).length * 4)=wcs [3,9]:=by
   obtain ⟨q5,k5,rfl⟩:=id r2.form
   obtain ⟨gm,cur5,rfl,rfl,_,_,_,hr⟩:=r2.pos (by show 0 < 2;omega)
   exact ⟨gm,cur5,k5,rfl,rfl,hr⟩
  have hrd3:Rd prog 29 (.cells cur5 29 (0,0)) (0+0 * 4) (wv 3):=word_rd (l:=[3,9]) (by rw [yW];exact htk5) 0 (by show 0 < 2;omega)
  simp only [jR,yA,jQ]
  (refine vMz ?_;refine vEz ?_;refine vEz ?_;apply zU;rfl;intro _;apply zR;rfl;rfl;apply qA;apply fr_wrW;rfl;assumption;refine vAz<|nSz<|vMz ?_;refine lvz (.eqT rfl rfl (by omega)) ?_;refine vMz<|gTz<|vMz<|pTz<|vMz<|gTz<|vFz<|gTz<|ldz rfl (.tail (.app (.tail (.app (.app (.app (.tail .head))))))) (Rd.one' rfl)<|gTz ?_;refine lvz (.eqT rfl rfl (by omega)) ?_;refine pTz<|vMz<|gTz<|vFz<|gTz<|ldz rfl (.tail (.app (.tail (.app (.app (.app (.tail .head))))))) (Rd.one' rfl)<|gTz ?_;refine lvz (.eqT rfl rfl (by omega)) ?_;refine pTz<|vMz<|gTz<|vFz<|gTz<|ldz rfl (.tail (.app (.tail (.app (.app (.app (.tail .head))))))) (Rd.one' rfl)<|gTz<|lvz (.lenR rfl vF rfl)<|gTz ?_;refine lvz (.eqT rfl rfl (by omega)) ?_;refine pTz<|vMz<|gTz<|vFz<|gTz<|ldz rfl (.tail (.app (.tail (.app (.app (.app (.tail .head))))))) (Rd.one' rfl)<|gTz ?_;refine lvz (.indexAddrSL rfl rfl (by decide) (by omega)) ?_;refine gTz ?_;refine ldz rfl (.tail (.app (.tail (.app (.app (.app (.tail (.tail (.tail .head))))))))) (by assumption) ?_;refine gTz ?_;refine lvz (.buildW1L rfl (by decide) rfl) ?_;refine gTz ?_;refine lvz (.eqWT rfl rfl (by with_reducible rfl)) ?_;refine pTz<|vMz<|gTz<|vFz<|gTz<|vFz<|gTz<|ldz rfl .head fr_rd2s<|gTz<|lvz (.lenR rfl vF rfl)<|gTz ?_;refine lvz (.eqT rfl rfl (by omega)) ?_;refine pTz<|vMz<|gTz<|vFz<|gTz<|vFz<|gTz<|ldz rfl .head fr_rd2s<|gTz ?_;refine lvz (.indexAddrSL rfl rfl (by decide) (by omega)) ?_;refine gTz ?_;refine ldz rfl (.tail (.app .head)) (by assumption) ?_;refine gTz ?_;refine lvz (.buildW1L rfl (by decide) rfl) ?_;refine gTz ?_;refine lvz (.eqWT rfl rfl (by with_reducible rfl)) ?_;refine pTz<|vMz<|gTz<|vFz<|gTz<|ldz rfl .head fr_rd4<|gTz ?_;refine lvz (.eqT rfl rfl (by omega)) ?_;refine pTz<|vAz<|nNz<|zK ?_)
  (refine fiz ?_)
  rfl
theorem row_few1 {w:World} {l:List UInt8} {n k c:Nat} {p:Option Addr} (h:RowAt w 1 (.slice p l.length c) l.length (ucs l)) (hn:n=min l.length k):RowAt w 1 (.slice p n c) (l.take k).length (ucs (l.take k)):=by
 have h1:=h.take (k:=n) (by omega)
 rw [ucs_take] at h1
 have h2:l.take n=l.take k:=by rw [hn,Nat.min_comm,← List.take_take,List.take_length]
 have h3:(l.take k).length=n:=by rw [yH];omega
 rw [h2] at h1
 rw [h3]
 exact h1
theorem few1_calls (l:List UInt8) (v:Value) (k:Nat) (hk:k≤100000) (w:World) (h:RowAt w 1 v l.length (ucs l)):Calls prog 39 #[v,.int .i64 (k:Int)] w (RetG w [] (bM (l.take k))):=by
 obtain ⟨p,c,rfl,hle,hm⟩:=id h.form
 simp only [maxLen] at hm
 have hf:=row_few1 h (k:=k) rfl
 have hl:(l.take k).length≤100000:=by rw [yH];omega
 refine enter (args:=[_,_]) _ [] [] func39 rfl ntmps39 rfl (by simp) .nil ?_
 (refine goZ ?_;refine lvz (.minZ rfl rfl) ?_;refine lvz (.cutTo vF vF rfl rfl (by omega)) ?_)
 (refine crz (c:=fun w hs=>by exact SK.Clone_calls _ _ w (hf.st hs) hl) (k:=?_))
 intro v1 g1 h1
 have h1':=h1
 unfold bM at h1'
 obtain ⟨q,kk,rfl⟩:=h1'.form
 (refine goZ ?_)
 exact fin (vs:=[.slice q (l.take k).length kk]) g1 (.inl rfl) rfl rfl rsZ (jJ _ _) h1
def fewQ (L:FrL):FrL:=⟨L.cl.take 300,L.ws.take 65,L.ms.take 1025,L.il.take 1025,L.bl.take 1025⟩
def FewR (f:FrV) (L:FrL) (v:Value) (gs:Fs):Prop:=∃ c s m i b,v=frv (f.rows c s m i b)∧FrO (f.rows c s m i b) (fewQ L) gs
theorem row_fewW1 {w:World} {l:List Nat} {n k c:Nat} {p:Option Addr} (h:RowAt w 4 (.slice p l.length c) l.length (wcs l)) (hn:n=min l.length k):RowAt w 4 (.slice p n c) (l.take k).length (wcs (l.take k)):=by
 subst hn
 have h2:=h.take (k:=min l.length k) (by omega)
 rw [wcs_take] at h2
 rw [show l.take k=l.take (min l.length k) by rw [Nat.min_comm,← List.take_take,List.take_length]]
 rw [show (l.take (min l.length k)).length=min l.length k by rw [yH];omega]
 exact h2
theorem few14_calls (f:FrV) (L:FrL) (w:World) (h:FrRows w f L):Calls prog 9 #[frv f] w (RetG w [] (FewR f L)):=by
 obtain ⟨code,pc,stk,mem,gas,self,frm,val,inp,back,stat⟩:=f
 obtain ⟨h0,h2,h3,h11,h12⟩:=h
 dsimp only at h0 h2 h3 h11 h12
 obtain ⟨p0,c0,rfl,hle0,hm0⟩:=id h0.form
 obtain ⟨p2,c2,rfl,hle2,hm2⟩:=id h2.form
 obtain ⟨p3,c3,rfl,hle3,hm3⟩:=id h3.form
 obtain ⟨p11,c11,rfl,hle11,hm11⟩:=id h11.form
 obtain ⟨p12,c12,rfl,hle12,hm12⟩:=id h12.form
 simp only [maxLen] at hm0 hm2 hm3 hm11 hm12
 have hf2:=row_fewW1 h2 (k:=65) rfl
 have hl2:(L.ws.take 65).length≤100000:=by rw [yH];omega
 refine enter (args:=[_]) _ [] [] func9 rfl ntmps9 rfl (by simp) .nil ?_
 (refine goZ ?_;intro _ _)
 apply CW.pre
 (refine qY [(2,bM (L.cl.take 300)),(5,bM (L.il.take 1025)),(8,bM (L.bl.take 1025))] 10 mixed (by decide +kernel) ?_)
 (refine tsZ ?_)
 (apply DW.manyV;rfl;rfl;rfl;exact zC;rfl;exact vF;exact .cons rfl (.cons rfl .nil);apply RdV.ext;assumption;rfl;apply RdV.plain;rfl;exact RdV.nil;intro w _ _)
 exact few1_calls _ _ 300 (by omega) w (h0.bel (by assumption))
 intro v1 g1 h1
 (refine tsZ ?_)
 (apply DW.manyV;rfl;rfl;rfl;exact zC;rfl;exact vF;exact .cons rfl (.cons rfl .nil);apply RdV.ext;assumption;rfl;apply RdV.plain;rfl;exact RdV.nil;intro w _ _)
 exact few1_calls _ _ 1025 (by omega) w (h11.bel (by assumption))
 intro v4 g4 h4
 (refine tsZ ?_)
 (apply DW.manyV;rfl;rfl;rfl;exact zC;rfl;exact vF;exact .cons rfl (.cons rfl .nil);apply RdV.ext;assumption;rfl;apply RdV.plain;rfl;exact RdV.nil;intro w _ _)
 exact few1_calls _ _ 1025 (by omega) w (h12.bel (by assumption))
 intro v5 g5 h5
 have h1':=h1
 have h4':=h4
 have h5':=h5
 unfold bM at h1' h4' h5'
 obtain ⟨q1,k1,rfl⟩:=h1'.form
 obtain ⟨q4,k4,rfl⟩:=h4'.form
 obtain ⟨q5,k5,rfl⟩:=h5'.form
 (refine tsZ ?_)
 (refine zR rfl rfl (.app (.app (.app (.tail .head)))) fr_wr0<|vFz ?_;refine zR rfl rfl (.app (.app (.app (.tail .head)))) fr_wr11<|vFz ?_;refine zR rfl rfl (.app (.app (.app (.tail .head)))) fr_wr12<|nSz<|vFz<|vFz<|ldz rfl (.app (.app (.app (.tail .head)))) fr_rd2s<|vFz<|vFz<|ldz rfl (.app (.app (.app (.tail .head)))) fr_rd2s<|lvz (.lenR rfl vF rfl) ?_;refine lvz (.minZL rfl rfl (by decide)) ?_;refine lvz (.cutTo vF vF rfl rfl (by omega)) ?_)
 (refine crz (c:=fun w hs=>by exact CloneW_calls _ _ w (hf2.st hs) hl2) (k:=?_))
 intro v2 g2 hh2
 have h2':=hh2
 unfold wM at h2'
 obtain ⟨q2,k2,rfl⟩:=h2'.form
 (refine goZ ?_;refine zR rfl rfl (.app (.app (.app (.app (.tail .head))))) fr_wr2 ?_;refine goZ ?_)
 (refine crz (c:=fun w hs=>by exact few1_calls _ _ 1025 (by omega) w (h3.st hs)) (k:=?_))
 intro v3 g3 hh3
 have h3':=hh3
 unfold bM at h3'
 obtain ⟨q3,k3,rfl⟩:=h3'.form
 have hsl:FrSl ⟨.slice q1 (L.cl.take 300).length k1,pc,.slice q2 (L.ws.take 65).length k2,.slice q3 (L.ms.take 1025).length k3,gas,self,frm,val,.slice q4 (L.il.take 1025).length k4,.slice q5 (L.bl.take 1025).length k5,stat⟩:=⟨⟨_,_,_,rfl⟩,⟨_,_,_,rfl⟩,⟨_,_,_,rfl⟩,⟨_,_,_,rfl⟩,⟨_,_,_,rfl⟩⟩
 (refine goZ ?_;refine zR rfl rfl (.app (.app (.app (.app (.app (.tail .head)))))) fr_wr3 ?_;refine goZ ?_)
 refine fin (vs:=[frv ⟨.slice q1 (L.cl.take 300).length k1,pc,.slice q2 (L.ws.take 65).length k2,.slice q3 (L.ms.take 1025).length k3,gas,self,frm,val,.slice q4 (L.il.take 1025).length k4,.slice q5 (L.bl.take 1025).length k5,stat⟩]) (g3++(g2++(g5++(g4++g1)))) (.inl rfl) rfl rfl (by (apply zD;apply zH;rfl;apply qH;apply zZ;apply zZ;apply zZ;apply zZ;apply zZ;apply zY;exact fr_rdW;exact zF)) ?_ ⟨_,_,_,_,_,rfl,g1,g2,g3,g4,g5,?_,h1,hh2,hh3,h4,h5⟩
 ·exact jL (jL (jL (jL (jJ _ _) _) _) _) _
 ·exact perm5 g1 g2 g3 g4 g5
theorem FewR.like {x:FrV} {X:FrL} {v:Value} {gs:Fs} (h:FewR x X v gs):∃ y,v=frv y∧FrO y (fewQ X) gs∧LikeF x y:=by
 obtain ⟨c,s,m,i,b,rfl,h⟩:=h
 exact ⟨_,rfl,h,c,s,m,i,b,rfl⟩
theorem FrNum.few {x:FrV} {X:FrL} (h:FrNum x X):FrNum x (fewQ X):=⟨h.gas,h.self,h.frm,h.val,fun y hy=>h.ws y (List.mem_of_mem_take hy)⟩
end Go.Proofs.YtdeggbkbblfpoaaGreatDoor
namespace Go.Proofs.YtdeggbkbblfpoaaGreatDoor
open Go Go.RowKit SL
open Go.ChangeShapes Go.WideShapes
set_option linter.unusedVariables false
section op
variable {w : World}
theorem pair_is {f r:Ty} {cs:List Value} (h:(Ty.pair f r).is w cs):∃ a b,cs=a++b∧f.is w a∧r.is w b:=⟨_,_,(List.take_append_drop _ cs).symm,h.1,h.2⟩
theorem is_u64 {cs:List Value} (h:(Ty.int .u64).is w cs):∃ n:Nat,n < 18446744073709551616∧cs=[.int .u64 (n:Int)]:=by
 obtain ⟨n,rfl,hn⟩:=h
 obtain ⟨k,rfl,hk⟩:=wf_u64 hn
 exact ⟨k,hk,rfl⟩
def tyBs:Ty:=.sl (.int .u8)
end op
section op
variable {H : Type} {enc : TypeId × Value → H} {P : Program} {w W : World} {held : Bool} {r : Reach} {base : Nat} {T E : TypeId} {v : Value} {d : DataW H} {ps : List MemPlace}
def aggB (P:Program) (T:TypeId):Bool:=match P.underlying T with|some (.struct _)|some (.array _ _)=>true|_=>false
theorem open_agg {α:Type} {g:α→List Value} {Q:α→Prop} {e:Ty} (hs:aggB P T=true) (hT:e.ok P (.inl T)=true) (he:∀ cs',e.is w cs'→∃ x,Q x∧cs'=g x)
  (hv:Value.okWide P W r base T v) (h:DataW.Trod enc P w 0 (fun _=>true) held T v d ps):∃ x:α,Q x∧v=.agg (g x).toArray:=by
 obtain ⟨cs,rfl⟩:∃ cs,v=.agg cs:=by
  unfold aggB at hs
  unfold Value.okWide at hv
  split at hs
  ·rename_i fs hu
   simp only [hu] at hv
   obtain ⟨cs,h1,_⟩:=hv
   exact ⟨cs,h1⟩
  ·rename_i n e hu
   simp only [hu] at hv
   obtain ⟨cs,h1,_⟩:=hv
   exact ⟨cs,h1⟩
  ·cases hs
 obtain ⟨x,hx,he2⟩:=he _ (open_one hT h)
 exact ⟨x,hx,congrArg Value.agg (Array.toList_inj.1 he2)⟩
theorem is_wrow {cs:List Value} (h:(Ty.sl .word).is w cs):∃ x:Value × List Nat,(RowAt w 4 x.1 x.2.length (wcs x.2)∧∀ u∈x.2,u < M256)∧cs=[x.1]:=by
 obtain ⟨v,l,h1,h2,h3⟩:=sl_rows (g:=fun u:Nat=>(wc u).toList) (Q:=fun u=>u < M256) (sz:=4) rfl (by decide) (fun _ h=>is_word h) h
 exact ⟨(v,l),⟨h3,fun u hu=>(h2 u hu).1⟩,h1⟩
theorem is_i64 {cs:List Value} (h:(Ty.int .i64).is w cs):∃ n:Int,cs=[.int .i64 n]:=by
 obtain ⟨n,rfl,_⟩:=h
 exact ⟨n,rfl⟩
def tySc:Ty:=.pair (.sl .word) (.pair tyBs .unit)
def tyFr:Ty:=.pair tyBs (.pair (.int .i64) (.pair tySc (.pair (.int .u64) (.pair (.int .u64) (.pair (.int .u64) (.pair .word (.pair tyBs (.pair tyBs (.pair .bool .unit)))))))))
theorem is_fr {cs:List Value} (h:tyFr.is w cs):∃ p:FrV × FrL,(FrRows w p.1 p.2∧FrNum p.1 p.2)∧cs=frc p.1:=by
 obtain ⟨_,_,rfl,h0,h⟩:=pair_is h
 obtain ⟨_,_,rfl,h1,h⟩:=pair_is h
 obtain ⟨_,_,rfl,h2,h⟩:=pair_is h
 obtain ⟨_,_,rfl,h3,h⟩:=pair_is h
 obtain ⟨_,_,rfl,h4,h⟩:=pair_is h
 obtain ⟨_,_,rfl,h5,h⟩:=pair_is h
 obtain ⟨_,_,rfl,h6,h⟩:=pair_is h
 obtain ⟨_,_,rfl,h7,h⟩:=pair_is h
 obtain ⟨_,_,rfl,h8,h⟩:=pair_is h
 obtain ⟨_,_,rfl,h9,h⟩:=pair_is h
 obtain rfl:_=[]:=h
 obtain ⟨_,_,rfl,ha,h2⟩:=pair_is h2
 obtain ⟨_,_,rfl,hb,h2⟩:=pair_is h2
 obtain rfl:_=[]:=h2
 obtain ⟨⟨v0,l0⟩,b0,rfl⟩:=is_bytes h0
 obtain ⟨n1,rfl⟩:=is_i64 h1
 obtain ⟨⟨va,la⟩,⟨ba,ca⟩,rfl⟩:=is_wrow ha
 obtain ⟨⟨vb,lb⟩,bb,rfl⟩:=is_bytes hb
 obtain ⟨n3,b3,rfl⟩:=is_u64 h3
 obtain ⟨n4,b4,rfl⟩:=is_u64 h4
 obtain ⟨n5,b5,rfl⟩:=is_u64 h5
 obtain ⟨n6,b6,rfl⟩:=is_word h6
 obtain ⟨⟨v7,l7⟩,b7,rfl⟩:=is_bytes h7
 obtain ⟨⟨v8,l8⟩,b8,rfl⟩:=is_bytes h8
 obtain ⟨f9,rfl⟩:=h9
 exact ⟨(⟨v0,n1,va,vb,n3,n4,n5,n6,v7,v8,f9⟩,⟨l0,la,lb,l7,l8⟩),⟨⟨b0,ba,bb,b7,b8⟩,⟨b3,b4,b5,b6,ca⟩⟩,rfl⟩
def tyEn:Ty:=.pair (.int .u64) (.pair (.int .u64) (.pair (.int .u64) (.pair (.int .u64) .unit)))
theorem is_en {cs:List Value} (h:tyEn.is w cs):∃ x:Nat × Nat × Nat × Nat,(x.1 < 18446744073709551616∧x.2.1 < 18446744073709551616∧x.2.2.1 < 18446744073709551616∧x.2.2.2 < 18446744073709551616)∧cs=(enva x.1 x.2.1 x.2.2.1 x.2.2.2).toList:=by
 obtain ⟨_,_,rfl,h0,h⟩:=pair_is h
 obtain ⟨_,_,rfl,h1,h⟩:=pair_is h
 obtain ⟨_,_,rfl,h2,h⟩:=pair_is h
 obtain ⟨_,_,rfl,h3,h⟩:=pair_is h
 obtain rfl:_=[]:=h
 obtain ⟨n0,b0,rfl⟩:=is_u64 h0
 obtain ⟨n1,b1,rfl⟩:=is_u64 h1
 obtain ⟨n2,b2,rfl⟩:=is_u64 h2
 obtain ⟨n3,b3,rfl⟩:=is_u64 h3
 exact ⟨(n0,n1,n2,n3),⟨b0,b1,b2,b3⟩,rfl⟩
end op
end Go.Proofs.YtdeggbkbblfpoaaGreatDoor
namespace Go.Proofs.YtdeggbkbblfpoaaGreatDoor
open Go Go.RowKit SL
set_option maxRecDepth 8000
set_option maxHeartbeats 4000000
set_option linter.unusedSimpArgs false
set_option linter.unusedVariables false
attribute [local irreducible] SL.CW SL.LW SL.DW Calls SL.Ret SL.RetG SL.beginQ SL.roundQ SL.rangeQ SL.inQ SL.RW SL.AnyW SL.thenQ SL.thenC SL.thenW SL.blkQ SL.finQ SL.ValP SL.NewP SL.SetP SL.CallP SL.Rd SL.Wr SL.Known
theorem permF {α:Type} (g1 gs2 seg g4:List α):(g1++(gs2++(seg++(g4++[])))).Perm (gs2++(seg++(g1++(g4++[])))):=by
 have h:=perm_ix [g1,gs2,seg,g4] (xs:=[0,1,2,3]) (ys:=[1,2,0,3]) [] rfl
 simpa [catI] using h
section
structure AkV where
 kind:Int
 op:Nat
 ws:Value
 dt:Value
 cold:Bool
 vl:Bool
 new:Bool
section rd
variable {P : Program} {T E : TypeId} {fr : Nat × Nat} {A : AkV} {f : FrV} {c : ClV} {code stk mem inp back : Value} {pc : Int} {gas self frm val : Nat} {stat : Bool} {op dst cself cfrm cval cgas pl n : Nat} {cinp ccode : Value} {mv cstat : Bool}
end rd
section wr
variable {P : Program} {T E : TypeId} {A : AkV} {f : FrV} {c : ClV} {z code stk mem inp back : Value} {pc : Int} {gas self frm val x q k : Nat} {stat y : Bool} {p : Option Addr} {op dst cself cfrm cval cgas pl n : Nat} {cinp ccode : Value} {mv cstat : Bool}
end wr
attribute [local irreducible] SL.inP
end
section
theorem grow_in (ws:List Nat) (ms:List UInt8) (p0 n:Nat) (s m:Value) (w:World) (hs:RowAt w 4 s ws.length (wcs ws)) (hm:RowAt w 1 m ms.length (ucs ms)) (hok:okSc ws.length ms.length) (hn:0 < n) (hn2:p0+n≤ms.length) :
  Calls prog 122 #[.agg #[s,m],.int .u64 (p0:Int),.int .u64 (n:Int)] w (RetG w [] (fun r gs=>∃ o,r=.tuple #[o,.int .i64 0]∧ScO ws ms o gs)):=by
 have hs0:=hs
 have hm0:=hm
 obtain ⟨p,c,rfl,_,hc⟩:=hs.form
 obtain ⟨p2,c2,rfl,_,hc2⟩:=hm.form
 have hC:∀ w,Calls prog 84 #[.agg #[.slice p ws.length c,.slice p2 ms.length c2]] w (Ret w (.int .i64 0)):=fun w=>by
  exact dTBxIv
 have hok2:=hok
 unfold okSc at hok2
 obtain ⟨hn1,hk1,hk2⟩:=hok2
 refine dQBYDz ?_
 (refine goZ ?_;intro _ _;refine cEv hC ?_)
 refine dQBlKy ?_
 rintro vo gso ⟨s1,m1,g1,g2,rfl,rfl,h1,h2⟩
 have h1':=h1
 have h2':=h2
 unfold wM at h1'
 unfold bM at h2'
 obtain ⟨q1,k1,rfl⟩:=h1'.form
 obtain ⟨q2,k2,rfl⟩:=h2'.form
 (refine goZ ?_;intro _;refine lvz (.addN rfl rfl) ?_;refine goZ ?_;refine lvz (.addN rfl rfl) ?_;refine goZ ?_;refine lvz (.subI rfl rfl (by omega) (by omega)) ?_;apply qN;rfl;rfl;apply ValP.maxD;rfl;rfl;refine goZ ?_)
 rename_i b3 b6 b9
 have hD:((p0+n) % 18446744073709551616+32 - 1) / 32 * 32 - ms.length=0:=by omega
 rw [hD]
 refine qM (fun x:Unit=>([(9,.pointer (some ⟨b9,0,none⟩)),(6,.pointer (some ⟨b6,0,none⟩)),(48,.int .i64 ((0:Nat):Int)),(49,.int .i64 ((0:Nat):Int))],(b9,.cells #[.slice q1 ws.length k1,.slice q2 ms.length k2] 25 (0,0))::(g2++(g1++[(b6,.cells #[.slice none 0 0,.slice none 0 0] 25 (0,0))]))))
  (fun x=>True) (fun x=>0) () trivial ⟨rfl,rfl,rfl,rfl,trivial⟩ (by simp) ?_
 intro _ _
 dsimp only
 (refine goZ ?_)
 refine fin (vs:=[.agg #[.slice q1 ws.length k1,.slice q2 ms.length k2],.int .i64 0]) (g2++g1) (.inl rfl) rfl rfl rsZ ?_ ⟨_,rfl,_,_,g1,g2,rfl,rfl,h1,h2⟩
 exact jK _ (jL (jJ _ _) _)
def CutR (ws:List Nat) (ms:List UInt8) (p0 n:Nat) (r:Value) (gs:Fs):Prop:=∃ o v go gv,r=.tuple #[o,v,.int .i64 0]∧gs=gv++go∧ScO ws ms o go∧bM ((ms.drop p0).take n) v gv
theorem RowAt.mid {w:World} {g o N c k n:Nat} {xs:List Value} (h:RowAt w 1 (.slice (some ⟨g,o,none⟩) N c) N xs) (hn:0 < n) (hk:k+n≤N):RowAt w 1 (.slice (some ⟨g,o+k,none⟩) n n) n ((xs.drop (k * 1)).take (n * 1)):=by
 obtain ⟨_,_,he,hle,_⟩:=h.form
 cases he
 have h1:=h.drop (k:=k) (by omega)
 have e1:cutAt (some ⟨g,o,none⟩) k N c 1=.slice (some ⟨g,o+k,none⟩) (N - k) (c - k):=by
  unfold cutAt
  rw [if_neg (by omega)]
  simp [Addr.add]
 rw [e1] at h1
 exact RowAt.cutMax h1 (by omega)
theorem cut_in (ws:List Nat) (ms:List UInt8) (p0 n:Nat) (s m:Value) (w:World) (hs:RowAt w 4 s ws.length (wcs ws)) (hm:RowAt w 1 m ms.length (ucs ms)) (hok:okSc ws.length ms.length) (hn:0 < n) (hn2:p0+n≤ms.length) :
  Calls prog 222 #[.agg #[s,m],.int .u64 (p0:Int),.int .u64 (n:Int)] w (RetG w [] (CutR ws ms p0 n)):=by
 have hs0:=hs
 have hm0:=hm
 have hk1:=hok.2.1
 obtain ⟨p,c,rfl,_,hc⟩:=id hs.form
 obtain ⟨p2,c2,rfl,_,hc2⟩:=id hm.form
 refine enter (args:=[_,_,_]) _ [] [] func222 rfl ntmps222 rfl (by simp) .nil ?_
 (refine goZ ?_;intro _ _)
 (refine crz (c:=fun w hs=>by exact grow_in ws ms p0 n _ _ w (hs0.st hs) (hm0.st hs) hok hn hn2) (k:=?_))
 rintro vo gso ⟨o,rfl,s1,m1,g1,g2,rfl,rfl,h1,h2⟩
 have h1':=h1
 have h2':=h2
 unfold wM at h1'
 unfold bM at h2'
 obtain ⟨q1,k1,rfl⟩:=id h1'.form
 obtain ⟨q2,k2,rfl⟩:=id h2'.form
 have hle2:=IsRow.le h2'
 have hmod:(p0+n) % 18446744073709551616=p0+n:=jY (by omega)
 obtain ⟨gm,cur,rfl,rfl,hn3,hm3,hsz3,htk3⟩:=id (h2'.pos (by omega))
 (refine goZ ?_;intro _)
 apply CW.pre
 (refine qY [(11,bM ((ms.drop p0).take n))] 12 mixed (by decide +kernel) ?_)
 (refine tsZ ?_;refine dvz (.addN rfl rfl) ?_;refine goZ ?_;refine dvz (.addN rfl rfl) ?_;apply DW.v0;rfl;rfl;rfl;exact zC;rfl;refine SK.ValP.cut3o (m:=n) (o':=0+p0) vF vF rfl rfl rfl rfl ?_ ?_ ?_ ?_ ?_;omega;omega;omega;omega;rfl)
 (apply DW.manyV;rfl;rfl;rfl;exact zC;rfl;exact vF;exact .cons rfl .nil;apply RdV.own;assumption;apply zO;apply zP;exact zN;exact RdV.nil;intro w _ _)
 ·have hr:=RowAt.mid (k:=p0) (n:=n) (IsRow.us h2' (fun p hp=>by obtain rfl:=List.mem_singleton.1 hp;rename_i hu;exact hu _ jV) (jG _)) hn (by omega)
  rw [ucs_drop,ucs_take] at hr
  have hlen:((ms.drop p0).take n).length=n:=by rw [yH,yL];omega
  have h9:=SK.Clone_calls ((ms.drop p0).take n) _ w (by rw [hlen];exact hr) (by omega)
  exact h9
 intro v3 g3 h3
 have h3':=h3
 unfold bM at h3'
 obtain ⟨q3,k3,rfl⟩:=id h3'.form
 (refine tsZ ?_)
 simp only [fsOf_cons,fsOf_nil,fsOf_app,fsOf_tsOf,List.append_eq,jQ]
 (refine goZ ?_)
 refine fin (vs:=[.agg #[.slice q1 ws.length k1,.slice (some ⟨gm,0,none⟩) ms.length k2],.slice q3 ((ms.drop p0).take n).length k3,.int .i64 0]) (g3++((gm,.cells cur 5 (0,0))::g1)) (.inl rfl) rfl rfl rsZ ?_ ⟨_,_,_,g3,rfl,rfl,⟨_,_,g1,[(gm,.cells cur 5 (0,0))],rfl,rfl,h1,h2⟩,h3⟩
 exact jL (jK _ (jP _ (jJ _ _))) _
attribute [local irreducible] SL.inP
end
theorem dQBahU {P Q:Prop} (k:Q) (h:BoxZ Q→P:=by
 intro kQ
 (refine crz (c:=fun w hs=>by exact rScCopy_calls ws ms _ _ w (hrs.st hs) (hrm.st hs) hl hl2) (k:=?_))
 exact kQ.k):P:=h ⟨k⟩
theorem dTBvfa {P:Prop} (h:P:=by
 (refine goZ ?_;refine lvz (.addN rfl rfl) ?_;refine goZ ?_;intro _)
 (apply qZ;rfl;rfl;exact vF;exact vF;exact vF;rfl;rfl;rfl;(case hrow=>assumption);apply qK;apply qK;exact qJ;apply qH;apply zY;rfl;rfl;rfl;omega;simp only [maxLen];omega;omega;intro v' seg' hrow';obtain ⟨p',c',rfl⟩:=hrow'.form;(refine ⟨_,(by (repeat (first|exact qJ|apply qK|apply qL))),?_⟩);(try simp only [yA,jQ]))
 (refine goZ ?_)
 apply thenX
 refine ⟨rfl,(k+1,p',c',seg'),⟨hlt,?_⟩,by show D - (k+1) < D - k;omega,⟨rfl,rfl,rfl,rfl,trivial⟩,jK _ (jG _)⟩
 dsimp only
 rw [e]
 exact hrow'):P:=h
def RGrowR (ws:List Nat) (ms:List UInt8) (n:Nat) (v:Value) (gs:Fs):Prop:=∃ s m g1 g2,v=.tuple #[.agg #[s,m],.int .i64 0]∧gs=g2++g1∧wM ws s g1∧bM (ms++List.replicate (upW n - ms.length) 0) m g2
theorem rGrow_calls (ws:List Nat) (ms:List UInt8) (s m:Value) (z n:Nat) (hz:z=0) (h0:0 < n) (hn:n≤1024) (h32:ms.length % 32=0) (w:World) (hrs:RowAt w 4 s ws.length (wcs ws)) (hrm:RowAt w 1 m ms.length (ucs ms)) (hl:ws.length≤100000) (hl2:ms.length≤100000) :
  Calls prog 79 #[.agg #[s,m],.int .u64 (z:Int),.int .u64 (n:Int)] w (RetG w [] (RGrowR ws ms n)):=by
 obtain ⟨p,c,rfl,_,_⟩:=id hrs.form
 obtain ⟨p2,c2,rfl,_,_⟩:=id hrm.form
 refine enter (args:=[_,_,_]) _ [] [] func79 rfl ntmps79 rfl (by simp) .nil ?_
 (refine goZ ?_;intro _ _)
 refine dQBahU ?_
 rintro vo gso ⟨s1,m1,g1,g2,rfl,rfl,h1,h2,h00⟩
 have h1':=h1
 have h2':=h2
 unfold wM at h1'
 unfold bM at h2'
 obtain ⟨q1,k1,rfl⟩:=h1'.form
 obtain ⟨q2,k2,rfl⟩:=h2'.form
 rw [jR]
 (refine goZ ?_;intro _;refine lvz (.subNK rfl rfl (by decide) (by omega) (by omega)) ?_;refine goZ ?_)
 rename_i b3 b6 b8
 obtain ⟨D,hD⟩:∃ D,D=upW n - ms.length:=⟨_,rfl⟩
 have hDn:(ms.length+D) % 32=0∧n≤ms.length+D∧∀ k,k < D→ms.length+k < n∨(ms.length+k) % 32 ≠ 0:=by unfold upW at hD;exact ⟨by omega,by omega,fun k hk=>by omega⟩
 obtain ⟨hD1,hD2,hD3⟩:=hDn
 have hD4:D≤1024:=by unfold upW at hD;omega
 refine qM (fun x:Nat × Option Addr × Nat × Fs=>([(8,.pointer (some ⟨b8,0,none⟩)),(6,.pointer (some ⟨b6,0,none⟩)),(1,.int .u64 (z:Int)),(2,.int .u64 (n:Int))],(b8,.cells #[.slice q1 ws.length k1,.slice x.2.1 (ms.length+x.1) x.2.2.1] 25 (0,0))::(x.2.2.2++(g1++[(b6,.cells #[.slice none 0 0,.slice none 0 0] 25 (0,0))]))))
  (fun x=>x.1≤D∧IsRow 5 1 (.slice x.2.1 (ms.length+x.1) x.2.2.1) (ms.length+x.1) (ucs (ms++List.replicate x.1 0)) x.2.2.2) (fun x=>D - x.1) (0,q2,k2,g2) ⟨Nat.zero_le _,by simpa using h2'⟩ ⟨rfl,rfl,rfl,rfl,trivial⟩ (by simp) ?_
 rintro ⟨k,q,kc,seg⟩ ⟨hk,hrow⟩
 dsimp only at hk hrow ⊢
 rcases jM k D with hlt|hge
 ·have e:ucs (ms++List.replicate (k+1) 0)=ucs (ms++List.replicate k 0)++[.int .u8 0]:=by
   rw [List.replicate_succ',← jR]
   simp [ucs]
  have hd:=hD3 k hlt
  by_cases h1n:ms.length+k < (z+n) % 18446744073709551616
  ·exact dTBvfa
  ·have h32k:(ms.length+k) % 32 ≠ 0:=by omega
   exact dTBvfa
 ·obtain rfl:k=D:=by omega
  (refine goZ ?_;refine lvz (.addN rfl rfl) ?_;refine goZ ?_)
  refine fin (vs:=[.agg #[.slice q1 ws.length k1,.slice q (ms.length+k) kc],.int .i64 0]) (seg++g1) (.inl rfl) rfl rfl rsZ ?_ ⟨_,_,g1,seg,rfl,rfl,h1,?_⟩
  ·exact jK _ (jL (jJ _ _) _)
  ·unfold bM
   rw [← hD,yC,List.length_replicate]
   exact hrow
theorem rReach_calls (f:FrV) (L:FrL) (a n:Nat) (ha:a < M256) (hn:n < M256) (hF:okF f L) (w:World) (h:FrRows w f L):Calls prog 31 #[frv f,wv a,wv n] w (RetG w [] (ToldR f (reachR f L a n))):=by
 have hE64:endV a n < 18446744073709551616:=by
  unfold endV
  simp only [NOG]
  split<;>omega
 have hg2:f.gas≤20000:=by obtain ⟨_,hg,_⟩:=hF;omega
 have hms:L.ms.length≤1024:=hF.2.2.2.1.2.1
 have hEnd:∀ w,Calls prog 78 #[wv a,wv n] w (Ret w (.int .u64 ((endV a n:Nat):Int))):=rEnd_calls a n ha hn
 have hMem:∀ w,Calls prog 32 #[.int .u64 (L.ms.length:Int),.int .u64 (endV a n:Int)] w (Ret w (.int .u64 ((costR L a n:Nat):Int))):=rMemory_calls L.ms.length (endV a n) (by omega) hE64
 have hrows:=h
 have hsh:=hF.short
 have hCopy:∀ w' {fs:Fs},St w [] fs w'→Calls prog 49 #[frv f] w' (RetG w' [] (rCopyR f L)):=fun w' fs hst=>rfCopy_calls f L hsh w' (hrows.st hst)
 have hE0:endV a n=0→n=0:=by
  unfold endV
  simp only [NOG]
  split<;>intro h<;>omega
 have hup:endV a n=0→memR L a n=L:=fun h=>by unfold memR upW FrL.setM;rw [h];simp
 have hmR:memR L a n=L.setM (L.ms++List.replicate (upW (endV a n) - L.ms.length) 0):=rfl
 have h1024:costR L a n≤f.gas→endV a n≤1024:=fun h=>memV_le hms hg2 h
 have h32:L.ms.length % 32=0:=hF.2.2.2.1.2.2
 obtain ⟨E,hE⟩:∃ E,E=endV a n:=⟨_,rfl⟩
 rw [← hE] at hEnd hMem hE64 hE0 hup hmR h1024
 obtain ⟨c,hc⟩:∃ c,c=costR L a n:=⟨_,rfl⟩
 rw [← hc] at hMem h1024
 unfold reachR
 rw [← hc]
 obtain ⟨code,pc,stk,mem,gas,self,frm,val,inp,back,stat⟩:=f
 obtain ⟨h0,h2,h3,h11,h12⟩:=h
 dsimp only at h0 h2 h3 h11 h12 hg2 hrows h1024 ⊢
 obtain ⟨p0,c0,rfl,_,hm0⟩:=id h0.form
 obtain ⟨p2,c2,rfl,_,hm2⟩:=id h2.form
 obtain ⟨p3,c3,rfl,_,hm3⟩:=id h3.form
 obtain ⟨p11,c11,rfl,_,hm11⟩:=id h11.form
 obtain ⟨p12,c12,rfl,_,hm12⟩:=id h12.form
 have hzs:=zero_sl
 by_cases hle:c≤gas
 ·rw [if_pos hle]
  refine enter (args:=[_,_,_]) _ [] [] func31 rfl ntmps31 rfl (by simp) .nil ?_
  (refine sRz ?_;apply zT;rfl;rfl;intro _;apply zT;rfl;rfl;intro _;apply zT;rfl;rfl;intro _;apply zU;rfl;intro _;refine vAz<|nSz<|ldz rfl (.tail (.tail .head)) (qI rfl)<|ldz rfl (.tail .head) (qI rfl) ?_;apply zS;rfl;rfl;exact vF;exact .cons rfl (.cons rfl .nil);intro w _;exact hEnd w;refine vAz<|nSz<|vFz<|vFz<|ldz rfl (.tail (.tail (.tail .head))) fr_rd3<|lvz (.lenR rfl vF rfl) ?_;refine lvz (.convN rfl (by omega) (by omega)) ?_;refine vMz ?_;apply zS;rfl;rfl;exact vF;exact .cons rfl (.cons rfl .nil);intro w _;exact hMem w;refine vAz<|nNz<|zI<|sRz<|vMz<|vFz<|ldz rfl (.tail (.tail (.tail .head))) fr_rd4 ?_;refine lvz (.gtrF rfl rfl (by omega)) ?_;refine nNz<|cFz<|zJ<|thenN<|sRz<|ldz rfl (.tail (.tail (.tail .head))) fr_rdW ?_)
  (apply LW.callR;rfl;rfl;exact vF;exact .cons rfl .nil;intro w hs)
  exact hCopy w hs
  rintro vo gso ⟨d1,d2,d3,d4,d5,rfl,⟨g1,g2,g3,g4,g5,hp,k1,k2,k3,k4,k5⟩,_⟩
  refine qV (hp.append_right _) ?_
  clear hp
  have hk:=And.intro k1 (And.intro k2 (And.intro k3 (And.intro k4 k5)))
  unfold bM at k1 k3 k4 k5
  unfold wM at k2
  obtain ⟨q1,j1,rfl⟩:=k1.form
  obtain ⟨q2,j2,rfl⟩:=k2.form
  obtain ⟨q3,j3,rfl⟩:=k3.form
  obtain ⟨q4,j4,rfl⟩:=k4.form
  obtain ⟨q5,j5,rfl⟩:=k5.form
  have hsl:FrSl (FrV.rows ⟨.slice p0 L.cl.length c0,pc,.slice p2 L.ws.length c2,.slice p3 L.ms.length c3,gas,self,frm,val,.slice p11 L.il.length c11,.slice p12 L.bl.length c12,stat⟩ (.slice q1 L.cl.length j1) (.slice q2 L.ws.length j2) (.slice q3 L.ms.length j3) (.slice q4 L.il.length j4) (.slice q5 L.bl.length j5)):=⟨⟨_,_,_,rfl⟩,⟨_,_,_,rfl⟩,⟨_,_,_,rfl⟩,⟨_,_,_,rfl⟩,⟨_,_,_,rfl⟩⟩
  unfold FrV.rows at hsl ⊢
  dsimp only at hsl ⊢
  by_cases hE1:E=0
  ·rw [hup hE1]
   (apply zU;rfl;intro _;apply zR;rfl;rfl;apply qA;apply fr_wrW;rfl;assumption;refine nSz<|vFz<|ldz rfl .head fr_rd4<|vMz ?_;refine lvz (.subN rfl rfl (by omega) (by omega)) ?_;refine vFz ?_;refine zR rfl rfl .head fr_wr4<|nNz<|zI<|sRz<|vMz ?_;refine lvz (.gtrF rfl rfl (by omega)) ?_;refine nNz<|cFz<|zJ<|thenN<|sRz<|ldz rfl .head fr_rdW ?_;refine zR rfl rfl (.tail (.app .head)) (.whole rfl rfl rfl)<|vAz<|nNz<|zK ?_)
   refine fin (vs:=[frv ⟨.slice q1 L.cl.length j1,pc,.slice q2 L.ws.length j2,.slice q3 L.ms.length j3,gas - c,self,frm,val,.slice q4 L.il.length j4,.slice q5 L.bl.length j5,stat⟩,.bool true]) (g1++(g2++(g3++(g4++g5)))) (.inl rfl) rfl rfl (by (apply zD;apply zH;rfl;apply qH;apply zX;apply zZ;apply zY;exact fr_rdW;apply zD;exact zG rfl;exact zF)) ?_ ⟨_,_,_,_,_,rfl,g1,g2,g3,g4,g5,.refl _,hk⟩
   exact jK _ (jJ _ _)
  ·rw [hmR]
   (apply zU;rfl;intro _;apply zR;rfl;rfl;apply qA;apply fr_wrW;rfl;assumption;refine nSz<|vFz<|ldz rfl .head fr_rd4<|vMz ?_;refine lvz (.subN rfl rfl (by omega) (by omega)) ?_;refine vFz ?_;refine zR rfl rfl .head fr_wr4<|nNz<|zI<|sRz<|vMz ?_;refine lvz (.gtrT rfl rfl (by omega)) ?_;refine nNz<|cTz<|zL<|vFz<|ldz rfl (.tail (.app (.tail (.tail (.tail .head))))) fr_rd2<|vMz ?_)
   (apply LW.callR;rfl;rfl;exact vF;exact .cons rfl (.cons rfl (.cons rfl .nil));intro w hs)
   exact rGrow_calls L.ws L.ms _ _ 0 E rfl (by omega) (h1024 hle) h32 w (h2.st hs) (h3.st hs) hsh.2.1 hsh.2.2.1
   rintro vo gso ⟨s1,m1,gg1,gg2,rfl,rfl,hw1,hb1⟩
   have hw1':=hw1
   have hb1':=hb1
   unfold wM at hw1'
   unfold bM at hb1'
   obtain ⟨q6,j6,rfl⟩:=hw1'.form
   obtain ⟨q7,j7,rfl⟩:=hb1'.form
   rw [jR]
   (refine goZ ?_;refine zR rfl rfl (.app (.app .head)) fr_wr23 ?_;refine goZ ?_)
   refine fin (vs:=[frv ⟨.slice q1 L.cl.length j1,pc,.slice q6 L.ws.length j6,.slice q7 _ j7,gas - c,self,frm,val,.slice q4 L.il.length j4,.slice q5 L.bl.length j5,stat⟩,.bool true]) (gg2++(gg1++(g1++(g4++g5)))) (.inl rfl) rfl rfl (by (apply zD;apply zH;rfl;apply qH;apply zZ;apply zZ;apply zX;apply zZ;apply zY;exact fr_rdW;apply zD;exact zG rfl;exact zF)) ?_ ⟨_,_,_,_,_,rfl,g1,gg1,gg2,g4,g5,by have h:=perm_ix [g1,gg1,gg2,g4,g5] (xs:=[0,1,2,3,4]) (ys:=[2,1,0,3,4]) [] rfl;simpa [catI] using h,hk.1,hw1,hb1,hk.2.2.2.1,hk.2.2.2.2⟩
   refine jL (jL (jK _ ?_) _) _
   simp only [jR]
   refine jL ?_ _
   refine List.Sublist.trans ?_ (jN g2 _)
   refine List.Sublist.trans ?_ (jN g3 _)
   exact jL (jJ _ _) _
 ·rw [if_neg hle]
  refine enter (args:=[_,_,_]) _ [] [] func31 rfl ntmps31 rfl (by simp) .nil ?_
  (refine sRz ?_;apply zT;rfl;rfl;intro _;apply zT;rfl;rfl;intro _;apply zT;rfl;rfl;intro _;apply zU;rfl;intro _;refine vAz<|nSz<|ldz rfl (.tail (.tail .head)) (qI rfl)<|ldz rfl (.tail .head) (qI rfl) ?_;apply zS;rfl;rfl;exact vF;exact .cons rfl (.cons rfl .nil);intro w _;exact hEnd w;refine vAz<|nSz<|vFz<|vFz<|ldz rfl (.tail (.tail (.tail .head))) fr_rd3<|lvz (.lenR rfl vF rfl) ?_;refine lvz (.convN rfl (by omega) (by omega)) ?_;refine vMz ?_;apply zS;rfl;rfl;exact vF;exact .cons rfl (.cons rfl .nil);intro w _;exact hMem w;refine vAz<|nNz<|zI<|sRz<|vMz<|vFz<|ldz rfl (.tail (.tail (.tail .head))) fr_rd4 ?_;refine lvz (.gtrT rfl rfl (by omega)) ?_;refine nNz<|cTz<|sRz ?_;apply qN;rfl;rfl;apply zW;exact vF;exact vF;exact zB;rfl;simp only [fillP,wrCells,Value.cells,jB,jC,jD,jA,jF,jE,Nat.reduceAdd,jH];rfl;refine zR rfl rfl .head (.whole rfl rfl rfl)<|vAz<|nNz<|zK<|thenR ?_)
  exact fin (vs:=[frv zeroF,.bool false]) [] (.inl rfl) rfl rfl rsZ (List.nil_sublist _) ⟨rfl,rfl⟩
section
attribute [local irreducible] SL.inP
theorem FrO.toP {f:FrV} {L:FrL} {gs:Fs} (h:FrO f L gs):FrP f L gs:=by
 obtain ⟨g1,g2,g3,g4,g5,hp,h1,h2,h3,h4,h5⟩:=h
 exact ⟨g1,g2,g3,g4,g5,hp,h1,.inl h2,h3,h4,h5⟩
theorem FrP.st {f:FrV} {L:FrL} {gs fs:Fs} {w0 w:World} {S:List Nat} (h:FrP f L gs) (hs:St w0 S fs w) (hg:∀ p∈gs,p∈fs):FrRows w f L:=h.rows fun p hp=>(hs.own p (hg p hp)).2
def LayP (b:Nat) (m:MaV) (L:FrL) (l:List Nat) (rest:Fs):Out:=fun x fs'=>x=.returned (.tuple #[])∧∃ s k gs',FrO (m.fr.setR m.fr.gas s k) (L.setW (L.ws++l)) gs'∧fs'=(b,maO (m.setF (m.fr.setR m.fr.gas s k)))::(gs'++rest)
theorem layP_calls (w0:World) (S:List Nat) (b:Nat) (m:MaV) (L:FrL) (gs:Fs) (l:List Nat) (v:Value) (hok:okSc L.ws.length L.ms.length) (hll:l.length≤100000) (hge:L.ws.length+l.length≤64) (hfr:FrP m.fr L gs) (rest:Fs) (w:World)
  (hv:∀ w',St w0 S ((b,maO m)::(gs++rest)) w'→RowAt w' 4 v l.length (wcs l)) (hs:St w0 S ((b,maO m)::(gs++rest)) w) :
  Calls prog 74 #[.pointer (some ⟨b,0,none⟩),v] w (fun x w'=>∃ fs',LayP b m L l rest x fs'∧St w0 S fs' w'):=by
 have h1:∀ w',St w0 S ((b,maO m)::(gs++rest)) w'→RowAt w' 4 m.fr.stk L.ws.length (wcs L.ws)∧RowAt w' 1 m.fr.mem L.ms.length (ucs L.ms)∧RowAt w' 4 v l.length (wcs l):=fun w' h=>by
  have hr:=hfr.st h fun p hp=>jI _ (yG _ hp)
  exact ⟨hr.s,hr.m,hv w' h⟩
 refine vG (lay_ok w0 S b m L.ws L.ms l v (gs++rest) w hs h1 hok hll hge) ?_
 rintro x w' ⟨fs',⟨rfl,s,k,gs2,c4,⟨s',k',gg1,gg2,he,rfl,hw1,hb1⟩,rfl⟩,hst⟩
 cases he
 obtain ⟨g1,g2,g3,g4,g5,hp,hall⟩:=hfr
 replace hst:=hst.perm (fs':=c4::((gg2++gg1)++(b,maO (m.setSc s k))::((g1++(g2++(g3++(g4++g5))))++rest))) (List.Perm.cons _ (List.Perm.append_left _ (List.Perm.cons _ (hp.append_right rest))))
 refine ⟨_,⟨rfl,s,k,g1++(gg1++(gg2++(g4++g5))),⟨g1,gg1,gg2,g4,g5,.refl _,hall.1,hw1,hb1,hall.2.2.2.1,hall.2.2.2.2⟩,rfl⟩,SubP.st ?_ hst⟩
 exact dTBQoW
theorem reachP_ok (w0:World) (S:List Nat) (b:Nat) (m:MaV) (L:FrL) (gs:Fs) (a n:Nat) (ha:a < M256) (hn0:0 < n) (hn:n < M256) (hE2:endV a n≤1024) (hok:okSc L.ws.length L.ms.length) (hg:m.fr.gas < 18446744073709551616) (hfr:FrP m.fr L gs) (rest:Fs) (w:World) (hs:St w0 S ((b,maO m)::(gs++rest)) w)
  (hcost:memV L.ms.length (endV a n)≤m.fr.gas) :
  Calls prog 77 #[.pointer (some ⟨b,0,none⟩),wv a,wv n] w (fun x w'=>∃ fs',(x=.returned (.tuple #[.int .u64 (a:Int),.int .u64 (n:Int)])∧∃ s k gs',FrO { m.fr with gas:=m.fr.gas - memV L.ms.length (endV a n),stk:=s,mem:=k } (L.setM (L.ms++List.replicate (upW (endV a n) - L.ms.length) 0)) gs'∧fs'=(b,maO ((m.setGas (m.fr.gas - memV L.ms.length (endV a n))).setSc s k))::(gs'++rest))∧St w0 S fs' w'):=by
 have hfrR:=hfr
 obtain ⟨g1,g2,g3,g4,g5,hp,hall⟩:=hfr
 replace hs:St w0 S ((b,maO m)::(g1++(g2++(g3++(g4++g5)))++rest)) w:=hs.perm (List.Perm.cons _ (hp.append_right rest))
 have hfr2:FrP m.fr L (g1++(g2++(g3++(g4++g5)))):=⟨g1,g2,g3,g4,g5,.refl _,hall⟩
 clear hp
 obtain ⟨_,_,hm3,_,_⟩:=id hall
 unfold bM at hm3
 obtain ⟨p2,c2,hmv⟩:=hm3.form
 have hk:L.ms.length≤1024:=hok.2.1
 have hmem:∀ {E fr},Rd prog 22 (.cells (mca m) E fr) 3 (.slice p2 L.ms.length c2):=fun {E fr}=>by rw [← hmv];exact ma_rd3
 have hEnd0:=End_calls a n ha hn
 have hMem0:=Memory_calls L.ms.length (endV a n) (by omega) (by omega)
 have hEa:a+n≤endV a n:=by
  unfold endV at hE2 ⊢
  rw [if_neg (by omega)] at hE2 ⊢
  unfold NOG at hE2 ⊢
  omega
 have hSa0:=Small_calls a ha
 have hSn0:=Small_calls n hn
 obtain ⟨E,hE⟩:∃ E,E=endV a n:=⟨_,rfl⟩
 rw [← hE] at hEnd0 hMem0 hE2 hcost hEa ⊢
 clear hE
 obtain ⟨c,hc⟩:∃ c,c=memV L.ms.length E:=⟨_,rfl⟩
 rw [← hc] at hMem0 hcost ⊢
 clear hc
 rw [if_pos (by omega),vE (by omega)] at hSa0 hSn0
 have hEnd:∀ w,Calls prog 120 #[wv a,wv n] w (Ret w (.int .u64 (E:Int))):=hEnd0
 have hMem:∀ w,Calls prog 121 #[.int .u64 (L.ms.length:Int),.int .u64 (E:Int)] w (Ret w (.int .u64 (c:Int))):=hMem0
 have hSa:∀ w,Calls prog 116 #[wv a] w (Ret w (.tuple #[.int .u64 (a:Int),.bool true])):=hSa0
 have hSn:∀ w,Calls prog 116 #[wv n] w (Ret w (.tuple #[.int .u64 (n:Int),.bool true])):=hSn0
 have hsp:spendM m [c]=some (m.setGas (m.fr.gas - c)):=by unfold spendM;rw [if_pos (by simp;omega)];simp
 refine calls_anyO (qX (K:=anyO fun x fs'=>x=.returned (.tuple #[.int .u64 (a:Int),.int .u64 (n:Int)])∧∃ s k gs',FrO { m.fr with gas:=m.fr.gas - c,stk:=s,mem:=k } (L.setM (L.ms++List.replicate (upW E - L.ms.length) 0)) gs'∧fs'=(b,maO ((m.setGas (m.fr.gas - c)).setSc s k))::(gs'++rest)) (args:=[_,_,_]) func77 rfl ntmps77 rfl ?_ hs)
 (refine sRz ?_;apply zT;rfl;rfl;intro _;apply zT;rfl;rfl;intro _;refine vAz<|vAz<|nSz<|ldz rfl (.tail .head) (qI rfl)<|ldz rfl .head (qI rfl) ?_;apply zS;rfl;rfl;exact vF;exact .cons rfl (.cons rfl .nil);intro w _;exact hEnd w;refine vAz<|nSz<|vMz<|vMz<|vNz<|vFz<|vFz<|vFz<|ldz rfl (.tail (.tail .head)) hmem<|lvz (.lenR rfl vF rfl) ?_;refine lvz (.convN rfl (by omega) (by omega)) ?_;refine vMz ?_;apply zS;rfl;rfl;exact vF;exact .cons rfl (.cons rfl .nil);intro w _;exact hMem w;apply LW.lay1;rfl;exact vF;exact vF;rfl;rfl;rfl;rfl;rfl;rfl;intro _)
 rename_i b4 b5 b29
 refine qV (fs':=(b,maO m)::(b29,.cells #[.int .u64 (c:Int)] 26 (0,0))::(b5,.cells (wc n) 29 (0,0))::(b4,.cells (wc a) 29 (0,0))::(g1++(g2++(g3++(g4++g5)))++rest)) (by exact (yX (l₁:=[_,_,_])).symm) ?_
 refine qP (K:=MaK b m (spendM m [c]) _) rfl rfl vF agZ rfl (fun fs h=>?_) (fun w' hst=>spend_calls w0 S b m [c] hg _ _ w' hst (fun w2 h2=>row_cells (h2.own (b29,_) (jX _ (jW _))).2 rfl rfl (by simp [maxLen]))) ?_ ?_
 ·rw [hsp] at h;cases h.1
 ·rintro v fs' h
  rw [hsp] at h
  obtain ⟨h,rfl⟩:=h
  have hmem:∀ {E fr},Rd prog 22 (.cells (mca (m.setGas (m.fr.gas - c))) E fr) 3 (.slice p2 L.ms.length c2):=fun {E fr}=>by rw [← hmv];exact ma_rd3 (m:=m.setGas (m.fr.gas - c))
  (refine nNz<|zI<|sRz<|vMz ?_;refine lvz (.eqF rfl rfl (by omega)) ?_;refine nNz<|cFz<|zJ<|thenN<|sRz<|vMz<|vNz<|vFz<|vFz<|ldz rfl .head ma_rd2<|vMz ?_)
  (apply LW.callR;rfl;rfl;exact vF;exact .cons rfl (.cons rfl (.cons rfl .nil));intro w hs)
  exact grow_ok L.ws L.ms E _ _ w (hfr2.st hs (fun p hp=>jI _ (by simp only [List.mem_cons,List.mem_append] at hp ⊢;simp [hp]))).s (hfr2.st hs (fun p hp=>jI _ (by simp only [List.mem_cons,List.mem_append] at hp ⊢;simp [hp]))).m hok (by omega) hE2
  rintro vo gso ⟨o,rfl,s1,m1,gg1,gg2,rfl,rfl,hw1,hb1⟩
  have hw1':=hw1
  have hb1':=hb1
  unfold wM at hw1'
  unfold bM at hb1'
  obtain ⟨q1,k1,rfl⟩:=hw1'.form
  obtain ⟨q2,k2,rfl⟩:=hb1'.form
  (refine goZ ?_;intro _;refine cEv need_true ?_;refine zR rfl rfl (.tail (.app .head)) (ma_wr2 rfl rfl rfl rfl) ?_;refine goZ ?_;refine cEv hSa ?_;refine cEv hSn ?_)
  refine inPI (.inl rfl) .nil rfl rsZ rfl ⟨_,⟨rfl,_,_,g1++(gg1++(gg2++(g4++g5))),⟨g1,gg1,gg2,g4,g5,.refl _,hall.1,hw1,hb1,hall.2.2.2.1,hall.2.2.2.2⟩,rfl⟩,?_⟩
  simp only [jR,yA,jQ]
  exact subp_ix [[_],[_],gg2,gg1,[_],[_],[_],g1,g2,g3,g4,g5] (xs:=[4,7,3,2,10,11]) (ys:=[0,2,3,4,1,5,6,7,8,9,10,11]) rest rfl
 ·exact dTBtqw
def ReachP (b:Nat) (m:MaV) (L:FrL) (a n:Nat) (rest:Fs):Out:=fun x fs' =>
 (m.fr.gas < costR L a n∧x=.panicked failC∧fs'=rest) ∨
 (costR L a n≤m.fr.gas∧∃ s k gs',x=.returned (.tuple #[.int .u64 ((if n=0 then 0 else a:Nat):Int),.int .u64 (n:Int)])∧FrP (frR m.fr L a n s k) (memR L a n) gs'∧fs'=(b,maO (m.setF (frR m.fr L a n s k)))::(gs'++rest))
theorem reachP_calls (w0:World) (S:List Nat) (b:Nat) (m:MaV) (L:FrL) (gs:Fs) (a n:Nat) (ha:a < M256) (hn:n < M256) (hok:okSc L.ws.length L.ms.length) (hg:m.fr.gas≤20000) (hfr:FrP m.fr L gs) (rest:Fs) (w:World) (hs:St w0 S ((b,maO m)::(gs++rest)) w) :
  Calls prog 77 #[.pointer (some ⟨b,0,none⟩),wv a,wv n] w (fun x w'=>∃ fs',ReachP b m L a n rest x fs'∧St w0 S fs' w'):=by
 have hk:L.ms.length≤1024:=hok.2.1
 have hm:∃ p2 c2,m.fr.mem=.slice p2 L.ms.length c2:=by
  obtain ⟨g1,g2,g3,g4,g5,_,h1,h2,h3,h4,h5⟩:=hfr
  unfold bM at h3
  exact h3.form
 obtain ⟨p2,c2,hm⟩:=hm
 rcases jM m.fr.gas (costR L a n) with hlt|hge
 ·refine vG (reach_gas w0 S b m a n L.ms.length p2 c2 ha hn (endV_lt a n) hk (by omega) hm (gs++rest) w hs hlt) ?_
  rintro x w' ⟨fs',⟨rfl,ex,rfl⟩,hst⟩
  exact ⟨_,.inl ⟨hlt,rfl,rfl⟩,st_sub hst (jK _ ((jN _ _).trans (jN _ _)))⟩
 ·rcases yB n with rfl|hn0
  ·refine vG (reach_none w0 S b m a 0 L.ms.length rfl p2 c2 ha hk (by omega) hm (gs++rest) w hs) ?_
   rintro x w' ⟨fs',⟨rfl,ex,rfl⟩,hst⟩
   have he:endV a 0=0:=by simp [endV]
   have hc:costR L a 0=0:=by unfold costR;rw [he];simp [memV]
   have hmr:memR L a 0=L:=by unfold memR FrL.setM;rw [he];simp [upW]
   have hfr2:frR m.fr L a 0 m.fr.stk m.fr.mem=m.fr:=by unfold frR;rw [hc];rfl
   refine ⟨_,.inr ⟨hge,m.fr.stk,m.fr.mem,gs,rfl,?_,?_⟩,st_sub hst (jP _ (jN ex _))⟩
   ·rw [hmr,hfr2];exact hfr
   ·rw [hfr2];rfl
  ·refine vG (reachP_ok w0 S b m L gs a n ha hn0 hn (memV_le hk hg hge) hok (by omega) hfr rest w hs hge) ?_
   rintro x w' ⟨fs',⟨rfl,s,k,gs',h1,rfl⟩,hst⟩
   refine ⟨_,.inr ⟨hge,s,k,gs',?_,h1.toP,rfl⟩,hst⟩
   rw [if_neg (by omega)]
theorem reach_in {L:FrL} {a n g:Nat} (hg:g≤20000) (hok:okSc L.ws.length L.ms.length) (h:costR L a n≤g):okSc (memR L a n).ws.length (memR L a n).ms.length∧(0 < n→a+n≤(memR L a n).ms.length):=by
 have hE:endV a n≤1024:=memV_le hok.2.1 hg h
 obtain ⟨h1,h2,h3⟩:=hok
 have hl:(memR L a n).ms.length=L.ms.length+(upW (endV a n) - L.ms.length):=by
  unfold memR FrL.setM
  simp
 have hu:upW (endV a n)≤1024∧endV a n≤upW (endV a n)∧upW (endV a n) % 32=0:=by
  unfold upW
  omega
 refine ⟨⟨h1,by rw [hl];omega,by rw [hl];omega⟩,fun hn=>?_⟩
 have hEa:a+n≤endV a n:=by
  unfold endV at hE ⊢
  rw [if_neg (by omega)] at hE ⊢
  unfold NOG at hE ⊢
  omega
 rw [hl]
 omega
end
def RPushR (ws:List Nat) (ms:List UInt8) (l:List Nat) (v:Value) (gs:Fs):Prop:=(ws.length+l.length≤64∧∃ s m g1 g2,v=.tuple #[.agg #[s,m],.int .i64 0]∧gs=g2++g1∧wM (ws++l) s g1∧bM ms m g2)∨(64 < ws.length+l.length∧v=.tuple #[.agg #[.slice none 0 0,.slice none 0 0],.int .i64 6]∧gs=[])
theorem rPush_calls (ws:List Nat) (ms:List UInt8) (l:List Nat) (s m v:Value) (w:World) (hrs:RowAt w 4 s ws.length (wcs ws)) (hrm:RowAt w 1 m ms.length (ucs ms)) (hv:RowAt w 4 v l.length (wcs l)) (hl:ws.length≤100000) (hl2:ms.length≤100000) (hl3:l.length≤100000) :
  Calls prog 75 #[.agg #[s,m],v] w (RetG w [] (RPushR ws ms l)):=by
 obtain ⟨p,c,rfl,_,_⟩:=id hrs.form
 obtain ⟨p2,c2,rfl,_,_⟩:=id hrm.form
 obtain ⟨p3,c3,rfl,_,_⟩:=id hv.form
 refine enter (args:=[_,_]) _ [] [] func75 rfl ntmps75 rfl (by simp) .nil ?_
 (refine goZ ?_;intro _ _)
 refine dQBahU ?_
 rintro vo gso ⟨s1,m1,g1,g2,rfl,rfl,h1,h2,h00⟩
 have h1':=h1
 have h2':=h2
 unfold wM at h1'
 unfold bM at h2'
 obtain ⟨q1,k1,rfl⟩:=h1'.form
 obtain ⟨q2,k2,rfl⟩:=h2'.form
 rw [jR]
 (refine goZ ?_;intro _)
 rename_i b2 b4 b6
 refine qM (fun x:Nat × Option Addr × Nat × Fs=>([(7,.int .i64 (x.1:Int)),(6,.pointer (some ⟨b6,0,none⟩)),(4,.pointer (some ⟨b4,0,none⟩)),(1,.slice p3 l.length c3)],(b6,.cells #[.slice x.2.1 (ws.length+x.1) x.2.2.1,.slice q2 ms.length k2] 25 (0,0))::(g2++(x.2.2.2++[(b4,.cells #[.slice none 0 0,.slice none 0 0] 25 (0,0))]))))
  (fun x=>x.1≤l.length∧IsRow 29 4 (.slice x.2.1 (ws.length+x.1) x.2.2.1) (ws.length+x.1) (wcs (ws++l.take x.1)) x.2.2.2) (fun x=>l.length - x.1) (0,q1,k1,g1) ⟨Nat.zero_le _,by simpa using h1'⟩ ⟨rfl,rfl,rfl,rfl,trivial⟩ (by simp) ?_
 rintro ⟨k,q,kc,seg⟩ ⟨hk,hrow⟩
 dsimp only at hk hrow ⊢
 rcases jM k l.length with hlt|hge
 ·obtain ⟨bb,off,c',cs,E,fr,heq,hb',hx⟩:=hv.pos (by omega)
  cases heq
  have hrd:Rd prog 29 (.cells cs E fr) (off+k * 4) (wv (l.getD k 0)):=word_rd hx k hlt
  (refine goZ ?_;refine anz 7 ?_;apply DW.layA;rfl;rfl;rfl;exact zC;exact vF;exact vF;rfl;rfl;rfl;rfl;rfl;intro _;refine goZ ?_)
  (apply qZ;rfl;rfl;exact vF;exact vF;exact vF;rfl;rfl;rfl;(case hrow=>assumption);apply qK;apply qK;apply qL;exact qJ;apply qH;apply zY;rfl;rfl;rfl;omega;simp only [maxLen];omega;omega;intro v' seg' hrow';obtain ⟨p',c',rfl⟩:=hrow'.form;(refine ⟨_,(by (repeat (first|exact qJ|apply qK|apply qL))),?_⟩);(try simp only [yA,jQ]))
  (refine goZ ?_)
  apply thenX
  refine ⟨rfl,(k+1,p',c',seg'),⟨hlt,?_⟩,by show l.length - (k+1) < l.length - k;omega,⟨rfl,rfl,rfl,rfl,trivial⟩,?_⟩
  ·have e:wcs (ws++l.take (k+1))=wcs (ws++l.take k)++(wc (l.getD k 0)).toList:=by
    rw [List.take_add_one,jO hlt,jU,jO hlt,← jR,wcs_app]
    show _=_++(wc l[k]).toList
    show wcs _++((wc l[k]).toList++[])=_
    rw [yM]
   dsimp only
   rw [e]
   exact hrow'
  ·exact jK _ (jG _)
 ·obtain rfl:k=l.length:=by omega
  rw [List.take_length] at hrow
  by_cases hle:ws.length+l.length≤64
  ·(refine goZ ?_)
   refine fin (vs:=[.agg #[.slice q (ws.length+l.length) kc,.slice q2 ms.length k2],.int .i64 0]) (g2++seg) (.inl rfl) rfl rfl rsZ ?_ (.inl ⟨hle,_,_,seg,g2,rfl,rfl,?_,h2⟩)
   ·exact jK _ (jL (jJ _ _) _)
   ·unfold wM
    rw [yC]
    exact hrow
  ·(refine goZ ?_;refine bTz ?_)
   exact fin (vs:=[.agg #[.slice none 0 0,.slice none 0 0],.int .i64 6]) [] (.inl rfl) rfl rfl rsZ (List.nil_sublist _) (.inr ⟨by omega,rfl,rfl⟩)
section
open CK (dataC)
attribute [local irreducible] SL.inP opOf opX gasB
theorem preY {P Q:Prop} (k:Q) (h:BoxZ Q→P:=by
  intro kQ
  obtain ⟨g1,g2,g3,g4,g5,hp,r1,r2,r3,r4,r5⟩:=id hfr
  unfold bM at r1 r3
  unfold wM at r2
  obtain ⟨q1,k1,hst1⟩:=id r1.form
  obtain ⟨q2,k2,hst2⟩:=id r2.form
  obtain ⟨q3,k3,hst3⟩:=id r3.form
  rw [hst1] at r1
  rw [hst2] at r2
  rw [hst3] at r3
  obtain ⟨us2,hbl2,hin2,hrows2⟩:=rowU_own r2
  obtain ⟨us3,hbl3,hin3,hrows3⟩:=rowU_own r3
  have hs9:St w0 [] ((b,maO (ma0 f e0 e1 e2 e3))::(g1++(g2++(g3++(g4++g5)))++rest)) w:=hs.perm (List.Perm.cons _ (hp.append_right rest))
  have hgb5:f.inp=f.inp∧f.back=f.back:=⟨rfl,rfl⟩
  have hrdS:∀ {g E fr},Rd prog 23 (.cells (mca ((ma0 f e0 e1 e2 e3).setGas g)) E fr) 2 (.slice q2 L.ws.length k2):=fun {g E fr}=>by rw [← hst2];exact ma_rd2s (m:=(ma0 f e0 e1 e2 e3).setGas g)
  have hrdC:∀ {g E fr},Rd prog 22 (.cells (mca ((ma0 f e0 e1 e2 e3).setGas g)) E fr) 0 (.slice q1 L.cl.length k1):=fun {g E fr}=>by rw [← hst1];exact ma_rd0 (m:=(ma0 f e0 e1 e2 e3).setGas g)
  obtain ⟨pn,hpn⟩:∃ pn:Nat,f.pc=(pn:Int):=by
   exact dTBjLF
  have hpl:pn≤L.cl.length:=by
   rcases okF_pc hF with h|h<;>omega
  have hcl2:L.cl.length≤200:=hF.2.2.1
  have hrdP:∀ {g E fr},Rd prog 3 (.cells (mca ((ma0 f e0 e1 e2 e3).setGas g)) E fr) 1 (.int .i64 (pn:Int)):=fun {g E fr}=>by rw [← hpn];exact ma_rd1 (m:=(ma0 f e0 e1 e2 e3).setGas g)
  have hpt:f.pc.toNat=pn:=by rw [hpn];exact yY pn
  have hgl:f.gas < 18446744073709551616:=by have:=hF.1.2.2;omega
  have hok:okSc L.ws.length L.ms.length:=hF.2.2.2.1
  have hok1:=hok.1
  have hN0:∀ w',(∀ q∈gs,w'.heap[q.1]?=some q.2)→Calls prog 82 #[frv f] w' (Ret w' (.int .u8 (op:Int))):=fun w' h=>by
   exact dTBjHd
  have hN:∀ w',(∀ q∈g1++(g2++(g3++(g4++g5))),w'.heap[q.1]?=some q.2)→Calls prog 82 #[frv f] w' (Ret w' (.int .u8 (op:Int))):=fun w' h=>hN0 w' fun q hq=>h q (hp.symm.subset hq)
  have hsl:=hfr.sl
  have hop2:op < 256:=by rw [← hop];exact opF_lt f L
  have o5:(opX op).dt≤32:=by rw [opX_dt];exact CK.szOf_le _
  clear hN0
  revert g1 g2 g3 g4 g5 q1 k1 q2 k2 q3 k3 us2 us3 hgb5 pn hcl2 hgl hok hok1 hsl hop2 o5
  exact kQ.k):P:=h ⟨k⟩
end
section
open CK (LW.copyFull)
theorem dTBeUb {P:Prop} (h:P:=by
 rintro _ g ⟨o,rfl,ho⟩
 have ho':=ho
 unfold bM at ho'
 obtain ⟨q,k,rfl⟩:=ho'.form
 (refine goZ ?_;refine cEv need_true ?_)
 exact SL.fin (vs:=[.slice q _ k]) g (.inl rfl) rfl rfl rsZ (jJ _ _) ho):P:=h
def winL (bs:List UInt8) (a n:Nat):List UInt8:=(List.range n).map fun i=>bs.getD (a+i) 0
theorem winL_len (bs:List UInt8) (a n:Nat):(winL bs a n).length=n:=by simp [winL]
theorem winL_eq (bs:List UInt8) (a n:Nat):winL bs a n=(bs.drop a).take n++List.replicate (n - (bs.length - a)) 0:=by
 unfold winL
 refine List.ext_getElem? fun i=>?_
 rw [List.getElem?_map,List.getElem?_append,yH,yL]
 rcases jM i n with h|h
 ·rw [List.getElem?_range h,Option.map_some,jU]
  split
  ·rename_i h2
   rw [List.getElem?_take,if_pos h,List.getElem?_drop,jO (show a+i < bs.length by omega)];rfl
  ·rename_i h2
   rw [List.getElem?_replicate,if_pos (by omega),yN (show bs.length≤a+i by omega)];rfl
 ·rw [yN (by simp;omega),Option.map_none]
  split
  ·omega
  ·rw [List.getElem?_replicate,if_neg (by omega)]
theorem winL_far {bs:List UInt8} {a n:Nat} (h:bs.length≤a):winL bs a n=List.replicate n 0:=by
 rw [winL_eq,List.drop_eq_nil_of_le h,show n - (bs.length - a)=n by omega]
 simp
def layL (ms:List UInt8) (a:Nat) (l:List UInt8):List UInt8:=ms.take a++l++ms.drop (a+l.length)
theorem layL_nil (ms:List UInt8) (a:Nat):layL ms a []=ms:=by simp [layL]
theorem layL_len {ms:List UInt8} {a:Nat} {l:List UInt8} (h:l=[]∨a+l.length≤ms.length):(layL ms a l).length=ms.length:=by
 rcases h with rfl|h
 ·rw [layL_nil]
 ·simp only [layL,yC,yH,yL]
  omega
def WinR (l:List UInt8) (r:Value) (gs:Fs):Prop:=∃ o,r=.tuple #[o,.int .i64 0]∧bM l o gs
theorem Window_calls (bs:List UInt8) (a n:Nat) (hn:n≤1024) (ha:a < 18446744073709551616) (hb:bs.length≤100000) (v:Value) (w:World) (hv:RowAt w 1 v bs.length (ucs bs)):Calls prog 220 #[v,.int .u64 (a:Int),.int .u64 (n:Int)] w (RetG w [] (WinR (winL bs a n))):=by
 obtain ⟨p,c,rfl,_,_⟩:=id hv.form
 obtain ⟨T,hT⟩:∃ T,winL bs a n=T:=⟨_,rfl⟩
 have hTl:T.length=n:=by rw [← hT];exact winL_len bs a n
 rw [hT]
 have fin:∀ (g:Nat) (cur:Array Value),cur.toList=ucs T→bM T (.slice (some ⟨g,0,none⟩) n n) [(g,.cells cur 5 (0,0))]:=fun g cur hc=>by
  have h1:cur.size=n:=by rw [← Array.length_toList,hc,ucs_len,hTl]
  unfold bM
  rw [hTl]
  exact IsRow.own (yD _) (by simp only [maxLen];omega) (by rw [h1,yE]) (by rw [hc];exact yI (by rw [ucs_len,hTl,yE];exact yD _)) (by rw [ucs_len,hTl,yE])
 refine enter (args:=[_,_,_]) _ [] [] func220 rfl ntmps220 rfl (by simp) .nil ?_
 (refine goZ ?_)
 refine LW.makeOwn rfl vF vF vF rfl rfl (by omega) (by simp only [maxLen];omega) fun g=>?_
 have hz0:(List.replicate n (Value.int .u8 0))=ucs (List.replicate n 0):=(ucs_zero _).symm
 rcases jM a bs.length with hlt|hge
 ·have hcut:=RowAt.drop (k:=a) hv (by omega)
  rw [ucs_drop] at hcut
  (refine goZ ?_;refine lvz (.cutFrom vF vF rfl rfl (by omega)) ?_)
  rcases yB n with rfl|hn0
  ·(apply LW.copyNone;rfl;rfl;exact vF;exact vF;exact vF;rfl;rfl;exact Nat.min_zero _)
   (refine goZ ?_)
   have hc:(List.replicate 0 (Value.int .u8 0)).toArray.toList=ucs T:=by
    rw [List.length_eq_zero_iff.1 hTl];rfl
   exact SL.fin (vs:=[.slice (some ⟨g,0,none⟩) 0 0,.int .i64 0]) [(g,.cells (List.replicate 0 (Value.int .u8 0)).toArray 5 (0,0))] (.inl rfl) rfl rfl rsZ (jG _) ⟨_,rfl,fin g _ hc⟩
  ·rcases jM (bs.length - a) n with hsh|hfull
   ·refine LW.copyAt (cur:=(List.replicate n (Value.int .u8 0)).toArray) (E':=5) (m:=bs.length - a) (news:=ucs (bs.drop a)) rfl rfl vF vF vF rfl rfl (fun w' hst=>hcut.st hst) (ucs_cells _) (by omega) (by simp;omega) (by (apply qA)) ?_
    have hc:((List.replicate n (Value.int .u8 0)).toArray.toList.take 0++ucs (bs.drop a)++(List.replicate n (Value.int .u8 0)).toArray.toList.drop (0+(bs.length - a))).toArray.toList=ucs T:=by
     rw [← hT,winL_eq,ucs_app,ucs_zero,yI (show (bs.drop a).length≤n by rw [yL];omega)]
     simp
    (refine goZ ?_)
    exact SL.fin (vs:=[.slice (some ⟨g,0,none⟩) n n,.int .i64 0]) [(g,_)] (.inl rfl) rfl rfl rsZ (jG _) ⟨_,rfl,fin g _ hc⟩
   ·refine LW.copyFull (cur:=(List.replicate n (Value.int .u8 0)).toArray) (E':=5) (m:=bs.length - a) (news:=ucs (bs.drop a)) rfl rfl vF vF vF rfl rfl (fun w' hst=>hcut.st hst) (ucs_cells _) hn0 (by omega) (by simp) (by (apply qA)) ?_
    have hc:((List.replicate n (Value.int .u8 0)).toArray.toList.take 0++(ucs (bs.drop a)).take n++(List.replicate n (Value.int .u8 0)).toArray.toList.drop (0+n)).toArray.toList=ucs T:=by
     rw [← hT,winL_eq,ucs_app,ucs_zero,show n - (bs.length - a)=0 by omega,← ucs_take,yE]
     simp
    (refine goZ ?_)
    exact SL.fin (vs:=[.slice (some ⟨g,0,none⟩) n n,.int .i64 0]) [(g,_)] (.inl rfl) rfl rfl rsZ (jG _) ⟨_,rfl,fin g _ hc⟩
 ·(refine goZ ?_)
  have hc:(List.replicate n (Value.int .u8 0)).toArray.toList=ucs T:=by
   rw [← hT,winL_far hge,ucs_zero]
  exact SL.fin (vs:=[.slice (some ⟨g,0,none⟩) n n,.int .i64 0]) [(g,.cells (List.replicate n (Value.int .u8 0)).toArray 5 (0,0))] (.inl rfl) rfl rfl rsZ (jG _) ⟨_,rfl,fin g _ hc⟩
theorem window_calls (bs:List UInt8) (a n:Nat) (hn:n≤1024) (ha:a < M256) (hb:bs.length≤100000) (v:Value) (w:World) (hv:RowAt w 1 v bs.length (ucs bs)):Calls prog 203 #[v,wv a,.int .u64 (n:Int)] w (RetG w [] (bM (winL bs a n))):=by
 obtain ⟨p,c,rfl,_,_⟩:=id hv.form
 have hSm0:=Small_calls a ha
 rcases jM a 18446744073709551616 with hlt|hge
 ·rw [if_pos hlt,vE hlt] at hSm0
  have hSm:∀ w,Calls prog 116 #[wv a] w (Ret w (.tuple #[.int .u64 (a:Int),.bool true])):=hSm0
  refine enter (args:=[_,_,_]) _ [] [] func203 rfl ntmps203 rfl (by simp) .nil ?_
  (refine goZ ?_;intro _;refine cEv hSm ?_)
  (refine crz (c:=fun w hs=>by exact Window_calls bs a n hn hlt hb _ w (hv.st hs)) (k:=?_))
  exact dTBeUb
 ·rw [if_neg (by omega),vA (by omega)] at hSm0
  have hSm:∀ w,Calls prog 116 #[wv a] w (Ret w (.tuple #[.int .u64 ((0:Nat):Int),.bool false])):=hSm0
  have hw:winL bs a n=winL [] 0 n:=by rw [winL_far (by omega),winL_far (yT _)]
  rw [hw]
  refine enter (args:=[_,_,_]) _ [] [] func203 rfl ntmps203 rfl (by simp) .nil ?_
  (refine goZ ?_;intro _;refine cEv hSm ?_)
  (refine crz (c:=fun w hs=>by exact Window_calls [] 0 n hn (by omega) (by simp) _ w .nil) (k:=?_))
  exact dTBeUb
end
end Go.Proofs.YtdeggbkbblfpoaaGreatDoor
namespace Go.Proofs.YtdeggbkbblfpoaaGreatDoor
open Go Go.RowKit SL
open CK (dataC jumpC readB)
structure SO where
 kind:Int
 op:Nat
 gas:Nat
 pc:Int
 ws:List Nat
 ms:List UInt8
 words:List Nat
 data:List UInt8
def soOn (f:FrV) (ws:List Nat) (ms:List UInt8):SO:=⟨0,0,f.gas,f.pc,ws,ms,[],[]⟩
def FrV.setG (f:FrV) (g:Nat):FrV:={ f with gas:=g }
def reaV (f:FrV) (L:FrL) (a n:Nat):Option (FrV × List UInt8):=if costR L a n≤f.gas then some (f.setG (f.gas - costR L a n),(memR L a n).ms) else none
def spnV (f:FrV) (c:Nat):Option FrV:=if c≤f.gas then some (f.setG (f.gas - c)) else none
def copyV (f:FrV) (L:FrL) (b:List UInt8) (a at_ n:Nat):Option SO:=do
 let (f1,ms) ← reaV f L a n
 let f2 ← spnV f1 (timesV ((n+31) / 32) 3)
 some (soOn f2 L.ws (layL ms a (winL b at_ n)))
def loadV14 (f:FrV) (L:FrL) (a:Nat):Option SO:=do
 let (f1,ms) ← reaV f L a 32
 some (soOn f1 (L.ws++[bev ((ms.drop a).take 32)]) ms)
def storeV (f:FrV) (L:FrL) (a n:Nat) (l:List UInt8):Option SO:=do
 let (f1,ms) ← reaV f L a n
 some (soOn f1 L.ws (layL ms a l))
def hashV (f:FrV) (L:FrL) (a n:Nat):Option SO:=do
 let (f1,ms) ← reaV f L a n
 let f2 ← spnV f1 (timesV ((n+31) / 32) 6)
 some (soOn f2 (L.ws++[digW ((ms.drop a).take n)]) ms)
def jumpV (f:FrV) (L:FrL) (a:Nat):Option SO:=if a < 18446744073709551616∧jumpC L.cl a=true then some (soOn { f with pc:=(a:Int) } L.ws L.ms) else none
def stateV (op:Nat) (f:FrV) (L:FrL) (l:List Nat):SO:=⟨1,op,f.gas,f.pc,L.ws,L.ms,l,[]⟩
def callV14 (op:Nat) (f:FrV) (L:FrL) (l:List Nat):Option SO:=if f.stat=true∧(op=245∨op=241∧¬ l.getD 2 0=0) then none else some ⟨2,op,f.gas,f.pc,L.ws,L.ms,l,[]⟩
def endsV (op:Nat) (f:FrV) (L:FrL) (a n:Nat):Option SO:=do
 let (f1,ms) ← reaV f L a n
 some ⟨if op=253 then 5 else 4,0,f1.gas,f1.pc,L.ws,ms,[],(ms.drop a).take n⟩
def doV (op:Nat) (f:FrV) (L:FrL) (l:List Nat):Option SO :=
 let a:=l.getD 0 0
 let b:=l.getD 1 0
 let c:=l.getD 2 0
 if op=21 then some (soOn f (L.ws++[if a=0 then 1 else 0]) L.ms)
 else if op=25 then some (soOn f (L.ws++[M256 - 1 - a]) L.ms)
 else if op=52 then some (soOn f (L.ws++[f.val]) L.ms)
 else if op=53 then some (soOn f (L.ws++[bev (winL L.il a 32)]) L.ms)
 else if op=55 then copyV f L L.il a b c
 else if op=62 then (if b+c≤L.bl.length then copyV f L L.bl a b c else none)
 else if op=81 then loadV14 f L a
 else if op=82 then storeV f L a 32 (beb 32 b)
 else if op=83 then storeV f L a 1 ((beb 32 b).drop 31)
 else if op=32 then hashV f L a b
 else if op=86 then jumpV f L a
 else if op=87 then (if b=0 then some (soOn f L.ws L.ms) else jumpV f L a)
 else if op=49∨op=71∨op=84∨op=92 then some (stateV op f L l)
 else if op=85∨op=93 then (if f.stat=true then none else some (stateV op f L l))
 else if op=241∨op=244∨op=250∨op=245 then callV14 op f L l
 else if op=0 then some ⟨3,0,f.gas,f.pc,L.ws,L.ms,[],[]⟩
 else if op=243∨op=253 then endsV op f L a b
 else some (soOn f L.ws L.ms)
def sayV (op:Nat) (f:FrV) (L:FrL) (e0 e1 e2 e3:Nat):Nat :=
 if op=48 then f.self else if op=51 then f.frm else if op=50 then e0 else if op=66 then e1 else if op=67 then e2 else if op=72 then e3 else if op=54 then L.il.length else if op=61 then L.bl.length else f.gas
def swapL (ws:List Nat) (n:Nat):List Nat:=(ws.set (ws.length - 1) (ws.getD (ws.length - 1 - n) 0)).set (ws.length - 1 - n) (ws.getD (ws.length - 1) 0)
def stepV (f:FrV) (L:FrL) (e0 e1 e2 e3:Nat):Option SO :=
 let op:=opF f L
 let x:=opX op
 if ¬ (opOf op).isSome∨op=254 then none
 else if f.gas < gasB op then none
 else if L.ws.length < x.tk∨64 < L.ws.length - x.tk+x.ly then none
 else
  let f1:FrV:={ f with gas:=f.gas - gasB op,pc:=((min (f.pc.toNat+1+x.dt) L.cl.length:Nat):Int) }
  if 96≤op∧op≤127 then some (soOn f1 (L.ws++[bev (dataC L.cl f.pc)]) L.ms)
  else if 128≤op∧op≤143 then some (soOn f1 (L.ws++[L.ws.getD (L.ws.length - (op - 127)) 0]) L.ms)
  else if 144≤op∧op≤159 then some (soOn f1 (swapL L.ws (op - 143)) L.ms)
  else
   let l:=(L.ws.drop (L.ws.length - x.tk)).reverse
   let L1:=L.setW (L.ws.take (L.ws.length - x.tk))
   if (halvesF op).isSome then some (soOn f1 (L1.ws++[halfV op (l.getD 0 0) (l.getD 1 0)]) L.ms)
   else if (saysF op).isSome then some (soOn f1 (L1.ws++[sayV op f1 L1 e0 e1 e2 e3]) L.ms)
   else doV op f1 L1 l
def soF (f:FrV) (o:SO) (s k:Value):FrV:={ f with pc:=o.pc,gas:=o.gas,stk:=s,mem:=k }
def soL (L:FrL) (o:SO):FrL:={ L with ws:=o.ws,ms:=o.ms }
def SoD (f:FrV) (L:FrL) (o:SO) (m:MaV) (gs:Fs):Prop:=∃ s k g1 g2 g3,m.fr=soF f o s k∧m.kind=o.kind∧(g1++(g2++g3)).Perm gs∧FrP m.fr (soL L o) g1 ∧
 ((o.kind=0∧o.op=0∧o.words=[]∧o.data=[])∨(o.kind ≠ 0∧m.op=o.op∧wM o.words m.words g2∧bM o.data m.data g3))
def DoK14 (b:Nat) (f:FrV) (L:FrL) (o:Option SO) (rest:Fs):Out:=fun x fs'=>match o with
 |none=>x=.panicked failC∧fs'=rest
 |some o=>x=.returned (.tuple #[])∧∃ m' gs',SoD f L o m' gs'∧fs'=(b,maO m')::(gs'++rest)
structure DoPre (m:MaV) (L:FrL) (l:List Nat):Prop where
 ok:okSc L.ws.length L.ms.length
 gas:m.fr.gas≤20000
 il:L.il.length≤1024
 bl:L.bl.length≤1024
 cl:L.cl.length≤200
 val:m.fr.val < M256
 ls:∀ x∈l,x < M256
 kind:m.kind=0
def DoC (fid:FuncId) (op:Nat) (tk ly:Nat) (V:FrV→FrL→List Nat→Option SO):Prop :=
 ∀ (w0:World) (b:Nat) (m:MaV) (L:FrL) (l:List Nat) (gs gt rest:Fs) (w:World),SK.TurnAt w0→SK.NumAt w0→DoPre m L l→m.op=op→tk≤l.length→L.ws.length+ly≤64→FrP m.fr L gs→wM l m.took gt→St w0 [] ((b,maO m)::(gs++(gt++rest))) w →
  Calls Tryz.prog fid #[.pointer (some ⟨b,0,none⟩)] w (fun x w'=>∃ fs',DoK14 b m.fr L (V m.fr L l) rest x fs'∧St w0 [] fs' w')
end Go.Proofs.YtdeggbkbblfpoaaGreatDoor
namespace Go.Proofs.YtdeggbkbblfpoaaGreatDoor
open Go Go.RowKit SL
set_option maxRecDepth 8000
set_option maxHeartbeats 4000000
set_option linter.unusedSimpArgs false
set_option linter.unusedVariables false
attribute [local irreducible] SL.CW SL.LW SL.DW Calls SL.Ret SL.RetG SL.beginQ SL.roundQ SL.rangeQ SL.inQ SL.RW SL.AnyW SL.thenQ SL.thenC SL.thenW SL.blkQ SL.finQ SL.ValP SL.NewP SL.SetP SL.CallP SL.Rd SL.Wr SL.Known
theorem dTBnfo {P:Prop} (h:P:=by
 (refine goZ ?_;intro _)
 refine fin (vs:=[.agg #[.slice q1 ws.length k1,.slice q2 ms.length k2],.int .i64 0]) (g2++g1) (.inl rfl) rfl rfl rsZ ?_ ⟨_,rfl,_,_,g1,g2,rfl,rfl,h1,h2⟩
 exact jK _ (jJ _ _)):P:=h
theorem grow_zero (ws:List Nat) (ms:List UInt8) (a n:Nat) (h0:n=0) (s m:Value) (w:World) (hs:RowAt w 4 s ws.length (wcs ws)) (hm:RowAt w 1 m ms.length (ucs ms)) (hok:okSc ws.length ms.length) :
  Calls prog 122 #[.agg #[s,m],.int .u64 (a:Int),.int .u64 (n:Int)] w (RetG w [] (fun r gs=>∃ o,r=.tuple #[o,.int .i64 0]∧ScO ws ms o gs)):=by
 have hs0:=hs
 have hm0:=hm
 obtain ⟨p,c,rfl,_,hc⟩:=hs.form
 obtain ⟨p2,c2,rfl,_,hc2⟩:=hm.form
 have hC:∀ w,Calls prog 84 #[.agg #[.slice p ws.length c,.slice p2 ms.length c2]] w (Ret w (.int .i64 0)):=fun w=>by
  exact dTBxIv
 obtain ⟨hn1,hk1,hk2⟩:=id hok
 refine dQBYDz ?_
 (refine goZ ?_;intro _ _;refine cEv hC ?_)
 refine dQBlKy ?_
 rintro vo gso ⟨s1,m1,g1,g2,rfl,rfl,h1,h2⟩
 have h1':=h1
 have h2':=h2
 unfold wM at h1'
 unfold bM at h2'
 obtain ⟨q1,k1,rfl⟩:=h1'.form
 obtain ⟨q2,k2,rfl⟩:=h2'.form
 exact dTBnfo
theorem growIn_calls (ws:List Nat) (ms:List UInt8) (a n:Nat) (s m:Value) (w:World) (hs:RowAt w 4 s ws.length (wcs ws)) (hm:RowAt w 1 m ms.length (ucs ms)) (hok:okSc ws.length ms.length) (hn:n=0∨a+n≤ms.length) :
  Calls prog 122 #[.agg #[s,m],.int .u64 (a:Int),.int .u64 (n:Int)] w (RetG w [] (fun r gs=>∃ o,r=.tuple #[o,.int .i64 0]∧ScO ws ms o gs)):=by
 rcases yB n with h0|h0
 ·exact grow_zero ws ms a n h0 s m w hs hm hok
 ·exact grow_in ws ms a n s m w hs hm hok h0 (by omega)
theorem cut_zero (ws:List Nat) (ms:List UInt8) (a n:Nat) (h0:n=0) (s m:Value) (w:World) (hs:RowAt w 4 s ws.length (wcs ws)) (hm:RowAt w 1 m ms.length (ucs ms)) (hok:okSc ws.length ms.length) :
  Calls prog 222 #[.agg #[s,m],.int .u64 (a:Int),.int .u64 (n:Int)] w (RetG w [] (CutR ws ms a n)):=by
 obtain ⟨p,c,rfl,_,hc⟩:=id hs.form
 obtain ⟨p2,c2,rfl,_,hc2⟩:=id hm.form
 have hs0:=hs
 have hm0:=hm
 refine enter (args:=[_,_,_]) _ [] [] func222 rfl ntmps222 rfl (by simp) .nil ?_
 (refine goZ ?_;intro _ _)
 (refine crz (c:=fun w hs=>by exact grow_zero ws ms a n h0 _ _ w (hs0.st hs) (hm0.st hs) hok) (k:=?_))
 rintro vo gso ⟨o,rfl,s1,m1,g1,g2,rfl,rfl,h1,h2⟩
 have h1':=h1
 have h2':=h2
 unfold wM at h1'
 unfold bM at h2'
 obtain ⟨q1,k1,rfl⟩:=h1'.form
 obtain ⟨q2,k2,rfl⟩:=h2'.form
 subst h0
 (refine goZ ?_;intro _)
 refine fin (vs:=[.agg #[.slice q1 ws.length k1,.slice q2 ms.length k2],.slice none 0 0,.int .i64 0]) (g2++g1) (.inl rfl) rfl rfl rsZ ?_ ⟨_,_,g2++g1,[],rfl,rfl,⟨_,_,g1,g2,rfl,rfl,h1,h2⟩,by rw [List.take_zero];exact .nil⟩
 exact jK _ (jJ _ _)
theorem cutIn_calls (ws:List Nat) (ms:List UInt8) (a n:Nat) (s m:Value) (w:World) (hs:RowAt w 4 s ws.length (wcs ws)) (hm:RowAt w 1 m ms.length (ucs ms)) (hok:okSc ws.length ms.length) (hn:n=0∨a+n≤ms.length) :
  Calls prog 222 #[.agg #[s,m],.int .u64 (a:Int),.int .u64 (n:Int)] w (RetG w [] (CutR ws ms a n)):=by
 rcases yB n with h0|h0
 ·exact cut_zero ws ms a n h0 s m w hs hm hok
 ·exact cut_in ws ms a n s m w hs hm hok h0 (by omega)
theorem layIn_calls (ws:List Nat) (ms:List UInt8) (a:Nat) (l:List UInt8) (s m v:Value) (w:World) (hs:RowAt w 4 s ws.length (wcs ws)) (hm:RowAt w 1 m ms.length (ucs ms)) (hv:RowAt w 1 v l.length (ucs l)) (hok:okSc ws.length ms.length) (hn:l=[]∨a+l.length≤ms.length) :
  Calls prog 223 #[.agg #[s,m],.int .u64 (a:Int),v] w (RetG w [] (fun r gs=>∃ o,r=.tuple #[o,.int .i64 0]∧ScO ws (layL ms a l) o gs)):=by
 have hs0:=hs
 have hm0:=hm
 have hk1:=hok.2.1
 obtain ⟨p,c,rfl,_,hc⟩:=id hs.form
 obtain ⟨p2,c2,rfl,_,hc2⟩:=id hm.form
 obtain ⟨p3,c3,rfl,_,hc3⟩:=id hv.form
 have hn':l.length=0∨a+l.length≤ms.length:=by
  rcases hn with rfl|h
  ·exact .inl rfl
  ·exact .inr h
 have hll:l.length≤1024:=by omega
 refine enter (args:=[_,_,_]) _ [] [] func223 rfl ntmps223 rfl (by simp) .nil ?_
 (refine goZ ?_;intro _ _)
 (refine crz (c:=fun w hs=>by exact growIn_calls ws ms a l.length _ _ w (hs0.st hs) (hm0.st hs) hok hn') (k:=?_))
 rintro vo gso ⟨o,rfl,s1,m1,g1,g2,rfl,rfl,h1,h2⟩
 have h1':=h1
 have h2':=h2
 unfold wM at h1'
 unfold bM at h2'
 obtain ⟨q1,k1,rfl⟩:=id h1'.form
 obtain ⟨q2,k2,rfl⟩:=id h2'.form
 rcases yB l.length with h0|h0
 ·obtain rfl:=List.length_eq_zero_iff.1 h0
  rw [layL_nil]
  exact dTBnfo
 ·have hal:a+l.length≤ms.length:=by omega
  obtain ⟨gm,cur,rfl,rfl,hn3,hm3,hsz3,htk3⟩:=id (h2'.pos (by omega))
  refine laZ ?_
  (refine goZ ?_;intro _;refine lvz (.cutFrom vF vF rfl rfl (by omega)) ?_;refine goZ ?_)
  have e1:cutAt (some ⟨gm,0,none⟩) a ms.length k2 1=.slice (some ⟨gm,a,none⟩) (ms.length - a) (k2 - a):=by
   unfold cutAt
   rw [if_neg (by omega)]
   simp [Addr.add]
   omega
  rw [e1]
  refine LW.copyAt (cur:=cur) (E':=5) (m:=l.length) (news:=ucs l) rfl rfl vF vF vF rfl rfl (fun w' hst=>hv.st hst) (ucs_cells _) (by omega) (by omega) (by (apply qE;apply qA)) ?_
  (refine goZ ?_)
  have hcl:(cur.toList.take a++ucs l++cur.toList.drop (a+l.length)).length=k2:=by
   have hcs:cur.toList.length=k2:=by rw [Array.length_toList,hsz3,yE]
   simp only [yC,yH,yL,ucs_len,hcs]
   omega
  refine fin (vs:=[.agg #[.slice q1 ws.length k1,.slice (some ⟨gm,0,none⟩) ms.length k2],.int .i64 0]) ([(gm,.cells (cur.toList.take a++ucs l++cur.toList.drop (a+l.length)).toArray 5 (0,0))]++g1) (.inl rfl) rfl rfl rsZ (jK _ (jP _ (jJ _ _))) ⟨_,rfl,_,_,g1,[(gm,_)],rfl,rfl,h1,?_⟩
  unfold bM
  rw [layL_len hn]
  refine .own hn3 hm3 (by rw [List.size_toArray,hcl,yE]) ?_ (by rw [ucs_len,layL_len hn,yE])
  rw [yE] at htk3 ⊢
  show (cur.toList.take a++ucs l++cur.toList.drop (a+l.length)).take ms.length=_
  have hcs:cur.toList.length=k2:=by rw [Array.length_toList,hsz3,yE]
  have e2:ucs (ms.take a)=cur.toList.take a:=by
   have h:=ucs_take ms a
   rw [yE] at h
   rw [← h,← htk3,List.take_take,Nat.min_eq_left (by omega)]
  have e3:ucs (ms.drop (a+l.length))=(cur.toList.drop (a+l.length)).take (ms.length - (a+l.length)):=by
   have h:=ucs_drop ms (a+l.length)
   rw [yE] at h
   rw [← h,← htk3,List.drop_take]
  have e4:(cur.toList.take a++ucs l).length=a+l.length:=by
   rw [yC,ucs_len,yH,hcs]
   omega
  unfold layL
  rw [ucs_app,ucs_app,e2,e3,List.take_append,e4,yI (by rw [e4];omega)]
section
attribute [local irreducible] SL.inP
def CutP (b:Nat) (m:MaV) (l:List UInt8) (gs rest:Fs):Out:=fun x fs'=>∃ v g',x=.returned v∧bM l v g'∧fs'=(b,maO m)::(gs++(g'++rest))
theorem cutM_calls (w0:World) (b:Nat) (m:MaV) (L:FrL) (gs:Fs) (a n:Nat) (hok:okSc L.ws.length L.ms.length) (hn:n=0∨a+n≤L.ms.length) (hfr:FrP m.fr L gs) (rest:Fs) (w:World) (hs:St w0 [] ((b,maO m)::(gs++rest)) w) :
  Calls prog 205 #[.pointer (some ⟨b,0,none⟩),.int .u64 (a:Int),.int .u64 (n:Int)] w (fun x w'=>∃ fs',CutP b m ((L.ms.drop a).take n) gs rest x fs'∧St w0 [] fs' w'):=by
 have h1:∀ w',St w0 [] ((b,maO m)::(gs++rest)) w'→RowAt w' 4 m.fr.stk L.ws.length (wcs L.ws)∧RowAt w' 1 m.fr.mem L.ms.length (ucs L.ms):=fun w' h=>by
  have hr:=hfr.st h fun p hp=>jI _ (yG _ hp)
  exact ⟨hr.s,hr.m⟩
 refine calls_anyO (qX (K:=anyO (CutP b m ((L.ms.drop a).take n) gs rest)) (args:=[_,_,_]) func205 rfl ntmps205 rfl ?_ hs)
 (refine sRz<|vAz<|nSz<|vMz<|vNz<|vFz<|vFz<|ldz rfl .head ma_rd2<|vMz<|vMz ?_)
 (apply LW.callR;rfl;rfl;exact vF;exact .cons rfl (.cons rfl (.cons rfl .nil));intro w hs)
 exact cutIn_calls L.ws L.ms a n _ _ w (h1 w hs).1 (h1 w hs).2 hok hn
 rintro vo gso ⟨o,v,go,gv,rfl,rfl,⟨s1,m1,g1,g2,rfl,rfl,hw1,hb1⟩,hv⟩
 have hw1':=hw1
 have hb1':=hb1
 have hv':=hv
 unfold wM at hw1'
 unfold bM at hb1' hv'
 obtain ⟨q1,k1,rfl⟩:=hw1'.form
 obtain ⟨q2,k2,rfl⟩:=hb1'.form
 obtain ⟨q3,k3,rfl⟩:=hv'.form
 (refine goZ ?_;intro _;refine cEv need_true ?_)
 refine inPI (vs:=[.slice q3 (List.take n (List.drop a L.ms)).length k3]) (.inl rfl) .nil rfl rsZ rfl ⟨_,⟨_,gv,rfl,hv,rfl⟩,?_⟩
 simp only [jR,yA,jQ]
 exact subp_ix [[_],gv,g2,g1,[_],gs] (xs:=[4,5,1]) (ys:=[0,1,2,3,4,5]) rest rfl
def PutP (b:Nat) (m:MaV) (L:FrL) (ms:List UInt8) (rest:Fs):Out:=fun x fs'=>x=.returned (.tuple #[])∧∃ s k gs',FrO (m.fr.setR m.fr.gas s k) (L.setM ms) gs'∧fs'=(b,maO (m.setF (m.fr.setR m.fr.gas s k)))::(gs'++rest)
theorem putM_calls (w0:World) (b:Nat) (m:MaV) (L:FrL) (gs:Fs) (a:Nat) (l:List UInt8) (v:Value) (hok:okSc L.ws.length L.ms.length) (hn:l=[]∨a+l.length≤L.ms.length) (hfr:FrP m.fr L gs) (rest:Fs) (w:World)
  (hv:∀ w',St w0 [] ((b,maO m)::(gs++rest)) w'→RowAt w' 1 v l.length (ucs l)) (hs:St w0 [] ((b,maO m)::(gs++rest)) w) :
  Calls prog 206 #[.pointer (some ⟨b,0,none⟩),.int .u64 (a:Int),v] w (fun x w'=>∃ fs',PutP b m L (layL L.ms a l) rest x fs'∧St w0 [] fs' w'):=by
 have h1:∀ w',St w0 [] ((b,maO m)::(gs++rest)) w'→RowAt w' 4 m.fr.stk L.ws.length (wcs L.ws)∧RowAt w' 1 m.fr.mem L.ms.length (ucs L.ms):=fun w' h=>by
  have hr:=hfr.st h fun p hp=>jI _ (yG _ hp)
  exact ⟨hr.s,hr.m⟩
 obtain ⟨g1,g2,g3,g4,g5,hp,hall⟩:=hfr
 have hP:List.Perm ((b,maO m)::(g1++(g2++(g3++(g4++g5)))++rest)) ((b,maO m)::(gs++rest)):=List.Perm.cons _ (hp.append_right rest)
 replace hs:=hs.perm hP
 replace h1:=fun w' h=>h1 w' (St.perm h hP.symm)
 replace hv:=fun w' h=>hv w' (St.perm h hP.symm)
 refine calls_anyO (qX (K:=anyO (PutP b m L (layL L.ms a l) rest)) (args:=[_,_,_]) func206 rfl ntmps206 rfl ?_ hs)
 (refine sRz<|vMz<|vNz<|vFz<|vFz<|ldz rfl .head ma_rd2<|vMz<|vMz ?_)
 (apply LW.callR;rfl;rfl;exact vF;exact .cons rfl (.cons rfl (.cons rfl .nil));intro w hs)
 exact layIn_calls L.ws L.ms a l _ _ v w (h1 w hs).1 (h1 w hs).2 (hv w hs) hok hn
 rintro vo gso ⟨o,rfl,s1,m1,gg1,gg2,rfl,rfl,hw1,hb1⟩
 have hw1':=hw1
 have hb1':=hb1
 unfold wM at hw1'
 unfold bM at hb1'
 obtain ⟨q1,k1,rfl⟩:=hw1'.form
 obtain ⟨q2,k2,rfl⟩:=hb1'.form
 (refine goZ ?_;intro _;refine cEv need_true ?_;refine zR rfl rfl (.tail (.app .head)) (ma_wr2 rfl rfl rfl rfl) ?_;refine goZ ?_)
 refine inPI (.inr rfl) .nil rfl .nil rfl ⟨_,⟨rfl,.slice q1 L.ws.length k1,.slice q2 (layL L.ms a l).length k2,g1++(gg1++(gg2++(g4++g5))),⟨g1,gg1,gg2,g4,g5,.refl _,hall.1,hw1,hb1,hall.2.2.2.1,hall.2.2.2.2⟩,rfl⟩,?_⟩
 simp only [jR,yA,jQ]
 exact subp_ix [[_],gg2,gg1,[_],g1,g2,g3,g4,g5] (xs:=[3,4,2,1,7,8]) (ys:=[0,1,2,3,4,5,6,7,8]) rest rfl
end
section
open CK (jumpC)
theorem dTBaaI {P:Prop} (h:P:=by
 rename_i bz
 refine qV (fs':=(b,maO m)::(gs++((bz,.cells (wc Z) 29 (0,0))::(gt0,.cells cur 29 (0,0))::rest))) ?_ ?_
 ·exact perm_ix [[_],gs,[_]] (xs:=[0,1,2]) (ys:=[2,0,1]) ((gt0,.cells cur 29 (0,0))::rest) rfl
 refine qO (K:=fun v fs'=>LayP b m L [Z] ((bz,.cells (wc Z) 29 (0,0))::(gt0,.cells cur 29 (0,0))::rest) (.returned v) fs') rfl rfl vF agZ (fun w' hst=>vG (layP_calls w0 [] b m L gs [Z] _ hp.ok (by show 1≤100000;omega) hly hfr _ w' (fun w2 h2=>row_cells (h2.own (bz,_) (jI _ (jT _ jV))).2 rfl rfl (by show 1≤maxLen;decide)) hst) fun x w'' ⟨fs',hk,hst⟩=>⟨_,fs',hk.1,by { have h:=hk;rw [hk.1] at h;exact h },hst⟩) ?_
 rintro v fs' ⟨hv,s,k,gs',hfr',rfl⟩
 cases hv
 (refine goZ ?_)
 refine inPI (.inr rfl) .nil rfl .nil rfl ⟨_,⟨rfl,_,gs',SoD.on (m:=m.setF (m.fr.setR m.fr.gas s k)) (s:=s) (k:=k) hp.kind rfl hfr'.toP,rfl⟩,_,?_,.refl _⟩
 exact jP _ (jL (.cons _ (.cons _ (.refl _))) gs')):P:=h
section rd
variable {P : Program} {T E : TypeId} {fr : Nat × Nat} {m : MaV}
theorem ma_rd11 [AgI P T false]:Rd P T (.cells (mca m) E fr) 11 m.fr.inp:=Rd.one rfl
theorem ma_rd12 [AgI P T false]:Rd P T (.cells (mca m) E fr) 12 m.fr.back:=Rd.one rfl
theorem ma_rd13 [AgI P T false]:Rd P T (.cells (mca m) E fr) 13 (.bool m.fr.stat):=Rd.one rfl
theorem ma_rd7 [AgI P T true] {z:Value} [InfoI P T 4 z]:Rd P T (.cells (mca m) E fr) 7 (wv m.fr.val):=Rd.mid (cs:=(wc m.fr.val).toList) rfl rfl
end rd
theorem took_at {l:List Nat} {t:Value} {gt:Fs} (h:wM l t gt) (h0:0 < l.length):∃ g cur c,t=.slice (some ⟨g,0,none⟩) l.length c∧gt=[(g,.cells cur 29 (0,0))]∧(cur.toList.drop 0).take (l.length * 4)=wcs l:=by
 unfold wM at h
 obtain ⟨q,c,rfl⟩:=id h.form
 obtain ⟨g,cur,rfl,rfl,_,_,_,htk⟩:=h.pos h0
 exact ⟨g,cur,c,rfl,rfl,by rw [yW];exact htk⟩
theorem SoD.on {f g:FrV} {L:FrL} {ws:List Nat} {ms:List UInt8} {m:MaV} {gs:Fs} {s k:Value} (hk:m.kind=0) (hf:m.fr=soF f (soOn g ws ms) s k) (h:FrP m.fr (soL L (soOn g ws ms)) gs):SoD f L (soOn g ws ms) m gs :=
 ⟨s,k,gs,[],[],hf,hk,by simp,h,.inl ⟨rfl,rfl,rfl,rfl⟩⟩
attribute [local irreducible] SL.inP
theorem getD_wlt {l:List Nat} {i:Nat} (h:∀ a∈l,a < M256) (hi:i < l.length):l.getD i 0 < M256:=by
 rw [jU,jO hi]
 exact h _ (List.getElem_mem hi)
theorem isZero_do:DoC 159 21 1 1 (fun f L l=>some (soOn f (L.ws++[if l.getD 0 0=0 then 1 else 0]) L.ms)):=by
 intro w0 b m L l gs gt rest w hT hN hp hop hl hly hfr ht hs
 obtain ⟨gt0,cur,ct,htk,rfl,hcur⟩:=took_at ht (by omega)
 have hrdT:∀ {E fr},Rd prog 23 (.cells (mca m) E fr) 18 (.slice (some ⟨gt0,0,none⟩) l.length ct):=fun {E fr}=>by rw [show Value.slice (some ⟨gt0,0,none⟩) l.length ct=m.took from htk.symm];exact ma_rd18
 have hrdX:Rd prog 29 (.cells cur 29 (0,0)) (0+0 * 4) (wv (l.getD 0 0)):=word_rd hcur 0 (by omega)
 have hx:l.getD 0 0 < M256:=getD_wlt hp.ls (by omega)
 dsimp only
 obtain ⟨x,hxe⟩:∃ x,l.getD 0 0=x:=⟨_,rfl⟩
 rw [hxe] at hrdX hx ⊢
 obtain ⟨Z,hZ⟩:∃ Z,(if x=0 then 1 else 0)=Z:=⟨_,rfl⟩
 have hZ2:(if decide (x=0)=true then 1 else 0)=Z:=by rw [← hZ];by_cases h:x=0<;>simp [h]
 rw [hZ]
 refine calls_anyO (qX (K:=anyO (DoK14 b m.fr L (some (soOn m.fr (L.ws++[Z]) L.ms)) rest)) (args:=[_]) func159 rfl ntmps159 rfl ?_ hs)
 (refine goZ ?_;apply qN;rfl;rfl;exact ValP.buildW0;refine lvz (.eqW rfl rfl (by assumption) (by omega)) ?_;refine cEw (c:=by exact truth_calls _) (k:=?_);intro _)
 rw [hZ2]
 exact dTBaaI
theorem not_do:DoC 160 25 1 1 (fun f L l=>some (soOn f (L.ws++[M256 - 1 - l.getD 0 0]) L.ms)):=by
 intro w0 b m L l gs gt rest w hT hN hp hop hl hly hfr ht hs
 obtain ⟨gt0,cur,ct,htk,rfl,hcur⟩:=took_at ht (by omega)
 have hrdT:∀ {E fr},Rd prog 23 (.cells (mca m) E fr) 18 (.slice (some ⟨gt0,0,none⟩) l.length ct):=fun {E fr}=>by rw [show Value.slice (some ⟨gt0,0,none⟩) l.length ct=m.took from htk.symm];exact ma_rd18
 have hrdX:Rd prog 29 (.cells cur 29 (0,0)) (0+0 * 4) (wv (l.getD 0 0)):=word_rd hcur 0 (by omega)
 have hx:l.getD 0 0 < M256:=getD_wlt hp.ls (by omega)
 dsimp only
 obtain ⟨x,hxe⟩:∃ x,l.getD 0 0=x:=⟨_,rfl⟩
 rw [hxe] at hrdX hx ⊢
 refine calls_anyO (qX (K:=anyO (DoK14 b m.fr L (some (soOn m.fr (L.ws++[M256 - 1 - x]) L.ms)) rest)) (args:=[_]) func160 rfl ntmps160 rfl ?_ hs)
 (refine goZ ?_;refine cEw (c:=by exact Not_calls _ (by assumption)) (k:=?_);intro _)
 obtain ⟨Z,hZ⟩:∃ Z,M256 - 1 - x=Z:=⟨_,rfl⟩
 rw [hZ]
 exact dTBaaI
theorem value_do:DoC 161 52 0 1 (fun f L l=>some (soOn f (L.ws++[f.val]) L.ms)):=by
 intro w0 b m L l gs gt rest w hT hN hp hop hl hly hfr ht hs
 refine calls_anyO (qX (K:=anyO (DoK14 b m.fr L (some (soOn m.fr (L.ws++[m.fr.val]) L.ms)) rest)) (args:=[_]) func161 rfl ntmps161 rfl ?_ hs)
 (refine zL<|vMz<|vMz<|vNz<|vFz<|vFz<|ldz rfl .head ma_rd7 ?_;apply LW.layA;rfl;exact vF;exact vF;rfl;rfl;rfl;rfl;rfl;intro _)
 obtain ⟨Z,hZ⟩:∃ Z,m.fr.val=Z:=⟨_,rfl⟩
 rw [hZ]
 rename_i bz
 refine qV (fs':=(b,maO m)::(gs++((bz,.cells (wc Z) 29 (0,0))::gt++rest))) ?_ ?_
 ·exact perm_ix [[_],gs,[_]] (xs:=[0,1,2]) (ys:=[2,0,1]) (gt++rest) rfl
 refine qO (K:=fun v fs'=>LayP b m L [Z] ((bz,.cells (wc Z) 29 (0,0))::gt++rest) (.returned v) fs') rfl rfl vF agZ (fun w' hst=>vG (layP_calls w0 [] b m L gs [Z] _ hp.ok (by show 1≤100000;omega) hly hfr _ w' (fun w2 h2=>row_cells (h2.own (bz,_) (jI _ (jT _ jV))).2 rfl rfl (by show 1≤maxLen;decide)) hst) fun x w'' ⟨fs',hk,hst⟩=>⟨_,fs',hk.1,by { have h:=hk;rw [hk.1] at h;exact h },hst⟩) ?_
 rintro v fs' ⟨hv,s,k,gs',hfr',rfl⟩
 cases hv
 (refine goZ ?_)
 refine inPI (.inr rfl) .nil rfl .nil rfl ⟨_,⟨rfl,_,gs',SoD.on (m:=m.setF (m.fr.setR m.fr.gas s k)) (s:=s) (k:=k) hp.kind rfl hfr'.toP,rfl⟩,_,?_,.refl _⟩
 exact jP _ (jL (.cons _ (jN _ _)) gs')
theorem SoD.ask {f:FrV} {L:FrL} {o:SO} {m:MaV} {gs g2 g3:Fs} {s k:Value} (h0:o.kind ≠ 0) (hk:m.kind=o.kind) (ho:m.op=o.op) (hf:m.fr=soF f o s k) (h:FrP m.fr (soL L o) gs) (h2:wM o.words m.words g2) (h3:bM o.data m.data g3):SoD f L o m (gs++(g2++g3)) :=
 ⟨s,k,gs,g2,g3,hf,hk,.refl _,h,.inr ⟨h0,ho,h2,h3⟩⟩
theorem bM_nil:bM [] (.slice none 0 0) []:=.nil
theorem wM_nil:wM [] (.slice none 0 0) []:=.nil
theorem wM_sl {l:List Nat} {t:Value} {gt:Fs} (h:wM l t gt):∃ p n c,t=.slice p n c:=by
 unfold wM at h
 obtain ⟨q,c,rfl⟩:=h.form
 exact ⟨_,_,_,rfl⟩
theorem state_do (op:Nat):DoC 171 op 0 0 (fun f L l=>some (stateV op f L l)):=by
 intro w0 b m L l gs gt rest w hT hN hp hop hl hly hfr ht hs
 refine vG (state_calls w0 [] b m _ (wM_sl ht) w hs) ?_
 rintro x w' ⟨fs',⟨rfl,rfl⟩,hst⟩
 refine ⟨(b,maO (m.setAsk 1 m.op m.took (.slice none 0 0)))::((gs++(gt++[]))++rest),⟨rfl,m.setAsk 1 m.op m.took (.slice none 0 0),gs++(gt++[]),SoD.ask (by show (1:Int) ≠ 0;decide) rfl hop rfl hfr ht bM_nil,rfl⟩,?_⟩
 rw [yM,jR]
 exact hst
theorem change_do (op:Nat):DoC 172 op 0 0 (fun f L l=>if f.stat=true then none else some (stateV op f L l)):=by
 intro w0 b m L l gs gt rest w hT hN hp hop hl hly hfr ht hs
 dsimp only
 cases hst0:m.fr.stat with
 |true =>
  have hrd13:∀ {E fr},Rd prog 4 (.cells (mca m) E fr) 13 (.bool true):=fun {E fr}=>by rw [← hst0];exact ma_rd13
  rw [if_pos rfl]
  refine calls_anyO (qX (K:=anyO (DoK14 b m.fr L none rest)) (args:=[_]) func172 rfl ntmps172 rfl ?_ hs)
  (refine goZ ?_)
  refine qP (K:=NeedK ((b,maO m)::(gs++(gt++rest)))) rfl rfl vF agZ rfl (fun fs h=>by cases h.1) (fun w' hst=>need_false w0 [] _ w' hst) ?_ ?_
  ·rintro v fs' ⟨h,_⟩
   cases h
  ·rintro ch fs' ⟨h,rfl⟩
   cases h
   refine thenP ?_
   exact inPP .nil ⟨rest,⟨rfl,rfl⟩,_,jK _ ((jN _ _).trans (jN _ _)),.refl _⟩
 |false =>
  have hrd13:∀ {E fr},Rd prog 4 (.cells (mca m) E fr) 13 (.bool false):=fun {E fr}=>by rw [← hst0];exact ma_rd13
  rw [if_neg (by decide)]
  refine calls_anyO (qX (K:=anyO (DoK14 b m.fr L (some (stateV op m.fr L l)) rest)) (args:=[_]) func172 rfl ntmps172 rfl ?_ hs)
  (refine goZ ?_;refine cEv need_true ?_)
  refine qO (K:=fun v fs'=>DoK14 b m.fr L (some (stateV op m.fr L l)) rest (.returned v) fs') rfl rfl vF agZ (fun w' hst=>vG (state_do op w0 b m L l gs gt rest w' hT hN hp hop hl hly hfr ht hst) fun x w'' ⟨fs',hk,hst⟩=>⟨_,fs',hk.1,by { have h:=hk;rw [hk.1] at h;exact h },hst⟩) ?_
  rintro v fs' ⟨hv,hk⟩
  cases hv
  (refine goZ ?_)
  exact inPI (.inr rfl) .nil rfl .nil rfl ⟨_,⟨rfl,hk⟩,_,.refl _,.refl _⟩
theorem stop_do:DoC 174 0 0 0 (fun f L l=>some ⟨3,0,f.gas,f.pc,L.ws,L.ms,[],[]⟩):=by
 intro w0 b m L l gs gt rest w hT hN hp hop hl hly hfr ht hs
 refine calls_anyO (qX (K:=anyO (DoK14 b m.fr L (some ⟨3,0,m.fr.gas,m.fr.pc,L.ws,L.ms,[],[]⟩) rest)) (args:=[_]) func174 rfl ntmps174 rfl ?_ hs)
 refine dQBCPV ?_
 refine inPI (.inr rfl) .nil rfl .nil rfl ⟨(b,maO (m.setAsk 3 0 (.slice none 0 0) (.slice none 0 0)))::((gs++([]++[]))++rest),⟨rfl,m.setAsk 3 0 (.slice none 0 0) (.slice none 0 0),gs++([]++[]),SoD.ask (by show (3:Int) ≠ 0;decide) rfl rfl rfl hfr wM_nil bM_nil,rfl⟩,_,?_,.refl _⟩
 refine jP _ ?_
 rw [yM,yM]
 exact jL (jN _ _) gs
end
section
open CK (jumpC)
theorem dTBIWx {P:Prop} (h:P:=by
 refine qP (K:=NeedK ((b,maO m)::(gs++((gt0,.cells cur 29 (0,0))::rest)))) rfl rfl vF agZ rfl (fun fs h=>by cases h.1) (fun w' hst=>need_false w0 [] _ w' hst) ?_ ?_
 ·rintro v fs' ⟨h,_⟩
  cases h
 ·rintro ch fs' ⟨h,rfl⟩
  cases h
  refine thenP ?_
  exact inPP .nil ⟨rest,⟨rfl,rfl⟩,_,jK _ ((jK _ (.refl _)).trans (jN _ _)),.refl _⟩):P:=h
theorem dTBmAb {P:Prop} (h:P:=by
 rintro v fs' hk
 obtain rfl:=hk.ret
 (refine goZ ?_)
 exact inPI (.inr rfl) .nil rfl .nil rfl ⟨_,hk,_,.refl _,.refl _⟩):P:=h
attribute [local irreducible] SL.inP
theorem dataLoad_do:DoC 162 53 1 1 (fun f L l=>some (soOn f (L.ws++[bev (winL L.il (l.getD 0 0) 32)]) L.ms)):=by
 intro w0 b m L l gs gt rest w hT hN hp hop hl hly hfr ht hs
 obtain ⟨gt0,cur,ct,htk,rfl,hcur⟩:=took_at ht (by omega)
 replace hs:St w0 [] ((b,maO m)::(gs++((gt0,.cells cur 29 (0,0))::rest))) w:=hs
 have hrdT:∀ {E fr},Rd prog 23 (.cells (mca m) E fr) 18 (.slice (some ⟨gt0,0,none⟩) l.length ct):=fun {E fr}=>by rw [show Value.slice (some ⟨gt0,0,none⟩) l.length ct=m.took from htk.symm];exact ma_rd18
 have hrdX:Rd prog 29 (.cells cur 29 (0,0)) (0+0 * 4) (wv (l.getD 0 0)):=word_rd hcur 0 (by omega)
 have hx:l.getD 0 0 < M256:=getD_wlt hp.ls (by omega)
 dsimp only
 obtain ⟨x,hxe⟩:∃ x,l.getD 0 0=x:=⟨_,rfl⟩
 rw [hxe] at hrdX hx ⊢
 have hwl:(winL L.il x 32).length≤32:=by rw [winL_len];exact yD _
 obtain ⟨Z,hZ⟩:∃ Z,bev (winL L.il x 32)=Z:=⟨_,rfl⟩
 rw [hZ]
 obtain ⟨g1,g2,g3,g4,g5,hpm,hall⟩:=id hfr
 have r4:=hall.2.2.2.1
 unfold bM at r4
 obtain ⟨q4,k4,hi⟩:=id r4.form
 rw [hi] at r4
 have hrdI:∀ {E fr},Rd prog 22 (.cells (mca m) E fr) 11 (.slice q4 L.il.length k4):=fun {E fr}=>by rw [← hi];exact ma_rd11
 obtain ⟨us4,hbl4,hin4,hrows4⟩:=rowU_own r4
 have hin4':∀ p∈us4,p∈gs:=fun p h=>hpm.subset (by have h2:=hin4 p h;simp [h2])
 refine calls_anyO (qX (K:=anyO (DoK14 b m.fr L (some (soOn m.fr (L.ws++[Z]) L.ms)) rest)) (args:=[_]) func162 rfl ntmps162 rfl ?_ hs)
 skip
 apply CW.pre
 (refine qY [(12,bM (winL L.il x 32))] 15 mixed (by decide +kernel) ?_)
 (refine tsZ ?_)
 refine DW.manyA us4 rfl rfl rfl (by (exact zC)) rfl vF agZ (by rw [yJ,hbl4];exact yM _) (fun p hp=>AncT.lie (by (refine AncT.cons ?_ ?_;exact zN;refine AncT.app ?_ ?_;exact AncT.tsOf;refine AncT.cons ?_ ?_;exact zN;exact AncT.tsOf)) (by have hp:=hin4' p hp;simp [fsOf,tsOf,tsNew,tsTag,markAll,Function.comp_def,hp])) (fun w _ hu=>window_calls L.il x 32 (by omega) hx (by have:=hp.il;omega) _ w (hrows4 w hu)) ?_
 intro vD gD hD
 have hD':=hD
 obtain ⟨q5,k5,rfl⟩:=id (IsRow.form hD')
 obtain ⟨us5,hbl5,hin5,hrows5⟩:=rowU_own hD'
 (try simp only [markAll_cons,markAll_app,markAll_tsOf,markAll_tag,markAll_new,markAll_nil])
 (refine tsZ ?_)
 refine DW.callA us5 (v:=wv Z) rfl rfl rfl (by (exact zC)) rfl vF agZ (by rw [yJ,hbl5];exact yM _) (fun p hp=>AncT.lie (by (refine AncT.app ?_ ?_;refine AncT.new ?_;kernel_rfl;refine AncT.cons ?_ ?_;exact zN;refine AncT.app ?_ ?_;refine AncT.tag ?_;exact zN;refine AncT.cons ?_ ?_;exact zN;refine AncT.tag ?_;exact zN)) (by have hp:=hin5 p hp;simp [fsOf,tsOf,tsNew,tsTag,markAll,Function.comp_def,hp])) (fun w _ hu=>by rw [← hZ];exact number_calls _ _ hwl w (hrows5 w hu)) ?_
 (try simp only [markAll_cons,markAll_app,markAll_tsOf,markAll_tag,markAll_new,markAll_nil])
 (refine tsZ ?_;apply DW.layA;rfl;rfl;rfl;exact zC;exact vF;exact vF;rfl;rfl;rfl;rfl;rfl;intro _;refine goZ ?_)
 refine fsZ ?_
 skip
 rename_i bz
 refine qV (fs':=(b,maO m)::(gs++((bz,.cells (wc Z) 29 (0,0))::gD++(gt0,.cells cur 29 (0,0))::rest))) ?_ ?_
 ·exact perm_ix [[_],gs,[_],gD] (xs:=[0,1,2,3]) (ys:=[2,3,0,1]) (_::rest) rfl
 refine qO (K:=fun v fs'=>LayP b m L [Z] ((bz,.cells (wc Z) 29 (0,0))::gD++(gt0,.cells cur 29 (0,0))::rest) (.returned v) fs') rfl rfl vF agZ (fun w' hst=>vG (layP_calls w0 [] b m L gs [Z] _ hp.ok (by show 1≤100000;omega) hly hfr _ w' (fun w2 h2=>row_cells (h2.own (bz,_) (jI _ (jT _ jV))).2 rfl rfl (by show 1≤maxLen;decide)) hst) fun x w'' ⟨fs',hk,hst⟩=>⟨_,fs',hk.1,by { have h:=hk;rw [hk.1] at h;exact h },hst⟩) ?_
 rintro v fs' ⟨hv,s,k,gs',hfr',rfl⟩
 cases hv
 (refine goZ ?_)
 refine inPI (.inr rfl) .nil rfl .nil rfl ⟨_,⟨rfl,_,gs',SoD.on (m:=m.setF (m.fr.setR m.fr.gas s k)) (s:=s) (k:=k) hp.kind rfl hfr'.toP,rfl⟩,_,?_,.refl _⟩
 exact jP _ (jL (.cons _ ((jK _ (.refl _)).trans (jN gD _))) gs')
theorem DoK14.ret {b:Nat} {f:FrV} {L:FrL} {o:Option SO} {rest:Fs} {v:Value} {fs:Fs} (h:DoK14 b f L o rest (.returned v) fs):v=.tuple #[]:=by
 cases o with
 |none=>cases h.1
 |some o=>exact Ending.returned.inj h.1
theorem DoK14.pan {b:Nat} {f:FrV} {L:FrL} {o:Option SO} {rest:Fs} {ch:List PanicEntry} {fs:Fs} (h:DoK14 b f L o rest (.panicked ch) fs):ch=failC:=by
 cases o with
 |none=>exact Ending.panicked.inj h.1
 |some o=>cases h.1
theorem DoK14.plain {b:Nat} {f:FrV} {L:FrL} {o:Option SO} {rest:Fs}:(DoK14 b f L o rest).plain:=fun fs h=>by
 cases o<;>cases h.1
theorem SoD.jump {m:MaV} {L:FrL} {gs:Fs} {x:Nat} (hk:m.kind=0) (h:FrP m.fr L gs):SoD m.fr L (soOn { m.fr with pc:=(x:Int) } L.ws L.ms) (m.setF (m.fr.setPc (x:Int))) gs :=
 SoD.on (m:=m.setF (m.fr.setPc (x:Int))) (s:=m.fr.stk) (k:=m.fr.mem) hk rfl h
theorem jumpC_lt {bs:List UInt8} {n:Nat} (h:jumpC bs n=true):n < 200:=by
 unfold CK.jumpC at h
 rw [yQ] at h
 exact of_decide_eq_true h.1
theorem jump_do (op:Nat):DoC 169 op 1 0 (fun f L l=>jumpV f L (l.getD 0 0)):=by
 intro w0 b m L l gs gt rest w hT hN hp hop hl hly hfr ht hs
 obtain ⟨gt0,cur,ct,htk,rfl,hcur⟩:=took_at ht (by omega)
 replace hs:St w0 [] ((b,maO m)::(gs++((gt0,.cells cur 29 (0,0))::rest))) w:=hs
 have hrdT:∀ {E fr},Rd prog 23 (.cells (mca m) E fr) 18 (.slice (some ⟨gt0,0,none⟩) l.length ct):=fun {E fr}=>by rw [show Value.slice (some ⟨gt0,0,none⟩) l.length ct=m.took from htk.symm];exact ma_rd18
 have hrdX:Rd prog 29 (.cells cur 29 (0,0)) (0+0 * 4) (wv (l.getD 0 0)):=word_rd hcur 0 (by omega)
 have hx:l.getD 0 0 < M256:=getD_wlt hp.ls (by omega)
 dsimp only
 obtain ⟨x,hxe⟩:∃ x,l.getD 0 0=x:=⟨_,rfl⟩
 rw [hxe] at hrdX hx ⊢
 obtain ⟨g1,g2,g3,g4,g5,hpm,hall⟩:=id hfr
 have r1:=hall.1
 unfold bM at r1
 obtain ⟨q1,k1,hi⟩:=id r1.form
 rw [hi] at r1
 have hrdC:∀ {E fr},Rd prog 22 (.cells (mca m) E fr) 0 (.slice q1 L.cl.length k1):=fun {E fr}=>by rw [← hi];exact ma_rd0
 have hSm0:=Small_calls x hx
 unfold jumpV
 by_cases hx64:x < 18446744073709551616
 ·rw [if_pos hx64,vE hx64] at hSm0
  have hSm:∀ w,Calls prog 116 #[wv x] w (Ret w (.tuple #[.int .u64 (x:Int),.bool true])):=hSm0
  have hJ0:∀ w' {fs:Fs},St w0 [] ((b,maO m)::(gs++fs)) w'→Calls prog 209 #[.slice q1 L.cl.length k1,.int .u64 (x:Int)] w' (Ret w' (.bool (jumpC L.cl x))):=fun w' fs hst=>by
   have h:=(hfr.st hst fun p hp=>jI _ (yG _ hp)).c
   rw [hi] at h
   exact CK.Jump_calls L.cl x hx64 _ w' h
  cases hj:jumpC L.cl x with
  |true =>
   have hJ:∀ w' {fs:Fs},St w0 [] ((b,maO m)::(gs++fs)) w'→Calls prog 209 #[.slice q1 L.cl.length k1,.int .u64 (x:Int)] w' (Ret w' (.bool true)):=fun w' fs hst=>hj ▸ hJ0 w' hst
   have hx200:=jumpC_lt hj
   rw [if_pos ⟨hx64,rfl⟩]
   refine calls_anyO (qX (K:=anyO (DoK14 b m.fr L (some (soOn { m.fr with pc:=(x:Int) } L.ws L.ms)) rest)) (args:=[_]) func169 rfl ntmps169 rfl ?_ hs)
   (refine goZ ?_;refine cEv hSm ?_;refine cEz (c:=fun w hst=>by exact hJ w hst) (k:=?_);refine cEv need_true ?_;apply zR;rfl;rfl;apply qA;apply ma_wr1 (z:=.int .i64 0);refine goZ ?_)
   refine inPI (.inr rfl) .nil rfl .nil rfl ⟨_,⟨rfl,_,gs,SoD.jump hp.kind hfr,rfl⟩,_,?_,.refl _⟩
   exact jP _ (jL (.cons _ (.refl _)) gs)
  |false =>
   have hJ:∀ w' {fs:Fs},St w0 [] ((b,maO m)::(gs++fs)) w'→Calls prog 209 #[.slice q1 L.cl.length k1,.int .u64 (x:Int)] w' (Ret w' (.bool false)):=fun w' fs hst=>hj ▸ hJ0 w' hst
   rw [if_neg (fun h=>by cases h.2)]
   refine calls_anyO (qX (K:=anyO (DoK14 b m.fr L none rest)) (args:=[_]) func169 rfl ntmps169 rfl ?_ hs)
   (refine goZ ?_;refine cEv hSm ?_;refine cEz (c:=fun w hst=>by exact hJ w hst) (k:=?_))
   exact dTBIWx
 ·rw [if_neg hx64,vA hx64] at hSm0
  have hSm:∀ w,Calls prog 116 #[wv x] w (Ret w (.tuple #[.int .u64 ((0:Nat):Int),.bool false])):=hSm0
  rw [if_neg (fun h=>hx64 h.1)]
  refine calls_anyO (qX (K:=anyO (DoK14 b m.fr L none rest)) (args:=[_]) func169 rfl ntmps169 rfl ?_ hs)
  (refine goZ ?_;refine cEv hSm ?_)
  exact dTBIWx
theorem jumpIf_do:DoC 170 87 2 0 (fun f L l=>if l.getD 1 0=0 then some (soOn f L.ws L.ms) else jumpV f L (l.getD 0 0)):=by
 intro w0 b m L l gs gt rest w hT hN hp hop hl hly hfr ht hs
 obtain ⟨gt0,cur,ct,htk,hgt,hcur⟩:=took_at ht (by omega)
 have hrdT:∀ {E fr},Rd prog 23 (.cells (mca m) E fr) 18 (.slice (some ⟨gt0,0,none⟩) l.length ct):=fun {E fr}=>by rw [show Value.slice (some ⟨gt0,0,none⟩) l.length ct=m.took from htk.symm];exact ma_rd18
 have hrdY:Rd prog 29 (.cells cur 29 (0,0)) (0+1 * 4) (wv (l.getD 1 0)):=word_rd hcur 1 (by omega)
 dsimp only
 obtain ⟨y,hye⟩:∃ y,l.getD 1 0=y:=⟨_,rfl⟩
 have hy:y < M256:=hye ▸ getD_wlt hp.ls (by omega)
 rw [hye] at hrdY ⊢
 have hs1:=hs
 rw [hgt] at hs1
 replace hs1:St w0 [] ((b,maO m)::(gs++((gt0,.cells cur 29 (0,0))::rest))) w:=hs1
 by_cases h0:y=0
 ·rw [if_pos h0]
  refine calls_anyO (qX (K:=anyO (DoK14 b m.fr L (some (soOn m.fr L.ws L.ms)) rest)) (args:=[_]) func170 rfl ntmps170 rfl ?_ hs1)
  (refine goZ ?_;apply qN;rfl;rfl;exact ValP.buildW0;refine lvz (.neWF rfl rfl (by assumption)) ?_;refine goZ ?_)
  refine inPI (.inr rfl) .nil rfl .nil rfl ⟨_,⟨rfl,m,gs,SoD.on (s:=m.fr.stk) (k:=m.fr.mem) hp.kind rfl hfr,rfl⟩,_,?_,.refl _⟩
  exact jP _ (jL (.cons _ (.refl _)) gs)
 ·rw [if_neg h0]
  refine calls_anyO (qX (K:=anyO (DoK14 b m.fr L (jumpV m.fr L (l.getD 0 0)) rest)) (args:=[_]) func170 rfl ntmps170 rfl ?_ hs1)
  (refine goZ ?_;apply qN;rfl;rfl;exact ValP.buildW0;refine lvz (.neWT rfl rfl (by assumption) (by omega) (by assumption)) ?_;refine goZ ?_)
  refine qP (K:=DoK14 b m.fr L (jumpV m.fr L (l.getD 0 0)) rest) rfl rfl vF agZ rfl DoK14.plain (fun w' hst=>jump_do 87 w0 b m L l gs gt rest w' hT hN { hp with } hop (by omega) hly hfr ht (by rw [hgt];exact hst)) ?_ ?_
  ·exact dTBmAb
  ·rintro ch fs' hk
   obtain rfl:=hk.pan
   exact inPP .nil ⟨_,hk,_,.refl _,.refl _⟩
end
section
theorem dQBKoK {P Q:Prop} (k:Q) (h:BoxZ Q→P:=by
 intro kQ
 (refine goZ ?_)
 apply CW.pre
 refine AnyW.mid 13 1 mixed (by decide +kernel) ?_
 (refine tsZ ?_)
 exact kQ.k):P:=h ⟨k⟩
theorem dQBZke {P Q:Prop} (k:Q) (h:BoxZ Q→P:=by
 intro kQ
 (refine goZ ?_)
 apply CW.pre
 refine AnyW.mid 8 1 mixed (by decide +kernel) ?_
 (refine tsZ ?_;refine dcz (c:=fun w _ _=>by exact Of_calls 32 (by decide) w) (k:=?_))
 exact kQ.k):P:=h ⟨k⟩
attribute [local irreducible] SL.inP
theorem store_do:DoC 166 82 2 0 (fun f L l=>storeV f L (l.getD 0 0) 32 (beb 32 (l.getD 1 0))):=by
 intro w0 b m L l gs gt rest w hT hN hp hop hl hly hfr ht hs
 obtain ⟨gt0,cur,ct,htk,rfl,hcur⟩:=took_at ht (by omega)
 replace hs:St w0 [] ((b,maO m)::(gs++((gt0,.cells cur 29 (0,0))::rest))) w:=hs
 have hrdT:∀ {m':MaV} {E fr},m'.took=m.took→Rd prog 23 (.cells (mca m') E fr) 18 (.slice (some ⟨gt0,0,none⟩) l.length ct):=fun {m' E fr} he=>by rw [show Value.slice (some ⟨gt0,0,none⟩) l.length ct=m'.took from htk.symm.trans he.symm];exact ma_rd18
 have hrdx:Rd prog 29 (.cells cur 29 (0,0)) (0+0 * 4) (wv (l.getD 0 0)):=word_rd hcur 0 (by omega)
 have hx:l.getD 0 0 < M256:=getD_wlt hp.ls (by omega)
 have hrdy:Rd prog 29 (.cells cur 29 (0,0)) (0+1 * 4) (wv (l.getD 1 0)):=word_rd hcur 1 (by omega)
 have hy:l.getD 1 0 < M256:=getD_wlt hp.ls (by omega)
 dsimp only
 obtain ⟨x,hxe⟩:∃ x,l.getD 0 0=x:=⟨_,rfl⟩
 rw [hxe] at hrdx hx ⊢
 obtain ⟨y,hye⟩:∃ y,l.getD 1 0=y:=⟨_,rfl⟩
 rw [hye] at hrdy hy ⊢
 refine calls_anyO (qX (K:=anyO (DoK14 b m.fr L (storeV m.fr L x 32 (beb 32 y)) rest)) (args:=[_]) func166 rfl ntmps166 rfl ?_ hs)
 refine dQBZke ?_
 refine qP (K:=ReachP b m L x 32 ((gt0,.cells cur 29 (0,0))::rest)) rfl rfl vF agZ rfl (fun fs h=>by rcases h with ⟨_,h,_⟩|⟨_,_,_,_,h,_⟩<;>cases h) (fun w' hst=>reachP_calls w0 [] b m L gs x 32 hx (by decide) hp.ok hp.gas hfr _ w' hst) ?_ ?_
 ·rintro v fs' (⟨_,h,_⟩|⟨hc,s,k,gs',h,hfr',rfl⟩)
  ·cases h
  cases h
  obtain ⟨hok1,hin⟩:=reach_in hp.gas hp.ok hc
  have hrea:reaV m.fr L x 32=some (m.fr.setG (m.fr.gas - costR L x 32),(memR L x 32).ms):=by unfold reaV;exact if_pos hc
  obtain ⟨m1,hm1⟩:∃ m1,m.setF (frR m.fr L x 32 s k)=m1:=⟨_,rfl⟩
  rw [hm1]
  have hf1:m1.fr=frR m.fr L x 32 s k:=by rw [← hm1];rfl
  have hk1:m1.kind=0:=by rw [← hm1];exact hp.kind
  have ht1:m1.took=m.took:=by rw [← hm1];rfl
  have ho1:m1.op=m.op:=by rw [← hm1];rfl
  have hg1:m1.fr.gas≤20000:=by rw [hf1];show m.fr.gas - _≤20000;have:=hp.gas;omega
  rw [← hf1] at hfr'
  apply zV
  refine midN ?_
  ((try simp only [tsOf_cons,tsOf_nil,tsOf_app]);refine dvz (.move rfl) ?_;refine dvz (.extractN rfl rfl) ?_;refine dvz (.extractN rfl rfl) ?_;refine dvz (.assign rfl)<|dvz (.assign rfl) ?_;apply DW.nil;simp only [fsOf_cons,fsOf_nil,fsOf_app,fsOf_tsOf,fsOf_new,fsOf_tag,fsOf_mark])
  refine fsZ ?_
  rw [show storeV m.fr L x 32 (beb 32 y)=some (soOn (m.fr.setG (m.fr.gas - costR L x 32)) L.ws (layL (memR L x 32).ms x (beb 32 y))) by unfold storeV;rw [hrea];rfl]
  rw [show (if (32:Nat)=0 then 0 else x)=x from if_neg (by decide)]
  (refine nNz<|zL<|vMz<|vMz<|vMz<|vNz<|vFz<|ldz rfl .head (hrdT ht1) ?_;refine lvz (.indexAddrSL rfl rfl (by decide) (by omega)) ?_;refine ldz rfl (.tail (.app .head)) hrdy ?_)
  (refine crz (c:=fun w hs=>by exact Bytes_calls y hy w) (k:=?_))
  rintro vB gB hB
  obtain ⟨qB,kB,rfl⟩:=id (IsRow.form hB)
  skip
  refine qV (fs':=(b,maO m1)::(gs'++(gB++(gt0,.cells cur 29 (0,0))::rest))) (perm_ix [gB,[_],gs'] (xs:=[1,2,0]) (ys:=[0,1,2]) ((gt0,.cells cur 29 (0,0))::rest) rfl) ?_
  refine qO (K:=fun v fs'=>PutP b m1 (memR L x 32) (layL (memR L x 32).ms x (beb 32 y)) (gB++(gt0,.cells cur 29 (0,0))::rest) (.returned v) fs') rfl rfl vF agZ (fun w' hst=>vG (putM_calls w0 b m1 (memR L x 32) gs' x (beb 32 y) _ hok1 (.inr (by rw [beb_len];exact hin (by decide))) hfr' _ w' (fun w2 h2=>by have h:=IsRow.us hB (us:=gB) (w:=w2) (fun p hp=>(h2.own p (jI _ (jT _ (yG _ hp)))).2) (jG _);rw [beb_len];exact h) hst) fun x w'' ⟨fs',hk,hst⟩=>⟨_,fs',hk.1,by { have h:=hk;rw [hk.1] at h;exact h },hst⟩) ?_
  rintro v fs' ⟨hv,s2,k2,gs2,hfr2,rfl⟩
  cases hv
  (refine goZ ?_)
  refine inPI (.inr rfl) .nil rfl .nil rfl ⟨_,⟨rfl,m1.setF (m1.fr.setR m1.fr.gas s2 k2),gs2,SoD.on (m:=m1.setF (m1.fr.setR m1.fr.gas s2 k2)) (s:=s2) (k:=k2) hk1 (by show m1.fr.setR m1.fr.gas s2 k2=_;rw [hf1];rfl) (by have h:=hfr2.toP;exact h),rfl⟩,_,?_,.refl _⟩
  exact jP _ (jL ((jK _ (.refl _)).trans (jN gB _)) gs2)
 ·rintro ch fs' (⟨hc,h,rfl⟩|⟨_,_,_,_,h,_⟩)
  ·cases h
   have hrea:reaV m.fr L x 32=none:=by unfold reaV;exact if_neg (Nat.not_le.2 hc)
   rw [show storeV m.fr L x 32 (beb 32 y)=none by unfold storeV;rw [hrea];rfl]
   refine midP ?_
   refine thenP ?_
   exact inPP .nil ⟨rest,⟨rfl,rfl⟩,_,jK _ (.refl _),.refl _⟩
  ·cases h
theorem store8_do:DoC 167 83 2 0 (fun f L l=>storeV f L (l.getD 0 0) 1 ((beb 32 (l.getD 1 0)).drop 31)):=by
 intro w0 b m L l gs gt rest w hT hN hp hop hl hly hfr ht hs
 obtain ⟨gt0,cur,ct,htk,rfl,hcur⟩:=took_at ht (by omega)
 replace hs:St w0 [] ((b,maO m)::(gs++((gt0,.cells cur 29 (0,0))::rest))) w:=hs
 have hrdT:∀ {m':MaV} {E fr},m'.took=m.took→Rd prog 23 (.cells (mca m') E fr) 18 (.slice (some ⟨gt0,0,none⟩) l.length ct):=fun {m' E fr} he=>by rw [show Value.slice (some ⟨gt0,0,none⟩) l.length ct=m'.took from htk.symm.trans he.symm];exact ma_rd18
 have hrdx:Rd prog 29 (.cells cur 29 (0,0)) (0+0 * 4) (wv (l.getD 0 0)):=word_rd hcur 0 (by omega)
 have hx:l.getD 0 0 < M256:=getD_wlt hp.ls (by omega)
 have hrdy:Rd prog 29 (.cells cur 29 (0,0)) (0+1 * 4) (wv (l.getD 1 0)):=word_rd hcur 1 (by omega)
 have hy:l.getD 1 0 < M256:=getD_wlt hp.ls (by omega)
 dsimp only
 obtain ⟨x,hxe⟩:∃ x,l.getD 0 0=x:=⟨_,rfl⟩
 rw [hxe] at hrdx hx ⊢
 obtain ⟨y,hye⟩:∃ y,l.getD 1 0=y:=⟨_,rfl⟩
 rw [hye] at hrdy hy ⊢
 refine calls_anyO (qX (K:=anyO (DoK14 b m.fr L (storeV m.fr L x 1 ((beb 32 y).drop 31)) rest)) (args:=[_]) func167 rfl ntmps167 rfl ?_ hs)
 (refine goZ ?_)
 apply CW.pre
 refine AnyW.mid 8 1 mixed (by decide +kernel) ?_
 (refine tsZ ?_;refine dcz (c:=fun w _ _=>by exact Of_calls 1 (by decide) w) (k:=?_))
 refine qP (K:=ReachP b m L x 1 ((gt0,.cells cur 29 (0,0))::rest)) rfl rfl vF agZ rfl (fun fs h=>by rcases h with ⟨_,h,_⟩|⟨_,_,_,_,h,_⟩<;>cases h) (fun w' hst=>reachP_calls w0 [] b m L gs x 1 hx (by decide) hp.ok hp.gas hfr _ w' hst) ?_ ?_
 ·rintro v fs' (⟨_,h,_⟩|⟨hc,s,k,gs',h,hfr',rfl⟩)
  ·cases h
  cases h
  obtain ⟨hok1,hin⟩:=reach_in hp.gas hp.ok hc
  have hrea:reaV m.fr L x 1=some (m.fr.setG (m.fr.gas - costR L x 1),(memR L x 1).ms):=by unfold reaV;exact if_pos hc
  obtain ⟨m1,hm1⟩:∃ m1,m.setF (frR m.fr L x 1 s k)=m1:=⟨_,rfl⟩
  rw [hm1]
  have hf1:m1.fr=frR m.fr L x 1 s k:=by rw [← hm1];rfl
  have hk1:m1.kind=0:=by rw [← hm1];exact hp.kind
  have ht1:m1.took=m.took:=by rw [← hm1];rfl
  have ho1:m1.op=m.op:=by rw [← hm1];rfl
  have hg1:m1.fr.gas≤20000:=by rw [hf1];show m.fr.gas - _≤20000;have:=hp.gas;omega
  rw [← hf1] at hfr'
  apply zV
  refine midN ?_
  ((try simp only [tsOf_cons,tsOf_nil,tsOf_app]);refine dvz (.move rfl) ?_;refine dvz (.extractN rfl rfl) ?_;refine dvz (.extractN rfl rfl) ?_;refine dvz (.assign rfl)<|dvz (.assign rfl) ?_;apply DW.nil;simp only [fsOf_cons,fsOf_nil,fsOf_app,fsOf_tsOf,fsOf_new,fsOf_tag,fsOf_mark])
  refine fsZ ?_
  rw [show storeV m.fr L x 1 ((beb 32 y).drop 31)=some (soOn (m.fr.setG (m.fr.gas - costR L x 1)) L.ws (layL (memR L x 1).ms x ((beb 32 y).drop 31))) by unfold storeV;rw [hrea];rfl]
  rw [show (if (1:Nat)=0 then 0 else x)=x from if_neg (by decide)]
  (refine nNz<|zL<|vMz<|vMz<|vMz<|vNz<|vFz<|ldz rfl .head (hrdT ht1) ?_;refine lvz (.indexAddrSL rfl rfl (by decide) (by omega)) ?_;refine ldz rfl (.tail (.app .head)) hrdy ?_)
  (refine crz (c:=fun w hs=>by exact Bytes_calls y hy w) (k:=?_))
  rintro vB gB hB
  obtain ⟨qB,kB,rfl⟩:=id (IsRow.form hB)
  obtain ⟨gbb,curB,rfl,rfl,hnB,hmB,hszB,htkB⟩:=id (hB.pos (by omega))
  (refine lvz (.cutFromL vF vF rfl rfl (by decide) (by omega)) ?_)
  have hcb:cutAt (some ⟨gbb,0,none⟩) 31 32 kB 1=.slice (some ⟨gbb,31,none⟩) 1 (kB - 31):=by
   unfold cutAt
   rw [if_neg (by omega)]
   simp [Addr.add]
  have hrowB:∀ w2:World,w2.heap[gbb]?=some (.cells curB 5 (0,0))→RowAt w2 1 (.slice (some ⟨gbb,31,none⟩) 1 (kB - 31)) ((beb 32 y).drop 31).length (ucs ((beb 32 y).drop 31)):=fun w2 h=>by
   have h1:=(IsRow.us hB (fun p hp=>by obtain rfl:=List.mem_singleton.1 hp;exact h) (jG _)).drop (k:=31) (by omega)
   rw [hcb,ucs_drop] at h1
   have e:((beb 32 y).drop 31).length=1:=by rw [yL,beb_len]
   rw [e]
   exact h1
  try rw [hcb]
  refine qV (fs':=(b,maO m1)::(gs'++((gbb,.cells curB 5 (0,0))::(gt0,.cells cur 29 (0,0))::rest))) (perm_ix [[_],[_],gs'] (xs:=[1,2,0]) (ys:=[0,1,2]) ((gt0,.cells cur 29 (0,0))::rest) rfl) ?_
  refine qO (K:=fun v fs'=>PutP b m1 (memR L x 1) (layL (memR L x 1).ms x ((beb 32 y).drop 31)) ((gbb,.cells curB 5 (0,0))::(gt0,.cells cur 29 (0,0))::rest) (.returned v) fs') rfl rfl vF agZ (fun w' hst=>vG (putM_calls w0 b m1 (memR L x 1) gs' x ((beb 32 y).drop 31) _ hok1 (.inr (by rw [yL,beb_len];exact hin (by decide))) hfr' _ w' (fun w2 h2=>hrowB w2 (h2.own _ (jI _ (jT _ jV))).2) hst) fun x w'' ⟨fs',hk,hst⟩=>⟨_,fs',hk.1,by { have h:=hk;rw [hk.1] at h;exact h },hst⟩) ?_
  rintro v fs' ⟨hv,s2,k2,gs2,hfr2,rfl⟩
  cases hv
  (refine goZ ?_)
  refine inPI (.inr rfl) .nil rfl .nil rfl ⟨_,⟨rfl,m1.setF (m1.fr.setR m1.fr.gas s2 k2),gs2,SoD.on (m:=m1.setF (m1.fr.setR m1.fr.gas s2 k2)) (s:=s2) (k:=k2) hk1 (by show m1.fr.setR m1.fr.gas s2 k2=_;rw [hf1];rfl) (by have h:=hfr2.toP;exact h),rfl⟩,_,?_,.refl _⟩
  exact jP _ (jL (.cons _ (.cons _ (.refl _))) gs2)
 ·rintro ch fs' (⟨hc,h,rfl⟩|⟨_,_,_,_,h,_⟩)
  ·cases h
   have hrea:reaV m.fr L x 1=none:=by unfold reaV;exact if_neg (Nat.not_le.2 hc)
   rw [show storeV m.fr L x 1 ((beb 32 y).drop 31)=none by unfold storeV;rw [hrea];rfl]
   refine midP ?_
   refine thenP ?_
   exact inPP .nil ⟨rest,⟨rfl,rfl⟩,_,jK _ (.refl _),.refl _⟩
  ·cases h
theorem load_do:DoC 165 81 1 1 (fun f L l=>loadV14 f L (l.getD 0 0)):=by
 intro w0 b m L l gs gt rest w hT hN hp hop hl hly hfr ht hs
 obtain ⟨gt0,cur,ct,htk,rfl,hcur⟩:=took_at ht (by omega)
 replace hs:St w0 [] ((b,maO m)::(gs++((gt0,.cells cur 29 (0,0))::rest))) w:=hs
 have hrdT:∀ {m':MaV} {E fr},m'.took=m.took→Rd prog 23 (.cells (mca m') E fr) 18 (.slice (some ⟨gt0,0,none⟩) l.length ct):=fun {m' E fr} he=>by rw [show Value.slice (some ⟨gt0,0,none⟩) l.length ct=m'.took from htk.symm.trans he.symm];exact ma_rd18
 have hrdx:Rd prog 29 (.cells cur 29 (0,0)) (0+0 * 4) (wv (l.getD 0 0)):=word_rd hcur 0 (by omega)
 have hx:l.getD 0 0 < M256:=getD_wlt hp.ls (by omega)
 dsimp only
 obtain ⟨x,hxe⟩:∃ x,l.getD 0 0=x:=⟨_,rfl⟩
 rw [hxe] at hrdx hx ⊢
 refine calls_anyO (qX (K:=anyO (DoK14 b m.fr L (loadV14 m.fr L x) rest)) (args:=[_]) func165 rfl ntmps165 rfl ?_ hs)
 refine dQBZke ?_
 refine qP (K:=ReachP b m L x 32 ((gt0,.cells cur 29 (0,0))::rest)) rfl rfl vF agZ rfl (fun fs h=>by rcases h with ⟨_,h,_⟩|⟨_,_,_,_,h,_⟩<;>cases h) (fun w' hst=>reachP_calls w0 [] b m L gs x 32 hx (by decide) hp.ok hp.gas hfr _ w' hst) ?_ ?_
 ·rintro v fs' (⟨_,h,_⟩|⟨hc,s,k,gs',h,hfr',rfl⟩)
  ·cases h
  cases h
  obtain ⟨hok1,hin⟩:=reach_in hp.gas hp.ok hc
  have hrea:reaV m.fr L x 32=some (m.fr.setG (m.fr.gas - costR L x 32),(memR L x 32).ms):=by unfold reaV;exact if_pos hc
  obtain ⟨m1,hm1⟩:∃ m1,m.setF (frR m.fr L x 32 s k)=m1:=⟨_,rfl⟩
  rw [hm1]
  have hf1:m1.fr=frR m.fr L x 32 s k:=by rw [← hm1];rfl
  have hk1:m1.kind=0:=by rw [← hm1];exact hp.kind
  have ht1:m1.took=m.took:=by rw [← hm1];rfl
  have ho1:m1.op=m.op:=by rw [← hm1];rfl
  have hg1:m1.fr.gas≤20000:=by rw [hf1];show m.fr.gas - _≤20000;have:=hp.gas;omega
  rw [← hf1] at hfr'
  apply zV
  refine midN ?_
  ((try simp only [tsOf_cons,tsOf_nil,tsOf_app]);refine dvz (.move rfl) ?_;refine dvz (.extractN rfl rfl) ?_;refine dvz (.extractN rfl rfl) ?_;refine dvz (.assign rfl)<|dvz (.assign rfl) ?_;apply DW.nil;simp only [fsOf_cons,fsOf_nil,fsOf_app,fsOf_tsOf,fsOf_new,fsOf_tag,fsOf_mark])
  refine fsZ ?_
  obtain ⟨Z,hZ⟩:∃ Z,bev (((memR L x 32).ms.drop x).take 32)=Z:=⟨_,rfl⟩
  rw [show loadV14 m.fr L x=some (soOn (m.fr.setG (m.fr.gas - costR L x 32)) (L.ws++[Z]) (memR L x 32).ms) by unfold loadV14;rw [hrea,← hZ];rfl]
  rw [show (if (32:Nat)=0 then 0 else x)=x from if_neg (by decide)]
  (refine goZ ?_)
  refine qO (K:=fun v fs'=>∃ gC,bM (((memR L x 32).ms.drop x).take 32) v gC∧fs'=(b,maO m1)::(gs'++(gC++((gt0,.cells cur 29 (0,0))::rest)))) rfl rfl vF agZ (fun w' hst=>vG (cutM_calls w0 b m1 (memR L x 32) gs' x 32 hok1 (.inr (hin (by decide))) hfr' _ w' hst) fun x w'' ⟨fs',⟨v,gC,h1,h2,h3⟩,hst⟩=>⟨v,fs',h1,⟨gC,h2,h3⟩,hst⟩) ?_
  rintro vC _ ⟨gC,hC,rfl⟩
  have hC':=hC
  unfold bM at hC'
  obtain ⟨qC,kC,rfl⟩:=id hC'.form
  skip
  refine zS (v:=wv Z) rfl rfl vF agZ (fun w hst=>by rw [← hZ];exact number_calls _ _ (by rw [yH];omega) w (IsRow.us hC' (us:=gC) (w:=w) (fun p hp=>(hst.own p (jI _ (jT _ (yG _ hp)))).2) (jG _))) ?_
  (refine goZ ?_;intro _)
  rename_i bz
  refine qV (fs':=(b,maO m1)::(gs'++((bz,.cells (wc Z) 29 (0,0))::(gC++((gt0,.cells cur 29 (0,0))::rest))))) (perm_ix [[_],gs',[_]] (xs:=[0,1,2]) (ys:=[2,0,1]) (gC++((gt0,.cells cur 29 (0,0))::rest)) rfl) ?_
  refine qO (K:=fun v fs'=>LayP b m1 (memR L x 32) [Z] ((bz,.cells (wc Z) 29 (0,0))::(gC++((gt0,.cells cur 29 (0,0))::rest))) (.returned v) fs') rfl rfl vF agZ (fun w' hst=>vG (layP_calls w0 [] b m1 (memR L x 32) gs' [Z] _ hok1 (by show 1≤100000;omega) (hly) hfr' _ w' (fun w2 h2=>row_cells (h2.own (bz,_) (jI _ (jT _ jV))).2 rfl rfl (by show 1≤maxLen;decide)) hst) fun x w'' ⟨fs',hk,hst⟩=>⟨_,fs',hk.1,by { have h:=hk;rw [hk.1] at h;exact h },hst⟩) ?_
  rintro v fs' ⟨hv,s2,k2,gs2,hfr2,rfl⟩
  cases hv
  (refine goZ ?_)
  refine inPI (.inr rfl) .nil rfl .nil rfl ⟨_,⟨rfl,m1.setF (m1.fr.setR m1.fr.gas s2 k2),gs2,SoD.on (m:=m1.setF (m1.fr.setR m1.fr.gas s2 k2)) (s:=s2) (k:=k2) hk1 (by show m1.fr.setR m1.fr.gas s2 k2=_;rw [hf1];rfl) (by have h:=hfr2.toP;exact h),rfl⟩,_,?_,.refl _⟩
  exact jP _ (jL (.cons _ ((jK _ (.refl _)).trans (jN gC _))) gs2)
 ·rintro ch fs' (⟨hc,h,rfl⟩|⟨_,_,_,_,h,_⟩)
  ·cases h
   have hrea:reaV m.fr L x 32=none:=by unfold reaV;exact if_neg (Nat.not_le.2 hc)
   rw [show loadV14 m.fr L x=none by unfold loadV14;rw [hrea];rfl]
   refine midP ?_
   refine thenP ?_
   exact inPP .nil ⟨rest,⟨rfl,rfl⟩,_,jK _ (.refl _),.refl _⟩
  ·cases h
theorem hash_do:DoC 168 32 2 1 (fun f L l=>hashV f L (l.getD 0 0) (l.getD 1 0)):=by
 intro w0 b m L l gs gt rest w hT hN hp hop hl hly hfr ht hs
 obtain ⟨gt0,cur,ct,htk,rfl,hcur⟩:=took_at ht (by omega)
 replace hs:St w0 [] ((b,maO m)::(gs++((gt0,.cells cur 29 (0,0))::rest))) w:=hs
 have hrdT:∀ {m':MaV} {E fr},m'.took=m.took→Rd prog 23 (.cells (mca m') E fr) 18 (.slice (some ⟨gt0,0,none⟩) l.length ct):=fun {m' E fr} he=>by rw [show Value.slice (some ⟨gt0,0,none⟩) l.length ct=m'.took from htk.symm.trans he.symm];exact ma_rd18
 have hrdx:Rd prog 29 (.cells cur 29 (0,0)) (0+0 * 4) (wv (l.getD 0 0)):=word_rd hcur 0 (by omega)
 have hx:l.getD 0 0 < M256:=getD_wlt hp.ls (by omega)
 have hrdy:Rd prog 29 (.cells cur 29 (0,0)) (0+1 * 4) (wv (l.getD 1 0)):=word_rd hcur 1 (by omega)
 have hy:l.getD 1 0 < M256:=getD_wlt hp.ls (by omega)
 dsimp only
 obtain ⟨x,hxe⟩:∃ x,l.getD 0 0=x:=⟨_,rfl⟩
 rw [hxe] at hrdx hx ⊢
 obtain ⟨y,hye⟩:∃ y,l.getD 1 0=y:=⟨_,rfl⟩
 rw [hye] at hrdy hy ⊢
 refine calls_anyO (qX (K:=anyO (DoK14 b m.fr L (hashV m.fr L x y) rest)) (args:=[_]) func168 rfl ntmps168 rfl ?_ hs)
 refine dQBKoK ?_
 refine qP (K:=ReachP b m L x y ((gt0,.cells cur 29 (0,0))::rest)) rfl rfl vF agZ rfl (fun fs h=>by rcases h with ⟨_,h,_⟩|⟨_,_,_,_,h,_⟩<;>cases h) (fun w' hst=>reachP_calls w0 [] b m L gs x y hx hy hp.ok hp.gas hfr _ w' hst) ?_ ?_
 ·rintro v fs' (⟨_,h,_⟩|⟨hc,s,k,gs',h,hfr',rfl⟩)
  ·cases h
  cases h
  obtain ⟨hok1,hin⟩:=reach_in hp.gas hp.ok hc
  have hrea:reaV m.fr L x y=some (m.fr.setG (m.fr.gas - costR L x y),(memR L x y).ms):=by unfold reaV;exact if_pos hc
  obtain ⟨m1,hm1⟩:∃ m1,m.setF (frR m.fr L x y s k)=m1:=⟨_,rfl⟩
  rw [hm1]
  have hf1:m1.fr=frR m.fr L x y s k:=by rw [← hm1];rfl
  have hk1:m1.kind=0:=by rw [← hm1];exact hp.kind
  have ht1:m1.took=m.took:=by rw [← hm1];rfl
  have ho1:m1.op=m.op:=by rw [← hm1];rfl
  have hg1:m1.fr.gas≤20000:=by rw [hf1];show m.fr.gas - _≤20000;have:=hp.gas;omega
  rw [← hf1] at hfr'
  apply zV
  refine midN ?_
  ((try simp only [tsOf_cons,tsOf_nil,tsOf_app]);refine dvz (.move rfl) ?_;refine dvz (.extractN rfl rfl) ?_;refine dvz (.extractN rfl rfl) ?_;refine dvz (.assign rfl)<|dvz (.assign rfl) ?_;apply DW.nil;simp only [fsOf_cons,fsOf_nil,fsOf_app,fsOf_tsOf,fsOf_new,fsOf_tag,fsOf_mark])
  refine fsZ ?_
  obtain ⟨A,hA⟩:∃ A,(if y=0 then 0 else x)=A:=⟨_,rfl⟩
  rw [hA]
  have hn1:y=0∨A+y≤(memR L x y).ms.length:=by
   rcases yB y with h|h
   ·exact .inl h
   ·right;rw [← hA,if_neg (by omega)];exact hin h
  have hn2:y≤1024:=by have:=hok1.2.1;omega
  obtain ⟨c,hc2⟩:∃ c,timesV ((y+31) / 32) 6=c:=⟨_,rfl⟩
  have hHash:∀ w,Calls prog 207 #[.int .u64 (y:Int)] w (Ret w (.int .u64 (c:Int))):=fun w=>by rw [← hc2];exact Hash_calls y (by omega) w
  have hce:((memR L x y).ms.drop A).take y=((memR L x y).ms.drop x).take y:=by
   rcases yB y with h|h
   ·rw [h,List.take_zero,List.take_zero]
   ·rw [← hA,if_neg (by omega)]
  by_cases hc3:c≤m1.fr.gas
  ·have hsp:spendM m1 [c]=some (m1.setGas (m1.fr.gas - c)):=by unfold spendM;rw [if_pos (by simpa using hc3)];simp
   obtain ⟨Z,hZ⟩:∃ Z,digW (((memR L x y).ms.drop x).take y)=Z:=⟨_,rfl⟩
   rw [show hashV m.fr L x y=some (soOn ((m.fr.setG (m.fr.gas - costR L x y)).setG (m.fr.gas - costR L x y - c)) (L.ws++[Z]) (memR L x y).ms) by unfold hashV spnV;rw [hrea];show (if timesV ((y+31) / 32) 6≤m.fr.gas - costR L x y then some _ else none).bind _=_;rw [hc2,if_pos (by rw [hf1] at hc3;exact hc3),← hZ];rfl]
   (refine goZ ?_;refine cEv hHash ?_;intro _)
   rename_i bc
   refine qV (fs':=(b,maO m1)::(bc,.cells #[.int .u64 (c:Int)] 26 (0,0))::(gs'++((gt0,.cells cur 29 (0,0))::rest))) (yX (l₁:=[_])).symm ?_
   refine qP (K:=MaK b m1 (spendM m1 [c]) _) rfl rfl vF agZ rfl (fun fs h=>by rw [hsp] at h;cases h.1) (fun w' hst=>spend_calls w0 [] b m1 [c] (by omega) _ _ w' hst (fun w2 h2=>row_cells (h2.own (bc,_) (jX _ (jW _))).2 rfl rfl (by show 1≤maxLen;decide))) ?_ ?_
   ·rintro v fs' h
    rw [hsp] at h
    obtain ⟨h,rfl⟩:=h
    cases h
    obtain ⟨m2,hm2⟩:∃ m2,m1.setGas (m1.fr.gas - c)=m2:=⟨_,rfl⟩
    rw [hm2]
    have hf2:m2.fr=m1.fr.setG (m1.fr.gas - c):=by rw [← hm2];rfl
    have hk2:m2.kind=0:=by rw [← hm2];exact hk1
    replace hfr':FrP m2.fr (memR L x y) gs':=by rw [hf2];exact hfr'
    refine qV (fs':=(b,maO m2)::(gs'++((bc,.cells #[.int .u64 (c:Int)] 26 (0,0))::(gt0,.cells cur 29 (0,0))::rest))) (List.Perm.cons _ (yX (l₁:=gs'))) ?_
    (refine goZ ?_)
    refine qO (K:=fun v fs'=>∃ gC,bM (((memR L x y).ms.drop A).take y) v gC∧fs'=(b,maO m2)::(gs'++(gC++((bc,.cells #[.int .u64 (c:Int)] 26 (0,0))::(gt0,.cells cur 29 (0,0))::rest)))) rfl rfl vF agZ (fun w' hst=>vG (cutM_calls w0 b m2 (memR L x y) gs' A y hok1 (hn1) hfr' _ w' hst) fun x w'' ⟨fs',⟨v,gC,h1,h2,h3⟩,hst⟩=>⟨v,fs',h1,⟨gC,h2,h3⟩,hst⟩) ?_
    rintro vC _ ⟨gC,hC,rfl⟩
    have hC':=hC
    unfold bM at hC'
    obtain ⟨qC,kC,rfl⟩:=id hC'.form
    skip
    refine zS (v:=wv Z) rfl rfl vF agZ (fun w hst=>by rw [← hZ,← hce];exact Digest_calls _ _ w (IsRow.us hC' (us:=gC) (w:=w) (fun p hp=>(hst.own p (jI _ (jT _ (yG _ hp)))).2) (jG _)) (by rw [yH];omega) (hT.st hst) (hN.st hst)) ?_
    (refine goZ ?_;intro _)
    rename_i bz
    refine qV (fs':=(b,maO m2)::(gs'++((bz,.cells (wc Z) 29 (0,0))::(gC++((bc,.cells #[.int .u64 (c:Int)] 26 (0,0))::(gt0,.cells cur 29 (0,0))::rest))))) (perm_ix [[_],gs',[_]] (xs:=[0,1,2]) (ys:=[2,0,1]) (gC++((bc,.cells #[.int .u64 (c:Int)] 26 (0,0))::(gt0,.cells cur 29 (0,0))::rest)) rfl) ?_
    refine qO (K:=fun v fs'=>LayP b m2 (memR L x y) [Z] ((bz,.cells (wc Z) 29 (0,0))::(gC++((bc,.cells #[.int .u64 (c:Int)] 26 (0,0))::(gt0,.cells cur 29 (0,0))::rest))) (.returned v) fs') rfl rfl vF agZ (fun w' hst=>vG (layP_calls w0 [] b m2 (memR L x y) gs' [Z] _ hok1 (by show 1≤100000;omega) (hly) hfr' _ w' (fun w2 h2=>row_cells (h2.own (bz,_) (jI _ (jT _ jV))).2 rfl rfl (by show 1≤maxLen;decide)) hst) fun x w'' ⟨fs',hk,hst⟩=>⟨_,fs',hk.1,by { have h:=hk;rw [hk.1] at h;exact h },hst⟩) ?_
    rintro v fs' ⟨hv,s2,k2,gs2,hfr2,rfl⟩
    cases hv
    (refine goZ ?_)
    refine inPI (.inr rfl) .nil rfl .nil rfl ⟨_,⟨rfl,m2.setF (m2.fr.setR m2.fr.gas s2 k2),gs2,SoD.on (m:=m2.setF (m2.fr.setR m2.fr.gas s2 k2)) (s:=s2) (k:=k2) hk2 (by show m2.fr.setR m2.fr.gas s2 k2=_;rw [hf2,hf1];rfl) (by have h:=hfr2.toP;exact h),rfl⟩,_,?_,.refl _⟩
    exact jP _ (jL (.cons _ ((jK _ (jK _ (.refl _))).trans (jN gC _))) gs2)
   ·rintro ch fs' h
    rw [hsp] at h
    cases h.1
  ·have hsp:spendM m1 [c]=none:=by unfold spendM;rw [if_neg (by simpa using hc3)]
   rw [show hashV m.fr L x y=none by unfold hashV spnV;rw [hrea];show (if timesV ((y+31) / 32) 6≤m.fr.gas - costR L x y then some _ else none).bind _=_;rw [hc2,if_neg (by rw [hf1] at hc3;exact hc3)];rfl]
   (refine goZ ?_;refine cEv hHash ?_;intro _)
   rename_i bc
   refine qV (fs':=(b,maO m1)::(bc,.cells #[.int .u64 (c:Int)] 26 (0,0))::(gs'++((gt0,.cells cur 29 (0,0))::rest))) (yX (l₁:=[_])).symm ?_
   refine qP (K:=MaK b m1 (spendM m1 [c]) _) rfl rfl vF agZ rfl (fun fs h=>by rw [hsp] at h;cases h.1) (fun w' hst=>spend_calls w0 [] b m1 [c] (by omega) _ _ w' hst (fun w2 h2=>row_cells (h2.own (bc,_) (jX _ (jW _))).2 rfl rfl (by show 1≤maxLen;decide))) ?_ ?_
   ·rintro v fs' h
    rw [hsp] at h
    cases h.1
   ·rintro ch fs' h
    rw [hsp] at h
    obtain ⟨h,rfl⟩:=h
    cases h
    refine thenP ?_
    exact inPP .nil ⟨rest,⟨rfl,rfl⟩,_,jK _ (jK _ ((jK _ (.refl _)).trans (jN gs' _))),.refl _⟩
 ·rintro ch fs' (⟨hc,h,rfl⟩|⟨_,_,_,_,h,_⟩)
  ·cases h
   have hrea:reaV m.fr L x y=none:=by unfold reaV;exact if_neg (Nat.not_le.2 hc)
   rw [show hashV m.fr L x y=none by unfold hashV;rw [hrea];rfl]
   refine midP ?_
   refine thenP ?_
   exact inPP .nil ⟨rest,⟨rfl,rfl⟩,_,jK _ (.refl _),.refl _⟩
  ·cases h
end
section
attribute [local irreducible] SL.inP
theorem ends243_do:DoC 175 243 2 0 (fun f L l=>endsV 243 f L (l.getD 0 0) (l.getD 1 0)):=by
 intro w0 b m L l gs gt rest w hT hN hp hop hl hly hfr ht hs
 obtain ⟨gt0,cur,ct,htk,rfl,hcur⟩:=took_at ht (by omega)
 replace hs:St w0 [] ((b,maO m)::(gs++((gt0,.cells cur 29 (0,0))::rest))) w:=hs
 have hrdT:∀ {m':MaV} {E fr},m'.took=m.took→Rd prog 23 (.cells (mca m') E fr) 18 (.slice (some ⟨gt0,0,none⟩) l.length ct):=fun {m' E fr} he=>by rw [show Value.slice (some ⟨gt0,0,none⟩) l.length ct=m'.took from htk.symm.trans he.symm];exact ma_rd18
 have hrdx:Rd prog 29 (.cells cur 29 (0,0)) (0+0 * 4) (wv (l.getD 0 0)):=word_rd hcur 0 (by omega)
 have hx:l.getD 0 0 < M256:=getD_wlt hp.ls (by omega)
 have hrdy:Rd prog 29 (.cells cur 29 (0,0)) (0+1 * 4) (wv (l.getD 1 0)):=word_rd hcur 1 (by omega)
 have hy:l.getD 1 0 < M256:=getD_wlt hp.ls (by omega)
 dsimp only
 obtain ⟨x,hxe⟩:∃ x,l.getD 0 0=x:=⟨_,rfl⟩
 rw [hxe] at hrdx hx ⊢
 obtain ⟨y,hye⟩:∃ y,l.getD 1 0=y:=⟨_,rfl⟩
 rw [hye] at hrdy hy ⊢
 obtain ⟨o,ho⟩:∃ o,m.op=o:=⟨_,rfl⟩
 have ho2:o=243:=ho.symm.trans hop
 have hrdO:∀ {E fr},Rd prog 5 (.cells (mca m) E fr) 20 (.int .u8 (o:Int)):=fun {E fr}=>by rw [← ho];exact ma_rd20
 refine calls_anyO (qX (K:=anyO (DoK14 b m.fr L (endsV 243 m.fr L x y) rest)) (args:=[_]) func175 rfl ntmps175 rfl ?_ hs)
 refine dQBKoK ?_
 refine qP (K:=ReachP b m L x y ((gt0,.cells cur 29 (0,0))::rest)) rfl rfl vF agZ rfl (fun fs h=>by rcases h with ⟨_,h,_⟩|⟨_,_,_,_,h,_⟩<;>cases h) (fun w' hst=>reachP_calls w0 [] b m L gs x y hx hy hp.ok hp.gas hfr _ w' hst) ?_ ?_
 ·rintro v fs' (⟨_,h,_⟩|⟨hc,s,k,gs',h,hfr',rfl⟩)
  ·cases h
  cases h
  obtain ⟨hok1,hin⟩:=reach_in hp.gas hp.ok hc
  have hrea:reaV m.fr L x y=some (m.fr.setG (m.fr.gas - costR L x y),(memR L x y).ms):=by unfold reaV;exact if_pos hc
  obtain ⟨m1,hm1⟩:∃ m1,m.setF (frR m.fr L x y s k)=m1:=⟨_,rfl⟩
  rw [hm1]
  have hf1:m1.fr=frR m.fr L x y s k:=by rw [← hm1];rfl
  have hk1:m1.kind=0:=by rw [← hm1];exact hp.kind
  have ht1:m1.took=m.took:=by rw [← hm1];rfl
  have ho1:m1.op=m.op:=by rw [← hm1];rfl
  have hg1:m1.fr.gas≤20000:=by rw [hf1];show m.fr.gas - _≤20000;have:=hp.gas;omega
  rw [← hf1] at hfr'
  apply zV
  refine midN ?_
  (refine tsZ ?_)
  refine fsZ ?_
  obtain ⟨A,hA⟩:∃ A,(if y=0 then 0 else x)=A:=⟨_,rfl⟩
  rw [hA]
  have hn1:y=0∨A+y≤(memR L x y).ms.length:=by
   rcases yB y with h|h
   ·exact .inl h
   ·right;rw [← hA,if_neg (by omega)];exact hin h
  have hn2:y≤1024:=by have:=hok1.2.1;omega
  have hce:((memR L x y).ms.drop A).take y=((memR L x y).ms.drop x).take y:=by
   rcases yB y with h|h
   ·rw [h,List.take_zero,List.take_zero]
   ·rw [← hA,if_neg (by omega)]
  rw [show endsV 243 m.fr L x y=some ⟨4,0,m.fr.gas - costR L x y,m.fr.pc,L.ws,(memR L x y).ms,[],((memR L x y).ms.drop x).take y⟩ by unfold endsV;rw [hrea];rfl]
  (refine goZ ?_)
  refine qO (K:=fun v fs'=>∃ gC,bM (((memR L x y).ms.drop A).take y) v gC∧fs'=(b,maO m1)::(gs'++(gC++((gt0,.cells cur 29 (0,0))::rest)))) rfl rfl vF agZ (fun w' hst=>vG (cutM_calls w0 b m1 (memR L x y) gs' A y hok1 (hn1) hfr' _ w' hst) fun x w'' ⟨fs',⟨v,gC,h1,h2,h3⟩,hst⟩=>⟨v,fs',h1,⟨gC,h2,h3⟩,hst⟩) ?_
  rintro vC _ ⟨gC,hC,rfl⟩
  have hC':=hC
  unfold bM at hC'
  obtain ⟨qC,kC,rfl⟩:=id hC'.form
  (refine bTz ?_;refine zR rfl rfl .head ma_wr19 ?_;refine goZ ?_)
  refine inPI (.inr rfl) .nil rfl .nil rfl ⟨_,⟨rfl,m1.setAsk 4 0 (.slice none 0 0) (.slice qC (List.take y (List.drop A (memR L x y).ms)).length kC),gs'++([]++gC),SoD.ask (o:=⟨4,0,m.fr.gas - costR L x y,m.fr.pc,L.ws,(memR L x y).ms,[],((memR L x y).ms.drop x).take y⟩) (s:=m1.fr.stk) (k:=m1.fr.mem) (by show (4:Int) ≠ 0;decide) rfl rfl (by show m1.fr=_;rw [hf1];rfl) hfr' wM_nil (by show bM (((memR L x y).ms.drop x).take y) _ gC;rw [← hce];exact hC),rfl⟩,_,?_,.refl _⟩
  refine jP _ ?_
  rw [jQ,jR]
  exact jL (jL (.cons _ (.refl _)) gC) gs'
 ·rintro ch fs' (⟨hc,h,rfl⟩|⟨_,_,_,_,h,_⟩)
  ·cases h
   have hrea:reaV m.fr L x y=none:=by unfold reaV;exact if_neg (Nat.not_le.2 hc)
   rw [show endsV 243 m.fr L x y=none by unfold endsV;rw [hrea];rfl]
   refine midP ?_
   refine thenP ?_
   exact inPP .nil ⟨rest,⟨rfl,rfl⟩,_,jK _ (.refl _),.refl _⟩
  ·cases h
theorem ends253_do:DoC 175 253 2 0 (fun f L l=>endsV 253 f L (l.getD 0 0) (l.getD 1 0)):=by
 intro w0 b m L l gs gt rest w hT hN hp hop hl hly hfr ht hs
 obtain ⟨gt0,cur,ct,htk,rfl,hcur⟩:=took_at ht (by omega)
 replace hs:St w0 [] ((b,maO m)::(gs++((gt0,.cells cur 29 (0,0))::rest))) w:=hs
 have hrdT:∀ {m':MaV} {E fr},m'.took=m.took→Rd prog 23 (.cells (mca m') E fr) 18 (.slice (some ⟨gt0,0,none⟩) l.length ct):=fun {m' E fr} he=>by rw [show Value.slice (some ⟨gt0,0,none⟩) l.length ct=m'.took from htk.symm.trans he.symm];exact ma_rd18
 have hrdx:Rd prog 29 (.cells cur 29 (0,0)) (0+0 * 4) (wv (l.getD 0 0)):=word_rd hcur 0 (by omega)
 have hx:l.getD 0 0 < M256:=getD_wlt hp.ls (by omega)
 have hrdy:Rd prog 29 (.cells cur 29 (0,0)) (0+1 * 4) (wv (l.getD 1 0)):=word_rd hcur 1 (by omega)
 have hy:l.getD 1 0 < M256:=getD_wlt hp.ls (by omega)
 dsimp only
 obtain ⟨x,hxe⟩:∃ x,l.getD 0 0=x:=⟨_,rfl⟩
 rw [hxe] at hrdx hx ⊢
 obtain ⟨y,hye⟩:∃ y,l.getD 1 0=y:=⟨_,rfl⟩
 rw [hye] at hrdy hy ⊢
 obtain ⟨o,ho⟩:∃ o,m.op=o:=⟨_,rfl⟩
 have ho2:o=253:=ho.symm.trans hop
 have hrdO:∀ {E fr},Rd prog 5 (.cells (mca m) E fr) 20 (.int .u8 (o:Int)):=fun {E fr}=>by rw [← ho];exact ma_rd20
 refine calls_anyO (qX (K:=anyO (DoK14 b m.fr L (endsV 253 m.fr L x y) rest)) (args:=[_]) func175 rfl ntmps175 rfl ?_ hs)
 refine dQBKoK ?_
 refine qP (K:=ReachP b m L x y ((gt0,.cells cur 29 (0,0))::rest)) rfl rfl vF agZ rfl (fun fs h=>by rcases h with ⟨_,h,_⟩|⟨_,_,_,_,h,_⟩<;>cases h) (fun w' hst=>reachP_calls w0 [] b m L gs x y hx hy hp.ok hp.gas hfr _ w' hst) ?_ ?_
 ·rintro v fs' (⟨_,h,_⟩|⟨hc,s,k,gs',h,hfr',rfl⟩)
  ·cases h
  cases h
  obtain ⟨hok1,hin⟩:=reach_in hp.gas hp.ok hc
  have hrea:reaV m.fr L x y=some (m.fr.setG (m.fr.gas - costR L x y),(memR L x y).ms):=by unfold reaV;exact if_pos hc
  obtain ⟨m1,hm1⟩:∃ m1,m.setF (frR m.fr L x y s k)=m1:=⟨_,rfl⟩
  rw [hm1]
  have hf1:m1.fr=frR m.fr L x y s k:=by rw [← hm1];rfl
  have hk1:m1.kind=0:=by rw [← hm1];exact hp.kind
  have ht1:m1.took=m.took:=by rw [← hm1];rfl
  have ho1:m1.op=m.op:=by rw [← hm1];rfl
  have hg1:m1.fr.gas≤20000:=by rw [hf1];show m.fr.gas - _≤20000;have:=hp.gas;omega
  rw [← hf1] at hfr'
  apply zV
  refine midN ?_
  (refine tsZ ?_)
  refine fsZ ?_
  obtain ⟨A,hA⟩:∃ A,(if y=0 then 0 else x)=A:=⟨_,rfl⟩
  rw [hA]
  have hn1:y=0∨A+y≤(memR L x y).ms.length:=by
   rcases yB y with h|h
   ·exact .inl h
   ·right;rw [← hA,if_neg (by omega)];exact hin h
  have hn2:y≤1024:=by have:=hok1.2.1;omega
  have hce:((memR L x y).ms.drop A).take y=((memR L x y).ms.drop x).take y:=by
   rcases yB y with h|h
   ·rw [h,List.take_zero,List.take_zero]
   ·rw [← hA,if_neg (by omega)]
  rw [show endsV 253 m.fr L x y=some ⟨5,0,m.fr.gas - costR L x y,m.fr.pc,L.ws,(memR L x y).ms,[],((memR L x y).ms.drop x).take y⟩ by unfold endsV;rw [hrea];rfl]
  (refine goZ ?_)
  refine qO (K:=fun v fs'=>∃ gC,bM (((memR L x y).ms.drop A).take y) v gC∧fs'=(b,maO m1)::(gs'++(gC++((gt0,.cells cur 29 (0,0))::rest)))) rfl rfl vF agZ (fun w' hst=>vG (cutM_calls w0 b m1 (memR L x y) gs' A y hok1 (hn1) hfr' _ w' hst) fun x w'' ⟨fs',⟨v,gC,h1,h2,h3⟩,hst⟩=>⟨v,fs',h1,⟨gC,h2,h3⟩,hst⟩) ?_
  rintro vC _ ⟨gC,hC,rfl⟩
  have hC':=hC
  unfold bM at hC'
  obtain ⟨qC,kC,rfl⟩:=id hC'.form
  (refine bTz ?_;refine zR rfl rfl .head ma_wr19 ?_;refine goZ ?_)
  refine inPI (.inr rfl) .nil rfl .nil rfl ⟨_,⟨rfl,m1.setAsk 5 0 (.slice none 0 0) (.slice qC (List.take y (List.drop A (memR L x y).ms)).length kC),gs'++([]++gC),SoD.ask (o:=⟨5,0,m.fr.gas - costR L x y,m.fr.pc,L.ws,(memR L x y).ms,[],((memR L x y).ms.drop x).take y⟩) (s:=m1.fr.stk) (k:=m1.fr.mem) (by show (5:Int) ≠ 0;decide) rfl rfl (by show m1.fr=_;rw [hf1];rfl) hfr' wM_nil (by show bM (((memR L x y).ms.drop x).take y) _ gC;rw [← hce];exact hC),rfl⟩,_,?_,.refl _⟩
  refine jP _ ?_
  rw [jQ,jR]
  exact jL (jL (.cons _ (.refl _)) gC) gs'
 ·rintro ch fs' (⟨hc,h,rfl⟩|⟨_,_,_,_,h,_⟩)
  ·cases h
   have hrea:reaV m.fr L x y=none:=by unfold reaV;exact if_neg (Nat.not_le.2 hc)
   rw [show endsV 253 m.fr L x y=none by unfold endsV;rw [hrea];rfl]
   refine midP ?_
   refine thenP ?_
   exact inPP .nil ⟨rest,⟨rfl,rfl⟩,_,jK _ (.refl _),.refl _⟩
  ·cases h
theorem copies_calls (w0:World) (b:Nat) (m:MaV) (L:FrL) (l:List Nat) (gs gt rest:Fs) (w:World) (bl:List UInt8) (v:Value) (hbl:bl.length≤100000) (hp:DoPre m L l) (hl:3≤l.length) (hfr:FrP m.fr L gs) (ht:wM l m.took gt) (hs:St w0 [] ((b,maO m)::(gs++(gt++rest))) w)
  (hsel:∀ (f:FrV) (L':FrL) (w':World),FrRows w' f L'→f.inp=m.fr.inp→f.back=m.fr.back→L'.il=L.il→L'.bl=L.bl→RowAt w' 1 v bl.length (ucs bl)) :
  Calls prog 204 #[.pointer (some ⟨b,0,none⟩),v] w (fun x w'=>∃ fs',DoK14 b m.fr L (copyV m.fr L bl (l.getD 0 0) (l.getD 1 0) (l.getD 2 0)) rest x fs'∧St w0 [] fs' w'):=by
 obtain ⟨gt0,cur,ct,htk,rfl,hcur⟩:=took_at ht (by omega)
 replace hs:St w0 [] ((b,maO m)::(gs++((gt0,.cells cur 29 (0,0))::rest))) w:=hs
 have hrdT:∀ {m':MaV} {E fr},m'.took=m.took→Rd prog 23 (.cells (mca m') E fr) 18 (.slice (some ⟨gt0,0,none⟩) l.length ct):=fun {m' E fr} he=>by rw [show Value.slice (some ⟨gt0,0,none⟩) l.length ct=m'.took from htk.symm.trans he.symm];exact ma_rd18
 have hrdx:Rd prog 29 (.cells cur 29 (0,0)) (0+0 * 4) (wv (l.getD 0 0)):=word_rd hcur 0 (by omega)
 have hx:l.getD 0 0 < M256:=getD_wlt hp.ls (by omega)
 have hrdy:Rd prog 29 (.cells cur 29 (0,0)) (0+1 * 4) (wv (l.getD 1 0)):=word_rd hcur 1 (by omega)
 have hy:l.getD 1 0 < M256:=getD_wlt hp.ls (by omega)
 have hrdz:Rd prog 29 (.cells cur 29 (0,0)) (0+2 * 4) (wv (l.getD 2 0)):=word_rd hcur 2 (by omega)
 have hz:l.getD 2 0 < M256:=getD_wlt hp.ls (by omega)
 obtain ⟨x,hxe⟩:∃ x,l.getD 0 0=x:=⟨_,rfl⟩
 rw [hxe] at hrdx hx ⊢
 obtain ⟨y,hye⟩:∃ y,l.getD 1 0=y:=⟨_,rfl⟩
 rw [hye] at hrdy hy ⊢
 obtain ⟨z,hze⟩:∃ z,l.getD 2 0=z:=⟨_,rfl⟩
 rw [hze] at hrdz hz ⊢
 refine calls_anyO (qX (K:=anyO (DoK14 b m.fr L (copyV m.fr L bl x y z) rest)) (args:=[_,_]) func204 rfl ntmps204 rfl ?_ hs)
 refine dQBKoK ?_
 refine qP (K:=ReachP b m L x z ((gt0,.cells cur 29 (0,0))::rest)) rfl rfl vF agZ rfl (fun fs h=>by rcases h with ⟨_,h,_⟩|⟨_,_,_,_,h,_⟩<;>cases h) (fun w' hst=>reachP_calls w0 [] b m L gs x z hx hz hp.ok hp.gas hfr _ w' hst) ?_ ?_
 ·rintro v fs' (⟨_,h,_⟩|⟨hc,s,k,gs',h,hfr',rfl⟩)
  ·cases h
  cases h
  obtain ⟨hok1,hin⟩:=reach_in hp.gas hp.ok hc
  have hrea:reaV m.fr L x z=some (m.fr.setG (m.fr.gas - costR L x z),(memR L x z).ms):=by unfold reaV;exact if_pos hc
  obtain ⟨m1,hm1⟩:∃ m1,m.setF (frR m.fr L x z s k)=m1:=⟨_,rfl⟩
  rw [hm1]
  have hf1:m1.fr=frR m.fr L x z s k:=by rw [← hm1];rfl
  have hk1:m1.kind=0:=by rw [← hm1];exact hp.kind
  have ht1:m1.took=m.took:=by rw [← hm1];rfl
  have ho1:m1.op=m.op:=by rw [← hm1];rfl
  have hg1:m1.fr.gas≤20000:=by rw [hf1];show m.fr.gas - _≤20000;have:=hp.gas;omega
  rw [← hf1] at hfr'
  apply zV
  refine midN ?_
  (refine tsZ ?_)
  refine fsZ ?_
  obtain ⟨A,hA⟩:∃ A,(if z=0 then 0 else x)=A:=⟨_,rfl⟩
  rw [hA]
  have hn1:z=0∨A+z≤(memR L x z).ms.length:=by
   rcases yB z with h|h
   ·exact .inl h
   ·right;rw [← hA,if_neg (by omega)];exact hin h
  have hn2:z≤1024:=by have:=hok1.2.1;omega
  obtain ⟨c,hc2⟩:∃ c,timesV ((z+31) / 32) 3=c:=⟨_,rfl⟩
  have hCopy:∀ w,Calls prog 221 #[.int .u64 (z:Int)] w (Ret w (.int .u64 (c:Int))):=fun w=>by rw [← hc2];exact Copy_calls z (by omega) w
  have hle:(layL (memR L x z).ms A (winL bl y z))=layL (memR L x z).ms x (winL bl y z):=by
   rcases yB z with h|h
   ·rw [h,show winL bl y 0=[] from rfl,layL_nil,layL_nil]
   ·rw [← hA,if_neg (by omega)]
  by_cases hc3:c≤m1.fr.gas
  ·have hsp:spendM m1 [c]=some (m1.setGas (m1.fr.gas - c)):=by unfold spendM;rw [if_pos (by simpa using hc3)];simp
   rw [show copyV m.fr L bl x y z=some (soOn ((m.fr.setG (m.fr.gas - costR L x z)).setG (m.fr.gas - costR L x z - c)) L.ws (layL (memR L x z).ms x (winL bl y z))) by unfold copyV spnV;rw [hrea];show (if timesV ((z+31) / 32) 3≤m.fr.gas - costR L x z then some _ else none).bind _=_;rw [hc2,if_pos (by rw [hf1] at hc3;exact hc3)];rfl]
   (refine goZ ?_;refine cEv hCopy ?_;intro _)
   rename_i bc
   refine qV (fs':=(b,maO m1)::(bc,.cells #[.int .u64 (c:Int)] 26 (0,0))::(gs'++((gt0,.cells cur 29 (0,0))::rest))) (yX (l₁:=[_])).symm ?_
   refine qP (K:=MaK b m1 (spendM m1 [c]) _) rfl rfl vF agZ rfl (fun fs h=>by rw [hsp] at h;cases h.1) (fun w' hst=>spend_calls w0 [] b m1 [c] (by omega) _ _ w' hst (fun w2 h2=>row_cells (h2.own (bc,_) (jX _ (jW _))).2 rfl rfl (by show 1≤maxLen;decide))) ?_ ?_
   ·rintro v fs' h
    rw [hsp] at h
    obtain ⟨h,rfl⟩:=h
    cases h
    obtain ⟨m2,hm2⟩:∃ m2,m1.setGas (m1.fr.gas - c)=m2:=⟨_,rfl⟩
    rw [hm2]
    have hf2:m2.fr=m1.fr.setG (m1.fr.gas - c):=by rw [← hm2];rfl
    have hk2:m2.kind=0:=by rw [← hm2];exact hk1
    have ht2:m2.took=m.took:=by rw [← hm2];exact ht1
    replace hfr':FrP m2.fr (memR L x z) gs':=by rw [hf2];exact hfr'
    refine qV (fs':=(b,maO m2)::(gs'++((bc,.cells #[.int .u64 (c:Int)] 26 (0,0))::(gt0,.cells cur 29 (0,0))::rest))) (List.Perm.cons _ (yX (l₁:=gs'))) ?_
    (refine nNz<|zL<|vMz<|vMz<|vMz<|vMz<|vNz<|vFz<|ldz rfl .head (hrdT ht2) ?_;refine lvz (.indexAddrSL rfl rfl (by decide) (by omega)) ?_;refine ldz rfl (.tail (.app (.tail .head))) hrdy<|vMz ?_)
    refine LW.callR rfl rfl vF agZ (fun w' hst=>window_calls bl y z hn2 hy hbl _ w' (hsel m2.fr (memR L x z) w' (hfr'.st hst fun p hp=>jI _ (yG _ hp)) (by rw [hf2,hf1];rfl) (by rw [hf2,hf1];rfl) rfl rfl)) ?_
    rintro vB gB hB
    have hB':=hB
    unfold bM at hB'
    obtain ⟨qB,kB,rfl⟩:=id hB'.form
    skip
    refine qV (fs':=(b,maO m2)::(gs'++(gB++((bc,.cells #[.int .u64 (c:Int)] 26 (0,0))::(gt0,.cells cur 29 (0,0))::rest)))) (perm_ix [gB,[_],gs'] (xs:=[1,2,0]) (ys:=[0,1,2]) ((bc,.cells #[.int .u64 (c:Int)] 26 (0,0))::(gt0,.cells cur 29 (0,0))::rest) rfl) ?_
    refine qO (K:=fun v fs'=>PutP b m2 (memR L x z) (layL (memR L x z).ms A (winL bl y z)) (gB++((bc,.cells #[.int .u64 (c:Int)] 26 (0,0))::(gt0,.cells cur 29 (0,0))::rest)) (.returned v) fs') rfl rfl vF agZ (fun w' hst=>vG (putM_calls w0 b m2 (memR L x z) gs' A (winL bl y z) _ hok1 (by rcases hn1 with h|h;exact .inl (by rw [h];rfl);exact .inr (by rw [winL_len];exact h)) hfr' _ w' (fun w2 h2=>IsRow.us hB' (us:=gB) (w:=w2) (fun p hp=>(h2.own p (jI _ (jT _ (yG _ hp)))).2) (jG _)) hst) fun x w'' ⟨fs',hk,hst⟩=>⟨_,fs',hk.1,by { have h:=hk;rw [hk.1] at h;exact h },hst⟩) ?_
    rintro v fs' ⟨hv,s2,k2,gs2,hfr2,rfl⟩
    cases hv
    (refine goZ ?_)
    rw [hle] at hfr2
    refine inPI (.inr rfl) .nil rfl .nil rfl ⟨_,⟨rfl,m2.setF (m2.fr.setR m2.fr.gas s2 k2),gs2,SoD.on (m:=m2.setF (m2.fr.setR m2.fr.gas s2 k2)) (s:=s2) (k:=k2) hk2 (by show m2.fr.setR m2.fr.gas s2 k2=_;rw [hf2,hf1];rfl) (by have h:=hfr2.toP;exact h),rfl⟩,_,?_,.refl _⟩
    exact jP _ (jL ((jK _ (jK _ (.refl _))).trans (jN gB _)) gs2)
   ·rintro ch fs' h
    rw [hsp] at h
    cases h.1
  ·have hsp:spendM m1 [c]=none:=by unfold spendM;rw [if_neg (by simpa using hc3)]
   rw [show copyV m.fr L bl x y z=none by unfold copyV spnV;rw [hrea];show (if timesV ((z+31) / 32) 3≤m.fr.gas - costR L x z then some _ else none).bind _=_;rw [hc2,if_neg (by rw [hf1] at hc3;exact hc3)];rfl]
   (refine goZ ?_;refine cEv hCopy ?_;intro _)
   rename_i bc
   refine qV (fs':=(b,maO m1)::(bc,.cells #[.int .u64 (c:Int)] 26 (0,0))::(gs'++((gt0,.cells cur 29 (0,0))::rest))) (yX (l₁:=[_])).symm ?_
   refine qP (K:=MaK b m1 (spendM m1 [c]) _) rfl rfl vF agZ rfl (fun fs h=>by rw [hsp] at h;cases h.1) (fun w' hst=>spend_calls w0 [] b m1 [c] (by omega) _ _ w' hst (fun w2 h2=>row_cells (h2.own (bc,_) (jX _ (jW _))).2 rfl rfl (by show 1≤maxLen;decide))) ?_ ?_
   ·rintro v fs' h
    rw [hsp] at h
    cases h.1
   ·rintro ch fs' h
    rw [hsp] at h
    obtain ⟨h,rfl⟩:=h
    cases h
    refine thenP ?_
    exact inPP .nil ⟨rest,⟨rfl,rfl⟩,_,jK _ (jK _ ((jK _ (.refl _)).trans (jN gs' _))),.refl _⟩
 ·rintro ch fs' (⟨hc,h,rfl⟩|⟨_,_,_,_,h,_⟩)
  ·cases h
   have hrea:reaV m.fr L x z=none:=by unfold reaV;exact if_neg (Nat.not_le.2 hc)
   rw [show copyV m.fr L bl x y z=none by unfold copyV;rw [hrea];rfl]
   refine midP ?_
   refine thenP ?_
   exact inPP .nil ⟨rest,⟨rfl,rfl⟩,_,jK _ (.refl _),.refl _⟩
  ·cases h
theorem dataCopy_do:DoC 163 55 3 0 (fun f L l=>copyV f L L.il (l.getD 0 0) (l.getD 1 0) (l.getD 2 0)):=by
 intro w0 b m L l gs gt rest w hT hN hp hop hl hly hfr ht hs
 dsimp only
 refine calls_anyO (qX (K:=anyO (DoK14 b m.fr L (copyV m.fr L L.il (l.getD 0 0) (l.getD 1 0) (l.getD 2 0)) rest)) (args:=[_]) func163 rfl ntmps163 rfl ?_ hs)
 (refine goZ ?_)
 refine qP (K:=DoK14 b m.fr L (copyV m.fr L L.il (l.getD 0 0) (l.getD 1 0) (l.getD 2 0)) rest) rfl rfl vF agZ rfl DoK14.plain (fun w' hst=>copies_calls w0 b m L l gs gt rest w' L.il m.fr.inp (by have:=hp.il;omega) hp hl hfr ht hst (fun f L' w2 h h1 _ h2 _=>by have h3:=h.i;rw [h1,h2] at h3;exact h3)) ?_ ?_
 ·exact dTBmAb
 ·rintro ch fs' hk
  obtain rfl:=hk.pan
  exact inPP .nil ⟨_,hk,_,.refl _,.refl _⟩
end
section
theorem dQBsly {P Q:Prop} (k:Q) (h:BoxZ Q→P:=by
 intro kQ
 (refine goZ ?_)
 apply CW.pre
 (refine qY [] 18 mixed (by decide +kernel) ?_)
 exact kQ.k):P:=h ⟨k⟩
theorem dTBOuo {P:Prop} (h:P:=by
 rename_i b2
 refine qP (K:=NeedK ((b2,.cells (wc S) 29 (0,0))::(b,maO m)::(gs++((gt0,.cells cur 29 (0,0))::rest)))) rfl rfl vF agZ rfl (fun fs h=>by cases h.1) (fun w' hst=>need_false w0 [] _ w' hst) ?_ ?_
 ·rintro v fs' ⟨h,_⟩
  cases h
 ·rintro ch fs' ⟨h,rfl⟩
  cases h
  refine thenP ?_
  exact inPP .nil ⟨rest,⟨rfl,rfl⟩,_,jK _ (jK _ ((jK _ (.refl _)).trans (jN gs _))),.refl _⟩):P:=h
attribute [local irreducible] SL.inP
theorem DoK14.drop {b:Nat} {f:FrV} {L:FrL} {o:Option SO} {c:Nat × Obj} {rest:Fs} {x:Ending} {fs:Fs} (h:DoK14 b f L o (c::rest) x fs):anyO (DoK14 b f L o rest) x fs:=by
 cases o with
 |none =>
  obtain ⟨h1,rfl⟩:=h
  exact ⟨rest,⟨h1,rfl⟩,_,jK _ (.refl _),.refl _⟩
 |some o =>
  obtain ⟨h1,m',gs',h2,rfl⟩:=h
  exact ⟨_,⟨h1,m',gs',h2,rfl⟩,_,jP _ (jL (.cons _ (.refl _)) gs'),.refl _⟩
theorem backCopy_do:DoC 164 62 3 0 (fun f L l=>if l.getD 1 0+l.getD 2 0≤L.bl.length then copyV f L L.bl (l.getD 0 0) (l.getD 1 0) (l.getD 2 0) else none):=by
 intro w0 b m L l gs gt rest w hT hN hp hop hl hly hfr ht hs
 obtain ⟨gt0,cur,ct,htk,rfl,hcur⟩:=took_at ht (by omega)
 replace hs:St w0 [] ((b,maO m)::(gs++((gt0,.cells cur 29 (0,0))::rest))) w:=hs
 have hrdT:∀ {m':MaV} {E fr},m'.took=m.took→Rd prog 23 (.cells (mca m') E fr) 18 (.slice (some ⟨gt0,0,none⟩) l.length ct):=fun {m' E fr} he=>by rw [show Value.slice (some ⟨gt0,0,none⟩) l.length ct=m'.took from htk.symm.trans he.symm];exact ma_rd18
 have hrdx:Rd prog 29 (.cells cur 29 (0,0)) (0+0 * 4) (wv (l.getD 0 0)):=word_rd hcur 0 (by omega)
 have hx:l.getD 0 0 < M256:=getD_wlt hp.ls (by omega)
 have hrdy:Rd prog 29 (.cells cur 29 (0,0)) (0+1 * 4) (wv (l.getD 1 0)):=word_rd hcur 1 (by omega)
 have hy:l.getD 1 0 < M256:=getD_wlt hp.ls (by omega)
 have hrdz:Rd prog 29 (.cells cur 29 (0,0)) (0+2 * 4) (wv (l.getD 2 0)):=word_rd hcur 2 (by omega)
 have hz:l.getD 2 0 < M256:=getD_wlt hp.ls (by omega)
 dsimp only
 obtain ⟨x,hxe⟩:∃ x,l.getD 0 0=x:=⟨_,rfl⟩
 rw [hxe] at hrdx hx ⊢
 obtain ⟨y,hye⟩:∃ y,l.getD 1 0=y:=⟨_,rfl⟩
 rw [hye] at hrdy hy ⊢
 obtain ⟨z,hze⟩:∃ z,l.getD 2 0=z:=⟨_,rfl⟩
 rw [hze] at hrdz hz ⊢
 obtain ⟨g1,g2,g3,g4,g5,hpm,hall⟩:=id hfr
 have r5:=hall.2.2.2.2
 unfold bM at r5
 obtain ⟨q5,k5,hi⟩:=id r5.form
 have hrdB:∀ {E fr},Rd prog 22 (.cells (mca m) E fr) 12 (.slice q5 L.bl.length k5):=fun {E fr}=>by rw [← hi];exact ma_rd12
 have hbl:L.bl.length≤1024:=hp.bl
 have hOf:∀ w,Calls prog 98 #[.int .u64 (L.bl.length:Int)] w (Ret w (wv L.bl.length)):=fun w=>Of_calls L.bl.length (by omega) w
 have hAdd0:=Add_calls y z hy hz
 obtain ⟨S,hS⟩:∃ S,(y+z) % M256=S:=⟨_,rfl⟩
 have hSl:S < M256:=hS ▸ yS _ (by decide)
 have hbM:L.bl.length < M256:=yR hbl (by decide)
 have hCmp:=Cmp_calls S L.bl.length hSl hbM
 rw [hS] at hAdd0
 by_cases hov:M256≤y+z
 ·rw [vE hov] at hAdd0
  have hAdd:∀ w,Calls prog 17 #[wv y,wv z] w (Ret w (.tuple #[wv S,.bool true])):=hAdd0
  rw [if_neg (by have h1:L.bl.length < y+z:=Nat.lt_of_lt_of_le hbM hov;omega)]
  refine calls_anyO (qX (K:=anyO (DoK14 b m.fr L (none) rest)) (args:=[_]) func164 rfl ntmps164 rfl ?_ hs)
  refine dQBsly ?_
  (refine tsZ ?_;refine dcz (c:=fun w _ _=>by exact hAdd w) (k:=?_);intro _;apply DW.store;rfl;rfl;exact zC;rfl;rfl;apply qR;kernel_rfl;exact zN;apply Wr.whole;rfl;rfl;rfl;refine goZ ?_)
  refine fsZ ?_
  (refine goZ ?_;refine anz 12 ?_)
  exact dTBOuo
 ·rw [vA hov] at hAdd0
  have hAdd:∀ w,Calls prog 17 #[wv y,wv z] w (Ret w (.tuple #[wv S,.bool false])):=hAdd0
  have hSe:S=y+z:=by rw [← hS];exact jY (Nat.lt_of_not_le hov)
  rw [← hSe]
  by_cases hle:S≤L.bl.length
  ·rw [if_pos hle]
   refine calls_anyO (qX (K:=anyO (DoK14 b m.fr L (copyV m.fr L L.bl x y z) rest)) (args:=[_]) func164 rfl ntmps164 rfl ?_ hs)
   refine dQBsly ?_
   (refine tsZ ?_;refine dcz (c:=fun w _ _=>by exact hAdd w) (k:=?_);intro _;apply DW.store;rfl;rfl;exact zC;rfl;rfl;apply qR;kernel_rfl;exact zN;apply Wr.whole;rfl;rfl;rfl;refine goZ ?_)
   refine fsZ ?_
   (refine goZ ?_;refine anz 12 ?_;refine dcz (c:=fun w _ _=>by exact hOf w) (k:=?_);refine cEv hCmp ?_;refine cEv need_true ?_)
   rename_i b2
   refine qV (fs':=(b,maO m)::(gs++((gt0,.cells cur 29 (0,0))::(b2,.cells (wc S) 29 (0,0))::rest))) (perm_ix [[_],gs,[_],[_]] (xs:=[0,1,2,3]) (ys:=[3,0,1,2]) rest rfl) ?_
   refine qP (K:=DoK14 b m.fr L (copyV m.fr L L.bl x y z) ((b2,.cells (wc S) 29 (0,0))::rest)) rfl rfl vF agZ rfl DoK14.plain (fun w' hst=>by have h:=copies_calls w0 b m L l gs [(gt0,.cells cur 29 (0,0))] ((b2,.cells (wc S) 29 (0,0))::rest) w' L.bl (.slice q5 L.bl.length k5) (by have:=hp.bl;omega) hp hl hfr ht hst (fun f L' w2 h _ h1 _ h2=>by have h3:=h.b;rw [h1,h2,hi] at h3;exact h3);rw [hxe,hye,hze] at h;exact h) ?_ ?_
   ·rintro v fs' hk
    obtain rfl:=hk.ret
    (refine goZ ?_)
    exact inPI (.inr rfl) .nil rfl .nil rfl (DoK14.drop hk)
   ·rintro ch fs' hk
    obtain rfl:=hk.pan
    exact inPP .nil (DoK14.drop hk)
  ·rw [if_neg hle]
   refine calls_anyO (qX (K:=anyO (DoK14 b m.fr L (none) rest)) (args:=[_]) func164 rfl ntmps164 rfl ?_ hs)
   refine dQBsly ?_
   (refine tsZ ?_;refine dcz (c:=fun w _ _=>by exact hAdd w) (k:=?_);intro _;apply DW.store;rfl;rfl;exact zC;rfl;rfl;apply qR;kernel_rfl;exact zN;apply Wr.whole;rfl;rfl;rfl;refine goZ ?_)
   refine fsZ ?_
   (refine goZ ?_;refine anz 12 ?_;refine dcz (c:=fun w _ _=>by exact hOf w) (k:=?_);refine cEv hCmp ?_)
   exact dTBOuo
theorem call_do (op:Nat) (h4:op=241∨op=244∨op=250∨op=245):DoC 173 op 3 0 (fun f L l=>callV14 op f L l):=by
 intro w0 b m L l gs gt rest w hT hN hp hop hl hly hfr ht hs
 obtain ⟨gt0,cur,ct,htk,rfl,hcur⟩:=took_at ht (by omega)
 replace hs:St w0 [] ((b,maO m)::(gs++((gt0,.cells cur 29 (0,0))::rest))) w:=hs
 have hrdT:∀ {m':MaV} {E fr},m'.took=m.took→Rd prog 23 (.cells (mca m') E fr) 18 (.slice (some ⟨gt0,0,none⟩) l.length ct):=fun {m' E fr} he=>by rw [show Value.slice (some ⟨gt0,0,none⟩) l.length ct=m'.took from htk.symm.trans he.symm];exact ma_rd18
 have hrdz:Rd prog 29 (.cells cur 29 (0,0)) (0+2 * 4) (wv (l.getD 2 0)):=word_rd hcur 2 (by omega)
 have hz:l.getD 2 0 < M256:=getD_wlt hp.ls (by omega)
 dsimp only
 unfold callV14
 obtain ⟨z,hze⟩:∃ z,l.getD 2 0=z:=⟨_,rfl⟩
 rw [hze] at hrdz hz ⊢
 obtain ⟨o,ho⟩:∃ o,m.op=o:=⟨_,rfl⟩
 have hoe:o=op:=ho.symm.trans hop
 have hrdO:∀ {E fr},Rd prog 5 (.cells (mca m) E fr) 20 (.int .u8 (o:Int)):=fun {E fr}=>by rw [← ho];exact ma_rd20
 cases hst0:m.fr.stat with
 |false =>
  have hrdS:∀ {E fr},Rd prog 4 (.cells (mca m) E fr) 13 (.bool false):=fun {E fr}=>by rw [← hst0];exact ma_rd13
  rw [if_neg (fun h=>by cases h.1)]
  refine calls_anyO (qX (K:=anyO (DoK14 b m.fr L (some ⟨2,op,m.fr.gas,m.fr.pc,L.ws,L.ms,l,[]⟩) rest)) (args:=[_]) func173 rfl ntmps173 rfl ?_ hs)
  (refine goZ ?_;refine cEv need_true ?_)
  refine qO (K:=fun v fs'=>v=.tuple #[]∧fs'=(b,maO (m.setAsk 2 o m.took (.slice none 0 0)))::(gs++((gt0,.cells cur 29 (0,0))::rest))) rfl rfl vF agZ (fun w' hst=>vG (asks_calls w0 [] b m 2 o _ ⟨_,_,_,htk⟩ w' hst) fun x w'' ⟨fs',hk,hst⟩=>⟨_,fs',hk.1,⟨rfl,hk.2⟩,hst⟩) ?_
  rintro _ _ ⟨rfl,rfl⟩
  (refine goZ ?_)
  refine inPI (.inr rfl) .nil rfl .nil rfl ⟨_,⟨rfl,m.setAsk 2 o m.took (.slice none 0 0),gs++([(gt0,Obj.cells cur 29 (0,0))]++[]),SoD.ask (m:=m.setAsk 2 o m.took (.slice none 0 0)) (g2:=[(gt0,Obj.cells cur 29 (0,0))]) (g3:=[]) (o:=⟨2,op,m.fr.gas,m.fr.pc,L.ws,L.ms,l,[]⟩) (s:=m.fr.stk) (k:=m.fr.mem) (by show (2:Int) ≠ 0;decide) rfl hoe rfl hfr ht bM_nil,rfl⟩,_,?_,.refl _⟩
  rw [jR]
  exact jG _
 |true =>
  have hrdS:∀ {E fr},Rd prog 4 (.cells (mca m) E fr) 13 (.bool true):=fun {E fr}=>by rw [← hst0];exact ma_rd13
  by_cases h245:o=245
  ·rw [if_pos ⟨rfl,.inl (by omega)⟩]
   refine calls_anyO (qX (K:=anyO (DoK14 b m.fr L (none) rest)) (args:=[_]) func173 rfl ntmps173 rfl ?_ hs)
   (refine goZ ?_)
   refine qP (K:=NeedK ((b,maO m)::(gs++((gt0,.cells cur 29 (0,0))::rest)))) rfl rfl vF agZ rfl (fun fs h=>by cases h.1) (fun w' hst=>need_false w0 [] _ w' hst) ?_ ?_
   ·rintro v fs' ⟨h,_⟩
    cases h
   ·rintro ch fs' ⟨h,rfl⟩
    cases h
    refine thenP ?_
    exact inPP .nil ⟨rest,⟨rfl,rfl⟩,_,jK _ ((jK _ (.refl _)).trans (jN gs _)),.refl _⟩
  ·by_cases h241:o=241
   ·by_cases hz0:z=0
    ·rw [if_neg (fun h=>by rcases h.2 with h|h;omega;exact h.2 hz0)]
     refine calls_anyO (qX (K:=anyO (DoK14 b m.fr L (some ⟨2,op,m.fr.gas,m.fr.pc,L.ws,L.ms,l,[]⟩) rest)) (args:=[_]) func173 rfl ntmps173 rfl ?_ hs)
     (refine sRz<|vMz<|vNz<|vFz<|vFz<|ldz rfl .head hrdO<|vAz<|nSz<|vMz<|vNz<|vFz<|vFz<|ldz rfl .head hrdS ?_;refine lvz (.notT rfl (by with_reducible rfl)) ?_;refine vMz<|gTz<|vMz<|gTz ?_;refine lvz (.neT rfl rfl (by omega)) ?_;refine gTz<|vMz<|gTz<|vMz<|gTz ?_;refine lvz (.neF rfl rfl (by omega)) ?_;refine gTz<|vMz<|gTz<|vMz<|gTz<|vNz<|gTz<|vFz<|gTz<|ldz rfl .head (hrdT rfl)<|gTz ?_;refine lvz (.indexAddrSL rfl rfl (by decide) (by omega)) ?_;refine gTz<|ldz rfl (.tail (.app .head)) hrdz<|gTz ?_;apply qN;rfl;rfl;exact ValP.buildW0;refine gTz ?_;refine lvz (.eqWT rfl rfl (by assumption)) ?_;refine gTz<|pFz<|gTz<|pTz<|pFz ?_;apply zS;rfl;rfl;exact vF;exact .cons rfl .nil;intro w _;exact need_true w;refine nNz<|zL<|vMz<|vMz ?_)
     refine qO (K:=fun v fs'=>v=.tuple #[]∧fs'=(b,maO (m.setAsk 2 o m.took (.slice none 0 0)))::(gs++((gt0,.cells cur 29 (0,0))::rest))) rfl rfl vF agZ (fun w' hst=>vG (asks_calls w0 [] b m 2 o _ ⟨_,_,_,htk⟩ w' hst) fun x w'' ⟨fs',hk,hst⟩=>⟨_,fs',hk.1,⟨rfl,hk.2⟩,hst⟩) ?_
     rintro _ _ ⟨rfl,rfl⟩
     (refine goZ ?_)
     refine inPI (.inr rfl) .nil rfl .nil rfl ⟨_,⟨rfl,m.setAsk 2 o m.took (.slice none 0 0),gs++([(gt0,Obj.cells cur 29 (0,0))]++[]),SoD.ask (m:=m.setAsk 2 o m.took (.slice none 0 0)) (g2:=[(gt0,Obj.cells cur 29 (0,0))]) (g3:=[]) (o:=⟨2,op,m.fr.gas,m.fr.pc,L.ws,L.ms,l,[]⟩) (s:=m.fr.stk) (k:=m.fr.mem) (by show (2:Int) ≠ 0;decide) rfl hoe rfl hfr ht bM_nil,rfl⟩,_,?_,.refl _⟩
     rw [jR]
     exact jG _
    ·rw [if_pos ⟨rfl,.inr ⟨by omega,hz0⟩⟩]
     refine calls_anyO (qX (K:=anyO (DoK14 b m.fr L (none) rest)) (args:=[_]) func173 rfl ntmps173 rfl ?_ hs)
     (refine sRz<|vMz<|vNz<|vFz<|vFz<|ldz rfl .head hrdO<|vAz<|nSz<|vMz<|vNz<|vFz<|vFz<|ldz rfl .head hrdS ?_;refine lvz (.notT rfl (by with_reducible rfl)) ?_;refine vMz<|gTz<|vMz<|gTz ?_;refine lvz (.neT rfl rfl (by omega)) ?_;refine gTz<|vMz<|gTz<|vMz<|gTz ?_;refine lvz (.neF rfl rfl (by omega)) ?_;refine gTz<|vMz<|gTz<|vMz<|gTz<|vNz<|gTz<|vFz<|gTz<|ldz rfl .head (hrdT rfl)<|gTz ?_;refine lvz (.indexAddrSL rfl rfl (by decide) (by omega)) ?_;refine gTz<|ldz rfl (.tail (.app .head)) hrdz<|gTz ?_;apply qN;rfl;rfl;exact ValP.buildW0;refine gTz ?_;refine lvz (.eqWF rfl rfl (by assumption) (by omega) (by assumption)) ?_;refine gTz<|pFz<|gTz<|pTz<|pFz ?_)
     refine qP (K:=NeedK ((b,maO m)::(gs++((gt0,.cells cur 29 (0,0))::rest)))) rfl rfl vF agZ rfl (fun fs h=>by cases h.1) (fun w' hst=>need_false w0 [] _ w' hst) ?_ ?_
     ·rintro v fs' ⟨h,_⟩
      cases h
     ·rintro ch fs' ⟨h,rfl⟩
      cases h
      refine thenP ?_
      exact inPP .nil ⟨rest,⟨rfl,rfl⟩,_,jK _ ((jK _ (.refl _)).trans (jN gs _)),.refl _⟩
   ·rw [if_neg (fun h=>by rcases h.2 with h|h;omega;exact absurd h.1 (by omega))]
    refine calls_anyO (qX (K:=anyO (DoK14 b m.fr L (some ⟨2,op,m.fr.gas,m.fr.pc,L.ws,L.ms,l,[]⟩) rest)) (args:=[_]) func173 rfl ntmps173 rfl ?_ hs)
    (refine goZ ?_;refine cEv need_true ?_)
    refine qO (K:=fun v fs'=>v=.tuple #[]∧fs'=(b,maO (m.setAsk 2 o m.took (.slice none 0 0)))::(gs++((gt0,.cells cur 29 (0,0))::rest))) rfl rfl vF agZ (fun w' hst=>vG (asks_calls w0 [] b m 2 o _ ⟨_,_,_,htk⟩ w' hst) fun x w'' ⟨fs',hk,hst⟩=>⟨_,fs',hk.1,⟨rfl,hk.2⟩,hst⟩) ?_
    rintro _ _ ⟨rfl,rfl⟩
    (refine goZ ?_)
    refine inPI (.inr rfl) .nil rfl .nil rfl ⟨_,⟨rfl,m.setAsk 2 o m.took (.slice none 0 0),gs++([(gt0,Obj.cells cur 29 (0,0))]++[]),SoD.ask (m:=m.setAsk 2 o m.took (.slice none 0 0)) (g2:=[(gt0,Obj.cells cur 29 (0,0))]) (g3:=[]) (o:=⟨2,op,m.fr.gas,m.fr.pc,L.ws,L.ms,l,[]⟩) (s:=m.fr.stk) (k:=m.fr.mem) (by show (2:Int) ≠ 0;decide) rfl hoe rfl hfr ht bM_nil,rfl⟩,_,?_,.refl _⟩
    rw [jR]
    exact jG _
end
end Go.Proofs.YtdeggbkbblfpoaaGreatDoor
