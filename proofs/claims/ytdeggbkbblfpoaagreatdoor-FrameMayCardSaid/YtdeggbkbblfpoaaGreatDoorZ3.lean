/-
  Texts that were built apart, put behind one another (3 of 4): N5 N6 Smx N7 N8 C1 C2 C3 C4 C5 C6 C7 N9 NA NB NC ND C8 NE NF NG Smy Smz NH NI Sna Q2 NJ NK Q0 Q3 Q5 Q6 Q7.
  Conditions: none.
-/
import Derived.Test.YtdeggbkbblfpoaaGreatDoorZ2
import Derived.Lib.Bytealg
import Derived.Laws.IdiomCopy
namespace Go.Proofs.YtdeggbkbblfpoaaGreatDoor
open Go Go.RowKit SL
set_option maxRecDepth 8000
set_option maxHeartbeats 4000000
set_option linter.unusedSimpArgs false
set_option linter.unusedVariables false
attribute [local irreducible] SL.CW SL.LW SL.DW Calls SL.Ret SL.RetG SL.beginQ SL.roundQ SL.rangeQ SL.inQ SL.RW SL.AnyW SL.thenQ SL.thenC SL.thenW SL.blkQ SL.finQ SL.ValP SL.NewP SL.SetP SL.CallP SL.Rd SL.Wr SL.Known
section
section wr
variable {P : Program} {T E : TypeId} {s m z : Value} {p : Option Addr} {n c : Nat}
theorem sc_wr0 [InfoI P T 1 z]:Wr P T (.cells #[s,m] E (0,0)) 0 (.slice p n c) (.cells #[.slice p n c,m] E (0,0)):=Wr.cells (n:=1) (z:=z) rfl rfl (by show 0+1≤2;omega) rfl
end wr
theorem push_full (ws:List Nat) (ms:List UInt8) (l:List Nat) (s m v:Value) (w:World) (hs:RowAt w 4 s ws.length (wcs ws)) (hm:RowAt w 1 m ms.length (ucs ms)) (hv:RowAt w 4 v l.length (wcs l)) (hok:okSc ws.length ms.length) (hll:l.length≤100000) (hf:64 < ws.length+l.length) :
  Calls Tryz.prog 119 #[.agg #[s,m],v] w (Ret w (.tuple #[.agg #[.slice none 0 0,.slice none 0 0],.int .i64 6])):=by
 obtain ⟨p,c,rfl,_,hc⟩:=hs.form
 obtain ⟨p2,c2,rfl,_,hc2⟩:=hm.form
 obtain ⟨p3,c3,rfl,_,_⟩:=hv.form
 have hC:∀ w,Calls Tryz.prog 84 #[.agg #[.slice p ws.length c,.slice p2 ms.length c2]] w (Ret w (.int .i64 0)):=fun w=>by
  have h:=scCheck_calls p p2 ws.length c ms.length c2 (by omega) (by omega) w
  rwa [if_pos hok] at h
 have hok2:=hok
 unfold okSc at hok2
 obtain ⟨hn1,hk1,hk2⟩:=hok2
 refine enter (args:=[_,_]) _ [] [] Tryz.func119 rfl Tryz.ntmps119 rfl (by simp) .nil ?_
 (refine sRz ?_;apply zT;rfl;rfl;intro _;apply zU;rfl;intro _;refine vAz<|nNz<|zI<|sRz<|ldz rfl (.tail .head) (qF rfl) ?_;apply zS;rfl;rfl;infer_instance;exact .cons rfl .nil;intro w _;exact hC w;refine vAz<|nSz<|vMz ?_;refine lvz (.neF rfl rfl (by omega)) ?_;refine nNz<|cFz<|zJ<|thenN<|zI<|sRz<|vFz<|ldz rfl (.tail .head) sc_rd0<|lvz (.lenR rfl inferInstance rfl)<|vMz<|lvz (.lenR rfl inferInstance rfl) ?_;refine lvz (.addZ rfl rfl (by omega)) ?_;refine lvz (.gtrT rfl rfl (by omega)) ?_;refine nNz<|cTz<|sRz ?_;apply LW.v0;rfl;rfl;apply zW;infer_instance;infer_instance;exact zB;rfl;simp only [fillP,wrCells,Value.cells,qH,qI,qJ,qG,qL,qK,Nat.reduceAdd,qN];rfl;refine zR rfl rfl .head (.whole rfl rfl rfl)<|vAz<|nNz<|zK<|thenR ?_)
 (apply finR;exact .inl rfl;rfl;rfl;rfl;apply zD;apply zH;rfl;apply qE;apply zY;exact qF rfl;apply zD;exact zG rfl;exact zF)
 rfl
theorem push_ok (ws:List Nat) (ms:List UInt8) (l:List Nat) (s m v:Value) (w:World) (hs:RowAt w 4 s ws.length (wcs ws)) (hm:RowAt w 1 m ms.length (ucs ms)) (hv:RowAt w 4 v l.length (wcs l)) (hok:okSc ws.length ms.length) (hll:l.length≤100000) (hf:ws.length+l.length≤64) :
  Calls Tryz.prog 119 #[.agg #[s,m],v] w (RetG w [] (fun r gs=>∃ o,r=.tuple #[o,.int .i64 0]∧ScO (ws++l) ms o gs)):=by
 have hs0:=hs
 have hm0:=hm
 obtain ⟨p,c,rfl,_,hc⟩:=hs.form
 obtain ⟨p2,c2,rfl,_,hc2⟩:=hm.form
 obtain ⟨p3,c3,rfl,_,_⟩:=id hv.form
 have hC:∀ w,Calls Tryz.prog 84 #[.agg #[.slice p ws.length c,.slice p2 ms.length c2]] w (Ret w (.int .i64 0)):=fun w=>by
  have h:=scCheck_calls p p2 ws.length c ms.length c2 (by omega) (by omega) w
  rwa [if_pos hok] at h
 have hok2:=hok
 unfold okSc at hok2
 obtain ⟨hn1,hk1,hk2⟩:=hok2
 refine enter (args:=[_,_]) _ [] [] Tryz.func119 rfl Tryz.ntmps119 rfl (by simp) .nil ?_
 (refine sRz ?_;apply zT;rfl;rfl;intro _;apply zU;rfl;intro _;refine vAz<|nNz<|zI<|sRz<|ldz rfl (.tail .head) (qF rfl) ?_;apply zS;rfl;rfl;infer_instance;exact .cons rfl .nil;intro w _;exact hC w;refine vAz<|nSz<|vMz ?_;refine lvz (.neF rfl rfl (by omega)) ?_;refine nNz<|cFz<|zJ<|thenN<|zI<|sRz<|vFz<|ldz rfl (.tail .head) sc_rd0<|lvz (.lenR rfl inferInstance rfl)<|vMz<|lvz (.lenR rfl inferInstance rfl) ?_;refine lvz (.addZ rfl rfl (by omega)) ?_;refine lvz (.gtrF rfl rfl (by omega)) ?_;refine nNz<|cFz<|zJ<|thenN<|sRz<|ldz rfl (.tail .head) (qF rfl) ?_)
 (apply LW.callR;rfl;rfl;infer_instance;exact .cons rfl .nil;intro w hs)
 exact copied_calls ws ms _ _ w (hs0.st hs) (hm0.st hs) (by omega) (by omega)
 rintro vo gso ⟨s1,m1,g1,g2,rfl,rfl,h1,h2⟩
 have h1':=h1
 have h2':=h2
 unfold wM at h1'
 unfold bM at h2'
 obtain ⟨q1,k1,rfl⟩:=h1'.form
 obtain ⟨q2,k2,rfl⟩:=h2'.form
 (apply zU;rfl;intro _;refine zR rfl rfl .head (.whole rfl rfl rfl)<|nSz<|vFz<|ldz rfl .head sc_rd0<|vMz ?_)
 rw [List.append_assoc]
 (apply LW.appendAny;(case hrow=>exact h1');rfl;rfl;infer_instance;infer_instance;infer_instance;rfl;rfl;rfl;(apply AtSeg.cons;apply AtSeg.app;exact AtSeg.head))
 ·exact fun w hs=>hv.st hs
 ·exact wcs_cells l
 ·simp only [maxLen];omega
 ·omega
 intro v1 seg1 hrow1
 refine ⟨_,(by (apply AtSeg.cons;apply AtSeg.app;exact AtSeg.head)),?_⟩
 simp only [List.nil_append,qN,List.append_nil] at hrow1 ⊢
 obtain ⟨q3,k3,rfl⟩:=hrow1.form
 (refine vFz ?_;refine zR rfl rfl .head sc_wr0<|nSz<|ldz rfl .head (qF rfl) ?_;refine zR rfl rfl (.tail (.app (.app .head))) (.whole rfl rfl rfl)<|vAz<|nNz<|zK ?_)
 refine fin (vs:=[.agg #[.slice q3 (ws.length+l.length) k3,.slice q2 ms.length k2],.int .i64 0]) (g2++seg1) (.inl rfl) rfl rfl (by (apply zD;apply zH;rfl;apply qE;apply zX;apply zZ;apply zZ;apply zY;exact qF rfl;apply zD;exact zG rfl;exact zF)) ?_ ⟨_,rfl,_,_,seg1,g2,rfl,rfl,?_,h2⟩
 ·exact qQ _ (List.Sublist.append_left (qP _ _) _)
 ·unfold wM
  rw [List.length_append,wcs_app]
  exact hrow1
end
section
attribute [local irreducible] SL.inP
theorem lay_ok (w0:World) (S:List Nat) (b:Nat) (m:MaV) (ws:List Nat) (ms:List UInt8) (l:List Nat) (v:Value) (rest:Fs) (w:World) (hs:St w0 S ((b,maO m)::rest) w)
  (h1:∀ w',St w0 S ((b,maO m)::rest) w'→RowAt w' 4 m.fr.stk ws.length (wcs ws)∧RowAt w' 1 m.fr.mem ms.length (ucs ms)∧RowAt w' 4 v l.length (wcs l)) (hok:okSc ws.length ms.length) (hll:l.length≤100000) (hf:ws.length+l.length≤64) :
  Calls Tryz.prog 74 #[.pointer (some ⟨b,0,none⟩),v] w (fun x w'=>∃ fs',(x=.returned (.tuple #[])∧∃ s k gs c4,ScO (ws++l) ms (.agg #[s,k]) gs∧fs'=c4::(gs++(b,maO (m.setSc s k))::rest))∧St w0 S fs' w'):=by
 refine calls_inlineP (K:=fun x fs'=>x=.returned (.tuple #[])∧∃ s k gs c4,ScO (ws++l) ms (.agg #[s,k]) gs∧fs'=c4::(gs++(b,maO (m.setSc s k))::rest)) (args:=[_,_]) Tryz.func74 rfl Tryz.ntmps74 rfl ?_ hs
 (refine sRz<|vMz<|vNz<|vFz<|vFz<|ldz rfl .head ma_rd2<|vMz ?_)
 (apply LW.callR;rfl;rfl;infer_instance;exact .cons rfl (.cons rfl .nil);intro w hs)
 exact push_ok ws ms l _ _ _ w (h1 w hs).1 (h1 w hs).2.1 (h1 w hs).2.2 hok hll hf
 rintro vo gso ⟨o,rfl,s1,m1,g1,g2,rfl,rfl,hw1,hb1⟩
 have hw1':=hw1
 have hb1':=hb1
 unfold wM at hw1'
 unfold bM at hb1'
 obtain ⟨q1,k1,rfl⟩:=hw1'.form
 obtain ⟨q2,k2,rfl⟩:=hb1'.form
 (refine vMz ?_;refine vEz ?_;refine vEz ?_;apply zU;rfl;intro _;refine zR rfl rfl .head (.whole rfl rfl rfl)<|vAz<|nSz<|vMz ?_;refine lvz (.eqT rfl rfl (by omega)) ?_;apply zS;rfl;rfl;infer_instance;exact .cons rfl .nil;intro w _;exact need_true w;refine nNz<|zL<|vMz<|ldz rfl .head (qF rfl)<|vNz<|vFz<|vFz ?_;refine zR rfl rfl (.tail (.app .head)) (ma_wr2 rfl rfl rfl rfl) ?_;apply zV)
 exact inPI (.inr rfl) .nil rfl .nil rfl ⟨rfl,_,_,g2++g1,_,⟨_,_,g1,g2,rfl,rfl,hw1,hb1⟩,rfl⟩
theorem lay_full (w0:World) (S:List Nat) (b:Nat) (m:MaV) (ws:List Nat) (ms:List UInt8) (l:List Nat) (v:Value) (rest:Fs) (w:World) (hs:St w0 S ((b,maO m)::rest) w)
  (h1:∀ w',St w0 S ((b,maO m)::rest) w'→RowAt w' 4 m.fr.stk ws.length (wcs ws)∧RowAt w' 1 m.fr.mem ms.length (ucs ms)∧RowAt w' 4 v l.length (wcs l)) (hok:okSc ws.length ms.length) (hll:l.length≤100000) (hf:64 < ws.length+l.length) :
  Calls Tryz.prog 74 #[.pointer (some ⟨b,0,none⟩),v] w (fun x w'=>∃ fs',(x=.panicked failC∧∃ c4,fs'=c4::(b,maO m)::rest)∧St w0 S fs' w'):=by
 have hP:∀ w',St w0 S ((b,maO m)::rest) w'→Calls Tryz.prog 119 #[.agg #[m.fr.stk,m.fr.mem],v] w' (Ret w' (.tuple #[.agg #[.slice none 0 0,.slice none 0 0],.int .i64 6])):=fun w' hst =>
  push_full ws ms l _ _ _ w' (h1 w' hst).1 (h1 w' hst).2.1 (h1 w' hst).2.2 hok hll hf
 refine calls_inlineP (K:=fun x fs'=>x=.panicked failC∧∃ c4,fs'=c4::(b,maO m)::rest) (args:=[_,_]) Tryz.func74 rfl Tryz.ntmps74 rfl ?_ hs
 (refine sRz<|vMz<|vNz<|vFz<|vFz<|ldz rfl .head ma_rd2<|vMz ?_;apply zS;rfl;rfl;infer_instance;exact .cons rfl (.cons rfl .nil);intro w _;exact hP w (by assumption);refine vMz ?_;refine vEz ?_;refine vEz ?_;apply zU;rfl;intro _;refine zR rfl rfl .head (.whole rfl rfl rfl)<|vAz<|nSz<|vMz ?_;refine lvz (.eqF rfl rfl (by omega)) ?_)
 rename_i b4
 refine LW.callP (K:=NeedK ((b4,.cells #[.slice none 0 0,.slice none 0 0] 25 (0,0))::(b,maO m)::rest)) rfl rfl inferInstance (by (exact .cons rfl .nil)) rfl (fun fs h=>by cases h.1) (fun w' hst=>need_false w0 S _ w' hst) ?_ ?_
 ·rintro v fs' ⟨h,_⟩
  cases h
 ·rintro ch fs' ⟨h,rfl⟩
  cases h
  refine thenP ?_
  exact inPP .nil ⟨rfl,_,rfl⟩
end
end Go.Proofs.YtdeggbkbblfpoaaGreatDoor
namespace Go.Proofs.YtdeggbkbblfpoaaGreatDoor.SL
set_option linter.unusedVariables false
open Go Go.RowKit
section mm
variable {P : Program} {e : Env} {x y : Operand} {tys : Array TypeId} {m n : Nat} {ik : IntKind}
end mm
end Go.Proofs.YtdeggbkbblfpoaaGreatDoor.SL
namespace Go.Proofs.YtdeggbkbblfpoaaGreatDoor
open Go Go.RowKit SL
set_option maxRecDepth 8000
set_option maxHeartbeats 4000000
set_option linter.unusedSimpArgs false
set_option linter.unusedVariables false
attribute [local irreducible] SL.CW SL.LW SL.DW Calls SL.Ret SL.RetG SL.beginQ SL.roundQ SL.rangeQ SL.inQ SL.RW SL.AnyW SL.thenQ SL.thenC SL.thenW SL.blkQ SL.finQ SL.ValP SL.NewP SL.SetP SL.CallP SL.Rd SL.Wr SL.Known

section
theorem st_sub {w0 w:World} {S:List Nat} {fs gs:Fs} (h:St w0 S fs w) (hg:List.Sublist gs fs):St w0 S gs w:=⟨h.bel,fun p hp=>h.own p (hg.subset hp),h.nd.sublist hg⟩
attribute [local irreducible] SL.inP
end
end Go.Proofs.YtdeggbkbblfpoaaGreatDoor
namespace Go.Proofs.YtdeggbkbblfpoaaGreatDoor.CK
open Go Go.RowKit SL
set_option maxRecDepth 8000
set_option maxHeartbeats 4000000
set_option linter.unusedSimpArgs false
set_option linter.unusedVariables false
attribute [local irreducible] SL.CW SL.LW SL.DW Calls SL.Ret SL.RetG SL.beginQ SL.roundQ SL.rangeQ SL.inQ SL.RW SL.AnyW SL.thenQ SL.thenC SL.thenW SL.blkQ SL.finQ SL.ValP SL.NewP SL.SetP SL.CallP SL.Rd SL.Wr SL.Known


theorem ucs_app (a b:List UInt8):ucs (a++b)=ucs a++ucs b:=by simp [ucs]
theorem digit_ucs (n:Nat) (h:n < 10):[Value.int .u8 (((48+n) % 256:Nat):Int)]=ucs [UInt8.ofNat (48+n)]:=by
 have:((UInt8.ofNat (48+n)).toNat:Nat)=(48+n) % 256:=by simp
 show _=[Value.int .u8 (((UInt8.ofNat (48+n)).toNat:Nat):Int)]
 rw [this]
theorem number1_calls (n:Nat) (hn:n < 10) (w:World):Calls Tryz.prog 104 #[.int .i64 (n:Int)] w (Ret w (sv [UInt8.ofNat (48+n)])):=by
 have hd:=digit_ucs n hn
 refine enter (args:=[_]) _ [] [] Tryz.func104 rfl Tryz.ntmps104 rfl (by simp) .nil ?_
 (refine sRz<|vAz<|nNz<|zI<|sRz<|vMz ?_;refine lvz (.lssT rfl rfl (by omega)) ?_;refine nNz<|cTz<|sRz<|vMz ?_;refine lvz (.addZK rfl rfl (by decide) (by omega)) ?_;refine lvz (.convB rfl) ?_;apply LW.lay1;rfl;infer_instance;infer_instance;rfl;rfl;rfl;rfl;rfl;rfl;intro _)
 rename_i b
 have hrow:∀ w',w'.heap[b]?=some (.cells #[.int .u8 (((48+n) % 256:Nat):Int)] 5 (0,0))→RowAt w' 1 (.slice (some ⟨b,0,none⟩) 1 1) 1 (ucs [UInt8.ofNat (48+n)]):=fun w' h =>
  RowAt.us (us:=[]) (cur:=#[.int .u8 (((48+n) % 256:Nat):Int)]) (E:=5) (fr:=(0,0)) (fun p hp=>by rcases List.mem_singleton.1 hp with rfl;exact h) (Nat.le_refl _) (by decide) hd rfl
 refine LW.toStr rfl inferInstance inferInstance inferInstance rfl (fun w' hs=>hrow w' (hs.own (b,_) (by (exact List.Mem.head _))).2) ?_
 (refine vAz<|nNz<|zK<|thenR ?_)
 (apply finR;exact .inl rfl;rfl;rfl;rfl;apply zD;exact zG rfl;exact zF)
 rfl
theorem number_calls (n:Nat) (hn:n < 100) (w:World):Calls Tryz.prog 104 #[.int .i64 (n:Int)] w (Ret w (sv (itoa n))):=by
 unfold itoa
 split
 ·rename_i h;exact number1_calls n h w
 ·rename_i h
  have h1:=number1_calls (n / 10) (by omega)
  have h2:=number1_calls (n % 10) (by omega)
  have l1:[UInt8.ofNat (48+n / 10)].length=1:=rfl
  have l2:[UInt8.ofNat (48+n % 10)].length=1:=rfl
  refine enter (args:=[_]) _ [] [] Tryz.func104 rfl Tryz.ntmps104 rfl (by simp) .nil ?_
  obtain ⟨x,hx⟩:∃ x,[UInt8.ofNat (48+n / 10)]=x:=⟨_,rfl⟩
  obtain ⟨y,hy⟩:∃ y,[UInt8.ofNat (48+n % 10)]=y:=⟨_,rfl⟩
  rw [hx] at h1 l1
  rw [hy] at h2 l2
  rw [show [UInt8.ofNat (48+n / 10),UInt8.ofNat (48+n % 10)]=x++y by rw [← hx,← hy];rfl]
  (refine sRz<|vAz<|nNz<|zI<|sRz<|vMz ?_;refine lvz (.lssF rfl rfl (by omega)) ?_;refine nNz<|cFz<|zJ<|thenN<|sRz<|vMz ?_;refine lvz (.quoZL rfl rfl (by decide) (by omega) (by omega)) ?_;apply zS;rfl;rfl;infer_instance;exact .cons rfl .nil;intro w _;exact h1 w;refine vMz ?_;refine lvz (.remZL rfl rfl (by decide) (by omega)) ?_;apply zS;rfl;rfl;infer_instance;exact .cons rfl .nil;intro w _;exact h2 w;apply LW.v0;rfl;rfl;apply ValP.addStr;rfl;rfl;omega;refine vAz<|nNz<|zK ?_)
  (apply finR;exact .inl rfl;rfl;rfl;rfl;apply zD;exact zG rfl;exact zF)
  rfl
def PlainR (v:Value) (gs:Fs):Prop:=∃ b,v=.slice (some ⟨b,0,none⟩) 50 50∧gs=[(b,.cells (opcs plainOps).toArray 86 (0,0))]
theorem rPlain_calls (w:World):Calls Tryz.prog 105 #[] w (RetG w [] PlainR):=by
 refine enter (args:=[]) _ [] [] Tryz.func105 rfl Tryz.ntmps105 rfl (by simp) .nil ?_
 (refine sRz<|vAz<|nSz ?_;apply LW.v0;rfl;rfl;apply zW;infer_instance;infer_instance;apply zA;rfl;apply zA;rfl;exact zB;rfl;simp only [fillP,wrCells,Value.cells,qH,qI,qJ,qG,qL,qK,Nat.reduceAdd,qN];rfl;apply LW.v0;rfl;rfl;apply zW;infer_instance;infer_instance;apply zA;rfl;apply zA;rfl;apply zA;rfl;apply zA;rfl;exact zB;rfl;simp only [fillP,wrCells,Value.cells,qH,qI,qJ,qG,qL,qK,Nat.reduceAdd,qN];rfl;apply LW.v0;rfl;rfl;apply zW;infer_instance;infer_instance;apply zA;rfl;apply zA;rfl;apply zA;rfl;apply zA;rfl;exact zB;rfl;simp only [fillP,wrCells,Value.cells,qH,qI,qJ,qG,qL,qK,Nat.reduceAdd,qN];rfl;apply LW.v0;rfl;rfl;apply zW;infer_instance;infer_instance;apply zA;rfl;apply zA;rfl;apply zA;rfl;apply zA;rfl;exact zB;rfl;simp only [fillP,wrCells,Value.cells,qH,qI,qJ,qG,qL,qK,Nat.reduceAdd,qN];rfl;apply LW.v0;rfl;rfl;apply zW;infer_instance;infer_instance;apply zA;rfl;apply zA;rfl;apply zA;rfl;apply zA;rfl;exact zB;rfl;simp only [fillP,wrCells,Value.cells,qH,qI,qJ,qG,qL,qK,Nat.reduceAdd,qN];rfl;apply LW.v0;rfl;rfl;apply zW;infer_instance;infer_instance;apply zA;rfl;apply zA;rfl;apply zA;rfl;apply zA;rfl;exact zB;rfl;simp only [fillP,wrCells,Value.cells,qH,qI,qJ,qG,qL,qK,Nat.reduceAdd,qN];rfl;apply LW.v0;rfl;rfl;apply zW;infer_instance;infer_instance;apply zA;rfl;apply zA;rfl;apply zA;rfl;apply zA;rfl;exact zB;rfl;simp only [fillP,wrCells,Value.cells,qH,qI,qJ,qG,qL,qK,Nat.reduceAdd,qN];rfl;apply LW.v0;rfl;rfl;apply zW;infer_instance;infer_instance;apply zA;rfl;apply zA;rfl;apply zA;rfl;apply zA;rfl;exact zB;rfl;simp only [fillP,wrCells,Value.cells,qH,qI,qJ,qG,qL,qK,Nat.reduceAdd,qN];rfl;apply LW.v0;rfl;rfl;apply zW;infer_instance;infer_instance;apply zA;rfl;apply zA;rfl;apply zA;rfl;apply zA;rfl;exact zB;rfl;simp only [fillP,wrCells,Value.cells,qH,qI,qJ,qG,qL,qK,Nat.reduceAdd,qN];rfl;apply LW.v0;rfl;rfl;apply zW;infer_instance;infer_instance;apply zA;rfl;apply zA;rfl;apply zA;rfl;apply zA;rfl;exact zB;rfl;simp only [fillP,wrCells,Value.cells,qH,qI,qJ,qG,qL,qK,Nat.reduceAdd,qN];rfl;apply LW.v0;rfl;rfl;apply zW;infer_instance;infer_instance;apply zA;rfl;apply zA;rfl;apply zA;rfl;apply zA;rfl;exact zB;rfl;simp only [fillP,wrCells,Value.cells,qH,qI,qJ,qG,qL,qK,Nat.reduceAdd,qN];rfl;apply LW.v0;rfl;rfl;apply zW;infer_instance;infer_instance;apply zA;rfl;apply zA;rfl;apply zA;rfl;apply zA;rfl;exact zB;rfl;simp only [fillP,wrCells,Value.cells,qH,qI,qJ,qG,qL,qK,Nat.reduceAdd,qN];rfl;apply LW.v0;rfl;rfl;apply zW;infer_instance;infer_instance;apply zA;rfl;apply zA;rfl;apply zA;rfl;apply zA;rfl;exact zB;rfl;simp only [fillP,wrCells,Value.cells,qH,qI,qJ,qG,qL,qK,Nat.reduceAdd,qN];rfl;apply LW.v0;rfl;rfl;apply zW;infer_instance;infer_instance;apply zA;rfl;apply zA;rfl;apply zA;rfl;apply zA;rfl;exact zB;rfl;simp only [fillP,wrCells,Value.cells,qH,qI,qJ,qG,qL,qK,Nat.reduceAdd,qN];rfl;apply LW.v0;rfl;rfl;apply zW;infer_instance;infer_instance;apply zA;rfl;apply zA;rfl;apply zA;rfl;apply zA;rfl;exact zB;rfl;simp only [fillP,wrCells,Value.cells,qH,qI,qJ,qG,qL,qK,Nat.reduceAdd,qN];rfl;apply LW.v0;rfl;rfl;apply zW;infer_instance;infer_instance;apply zA;rfl;apply zA;rfl;apply zA;rfl;apply zA;rfl;exact zB;rfl;simp only [fillP,wrCells,Value.cells,qH,qI,qJ,qG,qL,qK,Nat.reduceAdd,qN];rfl;apply LW.v0;rfl;rfl;apply zW;infer_instance;infer_instance;apply zA;rfl;apply zA;rfl;apply zA;rfl;apply zA;rfl;exact zB;rfl;simp only [fillP,wrCells,Value.cells,qH,qI,qJ,qG,qL,qK,Nat.reduceAdd,qN];rfl;apply LW.v0;rfl;rfl;apply zW;infer_instance;infer_instance;apply zA;rfl;apply zA;rfl;apply zA;rfl;exact zB;rfl;simp only [fillP,wrCells,Value.cells,qH,qI,qJ,qG,qL,qK,Nat.reduceAdd,qN];rfl;apply LW.v0;rfl;rfl;apply zW;infer_instance;infer_instance;apply zA;rfl;apply zA;rfl;apply zA;rfl;apply zA;rfl;exact zB;rfl;simp only [fillP,wrCells,Value.cells,qH,qI,qJ,qG,qL,qK,Nat.reduceAdd,qN];rfl;apply LW.v0;rfl;rfl;apply zW;infer_instance;infer_instance;apply zA;rfl;apply zA;rfl;apply zA;rfl;exact zB;rfl;simp only [fillP,wrCells,Value.cells,qH,qI,qJ,qG,qL,qK,Nat.reduceAdd,qN];rfl;apply LW.v0;rfl;rfl;apply zW;infer_instance;infer_instance;apply zA;rfl;apply zA;rfl;apply zA;rfl;exact zB;rfl;simp only [fillP,wrCells,Value.cells,qH,qI,qJ,qG,qL,qK,Nat.reduceAdd,qN];rfl;apply LW.v0;rfl;rfl;apply zW;infer_instance;infer_instance;apply zA;rfl;apply zA;rfl;apply zA;rfl;exact zB;rfl;simp only [fillP,wrCells,Value.cells,qH,qI,qJ,qG,qL,qK,Nat.reduceAdd,qN];rfl;apply LW.v0;rfl;rfl;apply zW;infer_instance;infer_instance;apply zA;rfl;apply zA;rfl;apply zA;rfl;apply zA;rfl;exact zB;rfl;simp only [fillP,wrCells,Value.cells,qH,qI,qJ,qG,qL,qK,Nat.reduceAdd,qN];rfl;apply LW.v0;rfl;rfl;apply zW;infer_instance;infer_instance;apply zA;rfl;apply zA;rfl;apply zA;rfl;exact zB;rfl;simp only [fillP,wrCells,Value.cells,qH,qI,qJ,qG,qL,qK,Nat.reduceAdd,qN];rfl;apply LW.v0;rfl;rfl;apply zW;infer_instance;infer_instance;apply zA;rfl;apply zA;rfl;apply zA;rfl;exact zB;rfl;simp only [fillP,wrCells,Value.cells,qH,qI,qJ,qG,qL,qK,Nat.reduceAdd,qN];rfl;apply LW.v0;rfl;rfl;apply zW;infer_instance;infer_instance;apply zA;rfl;apply zA;rfl;apply zA;rfl;exact zB;rfl;simp only [fillP,wrCells,Value.cells,qH,qI,qJ,qG,qL,qK,Nat.reduceAdd,qN];rfl;apply LW.v0;rfl;rfl;apply zW;infer_instance;infer_instance;apply zA;rfl;apply zA;rfl;apply zA;rfl;exact zB;rfl;simp only [fillP,wrCells,Value.cells,qH,qI,qJ,qG,qL,qK,Nat.reduceAdd,qN];rfl;apply LW.v0;rfl;rfl;apply zW;infer_instance;infer_instance;apply zA;rfl;apply zA;rfl;apply zA;rfl;exact zB;rfl;simp only [fillP,wrCells,Value.cells,qH,qI,qJ,qG,qL,qK,Nat.reduceAdd,qN];rfl;apply LW.v0;rfl;rfl;apply zW;infer_instance;infer_instance;apply zA;rfl;apply zA;rfl;apply zA;rfl;exact zB;rfl;simp only [fillP,wrCells,Value.cells,qH,qI,qJ,qG,qL,qK,Nat.reduceAdd,qN];rfl;apply LW.v0;rfl;rfl;apply zW;infer_instance;infer_instance;apply zA;rfl;apply zA;rfl;apply zA;rfl;exact zB;rfl;simp only [fillP,wrCells,Value.cells,qH,qI,qJ,qG,qL,qK,Nat.reduceAdd,qN];rfl;apply LW.v0;rfl;rfl;apply zW;infer_instance;infer_instance;apply zA;rfl;apply zA;rfl;apply zA;rfl;exact zB;rfl;simp only [fillP,wrCells,Value.cells,qH,qI,qJ,qG,qL,qK,Nat.reduceAdd,qN];rfl;apply LW.v0;rfl;rfl;apply zW;infer_instance;infer_instance;apply zA;rfl;apply zA;rfl;apply zA;rfl;exact zB;rfl;simp only [fillP,wrCells,Value.cells,qH,qI,qJ,qG,qL,qK,Nat.reduceAdd,qN];rfl;apply LW.v0;rfl;rfl;apply zW;infer_instance;infer_instance;apply zA;rfl;apply zA;rfl;apply zA;rfl;apply zA;rfl;exact zB;rfl;simp only [fillP,wrCells,Value.cells,qH,qI,qJ,qG,qL,qK,Nat.reduceAdd,qN];rfl;apply LW.v0;rfl;rfl;apply zW;infer_instance;infer_instance;apply zA;rfl;apply zA;rfl;apply zA;rfl;exact zB;rfl;simp only [fillP,wrCells,Value.cells,qH,qI,qJ,qG,qL,qK,Nat.reduceAdd,qN];rfl;apply LW.v0;rfl;rfl;apply zW;infer_instance;infer_instance;apply zA;rfl;apply zA;rfl;apply zA;rfl;exact zB;rfl;simp only [fillP,wrCells,Value.cells,qH,qI,qJ,qG,qL,qK,Nat.reduceAdd,qN];rfl;apply LW.v0;rfl;rfl;apply zW;infer_instance;infer_instance;apply zA;rfl;apply zA;rfl;apply zA;rfl;apply zA;rfl;exact zB;rfl;simp only [fillP,wrCells,Value.cells,qH,qI,qJ,qG,qL,qK,Nat.reduceAdd,qN];rfl;apply LW.v0;rfl;rfl;apply zW;infer_instance;infer_instance;apply zA;rfl;apply zA;rfl;apply zA;rfl;exact zB;rfl;simp only [fillP,wrCells,Value.cells,qH,qI,qJ,qG,qL,qK,Nat.reduceAdd,qN];rfl;apply LW.v0;rfl;rfl;apply zW;infer_instance;infer_instance;apply zA;rfl;apply zA;rfl;apply zA;rfl;exact zB;rfl;simp only [fillP,wrCells,Value.cells,qH,qI,qJ,qG,qL,qK,Nat.reduceAdd,qN];rfl;apply LW.v0;rfl;rfl;apply zW;infer_instance;infer_instance;apply zA;rfl;apply zA;rfl;apply zA;rfl;exact zB;rfl;simp only [fillP,wrCells,Value.cells,qH,qI,qJ,qG,qL,qK,Nat.reduceAdd,qN];rfl;apply LW.v0;rfl;rfl;apply zW;infer_instance;infer_instance;apply zA;rfl;apply zA;rfl;apply zA;rfl;exact zB;rfl;simp only [fillP,wrCells,Value.cells,qH,qI,qJ,qG,qL,qK,Nat.reduceAdd,qN];rfl;apply LW.v0;rfl;rfl;apply zW;infer_instance;infer_instance;apply zA;rfl;apply zA;rfl;exact zB;rfl;simp only [fillP,wrCells,Value.cells,qH,qI,qJ,qG,qL,qK,Nat.reduceAdd,qN];rfl;apply LW.v0;rfl;rfl;apply zW;infer_instance;infer_instance;apply zA;rfl;apply zA;rfl;apply zA;rfl;apply zA;rfl;exact zB;rfl;simp only [fillP,wrCells,Value.cells,qH,qI,qJ,qG,qL,qK,Nat.reduceAdd,qN];rfl;apply LW.v0;rfl;rfl;apply zW;infer_instance;infer_instance;apply zA;rfl;apply zA;rfl;apply zA;rfl;exact zB;rfl;simp only [fillP,wrCells,Value.cells,qH,qI,qJ,qG,qL,qK,Nat.reduceAdd,qN];rfl;apply LW.v0;rfl;rfl;apply zW;infer_instance;infer_instance;apply zA;rfl;apply zA;rfl;apply zA;rfl;apply zA;rfl;exact zB;rfl;simp only [fillP,wrCells,Value.cells,qH,qI,qJ,qG,qL,qK,Nat.reduceAdd,qN];rfl;apply LW.v0;rfl;rfl;apply zW;infer_instance;infer_instance;apply zA;rfl;apply zA;rfl;apply zA;rfl;exact zB;rfl;simp only [fillP,wrCells,Value.cells,qH,qI,qJ,qG,qL,qK,Nat.reduceAdd,qN];rfl;apply LW.v0;rfl;rfl;apply zW;infer_instance;infer_instance;apply zA;rfl;apply zA;rfl;apply zA;rfl;apply zA;rfl;exact zB;rfl;simp only [fillP,wrCells,Value.cells,qH,qI,qJ,qG,qL,qK,Nat.reduceAdd,qN];rfl;apply LW.v0;rfl;rfl;apply zW;infer_instance;infer_instance;apply zA;rfl;apply zA;rfl;apply zA;rfl;apply zA;rfl;exact zB;rfl;simp only [fillP,wrCells,Value.cells,qH,qI,qJ,qG,qL,qK,Nat.reduceAdd,qN];rfl;apply LW.v0;rfl;rfl;apply zW;infer_instance;infer_instance;apply zA;rfl;apply zA;rfl;apply zA;rfl;apply zA;rfl;exact zB;rfl;simp only [fillP,wrCells,Value.cells,qH,qI,qJ,qG,qL,qK,Nat.reduceAdd,qN];rfl;apply LW.v0;rfl;rfl;apply zW;infer_instance;infer_instance;apply zA;rfl;apply zA;rfl;apply zA;rfl;exact zB;rfl;simp only [fillP,wrCells,Value.cells,qH,qI,qJ,qG,qL,qK,Nat.reduceAdd,qN];rfl;apply LW.v0;rfl;rfl;apply zW;infer_instance;infer_instance;apply zA;rfl;apply zA;rfl;exact zB;rfl;simp only [fillP,wrCells,Value.cells,qH,qI,qJ,qG,qL,qK,Nat.reduceAdd,qN];rfl)
 refine LW.n0 rfl rfl (NewP.buildSN (vs:=plainOps.zipIdx.map fun p=>(p.2,.agg (opc p.1))) (c:=(opcs plainOps).toArray) inferInstance inferInstance (by (apply zA;rfl;apply zA;rfl;apply zA;rfl;apply zA;rfl;apply zA;rfl;apply zA;rfl;apply zA;rfl;apply zA;rfl;apply zA;rfl;apply zA;rfl;apply zA;rfl;apply zA;rfl;apply zA;rfl;apply zA;rfl;apply zA;rfl;apply zA;rfl;apply zA;rfl;apply zA;rfl;apply zA;rfl;apply zA;rfl;apply zA;rfl;apply zA;rfl;apply zA;rfl;apply zA;rfl;apply zA;rfl;apply zA;rfl;apply zA;rfl;apply zA;rfl;apply zA;rfl;apply zA;rfl;apply zA;rfl;apply zA;rfl;apply zA;rfl;apply zA;rfl;apply zA;rfl;apply zA;rfl;apply zA;rfl;apply zA;rfl;apply zA;rfl;apply zA;rfl;apply zA;rfl;apply zA;rfl;apply zA;rfl;apply zA;rfl;apply zA;rfl;apply zA;rfl;apply zA;rfl;apply zA;rfl;apply zA;rfl;apply zA;rfl;exact zB)) rfl rfl (by kernel_rfl) (by kernel_rfl)) fun g=>?_
 (refine vAz<|nNz<|zK ?_)
 apply finM [(g,.cells (opcs plainOps).toArray 86 (0,0))];(exact .inl rfl);(exact Shut.nil);rfl;(apply zD;exact zG rfl;exact zF);exact qM _
 exact ⟨g,rfl,rfl⟩
theorem opOf_none {b:Nat} (hr:rowOp b=none) (h:∀ i (hi:i < plainOps.length),plainOps[i].c ≠ b):opOf b=none:=by
 unfold opOf
 rw [hr]
 refine List.find?_eq_none.2 fun x hx=>?_
 obtain ⟨i,hi,rfl⟩:=List.mem_iff_getElem.1 hx
 simpa using h i hi
theorem opOf_plain {b i:Nat} (hr:rowOp b=none) (hi:i < plainOps.length) (h:∀ j (hj:j < i),plainOps[j].c ≠ b) (he:plainOps[i].c=b):opOf b=some plainOps[i]:=by
 unfold opOf
 rw [hr]
 exact List.find?_eq_some_iff_getElem.2 ⟨by simpa using he,i,hi,rfl,fun j hj=>by simpa using h j hj⟩
theorem plain_rdc (i:Nat) (hi:i < plainOps.length) {E:TypeId} {fr:Nat × Nat}:Rd Tryz.prog 5 (.cells (opcs plainOps).toArray E fr) (0+i * 5+0) (.int .u8 (plainOps[i].c:Int)):=by
 refine Rd.one' ?_
 rw [nth_eq,qN]
 exact flat_get (g:=opl) (opl_len plainOps) (List.getElem?_eq_getElem hi) rfl
theorem rOf_calls (b:Nat) (hb:b < 256) (w:World):Calls Tryz.prog 50 #[.int .u8 (b:Int)] w (Ret w (tupOp (opOf b))):=by
 have hl:=itoa_len
 refine enter (args:=[_]) _ [] [] Tryz.func50 rfl Tryz.ntmps50 rfl (by simp) .nil ?_
 have hlow:∀ x,rowOp b=some x→opOf b=some x:=fun x h=>by unfold opOf;rw [h]
 rcases Nat.lt_or_ge b 96 with h1|h1
 ·have hr:rowOp b=none:=by unfold rowOp;rw [if_neg (by omega),if_neg (by omega),if_neg (by omega)]
  (refine sRz ?_;apply zU;rfl;intro _;refine vAz<|nSz<|vMz ?_;refine lvz (.convI rfl (by omega) (by omega)) ?_;refine vAz<|nNz<|zI<|sRz<|vMz ?_;refine lvz (.geqF rfl rfl (by omega)) ?_;refine vMz<|gFz<|gFz<|pFz<|nNz<|cFz<|zJ<|thenN<|zI<|sRz<|vMz ?_;refine lvz (.geqF rfl rfl (by omega)) ?_;refine vMz<|gFz<|gFz<|pFz<|nNz<|cFz<|zJ<|thenN<|zI<|sRz<|vMz ?_;refine lvz (.geqF rfl rfl (by omega)) ?_;refine vMz<|gFz<|gFz<|pFz<|nNz<|cFz<|zJ<|thenN<|sRz ?_)
  (apply LW.callR;rfl;rfl;infer_instance;exact ArgsOk.nil;intro w hs)
  exact rPlain_calls w
  intro vp gp hpl
  obtain ⟨bp,rfl,rfl⟩:=hpl
  rename_i bo
  (refine vAz<|nNz<|zI<|sRz<|vAz<|nNz<|zM ?_)
  refine CW.loop (fun i:Nat=>([(0,.int .u8 (b:Int)),(2,.pointer (some ⟨bo,0,none⟩)),(3,.bool false),(5,.slice (some ⟨bp,0,none⟩) 50 50),(6,.int .i64 (i:Int))],[(bp,.cells (opcs plainOps).toArray 86 (0,0)),(bo,.cells (opc zeroOp) 86 (0,0))]))
   (fun i=>i≤50∧∀ j (hj:j < plainOps.length),j < i→plainOps[j].c ≠ b) (fun i=>50 - i) 0 ⟨Nat.zero_le _,fun j hj h=>absurd h (Nat.not_lt_zero _)⟩ ⟨rfl,rfl,rfl,rfl,rfl,trivial⟩ (qM _) ?_
  rintro i ⟨hi,hall⟩
  dsimp only
  rcases Nat.lt_or_ge i 50 with hlt|hge
  ·have hlt':i < plainOps.length:=hlt
   have hrc:=plain_rdc i hlt' (E:=86) (fr:=(0,0))
   have hrd:=plain_rd i hlt' (E:=86) (fr:=(0,0))
   have hop:=fun he=>opOf_plain hr hlt' (fun j hj=>hall j (by omega) hj) he
   obtain ⟨y,hy⟩:∃ y,plainOps[i]=y:=⟨_,rfl⟩
   rw [hy] at hrc hrd hop
   by_cases he:y.c=b
   ·rw [hop he]
    (refine zI<|sRz<|vMz<|vMz<|lvz (.lenR rfl inferInstance rfl) ?_;refine lvz (.lssT rfl rfl (by omega)) ?_;refine nNz<|cTz<|zJ<|thenN<|zI<|zM<|sRz<|vMz<|vMz ?_;refine lvz (.indexAddrS rfl rfl rfl (by omega)) ?_;refine vFz ?_;refine ldz rfl .head (by assumption) ?_;refine vMz ?_;refine lvz (.eqT rfl rfl (by omega)) ?_;refine nNz<|cTz<|sRz<|vMz<|vMz ?_;refine lvz (.indexAddrS rfl rfl rfl (by omega)) ?_;refine ldz rfl .head (by assumption) ?_;apply zR;rfl;rfl;apply qB;apply qA;apply Wr.whole;kernel_rfl;kernel_rfl;kernel_rfl;refine vAz<|nNz<|zK<|blkR<|thenR<|thenR<|blkR<|thenR ?_)
    (apply finR;exact .inl rfl;rfl;rfl;rfl;apply zD;apply zH;rfl;apply qE;apply zX;apply zY;exact qF rfl;apply zD;exact zG rfl;exact zF)
    rfl
   ·(refine zI<|sRz<|vMz<|vMz<|lvz (.lenR rfl inferInstance rfl) ?_;refine lvz (.lssT rfl rfl (by omega)) ?_;refine nNz<|cTz<|zJ<|thenN<|zI<|zM<|sRz<|vMz<|vMz ?_;refine lvz (.indexAddrS rfl rfl rfl (by omega)) ?_;refine vFz ?_;refine ldz rfl .head (by assumption) ?_;refine vMz ?_;refine lvz (.eqF rfl rfl (by omega)) ?_;refine nNz<|cFz<|zJ<|blkN<|thenN<|zL<|vMz ?_;refine lvz (.addZL rfl rfl (by decide) (by omega)) ?_;refine vAz ?_;apply zV)
    apply thenX
    refine ⟨rfl,i+1,⟨hlt,fun j hj hji=>?_⟩,by omega,⟨rfl,rfl,rfl,rfl,rfl,trivial⟩,qM _⟩
    rcases Nat.lt_or_ge j i with h|h
    ·exact hall j hj h
    ·obtain rfl:j=i:=by omega
     rw [hy];exact he
  ·rw [opOf_none hr (fun j hj=>hall j hj (by have:plainOps.length=50:=rfl;omega))]
   (refine zI<|sRz<|vMz<|vMz<|lvz (.lenR rfl inferInstance rfl) ?_;refine lvz (.lssF rfl rfl (by omega)) ?_;refine nNz<|cFz<|CW.exit<|thenE<|thenE<|blkE rfl<|thenN<|sRz ?_;apply LW.v0;rfl;rfl;apply zW;infer_instance;infer_instance;exact zB;rfl;simp only [fillP,wrCells,Value.cells,qH,qI,qJ,qG,qL,qK,Nat.reduceAdd,qN];rfl;apply zR;rfl;rfl;apply qB;apply qA;apply Wr.whole;kernel_rfl;kernel_rfl;kernel_rfl;refine vAz<|nNz<|zK ?_)
   (apply finR;exact .inl rfl;rfl;rfl;rfl;apply zD;apply zH;rfl;apply qE;apply zX;apply zY;exact qF rfl;apply zD;exact zG rfl;exact zF)
   rfl
 rcases Nat.lt_or_ge b 128 with h2|h2
 ·rw [hlow ⟨b,[80,85,83,72]++itoa (b - 95),0,1,b - 95⟩ (by unfold rowOp;rw [if_pos (by omega)])]
  have hn:=number_calls (b - 95) (by omega)
  have hl1:=hl (b - 95)
  (refine sRz ?_;apply zU;rfl;intro _;refine vAz<|nSz<|vMz ?_;refine lvz (.convI rfl (by omega) (by omega)) ?_;refine vAz<|nNz<|zI<|sRz<|vMz ?_;refine lvz (.geqT rfl rfl (by omega)) ?_;refine vMz<|gTz<|vMz<|gTz ?_;refine lvz (.leqT rfl rfl (by omega)) ?_;refine pTz<|nNz<|cTz<|sRz<|vMz<|vMz ?_;refine lvz (.subZL rfl rfl (by decide) (by omega) (by omega)) ?_;apply zS;rfl;rfl;infer_instance;exact .cons rfl .nil;intro w _;exact hn w;apply LW.v0;rfl;rfl;apply ValP.addStr;rfl;rfl;simp;omega;refine vMz ?_;refine lvz (.subZL rfl rfl (by decide) (by omega) (by omega)) ?_;apply LW.v0;rfl;rfl;apply zW;infer_instance;infer_instance;apply zA;rfl;apply zA;rfl;apply zA;rfl;apply zA;rfl;exact zB;rfl;simp only [fillP,wrCells,Value.cells,qH,qI,qJ,qG,qL,qK,Nat.reduceAdd,qN];rfl;apply zR;rfl;rfl;apply qA;apply Wr.whole;kernel_rfl;kernel_rfl;kernel_rfl;refine vAz<|nNz<|zK<|thenR ?_)
  (apply finR;exact .inl rfl;rfl;rfl;rfl;apply zD;apply zH;rfl;apply qE;apply zY;exact qF rfl;apply zD;exact zG rfl;exact zF)
  rfl
 rcases Nat.lt_or_ge b 144 with h3|h3
 ·rw [hlow ⟨b,[68,85,80]++itoa (b - 127),b - 127,b - 126,0⟩ (by unfold rowOp;rw [if_neg (by omega),if_pos (by omega)])]
  have hn:=number_calls (b - 127) (by omega)
  have hl1:=hl (b - 127)
  (refine sRz ?_;apply zU;rfl;intro _;refine vAz<|nSz<|vMz ?_;refine lvz (.convI rfl (by omega) (by omega)) ?_;refine vAz<|nNz<|zI<|sRz<|vMz ?_;refine lvz (.geqT rfl rfl (by omega)) ?_;refine vMz<|gTz<|vMz<|gTz ?_;refine lvz (.leqF rfl rfl (by omega)) ?_;refine pTz<|nNz<|cFz<|zJ<|thenN<|zI<|sRz<|vMz ?_;refine lvz (.geqT rfl rfl (by omega)) ?_;refine vMz<|gTz<|vMz<|gTz ?_;refine lvz (.leqT rfl rfl (by omega)) ?_;refine pTz<|nNz<|cTz<|sRz<|vMz<|vMz ?_;refine lvz (.subZL rfl rfl (by decide) (by omega) (by omega)) ?_;apply zS;rfl;rfl;infer_instance;exact .cons rfl .nil;intro w _;exact hn w;apply LW.v0;rfl;rfl;apply ValP.addStr;rfl;rfl;simp;omega;refine vMz ?_;refine lvz (.subZL rfl rfl (by decide) (by omega) (by omega)) ?_;refine vMz ?_;refine lvz (.subZL rfl rfl (by decide) (by omega) (by omega)) ?_;apply LW.v0;rfl;rfl;apply zW;infer_instance;infer_instance;apply zA;rfl;apply zA;rfl;apply zA;rfl;apply zA;rfl;exact zB;rfl;simp only [fillP,wrCells,Value.cells,qH,qI,qJ,qG,qL,qK,Nat.reduceAdd,qN];rfl;apply zR;rfl;rfl;apply qA;apply Wr.whole;kernel_rfl;kernel_rfl;kernel_rfl;refine vAz<|nNz<|zK<|thenR ?_)
  (apply finR;exact .inl rfl;rfl;rfl;rfl;apply zD;apply zH;rfl;apply qE;apply zY;exact qF rfl;apply zD;exact zG rfl;exact zF)
  rfl
 rcases Nat.lt_or_ge b 160 with h4|h4
 ·rw [hlow ⟨b,[83,87,65,80]++itoa (b - 143),b - 142,b - 142,0⟩ (by unfold rowOp;rw [if_neg (by omega),if_neg (by omega),if_pos (by omega)])]
  have hn:=number_calls (b - 143) (by omega)
  have hl1:=hl (b - 143)
  (refine sRz ?_;apply zU;rfl;intro _;refine vAz<|nSz<|vMz ?_;refine lvz (.convI rfl (by omega) (by omega)) ?_;refine vAz<|nNz<|zI<|sRz<|vMz ?_;refine lvz (.geqT rfl rfl (by omega)) ?_;refine vMz<|gTz<|vMz<|gTz ?_;refine lvz (.leqF rfl rfl (by omega)) ?_;refine pTz<|nNz<|cFz<|zJ<|thenN<|zI<|sRz<|vMz ?_;refine lvz (.geqT rfl rfl (by omega)) ?_;refine vMz<|gTz<|vMz<|gTz ?_;refine lvz (.leqF rfl rfl (by omega)) ?_;refine pTz<|nNz<|cFz<|zJ<|thenN<|zI<|sRz<|vMz ?_;refine lvz (.geqT rfl rfl (by omega)) ?_;refine vMz<|gTz<|vMz<|gTz ?_;refine lvz (.leqT rfl rfl (by omega)) ?_;refine pTz<|nNz<|cTz<|sRz<|vMz<|vMz ?_;refine lvz (.subZL rfl rfl (by decide) (by omega) (by omega)) ?_;apply zS;rfl;rfl;infer_instance;exact .cons rfl .nil;intro w _;exact hn w;apply LW.v0;rfl;rfl;apply ValP.addStr;rfl;rfl;simp;omega;refine vMz ?_;refine lvz (.subZL rfl rfl (by decide) (by omega) (by omega)) ?_;refine vMz ?_;refine lvz (.subZL rfl rfl (by decide) (by omega) (by omega)) ?_;apply LW.v0;rfl;rfl;apply zW;infer_instance;infer_instance;apply zA;rfl;apply zA;rfl;apply zA;rfl;apply zA;rfl;exact zB;rfl;simp only [fillP,wrCells,Value.cells,qH,qI,qJ,qG,qL,qK,Nat.reduceAdd,qN];rfl;apply zR;rfl;rfl;apply qA;apply Wr.whole;kernel_rfl;kernel_rfl;kernel_rfl;refine vAz<|nNz<|zK<|thenR ?_)
  (apply finR;exact .inl rfl;rfl;rfl;rfl;apply zD;apply zH;rfl;apply qE;apply zY;exact qF rfl;apply zD;exact zG rfl;exact zF)
  rfl
 ·have hr:rowOp b=none:=by unfold rowOp;rw [if_neg (by omega),if_neg (by omega),if_neg (by omega)]
  (refine sRz ?_;apply zU;rfl;intro _;refine vAz<|nSz<|vMz ?_;refine lvz (.convI rfl (by omega) (by omega)) ?_;refine vAz<|nNz<|zI<|sRz<|vMz ?_;refine lvz (.geqT rfl rfl (by omega)) ?_;refine vMz<|gTz<|vMz<|gTz ?_;refine lvz (.leqF rfl rfl (by omega)) ?_;refine pTz<|nNz<|cFz<|zJ<|thenN<|zI<|sRz<|vMz ?_;refine lvz (.geqT rfl rfl (by omega)) ?_;refine vMz<|gTz<|vMz<|gTz ?_;refine lvz (.leqF rfl rfl (by omega)) ?_;refine pTz<|nNz<|cFz<|zJ<|thenN<|zI<|sRz<|vMz ?_;refine lvz (.geqT rfl rfl (by omega)) ?_;refine vMz<|gTz<|vMz<|gTz ?_;refine lvz (.leqF rfl rfl (by omega)) ?_;refine pTz<|nNz<|cFz<|zJ<|thenN<|sRz ?_)
  (apply LW.callR;rfl;rfl;infer_instance;exact ArgsOk.nil;intro w hs)
  exact rPlain_calls w
  intro vp gp hpl
  obtain ⟨bp,rfl,rfl⟩:=hpl
  rename_i bo
  (refine vAz<|nNz<|zI<|sRz<|vAz<|nNz<|zM ?_)
  refine CW.loop (fun i:Nat=>([(0,.int .u8 (b:Int)),(2,.pointer (some ⟨bo,0,none⟩)),(3,.bool false),(5,.slice (some ⟨bp,0,none⟩) 50 50),(6,.int .i64 (i:Int))],[(bp,.cells (opcs plainOps).toArray 86 (0,0)),(bo,.cells (opc zeroOp) 86 (0,0))]))
   (fun i=>i≤50∧∀ j (hj:j < plainOps.length),j < i→plainOps[j].c ≠ b) (fun i=>50 - i) 0 ⟨Nat.zero_le _,fun j hj h=>absurd h (Nat.not_lt_zero _)⟩ ⟨rfl,rfl,rfl,rfl,rfl,trivial⟩ (qM _) ?_
  rintro i ⟨hi,hall⟩
  dsimp only
  rcases Nat.lt_or_ge i 50 with hlt|hge
  ·have hlt':i < plainOps.length:=hlt
   have hrc:=plain_rdc i hlt' (E:=86) (fr:=(0,0))
   have hrd:=plain_rd i hlt' (E:=86) (fr:=(0,0))
   have hop:=fun he=>opOf_plain hr hlt' (fun j hj=>hall j (by omega) hj) he
   obtain ⟨y,hy⟩:∃ y,plainOps[i]=y:=⟨_,rfl⟩
   rw [hy] at hrc hrd hop
   by_cases he:y.c=b
   ·rw [hop he]
    (refine zI<|sRz<|vMz<|vMz<|lvz (.lenR rfl inferInstance rfl) ?_;refine lvz (.lssT rfl rfl (by omega)) ?_;refine nNz<|cTz<|zJ<|thenN<|zI<|zM<|sRz<|vMz<|vMz ?_;refine lvz (.indexAddrS rfl rfl rfl (by omega)) ?_;refine vFz ?_;refine ldz rfl .head (by assumption) ?_;refine vMz ?_;refine lvz (.eqT rfl rfl (by omega)) ?_;refine nNz<|cTz<|sRz<|vMz<|vMz ?_;refine lvz (.indexAddrS rfl rfl rfl (by omega)) ?_;refine ldz rfl .head (by assumption) ?_;apply zR;rfl;rfl;apply qB;apply qA;apply Wr.whole;kernel_rfl;kernel_rfl;kernel_rfl;refine vAz<|nNz<|zK<|blkR<|thenR<|thenR<|blkR<|thenR ?_)
    (apply finR;exact .inl rfl;rfl;rfl;rfl;apply zD;apply zH;rfl;apply qE;apply zX;apply zY;exact qF rfl;apply zD;exact zG rfl;exact zF)
    rfl
   ·(refine zI<|sRz<|vMz<|vMz<|lvz (.lenR rfl inferInstance rfl) ?_;refine lvz (.lssT rfl rfl (by omega)) ?_;refine nNz<|cTz<|zJ<|thenN<|zI<|zM<|sRz<|vMz<|vMz ?_;refine lvz (.indexAddrS rfl rfl rfl (by omega)) ?_;refine vFz ?_;refine ldz rfl .head (by assumption) ?_;refine vMz ?_;refine lvz (.eqF rfl rfl (by omega)) ?_;refine nNz<|cFz<|zJ<|blkN<|thenN<|zL<|vMz ?_;refine lvz (.addZL rfl rfl (by decide) (by omega)) ?_;refine vAz ?_;apply zV)
    apply thenX
    refine ⟨rfl,i+1,⟨hlt,fun j hj hji=>?_⟩,by omega,⟨rfl,rfl,rfl,rfl,rfl,trivial⟩,qM _⟩
    rcases Nat.lt_or_ge j i with h|h
    ·exact hall j hj h
    ·obtain rfl:j=i:=by omega
     rw [hy];exact he
  ·rw [opOf_none hr (fun j hj=>hall j hj (by have:plainOps.length=50:=rfl;omega))]
   (refine zI<|sRz<|vMz<|vMz<|lvz (.lenR rfl inferInstance rfl) ?_;refine lvz (.lssF rfl rfl (by omega)) ?_;refine nNz<|cFz<|CW.exit<|thenE<|thenE<|blkE rfl<|thenN<|sRz ?_;apply LW.v0;rfl;rfl;apply zW;infer_instance;infer_instance;exact zB;rfl;simp only [fillP,wrCells,Value.cells,qH,qI,qJ,qG,qL,qK,Nat.reduceAdd,qN];rfl;apply zR;rfl;rfl;apply qB;apply qA;apply Wr.whole;kernel_rfl;kernel_rfl;kernel_rfl;refine vAz<|nNz<|zK ?_)
   (apply finR;exact .inl rfl;rfl;rfl;rfl;apply zD;apply zH;rfl;apply qE;apply zX;apply zY;exact qF rfl;apply zD;exact zG rfl;exact zF)
   rfl
section
attribute [local irreducible] opOf
def szOf (b:Nat):Nat:=match opOf b with
 |some x=>x.dt
 |none=>0
attribute [local irreducible] szOf
theorem size_calls (b:Nat) (hb:b < 256) (w:World):Calls Tryz.prog 100 #[.int .u8 (b:Int)] w (Ret w (.int .i64 (szOf b:Int))):=by
 have hOf0:=rOf_calls b hb
 refine enter (args:=[_]) _ [] [] Tryz.func100 rfl Tryz.ntmps100 rfl (by simp) .nil ?_
 cases ho:opOf b with
 |none =>
  rw [ho] at hOf0
  have hOf:∀ w,Calls Tryz.prog 50 #[.int .u8 (b:Int)] w (Ret w (.tuple #[.agg (opc zeroOp),.bool false])):=hOf0
  rw [show szOf b=0 by unfold szOf;rw [ho]]
  (refine sRz<|vAz<|nSz<|vMz ?_;apply zS;rfl;rfl;infer_instance;exact .cons rfl .nil;intro w _;exact hOf w;refine vMz ?_;refine vEz ?_;refine vEz ?_;apply zU;rfl;intro _;apply zR;rfl;rfl;apply qA;apply Wr.whole;kernel_rfl;kernel_rfl;kernel_rfl;refine vAz<|nSz<|vFz<|ldz rfl .head (Rd.one' rfl)<|vAz<|nNz<|zK ?_)
  (apply finR;exact .inl rfl;rfl;rfl;rfl;apply zD;exact zG rfl;exact zF)
  rfl
 |some x =>
  rw [ho] at hOf0
  have hOf:∀ w,Calls Tryz.prog 50 #[.int .u8 (b:Int)] w (Ret w (.tuple #[.agg (opc x),.bool true])):=hOf0
  rw [show szOf b=x.dt by unfold szOf;rw [ho]]
  (refine sRz<|vAz<|nSz<|vMz ?_;apply zS;rfl;rfl;infer_instance;exact .cons rfl .nil;intro w _;exact hOf w;refine vMz ?_;refine vEz ?_;refine vEz ?_;apply zU;rfl;intro _;apply zR;rfl;rfl;apply qA;apply Wr.whole;kernel_rfl;kernel_rfl;kernel_rfl;refine vAz<|nSz<|vFz<|ldz rfl .head (Rd.one' rfl)<|vAz<|nNz<|zK ?_)
  (apply finR;exact .inl rfl;rfl;rfl;rfl;apply zD;exact zG rfl;exact zF)
  rfl
theorem Right_calls (v:Value) (n:Nat) (xs:List Value) (w:World) (hv:RowAt w 1 v n xs):Calls Tryz.prog 43 #[v] w (Ret w (.bool (decide (n≤200)))):=by
 obtain ⟨p,c,rfl,hc,hm⟩:=hv.form
 refine enter (args:=[_]) _ [] [] Tryz.func43 rfl Tryz.ntmps43 rfl (by simp) .nil ?_
 (refine sRz<|vAz<|nSz<|vMz<|lvz (.lenR rfl inferInstance rfl)<|lvz (.leq rfl rfl)<|vAz<|nNz<|zK ?_)
 (apply finR;exact .inl rfl;rfl;rfl;rfl;apply zD;exact zG rfl;exact zF)
 rw [show decide (n≤200)=decide (((n:Nat):Int)≤200) from decide_eq_decide.2 (by omega)]
 rfl
theorem CheckC_calls (v:Value) (n:Nat) (xs:List Value) (w:World) (hv:RowAt w 1 v n xs):Calls Tryz.prog 83 #[v] w (Ret w (.int .i64 (if n≤200 then 0 else 3))):=by
 obtain ⟨p,c,rfl,hc,hm⟩:=hv.form
 refine enter (args:=[_]) _ [] [] Tryz.func83 rfl Tryz.ntmps83 rfl (by simp) .nil ?_
 rcases Nat.lt_or_ge 200 n with h|h
 ·rw [if_neg (by omega)]
  (refine sRz<|vAz<|nNz<|zI<|sRz<|vMz<|lvz (.lenR rfl inferInstance rfl) ?_;refine lvz (.gtrT rfl rfl (by omega)) ?_;refine nNz<|cTz<|sRz<|vAz<|nNz<|zK<|thenR ?_)
  (apply finR;exact .inl rfl;rfl;rfl;rfl;apply zD;exact zG rfl;exact zF)
  rfl
 ·rw [if_pos h]
  (refine sRz<|vAz<|nNz<|zI<|sRz<|vMz<|lvz (.lenR rfl inferInstance rfl) ?_;refine lvz (.gtrF rfl rfl (by omega)) ?_;refine nNz<|cFz<|zJ<|thenN<|sRz<|vAz<|nNz<|zK ?_)
  (apply finR;exact .inl rfl;rfl;rfl;rfl;apply zD;exact zG rfl;exact zF)
  rfl
end
section
def opAt (b:Nat):OpV:=match opOf b with
 |some x=>x
 |none=>⟨b,[],0,0,0⟩
theorem opAt_dt (b:Nat):(opAt b).dt=szOf b:=by unfold opAt szOf;cases opOf b<;>rfl
theorem row_dt {b:Nat} {x:OpV} (h:rowOp b=some x):x.dt≤32:=by
 unfold rowOp at h
 split at h
 ·cases h;dsimp only;omega
 ·split at h
  ·cases h;exact Nat.zero_le _
  ·split at h
   ·cases h;exact Nat.zero_le _
   ·cases h
theorem plain_dt:∀ x∈plainOps,x.dt=0:=by decide
theorem opOf_dt {b:Nat} {x:OpV} (h:opOf b=some x):x.dt≤32:=by
 unfold opOf at h
 cases hr:rowOp b with
 |some y=>rw [hr] at h;cases h;exact row_dt hr
 |none=>rw [hr] at h;rw [plain_dt x (List.mem_of_find?_eq_some h)];exact Nat.zero_le _
theorem szOf_le (b:Nat):szOf b≤32:=by
 unfold szOf
 cases h:opOf b with
 |none=>exact Nat.zero_le _
 |some x=>exact opOf_dt h
attribute [local irreducible] opOf
def segsAt (p:Nat) (bs:List UInt8):List (Nat × UInt8 × List UInt8):=match bs with
 |[]=>[]
 |b::r=>(p,b,r.take (szOf b.toNat))::segsAt (p+1+szOf b.toNat) (r.drop (szOf b.toNat))
termination_by bs.length
decreasing_by simp [List.length_drop];omega
theorem segsAt_nil (p:Nat):segsAt p []=[]:=by rw [segsAt]
theorem segsAt_cons (p:Nat) (b:UInt8) (r:List UInt8):segsAt p (b::r)=(p,b,r.take (szOf b.toNat))::segsAt (p+1+szOf b.toNat) (r.drop (szOf b.toNat)):=by rw [segsAt]
theorem segs_step (bs:List UInt8) (p:Nat) (h:p < bs.length):segsAt p (bs.drop p)=(p,bs.getD p 0,(bs.drop (p+1)).take (szOf (bs.getD p 0).toNat))::segsAt (p+szOf (bs.getD p 0).toNat+1) (bs.drop (p+szOf (bs.getD p 0).toNat+1)):=by
 rw [List.drop_eq_getElem_cons h,segsAt_cons,List.drop_drop,show bs[p]=bs.getD p 0 by simp [h],Nat.add_right_comm p 1]
theorem segs_end (bs:List UInt8) (p q:Nat) (h:bs.length≤p):segsAt q (bs.drop p)=[]:=by rw [List.drop_eq_nil_of_le h,segsAt_nil]
end
section
attribute [local irreducible] opOf
def readB (bs:List UInt8) (i:Int):Bool:=(segsAt 0 bs).any fun s=>decide ((s.1:Int)=i)
def readFrom (bs:List UInt8) (p:Nat) (i:Int):Bool:=(segsAt p (bs.drop p)).any fun s=>decide ((s.1:Int)=i)
theorem segsAt_ge (n:Nat):∀ (bs:List UInt8) (p:Nat),bs.length≤n→∀ s∈segsAt p bs,p≤s.1:=by
 induction n with
 |zero =>
  intro bs p h s hs
  rw [List.eq_nil_of_length_eq_zero (show bs.length=0 by omega),segsAt_nil] at hs
  cases hs
 |succ n ih =>
  intro bs p h s hs
  cases bs with
  |nil=>rw [segsAt_nil] at hs;cases hs
  |cons b r =>
   rw [segsAt_cons] at hs
   rcases List.mem_cons.1 hs with rfl|hs
   ·exact Nat.le_refl _
   ·have:=ih (r.drop (szOf b.toNat)) (p+1+szOf b.toNat) (by simp at h ⊢;omega) s hs
    omega
theorem readFrom_gt {bs:List UInt8} {p:Nat} {i:Int} (h:i < (p:Int)):readFrom bs p i=false:=by
 unfold readFrom
 refine List.any_eq_false.2 fun s hs=>?_
 have:=segsAt_ge _ _ p (Nat.le_refl _) s hs
 simp;omega
theorem readFrom_end {bs:List UInt8} {p:Nat} {i:Int} (h:bs.length≤p):readFrom bs p i=false:=by
 unfold readFrom;rw [segs_end bs p p h];rfl
theorem readFrom_hit {bs:List UInt8} {p:Nat} (h:p < bs.length):readFrom bs p (p:Int)=true:=by
 unfold readFrom;rw [segs_step bs p h,List.any_cons];simp
theorem readFrom_step {bs:List UInt8} {p:Nat} {i:Int} (h:p < bs.length) (hi:(p:Int) < i):readFrom bs (p+1+szOf (bs.getD p 0).toNat) i=readFrom bs p i:=by
 unfold readFrom
 rw [segs_step bs p h,List.any_cons,decide_eq_false (by dsimp only;omega),Bool.false_or,Nat.add_right_comm p 1]
theorem Read_calls (bs:List UInt8) (hb:bs.length≤1000) (i:Int) (v:Value) (w:World) (hv:RowAt w 1 v bs.length (ucs bs)):Calls Tryz.prog 45 #[v,.int .i64 i] w (Ret w (.bool (readB bs i))):=by
 obtain ⟨p0,c0,rfl,hc0,hm0⟩:=hv.form
 have h0:readFrom bs 0 i=readB bs i:=by unfold readFrom readB;rw [List.drop_zero]
 refine enter (args:=[_,_]) _ [] [] Tryz.func45 rfl Tryz.ntmps45 rfl (by simp) .nil ?_
 (refine sRz<|vAz<|nSz<|vAz<|nNz<|zI<|zM ?_)
 refine CW.loop (fun k:Nat=>([(0,.slice p0 bs.length c0),(1,.int .i64 i),(4,.bool false),(5,.int .i64 (k:Int))],[]))
  (fun k=>k≤2000∧readFrom bs k i=readB bs i) (fun k=>bs.length - k) 0 ⟨Nat.zero_le _,h0⟩ ⟨rfl,rfl,rfl,rfl,trivial⟩ (qM _) ?_
 rintro k ⟨hk,hr⟩
 dsimp only
 rcases Nat.lt_or_ge k bs.length with hlt|hge
 ·rcases Int.lt_or_le (k:Int) i with hki|hki
  ·obtain ⟨b,off,c',cs,E,fr,heq,hbk,hx⟩:=hv.pos (by omega)
   cases heq
   have hst:=readFrom_step hlt hki
   obtain ⟨u,hu⟩:∃ u,bs.getD k 0=u:=⟨_,rfl⟩
   rw [hu,hr] at hst
   have hrd:Rd Tryz.prog 5 (.cells cs E fr) (off+k * 1) (.int .u8 (u.toNat:Int)):=Rd.elem1 hx (ucs_one bs) (List.getElem?_eq_getElem hlt) (by rw [← hu];simp [hlt])
   have hSz:=size_calls u.toNat u.toNat_lt
   have hzl:=szOf_le u.toNat
   obtain ⟨z,hz⟩:∃ z,szOf u.toNat=z:=⟨_,rfl⟩
   rw [hz] at hSz hzl hst
   (refine zI<|sRz<|vMz<|vMz<|lvz (.lenR rfl inferInstance rfl) ?_;refine lvz (.lssT rfl rfl (by omega)) ?_;refine vMz<|gTz<|vMz<|gTz<|vMz<|gTz ?_;refine lvz (.lssT rfl rfl (by omega)) ?_;refine pTz<|nNz<|cTz<|zJ<|thenN<|zM<|zL<|vMz ?_;refine lvz (.addZL rfl rfl (by decide) (by omega)) ?_;refine vMz<|vMz ?_;refine lvz (.indexAddrS rfl rfl rfl (by omega)) ?_;apply LW.load;rfl;rfl;exact Known.ext (by assumption) (by simp);assumption;apply zS;rfl;rfl;infer_instance;exact .cons rfl .nil;intro w _;exact hSz w;refine lvz (.addZ rfl rfl (by omega)) ?_;refine vAz ?_;apply zV;refine blkN ?_)
   apply thenX
   exact ⟨rfl,k+1+z,⟨by omega,hst⟩,by omega,⟨rfl,rfl,rfl,rfl,trivial⟩,qM _⟩
  ·rcases Int.lt_or_eq_of_le hki with hlt'|heq
   ·rw [← hr,readFrom_gt hlt']
    have hne:¬ (k:Int)=i:=by omega
    (refine zI<|sRz<|vMz<|vMz<|lvz (.lenR rfl inferInstance rfl) ?_;refine lvz (.lssT rfl rfl (by omega)) ?_;refine vMz<|gTz<|vMz<|gTz<|vMz<|gTz ?_;refine lvz (.lssF rfl rfl (by omega)) ?_;refine pTz<|nNz<|cFz<|CW.exit<|thenE<|thenE<|blkE rfl<|thenN<|sRz<|vMz<|vMz ?_;refine lvz (.eqF rfl rfl (by omega)) ?_;refine vMz<|gFz<|gFz<|pFz<|vMz ?_;(iterate 4 refine gFz ?_);refine pFz<|vAz<|nNz<|zK ?_)
    (apply finR;exact .inl rfl;rfl;rfl;rfl;apply zD;exact zG rfl;exact zF)
    rfl
   ·subst heq
    rw [← hr,readFrom_hit hlt]
    (refine zI<|sRz<|vMz<|vMz<|lvz (.lenR rfl inferInstance rfl) ?_;refine lvz (.lssT rfl rfl (by omega)) ?_;refine vMz<|gTz<|vMz<|gTz<|vMz<|gTz ?_;refine lvz (.lssF rfl rfl (by omega)) ?_;refine pTz<|nNz<|cFz<|CW.exit<|thenE<|thenE<|blkE rfl<|thenN<|sRz<|vMz<|vMz ?_;refine lvz (.eqT rfl rfl (by omega)) ?_;refine vMz<|gTz<|vMz<|gTz ?_;refine lvz (.geqT rfl rfl (by omega)) ?_;refine pTz<|vMz<|gTz<|vMz<|gTz<|vMz<|gTz<|lvz (.lenR rfl inferInstance rfl)<|gTz ?_;refine lvz (.lssT rfl rfl (by omega)) ?_;refine pTz<|vAz<|nNz<|zK ?_)
    (apply finR;exact .inl rfl;rfl;rfl;rfl;apply zD;exact zG rfl;exact zF)
    rfl
 ·rw [← hr,readFrom_end hge]
  by_cases heq:(k:Int)=i
  ·subst heq
   (refine zI<|sRz<|vMz<|vMz<|lvz (.lenR rfl inferInstance rfl) ?_;refine lvz (.lssF rfl rfl (by omega)) ?_;refine vMz ?_;(iterate 3 refine gFz ?_);refine pFz<|nNz<|cFz<|CW.exit<|thenE<|thenE<|blkE rfl<|thenN<|sRz<|vMz<|vMz ?_;refine lvz (.eqT rfl rfl (by omega)) ?_;refine vMz<|gTz<|vMz<|gTz ?_;refine lvz (.geqT rfl rfl (by omega)) ?_;refine pTz<|vMz<|gTz<|vMz<|gTz<|vMz<|gTz<|lvz (.lenR rfl inferInstance rfl)<|gTz ?_;refine lvz (.lssF rfl rfl (by omega)) ?_;refine pTz<|vAz<|nNz<|zK ?_)
   (apply finR;exact .inl rfl;rfl;rfl;rfl;apply zD;exact zG rfl;exact zF)
   rfl
  ·(refine zI<|sRz<|vMz<|vMz<|lvz (.lenR rfl inferInstance rfl) ?_;refine lvz (.lssF rfl rfl (by omega)) ?_;refine vMz ?_;(iterate 3 refine gFz ?_);refine pFz<|nNz<|cFz<|CW.exit<|thenE<|thenE<|blkE rfl<|thenN<|sRz<|vMz<|vMz ?_;refine lvz (.eqF rfl rfl (by omega)) ?_;refine vMz<|gFz<|gFz<|pFz<|vMz ?_;(iterate 4 refine gFz ?_);refine pFz<|vAz<|nNz<|zK ?_)
   (apply finR;exact .inl rfl;rfl;rfl;rfl;apply zD;exact zG rfl;exact zF)
   rfl
end
end Go.Proofs.YtdeggbkbblfpoaaGreatDoor.CK
namespace Go.Proofs.YtdeggbkbblfpoaaGreatDoor
open Go Go.RowKit SL
set_option maxRecDepth 8000
set_option maxHeartbeats 4000000
set_option linter.unusedSimpArgs false
set_option linter.unusedVariables false
attribute [local irreducible] SL.CW SL.LW SL.DW Calls SL.Ret SL.RetG SL.beginQ SL.roundQ SL.rangeQ SL.inQ SL.RW SL.AnyW SL.thenQ SL.thenC SL.thenW SL.blkQ SL.finQ SL.ValP SL.NewP SL.SetP SL.CallP SL.Rd SL.Wr SL.Known
section
open CK (readB readFrom readFrom_step readFrom_hit readFrom_gt readFrom_end szOf szOf_le CheckC_calls)
attribute [local irreducible] opOf szOf
def opX (b:Nat):OpV:=(opOf b).getD zeroOp
theorem opX_dt (b:Nat):(opX b).dt=szOf b:=by
 unfold opX szOf
 cases opOf b<;>rfl
theorem OfX_calls (b:Nat) (hb:b < 256) (w:World):∃ e:Int,(∀ w,Calls Tryz.prog 91 #[.int .u8 (b:Int)] w (Ret w (.tuple #[.agg (opc (opX b)),.int .i64 e])))∧e=(if (opOf b).isSome then 0 else 4):=by
 cases ho:opOf b with
 |none=>exact ⟨4,fun w=>by have h:=Of_op_calls b hb w;rw [ho] at h;unfold opX;rw [ho];exact h,rfl⟩
 |some x=>exact ⟨0,fun w=>by have h:=Of_op_calls b hb w;rw [ho] at h;unfold opX;rw [ho];exact h,rfl⟩
attribute [local irreducible] opX
theorem fread_calls (bs:List UInt8) (hb:bs.length≤1000) (i:Int) (v:Value) (w:World) (hv:RowAt w 1 v bs.length (ucs bs)):Calls Tryz.prog 85 #[v,.int .i64 i] w (Ret w (.bool (readB bs i))):=by
 obtain ⟨p0,c0,rfl,hc0,hm0⟩:=hv.form
 have h0:readFrom bs 0 i=readB bs i:=by unfold readFrom readB;rw [List.drop_zero]
 refine enter (args:=[_,_]) _ [] [] Tryz.func85 rfl Tryz.ntmps85 rfl (by simp) .nil ?_
 (refine sRz<|vAz<|nSz<|vAz<|nNz<|zI<|zM ?_)
 refine CW.loop (fun k:Nat=>([(0,.slice p0 bs.length c0),(1,.int .i64 i),(4,.bool false),(5,.int .i64 (k:Int))],[]))
  (fun k=>k≤2000∧readFrom bs k i=readB bs i) (fun k=>bs.length - k) 0 ⟨Nat.zero_le _,h0⟩ ⟨rfl,rfl,rfl,rfl,trivial⟩ (qM _) ?_
 rintro k ⟨hk,hr⟩
 dsimp only
 rcases Nat.lt_or_ge k bs.length with hlt|hge
 ·rcases Int.lt_or_le (k:Int) i with hki|hki
  ·obtain ⟨b,off,c',cs,E,fr,heq,hbk,hx⟩:=hv.pos (by omega)
   cases heq
   have hst:=readFrom_step hlt hki
   obtain ⟨u,hu⟩:∃ u,bs.getD k 0=u:=⟨_,rfl⟩
   rw [hu,hr] at hst
   have hrd:Rd Tryz.prog 5 (.cells cs E fr) (off+k * 1) (.int .u8 (u.toNat:Int)):=Rd.elem1 hx (ucs_one bs) (List.getElem?_eq_getElem hlt) (by rw [← hu];simp [hlt])
   obtain ⟨e,hOf,_⟩:=OfX_calls u.toNat u.toNat_lt w
   have hzl:=szOf_le u.toNat
   rw [← opX_dt] at hst hzl
   rw [Nat.add_assoc] at hst
   (refine zI<|sRz<|vMz<|vMz ?_;refine lvz (.lssT rfl rfl (by omega)) ?_;refine vMz<|gTz<|vMz<|gTz<|vMz<|gTz<|lvz (.lenR rfl inferInstance rfl)<|gTz ?_;refine lvz (.lssT rfl rfl (by omega)) ?_;refine pTz<|nNz<|cTz<|zJ<|thenN<|zM<|sRz<|vMz<|vMz ?_;refine lvz (.indexAddrS rfl rfl rfl (by omega)) ?_;apply LW.load;rfl;rfl;exact Known.ext (by assumption) (by simp);assumption;apply zS;rfl;rfl;infer_instance;exact .cons rfl .nil;intro w _;exact hOf w;refine vMz ?_;refine vEz ?_;refine vEz ?_;apply zU;rfl;intro _;refine zR rfl rfl .head (.whole rfl rfl rfl)<|vAz<|nNz<|zL<|vMz<|vFz<|ldz rfl .head (Rd.one' rfl) ?_;refine lvz (.addZK rfl rfl (by decide) (by omega)) ?_;refine lvz (.addZ rfl rfl (by omega)) ?_;refine vAz ?_;apply zV;refine blkN ?_)
   apply thenX
   exact ⟨rfl,k+(1+(opX u.toNat).dt),⟨by omega,hst⟩,by omega,⟨rfl,rfl,rfl,rfl,trivial⟩,List.nil_sublist _⟩
  ·rcases Int.lt_or_eq_of_le hki with hlt'|heq
   ·rw [← hr,readFrom_gt hlt']
    have hne:¬ (k:Int)=i:=by omega
    (refine zI<|sRz<|vMz<|vMz ?_;refine lvz (.lssF rfl rfl (by omega)) ?_;refine vMz ?_;(iterate 4 refine gFz ?_);refine pFz<|nNz<|cFz<|CW.exit<|thenE<|thenE<|blkE rfl<|thenN<|sRz<|vMz<|vMz ?_;refine lvz (.eqF rfl rfl (by omega)) ?_;refine vMz ?_;(iterate 4 refine gFz ?_);refine pFz<|vAz<|nNz<|zK ?_)
    (apply finR;exact .inl rfl;rfl;rfl;rfl;apply zD;exact zG rfl;exact zF)
    rfl
   ·subst heq
    rw [← hr,readFrom_hit hlt]
    (refine zI<|sRz<|vMz<|vMz ?_;refine lvz (.lssF rfl rfl (by omega)) ?_;refine vMz ?_;(iterate 4 refine gFz ?_);refine pFz<|nNz<|cFz<|CW.exit<|thenE<|thenE<|blkE rfl<|thenN<|sRz<|vMz<|vMz ?_;refine lvz (.eqT rfl rfl (by omega)) ?_;refine vMz<|gTz<|vMz<|gTz<|vMz<|gTz<|lvz (.lenR rfl inferInstance rfl)<|gTz ?_;refine lvz (.lssT rfl rfl (by omega)) ?_;refine pTz<|vAz<|nNz<|zK ?_)
    (apply finR;exact .inl rfl;rfl;rfl;rfl;apply zD;exact zG rfl;exact zF)
    rfl
 ·rw [← hr,readFrom_end hge]
  rcases Int.lt_or_le (k:Int) i with hki|hki
  ·have hne:¬ (k:Int)=i:=by omega
   (refine zI<|sRz<|vMz<|vMz ?_;refine lvz (.lssT rfl rfl (by omega)) ?_;refine vMz<|gTz<|vMz<|gTz<|vMz<|gTz<|lvz (.lenR rfl inferInstance rfl)<|gTz ?_;refine lvz (.lssF rfl rfl (by omega)) ?_;refine pTz<|nNz<|cFz<|CW.exit<|thenE<|thenE<|blkE rfl<|thenN<|sRz<|vMz<|vMz ?_;refine lvz (.eqF rfl rfl (by omega)) ?_;refine vMz ?_;(iterate 4 refine gFz ?_);refine pFz<|vAz<|nNz<|zK ?_)
   (apply finR;exact .inl rfl;rfl;rfl;rfl;apply zD;exact zG rfl;exact zF)
   rfl
  ·by_cases heq:(k:Int)=i
   ·subst heq
    (refine zI<|sRz<|vMz<|vMz ?_;refine lvz (.lssF rfl rfl (by omega)) ?_;refine vMz ?_;(iterate 4 refine gFz ?_);refine pFz<|nNz<|cFz<|CW.exit<|thenE<|thenE<|blkE rfl<|thenN<|sRz<|vMz<|vMz ?_;refine lvz (.eqT rfl rfl (by omega)) ?_;refine vMz<|gTz<|vMz<|gTz<|vMz<|gTz<|lvz (.lenR rfl inferInstance rfl)<|gTz ?_;refine lvz (.lssF rfl rfl (by omega)) ?_;refine pTz<|vAz<|nNz<|zK ?_)
    (apply finR;exact .inl rfl;rfl;rfl;rfl;apply zD;exact zG rfl;exact zF)
    rfl
   ·(refine zI<|sRz<|vMz<|vMz ?_;refine lvz (.lssF rfl rfl (by omega)) ?_;refine vMz ?_;(iterate 4 refine gFz ?_);refine pFz<|nNz<|cFz<|CW.exit<|thenE<|thenE<|blkE rfl<|thenN<|sRz<|vMz<|vMz ?_;refine lvz (.eqF rfl rfl (by omega)) ?_;refine vMz ?_;(iterate 4 refine gFz ?_);refine pFz<|vAz<|nNz<|zK ?_)
    (apply finR;exact .inl rfl;rfl;rfl;rfl;apply zD;exact zG rfl;exact zF)
    rfl
structure FrL where
 cl:List UInt8
 ws:List Nat
 ms:List UInt8
 il:List UInt8
 bl:List UInt8
structure FrRows (w:World) (f:FrV) (L:FrL):Prop where
 c:RowAt w 1 f.code L.cl.length (ucs L.cl)
 s:RowAt w 4 f.stk L.ws.length (wcs L.ws)
 m:RowAt w 1 f.mem L.ms.length (ucs L.ms)
 i:RowAt w 1 f.inp L.il.length (ucs L.il)
 b:RowAt w 1 f.back L.bl.length (ucs L.bl)
theorem FrRows.st {w0 w:World} {f:FrV} {L:FrL} {fs:Fs} (h:FrRows w0 f L) (hs:St w0 [] fs w):FrRows w f L:=⟨h.c.st hs,h.s.st hs,h.m.st hs,h.i.st hs,h.b.st hs⟩
theorem FrRows.bel {w0 w:World} {f:FrV} {L:FrL} (h:FrRows w0 f L) (hb:Bel w0.heap.size [] w0 w):FrRows w f L:=⟨h.c.bel hb,h.s.bel hb,h.m.bel hb,h.i.bel hb,h.b.bel hb⟩
abbrev fra (f:FrV):Array Value:=(frc f).toArray
abbrev frv (f:FrV):Value:=.agg (fra f)
section rd
variable {P : Program} {T E : TypeId} {fr : Nat × Nat} {code stk mem inp back : Value} {pc : Int} {gas self frm val : Nat} {stat : Bool}
theorem fr_rd0 [AgI P T false]:Rd P T (.cells (fra ⟨code,pc,stk,mem,gas,self,frm,val,inp,back,stat⟩) E fr) 0 code:=Rd.one rfl
theorem fr_rd1 [AgI P T false]:Rd P T (.cells (fra ⟨code,pc,stk,mem,gas,self,frm,val,inp,back,stat⟩) E fr) 1 (.int .i64 pc):=Rd.one rfl
theorem fr_rd2 [AgI P T true] {z:Value} [InfoI P T 2 z]:Rd P T (.cells (fra ⟨code,pc,stk,mem,gas,self,frm,val,inp,back,stat⟩) E fr) 2 (.agg #[stk,mem]):=Rd.mid (cs:=[stk,mem]) rfl rfl
theorem fr_rd2s [AgI P T false]:Rd P T (.cells (fra ⟨code,pc,stk,mem,gas,self,frm,val,inp,back,stat⟩) E fr) 2 stk:=Rd.one rfl
theorem fr_rd3 [AgI P T false]:Rd P T (.cells (fra ⟨code,pc,stk,mem,gas,self,frm,val,inp,back,stat⟩) E fr) 3 mem:=Rd.one rfl
theorem fr_rd4 [AgI P T false]:Rd P T (.cells (fra ⟨code,pc,stk,mem,gas,self,frm,val,inp,back,stat⟩) E fr) 4 (.int .u64 (gas:Int)):=Rd.one rfl
theorem fr_rd5 [AgI P T false]:Rd P T (.cells (fra ⟨code,pc,stk,mem,gas,self,frm,val,inp,back,stat⟩) E fr) 5 (.int .u64 (self:Int)):=Rd.one rfl
theorem fr_rd6 [AgI P T false]:Rd P T (.cells (fra ⟨code,pc,stk,mem,gas,self,frm,val,inp,back,stat⟩) E fr) 6 (.int .u64 (frm:Int)):=Rd.one rfl
theorem fr_rd7 [AgI P T true] {z:Value} [InfoI P T 4 z]:Rd P T (.cells (fra ⟨code,pc,stk,mem,gas,self,frm,val,inp,back,stat⟩) E fr) 7 (wv val):=Rd.mid (cs:=(wc val).toList) rfl rfl
theorem fr_rd11 [AgI P T false]:Rd P T (.cells (fra ⟨code,pc,stk,mem,gas,self,frm,val,inp,back,stat⟩) E fr) 11 inp:=Rd.one rfl
theorem fr_rd12 [AgI P T false]:Rd P T (.cells (fra ⟨code,pc,stk,mem,gas,self,frm,val,inp,back,stat⟩) E fr) 12 back:=Rd.one rfl
theorem fr_rd13 [AgI P T false]:Rd P T (.cells (fra ⟨code,pc,stk,mem,gas,self,frm,val,inp,back,stat⟩) E fr) 13 (.bool stat):=Rd.one rfl
theorem fr_rdW {f:FrV} {z:Value} [AgI P T true] [InfoI P T 14 z]:Rd P T (.cells (fra f) E fr) 0 (frv f):=qF rfl
end rd
def okF (f:FrV) (L:FrL):Prop:=(L.il.length≤1024∧L.bl.length≤1024∧f.gas≤20000)∧¬ f.self=0∧L.cl.length≤200∧okSc L.ws.length L.ms.length∧(f.pc=(L.cl.length:Int)∨readB L.cl f.pc=true)
instance (f:FrV) (L:FrL):Decidable (okF f L):=by unfold okF;infer_instance
theorem fCheck_calls (f:FrV) (L:FrL) (w:World) (h:FrRows w f L):Calls Tryz.prog 34 #[frv f] w (Ret w (.int .i64 (if okF f L then 0 else 240))):=by
 obtain ⟨e,he⟩:∃ e:Int,e=if okF f L then 0 else 240:=⟨_,rfl⟩
 have hp:okF f L→e=0:=fun h=>by rw [he,if_pos h]
 have hn:¬ okF f L→e=240:=fun h=>by rw [he,if_neg h]
 rw [← he]
 clear he
 unfold okF at hp hn
 obtain ⟨code,pc,stk,mem,gas,self,frm,val,inp,back,stat⟩:=f
 obtain ⟨h0,h2,h3,h11,h12⟩:=h
 dsimp only at h0 h2 h3 h11 h12 hp hn
 obtain ⟨p0,c0,rfl,_,hm0⟩:=h0.form
 obtain ⟨p2,c2,rfl,_,hm2⟩:=h2.form
 obtain ⟨p3,c3,rfl,_,hm3⟩:=h3.form
 obtain ⟨p11,c11,rfl,_,hm11⟩:=h11.form
 obtain ⟨p12,c12,rfl,_,hm12⟩:=h12.form
 have hS0:=scCheck_calls p2 p3 L.ws.length c2 L.ms.length c3 (by omega) (by omega)
 have hC0:∀ w' {fs},St w [] fs w'→Calls Tryz.prog 83 #[.slice p0 L.cl.length c0] w' (Ret w' (.int .i64 (if L.cl.length≤200 then 0 else 3))):=fun w' fs hst=>CheckC_calls _ _ _ w' (h0.st hst)
 simp only [maxLen] at hm0 hm2 hm3 hm11 hm12
 refine enter (args:=[_]) _ [] [] Tryz.func34 rfl Tryz.ntmps34 rfl (by simp) .nil ?_
 by_cases hc:L.cl.length≤200
 ·have hRd0:∀ w' {fs},St w [] fs w'→Calls Tryz.prog 85 #[.slice p0 L.cl.length c0,.int .i64 pc] w' (Ret w' (.bool (readB L.cl pc))):=fun w' fs hst=>fread_calls _ (by omega) _ _ w' (h0.st hst)
  rw [if_pos hc] at hC0
  have hC:∀ w' {fs},St w [] fs w'→Calls Tryz.prog 83 #[.slice p0 L.cl.length c0] w' (Ret w' (.int .i64 0)):=hC0
  by_cases hs:okSc L.ws.length L.ms.length
  ·rw [if_pos hs] at hS0
   have hS:∀ w',Calls Tryz.prog 84 #[.agg #[.slice p2 L.ws.length c2,.slice p3 L.ms.length c3]] w' (Ret w' (.int .i64 0)):=hS0
   simp only [hs,true_and] at hp hn
   by_cases hpc:pc=(L.cl.length:Int)
   ·simp only [hpc,true_or,and_true] at hp hn
    subst hpc
    (refine sRz ?_;apply zT;rfl;rfl;intro _;refine vAz<|nSz<|vFz<|ldz rfl .head fr_rd11<|lvz (.lenR rfl inferInstance rfl)<|lvz (.gtr rfl rfl)<|vMz ?_)
    (refine LW.guardDF rfl rfl rfl (fun hsq hsp=>?_) (fun hsq hsp=>?_))
    (refine vFz<|gTaz<|ldz rfl .head fr_rd12<|gTaz<|lvz (.lenR rfl inferInstance rfl)<|gTaz<|lvz (.gtr rfl rfl)<|pFaz<|vMz ?_;refine LW.guardDF rfl rfl rfl (fun hsq hsp=>?_) (fun hsq hsp=>?_);refine vFz<|gTaz<|ldz rfl .head fr_rd4<|gTaz<|lvz (.gtr rfl rfl)<|pFaz<|vAz<|nNz<|zI<|sRz<|vMz<|vMz ?_;refine LW.guardDF rfl rfl rfl (fun hsq hsp=>?_) (fun hsq hsp=>?_);refine vFz<|gTaz<|ldz rfl .head fr_rd5<|gTaz<|lvz (.eq rfl rfl)<|pFaz<|vMz ?_;refine LW.guardDF rfl rfl rfl (fun hsq hsp=>?_) (fun hsq hsp=>?_);refine vFz<|gTaz<|ldz rfl .head fr_rd0<|gTaz ?_;apply zS;rfl;rfl;infer_instance;exact .cons rfl .nil;intro w _;exact hC w (by assumption);refine gTaz ?_;refine lvz (.neF rfl rfl (by omega)) ?_;refine pFaz<|vMz<|gTz<|vFz<|gTz<|ldz rfl .head fr_rd2<|gTz ?_;apply zS;rfl;rfl;infer_instance;exact .cons rfl .nil;intro w _;exact hS w;refine gTz ?_;refine lvz (.neF rfl rfl (by omega)) ?_;refine pFz<|nNz<|cFz<|zJ<|thenN<|zI<|sRz<|vFz<|ldz rfl .head fr_rd1<|vFz<|ldz rfl .head fr_rd0<|lvz (.lenR rfl inferInstance rfl) ?_;refine lvz (.neF rfl rfl (by omega)) ?_;refine vMz ?_;(iterate 6 refine gFz ?_);refine pFz<|nNz<|cFz<|zJ<|thenN<|sRz<|vAz<|nNz<|zK ?_;apply finR;exact .inl rfl;rfl;rfl;rfl;apply zD;exact zG rfl;exact zF;rw [hp (by omega)];rfl;(iterate 3 refine gFaz ?_);refine pTaz<|vMz ?_;(iterate 4 refine gFz ?_);refine pTz<|nNz<|cTz<|sRz<|vAz<|nNz<|zK ?_;refine thenR (finR (.inl rfl) rfl rfl rfl (.cons (.tmp rfl) .nil) ?_);rw [hn (by omega)];rfl;refine gFaz<|gFaz<|pTaz<|vMz ?_;(iterate 4 refine gFz ?_);refine pTz<|vMz ?_;(iterate 4 refine gFz ?_);refine pTz<|nNz<|cTz<|sRz<|vAz<|nNz<|zK ?_;refine thenR (finR (.inl rfl) rfl rfl rfl (.cons (.tmp rfl) .nil) ?_);rw [hn (by omega)];rfl;refine gFaz<|gFaz<|pTaz<|vAz<|nNz<|zI<|sRz<|vMz<|vMz ?_;(iterate 3 refine gFz ?_);refine pTz<|vMz ?_;(iterate 4 refine gFz ?_);refine pTz<|vMz ?_;(iterate 4 refine gFz ?_);refine pTz<|nNz<|cTz<|sRz<|vAz<|nNz<|zK ?_;refine thenR (finR (.inl rfl) rfl rfl rfl (.cons (.tmp rfl) .nil) ?_);rw [hn (by omega)];rfl;(iterate 3 refine gFaz ?_);refine pTaz<|vMz ?_;(iterate 3 refine gFz ?_);refine pTz<|vAz<|nNz<|zI<|sRz<|vMz<|vMz ?_;(iterate 3 refine gFz ?_);refine pTz<|vMz ?_;(iterate 4 refine gFz ?_);refine pTz<|vMz ?_;(iterate 4 refine gFz ?_);refine pTz<|nNz<|cTz<|sRz<|vAz<|nNz<|zK ?_;refine thenR (finR (.inl rfl) rfl rfl rfl (.cons (.tmp rfl) .nil) ?_);rw [hn (by omega)];rfl)
   ·cases hr:readB L.cl pc with
    |true =>
     rw [hr] at hRd0 hp hn
     have hRd:∀ w' {fs},St w [] fs w'→Calls Tryz.prog 85 #[.slice p0 L.cl.length c0,.int .i64 pc] w' (Ret w' (.bool true)):=hRd0
     simp only [or_true,and_true] at hp hn
     (refine sRz ?_;apply zT;rfl;rfl;intro _;refine vAz<|nSz<|vFz<|ldz rfl .head fr_rd11<|lvz (.lenR rfl inferInstance rfl)<|lvz (.gtr rfl rfl)<|vMz ?_)
     (refine LW.guardDF rfl rfl rfl (fun hsq hsp=>?_) (fun hsq hsp=>?_))
     (refine vFz<|gTaz<|ldz rfl .head fr_rd12<|gTaz<|lvz (.lenR rfl inferInstance rfl)<|gTaz<|lvz (.gtr rfl rfl)<|pFaz<|vMz ?_;refine LW.guardDF rfl rfl rfl (fun hsq hsp=>?_) (fun hsq hsp=>?_);refine vFz<|gTaz<|ldz rfl .head fr_rd4<|gTaz<|lvz (.gtr rfl rfl)<|pFaz<|vAz<|nNz<|zI<|sRz<|vMz<|vMz ?_;refine LW.guardDF rfl rfl rfl (fun hsq hsp=>?_) (fun hsq hsp=>?_);refine vFz<|gTaz<|ldz rfl .head fr_rd5<|gTaz<|lvz (.eq rfl rfl)<|pFaz<|vMz ?_;refine LW.guardDF rfl rfl rfl (fun hsq hsp=>?_) (fun hsq hsp=>?_);refine vFz<|gTaz<|ldz rfl .head fr_rd0<|gTaz ?_;apply zS;rfl;rfl;infer_instance;exact .cons rfl .nil;intro w _;exact hC w (by assumption);refine gTaz ?_;refine lvz (.neF rfl rfl (by omega)) ?_;refine pFaz<|vMz<|gTz<|vFz<|gTz<|ldz rfl .head fr_rd2<|gTz ?_;apply zS;rfl;rfl;infer_instance;exact .cons rfl .nil;intro w _;exact hS w;refine gTz ?_;refine lvz (.neF rfl rfl (by omega)) ?_;refine pFz<|nNz<|cFz<|zJ<|thenN<|zI<|sRz<|vFz<|ldz rfl .head fr_rd1<|vFz<|ldz rfl .head fr_rd0<|lvz (.lenR rfl inferInstance rfl) ?_;refine lvz (.neT rfl rfl (by omega)) ?_;refine vMz<|gTz<|vFz<|gTz<|ldz rfl .head fr_rd0<|gTz<|vFz<|gTz<|ldz rfl .head fr_rd1<|gTz ?_;apply zS;rfl;rfl;infer_instance;exact .cons rfl (.cons rfl .nil);intro w _;exact hRd w (by assumption);refine gTz ?_;refine lvz (.notT rfl (by with_reducible rfl)) ?_;refine pTz<|nNz<|cFz<|zJ<|thenN<|sRz<|vAz<|nNz<|zK ?_;apply finR;exact .inl rfl;rfl;rfl;rfl;apply zD;exact zG rfl;exact zF;rw [hp (by omega)];rfl;(iterate 3 refine gFaz ?_);refine pTaz<|vMz ?_;(iterate 4 refine gFz ?_);refine pTz<|nNz<|cTz<|sRz<|vAz<|nNz<|zK ?_;refine thenR (finR (.inl rfl) rfl rfl rfl (.cons (.tmp rfl) .nil) ?_);rw [hn (by omega)];rfl;refine gFaz<|gFaz<|pTaz<|vMz ?_;(iterate 4 refine gFz ?_);refine pTz<|vMz ?_;(iterate 4 refine gFz ?_);refine pTz<|nNz<|cTz<|sRz<|vAz<|nNz<|zK ?_;refine thenR (finR (.inl rfl) rfl rfl rfl (.cons (.tmp rfl) .nil) ?_);rw [hn (by omega)];rfl;refine gFaz<|gFaz<|pTaz<|vAz<|nNz<|zI<|sRz<|vMz<|vMz ?_;(iterate 3 refine gFz ?_);refine pTz<|vMz ?_;(iterate 4 refine gFz ?_);refine pTz<|vMz ?_;(iterate 4 refine gFz ?_);refine pTz<|nNz<|cTz<|sRz<|vAz<|nNz<|zK ?_;refine thenR (finR (.inl rfl) rfl rfl rfl (.cons (.tmp rfl) .nil) ?_);rw [hn (by omega)];rfl;(iterate 3 refine gFaz ?_);refine pTaz<|vMz ?_;(iterate 3 refine gFz ?_);refine pTz<|vAz<|nNz<|zI<|sRz<|vMz<|vMz ?_;(iterate 3 refine gFz ?_);refine pTz<|vMz ?_;(iterate 4 refine gFz ?_);refine pTz<|vMz ?_;(iterate 4 refine gFz ?_);refine pTz<|nNz<|cTz<|sRz<|vAz<|nNz<|zK ?_;refine thenR (finR (.inl rfl) rfl rfl rfl (.cons (.tmp rfl) .nil) ?_);rw [hn (by omega)];rfl)
    |false =>
     rw [hr] at hRd0 hp hn
     have hRd:∀ w' {fs},St w [] fs w'→Calls Tryz.prog 85 #[.slice p0 L.cl.length c0,.int .i64 pc] w' (Ret w' (.bool false)):=hRd0
     simp only [Bool.false_eq_true,or_false] at hp hn
     (refine sRz ?_;apply zT;rfl;rfl;intro _;refine vAz<|nSz<|vFz<|ldz rfl .head fr_rd11<|lvz (.lenR rfl inferInstance rfl)<|lvz (.gtr rfl rfl)<|vMz ?_)
     (refine LW.guardDF rfl rfl rfl (fun hsq hsp=>?_) (fun hsq hsp=>?_))
     (refine vFz<|gTaz<|ldz rfl .head fr_rd12<|gTaz<|lvz (.lenR rfl inferInstance rfl)<|gTaz<|lvz (.gtr rfl rfl)<|pFaz<|vMz ?_;refine LW.guardDF rfl rfl rfl (fun hsq hsp=>?_) (fun hsq hsp=>?_);refine vFz<|gTaz<|ldz rfl .head fr_rd4<|gTaz<|lvz (.gtr rfl rfl)<|pFaz<|vAz<|nNz<|zI<|sRz<|vMz<|vMz ?_;refine LW.guardDF rfl rfl rfl (fun hsq hsp=>?_) (fun hsq hsp=>?_);refine vFz<|gTaz<|ldz rfl .head fr_rd5<|gTaz<|lvz (.eq rfl rfl)<|pFaz<|vMz ?_;refine LW.guardDF rfl rfl rfl (fun hsq hsp=>?_) (fun hsq hsp=>?_);refine vFz<|gTaz<|ldz rfl .head fr_rd0<|gTaz ?_;apply zS;rfl;rfl;infer_instance;exact .cons rfl .nil;intro w _;exact hC w (by assumption);refine gTaz ?_;refine lvz (.neF rfl rfl (by omega)) ?_;refine pFaz<|vMz<|gTz<|vFz<|gTz<|ldz rfl .head fr_rd2<|gTz ?_;apply zS;rfl;rfl;infer_instance;exact .cons rfl .nil;intro w _;exact hS w;refine gTz ?_;refine lvz (.neF rfl rfl (by omega)) ?_;refine pFz<|nNz<|cFz<|zJ<|thenN<|zI<|sRz<|vFz<|ldz rfl .head fr_rd1<|vFz<|ldz rfl .head fr_rd0<|lvz (.lenR rfl inferInstance rfl) ?_;refine lvz (.neT rfl rfl (by omega)) ?_;refine vMz<|gTz<|vFz<|gTz<|ldz rfl .head fr_rd0<|gTz<|vFz<|gTz<|ldz rfl .head fr_rd1<|gTz ?_;apply zS;rfl;rfl;infer_instance;exact .cons rfl (.cons rfl .nil);intro w _;exact hRd w (by assumption);refine gTz ?_;refine lvz (.notF rfl (by with_reducible rfl)) ?_;refine pTz<|nNz<|cTz<|sRz<|vAz<|nNz<|zK ?_;refine thenR (finR (.inl rfl) rfl rfl rfl (.cons (.tmp rfl) .nil) ?_);rw [hn (by omega)];rfl;(iterate 3 refine gFaz ?_);refine pTaz<|vMz ?_;(iterate 4 refine gFz ?_);refine pTz<|nNz<|cTz<|sRz<|vAz<|nNz<|zK ?_;refine thenR (finR (.inl rfl) rfl rfl rfl (.cons (.tmp rfl) .nil) ?_);rw [hn (by omega)];rfl;refine gFaz<|gFaz<|pTaz<|vMz ?_;(iterate 4 refine gFz ?_);refine pTz<|vMz ?_;(iterate 4 refine gFz ?_);refine pTz<|nNz<|cTz<|sRz<|vAz<|nNz<|zK ?_;refine thenR (finR (.inl rfl) rfl rfl rfl (.cons (.tmp rfl) .nil) ?_);rw [hn (by omega)];rfl;refine gFaz<|gFaz<|pTaz<|vAz<|nNz<|zI<|sRz<|vMz<|vMz ?_;(iterate 3 refine gFz ?_);refine pTz<|vMz ?_;(iterate 4 refine gFz ?_);refine pTz<|vMz ?_;(iterate 4 refine gFz ?_);refine pTz<|nNz<|cTz<|sRz<|vAz<|nNz<|zK ?_;refine thenR (finR (.inl rfl) rfl rfl rfl (.cons (.tmp rfl) .nil) ?_);rw [hn (by omega)];rfl;(iterate 3 refine gFaz ?_);refine pTaz<|vMz ?_;(iterate 3 refine gFz ?_);refine pTz<|vAz<|nNz<|zI<|sRz<|vMz<|vMz ?_;(iterate 3 refine gFz ?_);refine pTz<|vMz ?_;(iterate 4 refine gFz ?_);refine pTz<|vMz ?_;(iterate 4 refine gFz ?_);refine pTz<|nNz<|cTz<|sRz<|vAz<|nNz<|zK ?_;refine thenR (finR (.inl rfl) rfl rfl rfl (.cons (.tmp rfl) .nil) ?_);rw [hn (by omega)];rfl)
  ·rw [if_neg hs] at hS0
   have hS:∀ w',Calls Tryz.prog 84 #[.agg #[.slice p2 L.ws.length c2,.slice p3 L.ms.length c3]] w' (Ret w' (.int .i64 230)):=hS0
   rw [hn (fun h=>hs h.2.2.2.1)] at *
   clear hp hn
   (refine sRz ?_;apply zT;rfl;rfl;intro _;refine vAz<|nSz<|vFz<|ldz rfl .head fr_rd11<|lvz (.lenR rfl inferInstance rfl)<|lvz (.gtr rfl rfl)<|vMz ?_)
   (refine LW.guardDF rfl rfl rfl (fun hsq hsp=>?_) (fun hsq hsp=>?_))
   (refine vFz<|gTaz<|ldz rfl .head fr_rd12<|gTaz<|lvz (.lenR rfl inferInstance rfl)<|gTaz<|lvz (.gtr rfl rfl)<|pFaz<|vMz ?_;refine LW.guardDF rfl rfl rfl (fun hsq hsp=>?_) (fun hsq hsp=>?_);refine vFz<|gTaz<|ldz rfl .head fr_rd4<|gTaz<|lvz (.gtr rfl rfl)<|pFaz<|vAz<|nNz<|zI<|sRz<|vMz<|vMz ?_;refine LW.guardDF rfl rfl rfl (fun hsq hsp=>?_) (fun hsq hsp=>?_);refine vFz<|gTaz<|ldz rfl .head fr_rd5<|gTaz<|lvz (.eq rfl rfl)<|pFaz<|vMz ?_;refine LW.guardDF rfl rfl rfl (fun hsq hsp=>?_) (fun hsq hsp=>?_);refine vFz<|gTaz<|ldz rfl .head fr_rd0<|gTaz ?_;apply zS;rfl;rfl;infer_instance;exact .cons rfl .nil;intro w _;exact hC w (by assumption);refine gTaz ?_;refine lvz (.neF rfl rfl (by omega)) ?_;refine pFaz<|vMz<|gTz<|vFz<|gTz<|ldz rfl .head fr_rd2<|gTz ?_;apply zS;rfl;rfl;infer_instance;exact .cons rfl .nil;intro w _;exact hS w;refine gTz ?_;refine lvz (.neT rfl rfl (by omega)) ?_;refine pFz<|nNz<|cTz<|sRz<|vAz<|nNz<|zK ?_;refine thenR (finR (.inl rfl) rfl rfl rfl (.cons (.tmp rfl) .nil) ?_);rfl;(iterate 3 refine gFaz ?_);refine pTaz<|vMz ?_;(iterate 4 refine gFz ?_);refine pTz<|nNz<|cTz<|sRz<|vAz<|nNz<|zK ?_;refine thenR (finR (.inl rfl) rfl rfl rfl (.cons (.tmp rfl) .nil) ?_);rfl;refine gFaz<|gFaz<|pTaz<|vMz ?_;(iterate 4 refine gFz ?_);refine pTz<|vMz ?_;(iterate 4 refine gFz ?_);refine pTz<|nNz<|cTz<|sRz<|vAz<|nNz<|zK ?_;refine thenR (finR (.inl rfl) rfl rfl rfl (.cons (.tmp rfl) .nil) ?_);rfl;refine gFaz<|gFaz<|pTaz<|vAz<|nNz<|zI<|sRz<|vMz<|vMz ?_;(iterate 3 refine gFz ?_);refine pTz<|vMz ?_;(iterate 4 refine gFz ?_);refine pTz<|vMz ?_;(iterate 4 refine gFz ?_);refine pTz<|nNz<|cTz<|sRz<|vAz<|nNz<|zK ?_;refine thenR (finR (.inl rfl) rfl rfl rfl (.cons (.tmp rfl) .nil) ?_);rfl;(iterate 3 refine gFaz ?_);refine pTaz<|vMz ?_;(iterate 3 refine gFz ?_);refine pTz<|vAz<|nNz<|zI<|sRz<|vMz<|vMz ?_;(iterate 3 refine gFz ?_);refine pTz<|vMz ?_;(iterate 4 refine gFz ?_);refine pTz<|vMz ?_;(iterate 4 refine gFz ?_);refine pTz<|nNz<|cTz<|sRz<|vAz<|nNz<|zK ?_;refine thenR (finR (.inl rfl) rfl rfl rfl (.cons (.tmp rfl) .nil) ?_);rfl)
 ·rw [if_neg hc] at hC0
  have hC:∀ w' {fs},St w [] fs w'→Calls Tryz.prog 83 #[.slice p0 L.cl.length c0] w' (Ret w' (.int .i64 3)):=hC0
  rw [hn (fun h=>hc h.2.2.1)] at *
  clear hp hn
  (refine sRz ?_;apply zT;rfl;rfl;intro _;refine vAz<|nSz<|vFz<|ldz rfl .head fr_rd11<|lvz (.lenR rfl inferInstance rfl)<|lvz (.gtr rfl rfl)<|vMz ?_)
  (refine LW.guardDF rfl rfl rfl (fun hsq hsp=>?_) (fun hsq hsp=>?_))
  (refine vFz<|gTaz<|ldz rfl .head fr_rd12<|gTaz<|lvz (.lenR rfl inferInstance rfl)<|gTaz<|lvz (.gtr rfl rfl)<|pFaz<|vMz ?_;refine LW.guardDF rfl rfl rfl (fun hsq hsp=>?_) (fun hsq hsp=>?_);refine vFz<|gTaz<|ldz rfl .head fr_rd4<|gTaz<|lvz (.gtr rfl rfl)<|pFaz<|vAz<|nNz<|zI<|sRz<|vMz<|vMz ?_;refine LW.guardDF rfl rfl rfl (fun hsq hsp=>?_) (fun hsq hsp=>?_);refine vFz<|gTaz<|ldz rfl .head fr_rd5<|gTaz<|lvz (.eq rfl rfl)<|pFaz<|vMz ?_;refine LW.guardDF rfl rfl rfl (fun hsq hsp=>?_) (fun hsq hsp=>?_);refine vFz<|gTaz<|ldz rfl .head fr_rd0<|gTaz ?_;apply zS;rfl;rfl;infer_instance;exact .cons rfl .nil;intro w _;exact hC w (by assumption);refine gTaz ?_;refine lvz (.neT rfl rfl (by omega)) ?_;refine pFaz<|vMz ?_;(iterate 4 refine gFz ?_);refine pTz<|nNz<|cTz<|sRz<|vAz<|nNz<|zK ?_;refine thenR (finR (.inl rfl) rfl rfl rfl (.cons (.tmp rfl) .nil) ?_);rfl;(iterate 3 refine gFaz ?_);refine pTaz<|vMz ?_;(iterate 4 refine gFz ?_);refine pTz<|nNz<|cTz<|sRz<|vAz<|nNz<|zK ?_;refine thenR (finR (.inl rfl) rfl rfl rfl (.cons (.tmp rfl) .nil) ?_);rfl;refine gFaz<|gFaz<|pTaz<|vMz ?_;(iterate 4 refine gFz ?_);refine pTz<|vMz ?_;(iterate 4 refine gFz ?_);refine pTz<|nNz<|cTz<|sRz<|vAz<|nNz<|zK ?_;refine thenR (finR (.inl rfl) rfl rfl rfl (.cons (.tmp rfl) .nil) ?_);rfl;refine gFaz<|gFaz<|pTaz<|vAz<|nNz<|zI<|sRz<|vMz<|vMz ?_;(iterate 3 refine gFz ?_);refine pTz<|vMz ?_;(iterate 4 refine gFz ?_);refine pTz<|vMz ?_;(iterate 4 refine gFz ?_);refine pTz<|nNz<|cTz<|sRz<|vAz<|nNz<|zK ?_;refine thenR (finR (.inl rfl) rfl rfl rfl (.cons (.tmp rfl) .nil) ?_);rfl;(iterate 3 refine gFaz ?_);refine pTaz<|vMz ?_;(iterate 3 refine gFz ?_);refine pTz<|vAz<|nNz<|zI<|sRz<|vMz<|vMz ?_;(iterate 3 refine gFz ?_);refine pTz<|vMz ?_;(iterate 4 refine gFz ?_);refine pTz<|vMz ?_;(iterate 4 refine gFz ?_);refine pTz<|nNz<|cTz<|sRz<|vAz<|nNz<|zK ?_;refine thenR (finR (.inl rfl) rfl rfl rfl (.cons (.tmp rfl) .nil) ?_);rfl)
end
section
def catI {α:Type} (env:List (List α)) (xs:List Nat) (tail:List α):List α:=xs.foldr (fun i acc=>env.getD i []++acc) tail
theorem perm_ix {α:Type} (env:List (List α)) {xs ys:List Nat} (tail:List α) (h:xs.isPerm ys=true):(catI env xs tail).Perm (catI env ys tail):=by
 have hp:xs.Perm ys:=List.isPerm_iff.1 h
 clear h
 unfold catI
 induction hp with
 |nil=>exact .refl _
 |cons x _ ih=>exact List.Perm.append_left _ ih
 |swap x y l =>
  simp only [List.foldr_cons,← List.append_assoc]
  exact List.Perm.append_right _ List.perm_append_comm
 |trans _ _ ih1 ih2=>exact ih1.trans ih2
def SubP {α:Type} (l l':List α):Prop:=∃ m,l.Sublist m∧m.Perm l'
theorem catI_tail {α:Type} (env:List (List α)) (zs:List Nat) (tail:List α):tail.Sublist (catI env zs tail):=by
 induction zs with
 |nil=>exact .refl _
 |cons z zs ih=>exact List.Sublist.trans ih (List.sublist_append_right _ _)
theorem catI_app {α:Type} (env:List (List α)) (xs zs:List Nat) (tail:List α):(catI env xs tail).Sublist (catI env (xs++zs) tail):=by
 induction xs with
 |nil=>exact catI_tail env zs tail
 |cons x xs ih=>exact List.Sublist.append_left ih _
theorem subp_ix {α:Type} (env:List (List α)) {xs ys:List Nat} (tail:List α) (h:(xs++ys.filter fun y=>!xs.contains y).isPerm ys=true):SubP (catI env xs tail) (catI env ys tail):=⟨_,catI_app env xs _ tail,perm_ix env tail h⟩
theorem SubP.st {w0 w:World} {S:List Nat} {fs gs:Fs} (h:SubP gs fs) (hs:St w0 S fs w):St w0 S gs w:=by
 obtain ⟨m,h1,h2⟩:=h
 exact st_sub (hs.perm h2) h1
def anyO (K:Out):Out:=fun x fs'=>∃ fs'',K x fs''∧SubP fs'' fs'
theorem calls_anyO {P:Program} {f:FuncId} {args:Array Value} {w0 w:World} {S:List Nat} {K:Out} (h:Calls P f args w (fun x w'=>∃ fs',anyO K x fs'∧St w0 S fs' w')):Calls P f args w (fun x w'=>∃ fs',K x fs'∧St w0 S fs' w') :=
 Calls.mono h fun x w' ⟨fs',⟨fs'',hk,hp⟩,hst⟩=>⟨fs'',hk,hp.st hst⟩
def FrO (f:FrV) (L:FrL) (gs:Fs):Prop:=∃ g1 g2 g3 g4 g5,(g1++(g2++(g3++(g4++g5)))).Perm gs∧bM L.cl f.code g1∧wM L.ws f.stk g2∧bM L.ms f.mem g3∧bM L.il f.inp g4∧bM L.bl f.back g5
theorem bM_at {l:List UInt8} {v:Value} {g:Fs} {w:World} (h:bM l v g) (hw:∀ p∈g,w.heap[p.1]?=some p.2):RowAt w 1 v l.length (ucs l):=IsRow.us h hw (qM _)
theorem wM_at {l:List Nat} {v:Value} {g:Fs} {w:World} (h:wM l v g) (hw:∀ p∈g,w.heap[p.1]?=some p.2):RowAt w 4 v l.length (wcs l):=IsRow.us h hw (qM _)
theorem FrO.rows {f:FrV} {L:FrL} {gs:Fs} {w:World} (h:FrO f L gs) (hw:∀ p∈gs,w.heap[p.1]?=some p.2):FrRows w f L:=by
 obtain ⟨g1,g2,g3,g4,g5,hp,h1,h2,h3,h4,h5⟩:=h
 replace hw:∀ p∈g1++(g2++(g3++(g4++g5))),w.heap[p.1]?=some p.2:=fun p h=>hw p (hp.subset h)
 exact ⟨bM_at h1 fun p hp=>hw p (by simp [hp]),wM_at h2 fun p hp=>hw p (by simp [hp]),bM_at h3 fun p hp=>hw p (by simp [hp]),bM_at h4 fun p hp=>hw p (by simp [hp]),bM_at h5 fun p hp=>hw p (by simp [hp])⟩
theorem FrO.st {f:FrV} {L:FrL} {gs fs:Fs} {w0 w:World} {S:List Nat} (h:FrO f L gs) (hs:St w0 S fs w) (hg:∀ p∈gs,p∈fs):FrRows w f L:=h.rows fun p hp=>(hs.own p (hg p hp)).2
attribute [local irreducible] SL.inP
def MaV.setF (m:MaV) (f:FrV):MaV:={ m with fr:=f }
end
section
def FrV.rows (f:FrV) (c s m i b:Value):FrV:=⟨c,f.pc,s,m,f.gas,f.self,f.frm,f.val,i,b,f.stat⟩
section wr
variable {P : Program} {T E : TypeId} {code stk mem inp back z : Value} {pc : Int} {gas self frm val n c : Nat} {stat : Bool} {p : Option Addr} {g : Nat}
theorem fr_wr0 [InfoI P T 1 z]:Wr P T (.cells (fra ⟨code,pc,stk,mem,gas,self,frm,val,inp,back,stat⟩) E (0,0)) (0+0) (.slice p n c) (.cells (fra ⟨.slice p n c,pc,stk,mem,gas,self,frm,val,inp,back,stat⟩) E (0,0)):=Wr.cells (n:=1) (z:=z) rfl rfl (by show 0+0+1≤14;omega) rfl
theorem fr_wr2 [InfoI P T 1 z]:Wr P T (.cells (fra ⟨code,pc,stk,mem,gas,self,frm,val,inp,back,stat⟩) E (0,0)) (0+2+0) (.slice p n c) (.cells (fra ⟨code,pc,.slice p n c,mem,gas,self,frm,val,inp,back,stat⟩) E (0,0)):=Wr.cells (n:=1) (z:=z) rfl rfl (by show 0+2+0+1≤14;omega) rfl
theorem fr_wr3 [InfoI P T 1 z]:Wr P T (.cells (fra ⟨code,pc,stk,mem,gas,self,frm,val,inp,back,stat⟩) E (0,0)) (0+2+1) (.slice p n c) (.cells (fra ⟨code,pc,stk,.slice p n c,gas,self,frm,val,inp,back,stat⟩) E (0,0)):=Wr.cells (n:=1) (z:=z) rfl rfl (by show 0+2+1+1≤14;omega) rfl
theorem fr_wr11 [InfoI P T 1 z]:Wr P T (.cells (fra ⟨code,pc,stk,mem,gas,self,frm,val,inp,back,stat⟩) E (0,0)) (0+11) (.slice p n c) (.cells (fra ⟨code,pc,stk,mem,gas,self,frm,val,.slice p n c,back,stat⟩) E (0,0)):=Wr.cells (n:=1) (z:=z) rfl rfl (by show 0+11+1≤14;omega) rfl
theorem fr_wr12 [InfoI P T 1 z]:Wr P T (.cells (fra ⟨code,pc,stk,mem,gas,self,frm,val,inp,back,stat⟩) E (0,0)) (0+12) (.slice p n c) (.cells (fra ⟨code,pc,stk,mem,gas,self,frm,val,inp,.slice p n c,stat⟩) E (0,0)):=Wr.cells (n:=1) (z:=z) rfl rfl (by show 0+12+1≤14;omega) rfl
end wr
structure FrSl (f:FrV):Prop where
 c:∃ p n c,f.code=.slice p n c
 s:∃ p n c,f.stk=.slice p n c
 m:∃ p n c,f.mem=.slice p n c
 i:∃ p n c,f.inp=.slice p n c
 b:∃ p n c,f.back=.slice p n c
theorem FrRows.sl {w:World} {f:FrV} {L:FrL} (h:FrRows w f L):FrSl f:=by
 obtain ⟨a,b,h1,_⟩:=h.c.form
 obtain ⟨a2,b2,h2,_⟩:=h.s.form
 obtain ⟨a3,b3,h3,_⟩:=h.m.form
 obtain ⟨a4,b4,h4,_⟩:=h.i.form
 obtain ⟨a5,b5,h5,_⟩:=h.b.form
 exact ⟨⟨_,_,_,h1⟩,⟨_,_,_,h2⟩,⟨_,_,_,h3⟩,⟨_,_,_,h4⟩,⟨_,_,_,h5⟩⟩
theorem fr_cells {f:FrV} (h:FrSl f):(fra f).toList.all Value.oneCell'=true:=by
 obtain ⟨⟨_,_,_,h1⟩,⟨_,_,_,h2⟩,⟨_,_,_,h3⟩,⟨_,_,_,h4⟩,⟨_,_,_,h5⟩⟩:=h
 simp only [fra,frc,wc,List.cons_append,List.nil_append,List.all_cons,List.all_nil,h1,h2,h3,h4,h5];rfl
theorem fr_wrW {P:Program} {T E:TypeId} {f:FrV} {z:Value} {cs:Array Value} [InfoI P T 14 z] (h:cs.size=14) (hf:FrSl f):Wr P T (.cells cs E (0,0)) 0 (frv f) (.cells (fra f) E (0,0)):=Wr.whole h rfl (fr_cells hf)
theorem perm5 {α:Type} (g1 g2 g3 g4 g5:List α):(g1++(g2++(g3++(g4++g5)))).Perm (g3++(g2++(g5++(g4++g1)))):=by
 have h:=perm_ix [g1,g2,g3,g4,g5] (xs:=[0,1,2,3,4]) (ys:=[2,1,4,3,0]) [] rfl
 simpa [catI] using h
def FrL.short (L:FrL):Prop:=L.cl.length≤100000∧L.ws.length≤100000∧L.ms.length≤100000∧L.il.length≤100000∧L.bl.length≤100000
def ma0 (f:FrV) (e0 e1 e2 e3:Nat):MaV:=⟨f,e0,e1,e2,e3,.slice none 0 0,0,0,.slice none 0 0,.slice none 0 0⟩
def OfR (f:FrV) (L:FrL) (e0 e1 e2 e3:Nat) (v:Value) (gs:Fs):Prop:=∃ bm c s m i b g,v=.pointer (some ⟨bm,0,none⟩)∧gs=(bm,maO (ma0 (f.rows c s m i b) e0 e1 e2 e3))::g∧FrO (f.rows c s m i b) L g
def enva (e0 e1 e2 e3:Nat):Array Value:=#[.int .u64 (e0:Int),.int .u64 (e1:Int),.int .u64 (e2:Int),.int .u64 (e3:Int)]
theorem fOf_calls (f:FrV) (L:FrL) (e0 e1 e2 e3:Nat) (hl:L.short) (w:World) (h:FrRows w f L):Calls Tryz.prog 40 #[frv f,.agg (enva e0 e1 e2 e3)] w (RetG w [] (OfR f L e0 e1 e2 e3)):=by
 obtain ⟨code,pc,stk,mem,gas,self,frm,val,inp,back,stat⟩:=f
 obtain ⟨h0,h2,h3,h11,h12⟩:=h
 dsimp only at h0 h2 h3 h11 h12
 obtain ⟨p0,c0,rfl,_,hm0⟩:=id h0.form
 obtain ⟨p2,c2,rfl,_,hm2⟩:=id h2.form
 obtain ⟨p3,c3,rfl,_,hm3⟩:=id h3.form
 obtain ⟨p11,c11,rfl,_,hm11⟩:=id h11.form
 obtain ⟨p12,c12,rfl,_,hm12⟩:=id h12.form
 refine enter (args:=[_,_]) _ [] [] Tryz.func40 rfl Tryz.ntmps40 rfl (by simp) .nil ?_
 (refine sRz ?_;apply zT;rfl;rfl;intro _;apply zT;rfl;rfl;intro _;refine vAz<|nNz<|zI ?_)
 rename_i b1 b2
 apply CW.pre
 (refine AnyW.anyM [(2,bM L.cl),(5,bM L.il),(8,bM L.bl)] 10 mixed (by decide +kernel) ?_)
 ((try simp only [tsOf_cons,tsOf_nil,tsOf_app]);refine dvz (.fieldAddr rfl rfl) ?_;apply qD;rfl;rfl;rfl;exact zC;rfl;apply zO;apply zP;exact zN;exact fr_rd0)
 (apply DW.manyV;rfl;rfl;rfl;exact zC;rfl;infer_instance;exact .cons rfl .nil;apply RdV.ext;assumption;rfl;exact RdV.nil;intro w _ _)
 exact SK.Clone_calls _ _ w (h0.bel (by assumption)) hl.1
 intro v1 g1 h1
 ((try simp only [tsOf_cons,tsOf_nil,tsOf_app]);refine dvz (.fieldAddr rfl rfl) ?_;apply qD;rfl;rfl;rfl;exact zC;rfl;apply zQ;apply zO;apply zP;exact zN;exact fr_rd11)
 (apply DW.manyV;rfl;rfl;rfl;exact zC;rfl;infer_instance;exact .cons rfl .nil;apply RdV.ext;assumption;rfl;exact RdV.nil;intro w _ _)
 exact SK.Clone_calls _ _ w (h11.bel (by assumption)) hl.2.2.2.1
 intro v4 g4 h4
 ((try simp only [tsOf_cons,tsOf_nil,tsOf_app]);refine dvz (.fieldAddr rfl rfl) ?_;apply qD;rfl;rfl;rfl;exact zC;rfl;apply zQ;apply zQ;apply zO;apply zP;exact zN;exact fr_rd12)
 (apply DW.manyV;rfl;rfl;rfl;exact zC;rfl;infer_instance;exact .cons rfl .nil;apply RdV.ext;assumption;rfl;exact RdV.nil;intro w _ _)
 exact SK.Clone_calls _ _ w (h12.bel (by assumption)) hl.2.2.2.2
 intro v5 g5 h5
 have h1':=h1
 have h4':=h4
 have h5':=h5
 unfold bM at h1' h4' h5'
 obtain ⟨q1,k1,rfl⟩:=h1'.form
 obtain ⟨q4,k4,rfl⟩:=h4'.form
 obtain ⟨q5,k5,rfl⟩:=h5'.form
 ((try simp only [tsOf_cons,tsOf_nil,tsOf_app]);refine dvz (.fieldAddr rfl rfl) ?_;apply DW.nil;simp only [fsOf_cons,fsOf_nil,fsOf_app,fsOf_tsOf,fsOf_new,fsOf_tag])
 (refine zR rfl rfl (.app (.app (.app (.tail .head)))) fr_wr0<|vFz ?_;refine zR rfl rfl (.app (.app (.app (.tail .head)))) fr_wr11<|vFz ?_;refine zR rfl rfl (.app (.app (.app (.tail .head)))) fr_wr12<|nNz<|zI ?_)
 apply CW.pre
 (refine AnyW.anyM [(3,wM L.ws),(7,bM L.ms)] 10 mixed (by decide +kernel) ?_)
 ((try simp only [tsOf_cons,tsOf_nil,tsOf_app]);refine dvz (.fieldAddr rfl rfl)<|dvz (.fieldAddr rfl rfl) ?_;apply qD;rfl;rfl;rfl;exact zC;rfl;apply zQ;apply zQ;apply zQ;apply zO;apply zP;exact zN;exact fr_rd2s)
 (apply DW.manyV;rfl;rfl;rfl;exact zC;rfl;infer_instance;exact .cons rfl .nil;apply RdV.ext;assumption;rfl;exact RdV.nil;intro w _ _)
 exact CloneW_calls _ _ w (h2.bel (by assumption)) hl.2.1
 intro v2 g2 hh2
 ((try simp only [tsOf_cons,tsOf_nil,tsOf_app]);refine dvz (.fieldAddr rfl rfl)<|dvz (.fieldAddr rfl rfl) ?_;apply qD;rfl;rfl;rfl;exact zC;rfl;apply zQ;apply zQ;apply zQ;apply zQ;apply zO;apply zP;exact zN;exact fr_rd3)
 (apply DW.manyV;rfl;rfl;rfl;exact zC;rfl;infer_instance;exact .cons rfl .nil;apply RdV.ext;assumption;rfl;exact RdV.nil;intro w _ _)
 exact SK.Clone_calls _ _ w (h3.bel (by assumption)) hl.2.2.1
 intro v3 g3 hh3
 have h2':=hh2
 have h3':=hh3
 unfold wM at h2'
 unfold bM at h3'
 obtain ⟨q2,k2,rfl⟩:=h2'.form
 obtain ⟨q3,k3,rfl⟩:=h3'.form
 ((try simp only [tsOf_cons,tsOf_nil,tsOf_app]);refine dvz (.fieldAddr rfl rfl)<|dvz (.fieldAddr rfl rfl) ?_;apply DW.nil;simp only [fsOf_cons,fsOf_nil,fsOf_app,fsOf_tsOf,fsOf_new,fsOf_tag])
 have hsl:FrSl ⟨.slice q1 L.cl.length k1,pc,.slice q2 L.ws.length k2,.slice q3 L.ms.length k3,gas,self,frm,val,.slice q4 L.il.length k4,.slice q5 L.bl.length k5,stat⟩:=⟨⟨_,_,_,rfl⟩,⟨_,_,_,rfl⟩,⟨_,_,_,rfl⟩,⟨_,_,_,rfl⟩,⟨_,_,_,rfl⟩⟩
 (refine zR rfl rfl (.app (.app (.app (.app (.app (.tail .head)))))) fr_wr2<|vFz<|vFz ?_;refine zR rfl rfl (.app (.app (.app (.app (.app (.tail .head)))))) fr_wr3<|nSz<|ldz rfl (.app (.app (.app (.app (.app (.tail .head)))))) fr_rdW<|ldz rfl (.app (.app (.app (.app (.app .head))))) (qF rfl) ?_;apply LW.v0;rfl;rfl;apply zW;infer_instance;infer_instance;apply zA;rfl;apply zA;rfl;exact zB;rfl;simp only [fillP,wrCells,fra,frc,enva,wc,Value.cells,qH,qI,qJ,qG,qL,qK,List.cons_append,List.nil_append,Nat.reduceAdd,qN];rfl;apply zT;rfl;rfl;intro _;refine vAz<|nNz<|zK ?_)
 rename_i bm
 refine fin (vs:=[.pointer (some ⟨bm,0,none⟩)]) ((bm,maO (ma0 ⟨.slice q1 L.cl.length k1,pc,.slice q2 L.ws.length k2,.slice q3 L.ms.length k3,gas,self,frm,val,.slice q4 L.il.length k4,.slice q5 L.bl.length k5,stat⟩ e0 e1 e2 e3))::(g3++(g2++(g5++(g4++g1))))) (.inl rfl) rfl rfl (by (apply zD;exact zG rfl;exact zF)) ?_ ⟨bm,_,_,_,_,_,_,rfl,rfl,g1,g2,g3,g4,g5,perm5 g1 g2 g3 g4 g5,h1,hh2,hh3,h4,h5⟩
 exact List.Sublist.cons_cons _ (List.Sublist.append_left (List.Sublist.append_left (List.Sublist.append_left (List.Sublist.append_left (qP _ _) _) _) _) _)
end
section
attribute [local irreducible] SL.inP
def FrV.setR (f:FrV) (g:Nat) (s k:Value):FrV:={ f with gas:=g,stk:=s,mem:=k }
def FrV.rowsG (f:FrV) (g:Nat) (c s m i b:Value):FrV:=⟨c,f.pc,s,m,g,f.self,f.frm,f.val,i,b,f.stat⟩
def FrL.setW (L:FrL) (ws:List Nat):FrL:={ L with ws:=ws }
theorem FrO.sl {f:FrV} {L:FrL} {gs:Fs} (h:FrO f L gs):FrSl f:=by
 obtain ⟨g1,g2,g3,g4,g5,_,h1,h2,h3,h4,h5⟩:=h
 unfold bM at h1 h3 h4 h5
 unfold wM at h2
 obtain ⟨_,_,h1⟩:=h1.form
 obtain ⟨_,_,h2⟩:=h2.form
 obtain ⟨_,_,h3⟩:=h3.form
 obtain ⟨_,_,h4⟩:=h4.form
 obtain ⟨_,_,h5⟩:=h5.form
 exact ⟨⟨_,_,_,h1⟩,⟨_,_,_,h2⟩,⟨_,_,_,h3⟩,⟨_,_,_,h4⟩,⟨_,_,_,h5⟩⟩
def LayK (b:Nat) (m:MaV) (L:FrL) (gs:Fs) (l:List Nat) (rest:Fs):Out:=fun x fs' =>
 (64 < L.ws.length+l.length∧x=.panicked failC∧fs'=(b,maO m)::(gs++rest)) ∨
 (L.ws.length+l.length≤64∧∃ s k gs',x=.returned (.tuple #[])∧FrO (m.fr.setR m.fr.gas s k) (L.setW (L.ws++l)) gs'∧fs'=(b,maO (m.setF (m.fr.setR m.fr.gas s k)))::(gs'++rest))
theorem lay_calls (w0:World) (S:List Nat) (b:Nat) (m:MaV) (L:FrL) (gs:Fs) (l:List Nat) (v:Value) (hok:okSc L.ws.length L.ms.length) (hll:l.length≤100000) (hfr:FrO m.fr L gs) (rest:Fs) (w:World)
  (hv:∀ w',St w0 S ((b,maO m)::(gs++rest)) w'→RowAt w' 4 v l.length (wcs l)) (hs:St w0 S ((b,maO m)::(gs++rest)) w) :
  Calls Tryz.prog 74 #[.pointer (some ⟨b,0,none⟩),v] w (fun x w'=>∃ fs',LayK b m L gs l rest x fs'∧St w0 S fs' w'):=by
 have h1:∀ w',St w0 S ((b,maO m)::(gs++rest)) w'→RowAt w' 4 m.fr.stk L.ws.length (wcs L.ws)∧RowAt w' 1 m.fr.mem L.ms.length (ucs L.ms)∧RowAt w' 4 v l.length (wcs l):=fun w' h=>by
  have hr:=hfr.st h fun p hp=>qO _ (List.mem_append_left _ hp)
  exact ⟨hr.s,hr.m,hv w' h⟩
 rcases Nat.lt_or_ge 64 (L.ws.length+l.length) with hlt|hge
 ·refine Calls.mono (lay_full w0 S b m L.ws L.ms l v (gs++rest) w hs h1 hok hll hlt) ?_
  rintro x w' ⟨fs',⟨rfl,c4,rfl⟩,hst⟩
  exact ⟨_,.inl ⟨hlt,rfl,rfl⟩,st_sub hst (qQ _ (qM _))⟩
 ·refine Calls.mono (lay_ok w0 S b m L.ws L.ms l v (gs++rest) w hs h1 hok hll hge) ?_
  rintro x w' ⟨fs',⟨rfl,s,k,gs2,c4,⟨s',k',gg1,gg2,he,rfl,hw1,hb1⟩,rfl⟩,hst⟩
  cases he
  obtain ⟨g1,g2,g3,g4,g5,hp,hall⟩:=hfr
  replace hst:=hst.perm (fs':=c4::((gg2++gg1)++(b,maO (m.setSc s k))::((g1++(g2++(g3++(g4++g5))))++rest))) (List.Perm.cons _ (List.Perm.append_left _ (List.Perm.cons _ (hp.append_right rest))))
  refine ⟨_,.inr ⟨hge,s,k,g1++(gg1++(gg2++(g4++g5))),rfl,⟨g1,gg1,gg2,g4,g5,.refl _,hall.1,hw1,hb1,hall.2.2.2.1,hall.2.2.2.2⟩,rfl⟩,SubP.st ?_ hst⟩
  simp only [List.append_assoc,List.cons_append,List.nil_append]
  exact subp_ix [[_],gg2,gg1,[_],g1,g2,g3,g4,g5] (xs:=[3,4,2,1,7,8]) (ys:=[0,1,2,3,4,5,6,7,8]) rest rfl
def DoK (b:Nat) (f:FrV) (R:Option (Nat × FrL)) (rest:Fs):Out:=fun x fs'=>match R with
 |none=>x=.panicked failC∧fs'=rest
 |some (g,L')=>∃ s k gs',x=.returned (.tuple #[])∧FrO (f.setR g s k) L' gs'∧fs'=(b,maO (ma0 (f.setR g s k) 0 0 0 0))::(gs'++rest)
def zeroF:FrV:=⟨.slice none 0 0,0,.slice none 0 0,.slice none 0 0,0,0,0,0,.slice none 0 0,.slice none 0 0,false⟩
def zeroL:FrL:=⟨[],[],[],[],[]⟩
theorem zero_frO:FrO zeroF zeroL []:=⟨[],[],[],[],[],.refl _,.nil,.nil,.nil,.nil,.nil⟩
def ToldK (f:FrV) (R:Option (Nat × FrL)) (fs:Fs):Out:=fun x fs'=>match R with
 |none=>x=.returned (.tuple #[frv zeroF,.bool false])∧fs'=fs
 |some (g,L')=>∃ c s m i b gs',x=.returned (.tuple #[frv (f.rowsG g c s m i b),.bool true])∧FrO (f.rowsG g c s m i b) L' gs'∧fs'=gs'++fs
def Does (w0:World) (S:List Nat) (f:FrV) (L:FrL) (fs:Fs) (fn:FuncId) (cap:Array Value) (R:Option (Nat × FrL)):Prop :=
 ∀ b c s m i b5 gs rest w',FrO (f.rows c s m i b5) L gs→(∀ p∈fs,p∈rest)→St w0 S ((b,maO (ma0 (f.rows c s m i b5) 0 0 0 0))::(gs++rest)) w' →
  Calls Tryz.prog fn (Value.pointer (some ⟨b,0,none⟩)::cap.toList).toArray w' (fun x w''=>∃ fs',DoK b (f.rows c s m i b5) R rest x fs'∧St w0 S fs' w'')
theorem told1_calls (w0:World) (S:List Nat) (f:FrV) (L:FrL) (fs:Fs) (fn:FuncId) (cap:Array Value) (R:Option (Nat × FrL)) (hF:FnI Tryz.prog fn) (hd:Does w0 S f L fs fn cap R) (b b3 b6:Nat) (c s m i b5:Value) (gs R0:Fs) (hfr:FrO (f.rows c s m i b5) L gs)
  (hsub:∀ p∈fs,p∈R0) (h3:(b3,Obj.cells #[.func (.func fn) #[] cap] 116 (0,0))∈R0) (h6:(b6,Obj.cells #[.pointer (some ⟨b,0,none⟩)] 74 (0,0))∈R0) (w:World) (hs:St w0 S ((b,maO (ma0 (f.rows c s m i b5) 0 0 0 0))::(gs++R0)) w) :
  Calls Tryz.prog 117 #[.pointer (some ⟨b3,0,none⟩),.pointer (some ⟨b6,0,none⟩)] w (fun x w'=>∃ fs',DoK b (f.rows c s m i b5) R R0 x fs'∧St w0 S fs' w'):=by
 have k3:(b3,Obj.cells #[.func (.func fn) #[] cap] 116 (0,0))∈(b,maO (ma0 (f.rows c s m i b5) 0 0 0 0))::(gs++R0):=qO _ (List.mem_append_right _ h3)
 have k6:(b6,Obj.cells #[.pointer (some ⟨b,0,none⟩)] 74 (0,0))∈(b,maO (ma0 (f.rows c s m i b5) 0 0 0 0))::(gs++R0):=qO _ (List.mem_append_right _ h6)
 refine calls_inlineP (K:=DoK b (f.rows c s m i b5) R R0) (args:=[_,_]) Tryz.func117 rfl Tryz.ntmps117 rfl ?_ hs
 (refine zL ?_;apply LW.load;rfl;rfl;exact Known.own k3;exact Rd.one' rfl;apply LW.load;rfl;rfl;exact Known.own k6;exact Rd.one' rfl)
 refine LW.callP (K:=DoK b (f.rows c s m i b5) R R0) (aas:=.pointer (some ⟨b,0,none⟩)::cap.toList) rfl rfl hF (by (exact .cons rfl .nil)) rfl (fun fs h=>?_) (fun w' hst=>hd b c s m i b5 gs R0 w' hfr hsub hst) ?_ ?_
 ·unfold DoK at h
  cases R with
  |none=>cases h.1
  |some x=>obtain ⟨_,_,_,h,_⟩:=h;cases h
 ·intro v fs' h
  cases R with
  |none=>cases h.1
  |some x =>
   obtain ⟨s',k',gs',h1,h2,h3⟩:=h
   cases h1
   (apply zV)
   exact inPI (.inr rfl) .nil rfl .nil rfl ⟨s',k',gs',rfl,h2,h3⟩
 ·intro ch fs' h
  cases R with
  |none =>
   obtain ⟨h1,h2⟩:=h
   cases h1
   exact inPP .nil ⟨rfl,h2⟩
  |some x=>obtain ⟨_,_,_,h,_⟩:=h;cases h
theorem DoK.try {b:Nat} {f:FrV} {R:Option (Nat × FrL)} {fs:Fs}:TryK (DoK b f R fs):=fun x fs' h=>by
 cases R with
 |none=>exact .inr h.1
 |some x=>obtain ⟨_,_,_,h,_⟩:=h;exact .inl h
theorem DoK.app {b:Nat} {f:FrV} {R:Option (Nat × FrL)} {R0 rest:Fs} {x:Ending} {fs':Fs} (h:DoK b f R (R0++rest) x fs'):∃ own',DoK b f R R0 x own'∧fs'=own'++rest:=by
 cases R with
 |none =>
  obtain ⟨h1,rfl⟩:=h
  exact ⟨R0,⟨h1,rfl⟩,rfl⟩
 |some x =>
  obtain ⟨s,k,gs',h1,h2,rfl⟩:=h
  exact ⟨_,⟨s,k,gs',h1,h2,rfl⟩,by simp⟩
section rd
variable {P : Program} {T E : TypeId} {fr : Nat × Nat} {m : MaV}
theorem ma_rdF [AgI P T true] {z:Value} [InfoI P T 14 z]:Rd P T (.cells (mca m) E fr) 0 (frv m.fr):=Rd.mid (cs:=frc m.fr) rfl rfl
end rd
theorem told_calls (w0:World) (S:List Nat) (f:FrV) (L:FrL) (fs:Fs) (fn:FuncId) (cap:Array Value) (R:Option (Nat × FrL)) (hl:L.short) (hF:FnI Tryz.prog fn) (hd:Does w0 S f L fs fn cap R) (hok:okF f L) (w:World) (hs:St w0 S fs w) (hf:∀ w',Bel w0.heap.size S w0 w'→FrRows w' f L) :
  Calls Tryz.prog 71 #[frv f,.func (.func fn) #[] cap] w (fun x w'=>∃ fs',ToldK f R fs x fs'∧St w0 S fs' w'):=by
 refine calls_anyO (calls_inlineP (K:=anyO (ToldK f R fs)) (args:=[_,_]) Tryz.func71 rfl Tryz.ntmps71 rfl ?_ hs)
 (refine sRz ?_;apply zT;rfl;rfl;intro _;apply LW.box1;rfl;rfl;rfl;intro _;apply zU;rfl;intro _;refine vAz<|nNz<|zI<|sRz<|ldz rfl (.tail (.tail .head)) (qF rfl) ?_)
 (apply zS;rfl;rfl;infer_instance;exact .cons rfl .nil;intro w _)
 rename_i hst
 have h0:=fCheck_calls f L w (hf w hst.bel)
 rw [if_pos hok] at h0
 exact h0
 (refine lvz (.neF rfl rfl (by omega)) ?_;refine nNz<|cFz<|zJ<|thenN<|sRz<|ldz rfl (.tail (.tail .head)) (qF rfl) ?_;apply LW.v0;rfl;rfl;apply zW;infer_instance;infer_instance;exact zB;rfl;simp only [fillP,wrCells,Value.cells,qH,qI,qJ,qG,qL,qK,Nat.reduceAdd,qN];rfl)
 (apply LW.callR;rfl;rfl;infer_instance;exact .cons rfl (.cons rfl .nil);intro w hs)
 exact fOf_calls f L 0 0 0 0 hl w (hf w hs.bel)
 rintro v gso ⟨bm,c,s,m,i,b5,g,rfl,rfl,hfr⟩
 rename_i b2 b3 b4
 (apply LW.alloc1;rfl;rfl;intro _;apply zR;rfl;rfl;apply qA;apply Wr.cells;rfl;rfl;simp only [wc,List.size_toArray,List.length_cons,List.length_nil];omega;simp only [fillC,wc,wrCells,Value.cells,qJ,qG,qL,qK,Nat.reduceAdd,Nat.reduceMul,qN,Nat.mul_one];rfl;refine nNz<|zI<|sRz ?_;apply LW.v0;rfl;rfl;apply ValP.makeFunc;exact ArgsOk.nil;exact .cons rfl (.cons rfl .nil))
 rename_i b6
 refine LW.perm (fs':=(bm,maO (ma0 (f.rows c s m i b5) 0 0 0 0))::(g++((b6,.cells #[.pointer (some ⟨bm,0,none⟩)] 74 (0,0))::(b4,.cells #[.slice none 0 0,.int .i64 0,.slice none 0 0,.slice none 0 0,.int .u64 0,.int .u64 0,.int .u64 0,.int .u64 0,.int .u64 0,.int .u64 0,.int .u64 0,.slice none 0 0,.slice none 0 0,.bool false] 31 (0,0))::(b3,.cells #[.func (.func fn) #[] cap] 116 (0,0))::(b2,.cells (fra f) 31 (0,0))::fs))) ?_ ?_
 ·simp only [List.cons_append]
  exact perm_ix [[_],[_],g,[_],[_],[_]] (xs:=[1,2,0,3,4,5]) (ys:=[0,1,2,3,4,5]) fs rfl
 generalize hR0:((b6,Obj.cells #[.pointer (some ⟨bm,0,none⟩)] 74 (0,0))::(b4,Obj.cells #[.slice none 0 0,.int .i64 0,.slice none 0 0,.slice none 0 0,.int .u64 0,.int .u64 0,.int .u64 0,.int .u64 0,.int .u64 0,.int .u64 0,.int .u64 0,.slice none 0 0,.slice none 0 0,.bool false] 31 (0,0))::(b3,Obj.cells #[.func (.func fn) #[] cap] 116 (0,0))::(b2,Obj.cells (fra f) 31 (0,0))::fs)=R0
 refine LW.callP (K:=fun x fs'=>∃ ok own',x=.returned (.bool ok)∧DoK bm (f.rows c s m i b5) R R0 (match ok with|true=>.returned (.tuple #[])|false=>.panicked failC) own'∧fs'=own'++[]) rfl rfl inferInstance (by (exact .cons rfl .nil)) rfl (fun fs h=>by obtain ⟨_,_,h,_⟩:=h;cases h)
  (fun w' hst=>tries_calls w0 S 117 #[.pointer (some ⟨b3,0,none⟩),.pointer (some ⟨b6,0,none⟩)] (DoK bm (f.rows c s m i b5) R R0) DoK.try inferInstance ((bm,maO (ma0 (f.rows c s m i b5) 0 0 0 0))::(g++R0)) [] w' (fun rest w2 h2=>?_) (by rw [List.append_nil];exact hst)) ?_ ?_
 ·rw [List.cons_append,List.append_assoc] at h2
  refine Calls.mono (told1_calls w0 S f L fs fn cap R hF hd bm b3 b6 c s m i b5 g (R0++rest) hfr ?_ ?_ ?_ w2 h2) ?_
  ·intro p hp;rw [← hR0];simp [hp]
  ·rw [← hR0];simp
  ·rw [← hR0];simp
  ·rintro x w3 ⟨fs',hk,h3⟩
   obtain ⟨own',h4,rfl⟩:=hk.app
   exact ⟨_,⟨own',h4,rfl⟩,h3⟩
 ·rintro v fs' ⟨ok,own',h1,h2,rfl⟩
  cases h1
  rw [List.append_nil]
  cases R with
  |none =>
   obtain ⟨h3,rfl⟩:=h2
   cases ok with
   |true=>cases h3
   |false =>
    subst hR0
    (refine lvz (.notF rfl (by with_reducible rfl)) ?_;refine nNz<|cTz<|sRz ?_;apply LW.v0;rfl;rfl;apply zW;infer_instance;infer_instance;exact zB;rfl;simp only [fillP,wrCells,Value.cells,qH,qI,qJ,qG,qL,qK,Nat.reduceAdd,qN];rfl;refine zR rfl rfl (.tail .head) (.whole rfl rfl rfl)<|vAz<|nNz<|zK<|thenR ?_)
    refine inPI (.inl rfl) .nil rfl (by (apply zD;apply zH;rfl;apply qE;apply zX;apply zY;exact qF rfl;apply zD;exact zG rfl;exact zF)) rfl ⟨fs,⟨rfl,rfl⟩,subp_ix [[_],[_],[_],[_]] (xs:=[]) (ys:=[0,1,2,3]) fs rfl⟩
  |some x =>
   obtain ⟨gg,L'⟩:=x
   obtain ⟨s',k',gs',h3,h4,rfl⟩:=h2
   cases ok with
   |false=>cases h3
   |true =>
    subst hR0
    have hsl:FrSl (ma0 ((f.rows c s m i b5).setR gg s' k') 0 0 0 0).fr:=h4.sl
    (refine lvz (.notT rfl (by with_reducible rfl)) ?_;refine nNz<|cFz<|zJ<|thenN<|sRz<|ldz rfl (.tail (.app .head)) (Rd.one' rfl)<|vNz<|vFz<|ldz rfl .head ma_rdF ?_;apply zR;rfl;rfl;apply qB;apply qC;apply qB;apply qA;apply fr_wrW;rfl;assumption;refine vAz<|nNz<|zK ?_)
    refine inPI (.inl rfl) .nil rfl (by (apply zD;apply zH;rfl;apply qE;apply zX;apply zZ;apply zX;apply zY;exact qF rfl;apply zD;exact zG rfl;exact zF)) rfl ⟨gs'++fs,⟨c,s',k',i,b5,gs',rfl,h4,rfl⟩,subp_ix [[_],gs',[_],[_],[_],[_]] (xs:=[1]) (ys:=[0,1,2,3,4,5]) fs rfl⟩
 ·rintro ch fs' ⟨_,_,h,_⟩
  cases h
end
section
attribute [local irreducible] SL.inP
def ToldR (f:FrV) (R:Option (Nat × FrL)) (v:Value) (gs:Fs):Prop:=match R with
 |none=>v=.tuple #[frv zeroF,.bool false]∧gs=[]
 |some (g,L')=>∃ c s m i b,v=.tuple #[frv (f.rowsG g c s m i b),.bool true]∧FrO (f.rowsG g c s m i b) L' gs
def tellR (f:FrV) (L:FrL) (cost:Nat) (l:List Nat):Option (Nat × FrL):=if cost≤f.gas∧L.ws.length+l.length≤64 then some (f.gas - cost,L.setW (L.ws++l)) else none
theorem okF.short {f:FrV} {L:FrL} (h:okF f L):L.short:=by
 obtain ⟨⟨h1,h2,_⟩,_,h4,⟨h5,h6,_⟩,_⟩:=h
 exact ⟨by omega,by omega,by omega,by omega,by omega⟩
theorem told_bad (w0:World) (S:List Nat) (f:FrV) (L:FrL) (fs:Fs) (fn:FuncId) (cap:Array Value) (hok:¬ okF f L) (w:World) (hs:St w0 S fs w) (hf:∀ w',Bel w0.heap.size S w0 w'→FrRows w' f L) :
  Calls Tryz.prog 71 #[frv f,.func (.func fn) #[] cap] w (fun x w'=>∃ fs',ToldK f none fs x fs'∧St w0 S fs' w'):=by
 have hC:∀ w' {fs},St w0 S fs w'→Calls Tryz.prog 34 #[frv f] w' (Ret w' (.int .i64 240)):=fun w' fs hst=>by
  have h0:=fCheck_calls f L w' (hf w' hst.bel)
  rw [if_neg hok] at h0
  exact h0
 refine calls_anyO (calls_inlineP (K:=anyO (ToldK f none fs)) (args:=[_,_]) Tryz.func71 rfl Tryz.ntmps71 rfl ?_ hs)
 (refine sRz ?_;apply zT;rfl;rfl;intro _;apply LW.box1;rfl;rfl;rfl;intro _;apply zU;rfl;intro _;refine vAz<|nNz<|zI<|sRz<|ldz rfl (.tail (.tail .head)) (qF rfl) ?_;apply zS;rfl;rfl;infer_instance;exact .cons rfl .nil;intro w _;exact hC w (by assumption);refine lvz (.neT rfl rfl (by omega)) ?_;refine nNz<|cTz<|sRz ?_;apply LW.v0;rfl;rfl;apply zW;infer_instance;infer_instance;exact zB;rfl;simp only [fillP,wrCells,Value.cells,qH,qI,qJ,qG,qL,qK,Nat.reduceAdd,qN];rfl;refine zR rfl rfl .head (.whole rfl rfl rfl)<|vAz<|nNz<|zK<|thenR ?_)
 refine inPI (.inl rfl) .nil rfl (by (apply zD;apply zH;rfl;apply qE;apply zY;exact qF rfl;apply zD;exact zG rfl;exact zF)) rfl ⟨fs,⟨rfl,rfl⟩,subp_ix [[_],[_],[_]] (xs:=[]) (ys:=[0,1,2]) fs rfl⟩
theorem zero_sl:FrSl zeroF:=zero_frO.sl
theorem ToldK.ret {f:FrV} {R:Option (Nat × FrL)} {fs fs':Fs} {x:Ending} (h:ToldK f R fs x fs'):∃ v,x=.returned v:=by
 cases R with
 |none=>exact ⟨_,h.1⟩
 |some x=>obtain ⟨_,_,_,_,_,_,h,_⟩:=h;exact ⟨_,h⟩
theorem tell1_does (w0:World) (S:List Nat) (f:FrV) (L:FrL) (cost:Nat) (l:List Nat) (v:Value) (hll:l.length≤100000) (hv:∀ w',Bel w0.heap.size S w0 w'→RowAt w' 4 v l.length (wcs l)) (hok:okF f L) (fs:Fs) (b4 b5:Nat) (k4:(b4,Obj.cells #[.int .u64 (cost:Int)] 26 (0,0))∈fs) (k5:(b5,Obj.cells #[v] 23 (0,0))∈fs) :
  Does w0 S f L fs 72 #[.pointer (some ⟨b4,0,none⟩),.pointer (some ⟨b5,0,none⟩)] (tellR f L cost l):=by
 intro b c s m i b0 gs rest w hfr hsub hs
 have k4:=qO (b,maO (ma0 (f.rows c s m i b0) 0 0 0 0)) (List.mem_append_right gs (hsub _ k4))
 have k50:=qO (b,maO (ma0 (f.rows c s m i b0) 0 0 0 0)) (List.mem_append_right gs (hsub _ k5))
 refine calls_anyO (calls_inlineP (K:=anyO (DoK b (f.rows c s m i b0) (tellR f L cost l) rest)) (args:=[_,_,_]) Tryz.func72 rfl Tryz.ntmps72 rfl ?_ hs)
 (refine sRz<|vMz ?_;apply LW.load;rfl;rfl;exact Known.own k4;exact Rd.one' rfl;apply LW.lay1;rfl;infer_instance;infer_instance;rfl;rfl;rfl;rfl;rfl;rfl;intro _)
 rename_i b6
 refine LW.perm (fs':=(b,maO (ma0 (f.rows c s m i b0) 0 0 0 0))::(gs++((b6,.cells #[.int .u64 (cost:Int)] 26 (0,0))::rest))) ?_ ?_
 ·exact perm_ix [[_],[_],gs] (xs:=[1,2,0]) (ys:=[0,1,2]) rest rfl
 refine LW.callP (K:=MaK b (ma0 (f.rows c s m i b0) 0 0 0 0) (spendM (ma0 (f.rows c s m i b0) 0 0 0 0) [cost]) (gs++((b6,.cells #[.int .u64 (cost:Int)] 26 (0,0))::rest))) rfl rfl inferInstance (by (exact .cons rfl (.cons rfl .nil))) rfl (fun fs h=>?_) (fun w' hst=>spend_calls w0 S b _ [cost] (Nat.lt_of_le_of_lt hok.1.2.2 (by decide)) _ _ w' hst (fun w2 h2=>row_cells (h2.own (b6,_) (qO _ (List.mem_append_right _ List.mem_cons_self))).2 rfl rfl (by simp [maxLen]))) ?_ ?_
 ·unfold MaK at h
  split at h<;>cases h.1
 ·rcases Nat.lt_or_ge f.gas cost with hlt|hge
  ·have hsp:spendM (ma0 (f.rows c s m i b0) 0 0 0 0) [cost]=none:=by unfold spendM;rw [if_neg (by simp;exact hlt)]
   rw [hsp]
   rintro v fs' ⟨h,_⟩
   cases h
  ·have hsp:spendM (ma0 (f.rows c s m i b0) 0 0 0 0) [cost]=some (ma0 ((f.rows c s m i b0).setR (f.gas - cost) s m) 0 0 0 0):=by unfold spendM;rw [if_pos (by simp;exact hge)];simp;rfl
   rw [hsp]
   rintro v fs' ⟨h,rfl⟩
   cases h
   have k5:(b5,Obj.cells #[v] 23 (0,0))∈(b,maO (ma0 ((f.rows c s m i b0).setR (f.gas - cost) s m) 0 0 0 0))::(gs++(b6,Obj.cells #[.int .u64 (cost:Int)] 26 (0,0))::rest):=qO _ (List.mem_append_right _ (qO _ (hsub _ k5)))
   (refine nNz<|zL<|vMz ?_;apply LW.load;rfl;rfl;exact Known.own k5;exact Rd.one' rfl)
   have hfr1:FrO ((f.rows c s m i b0).setR (f.gas - cost) s m) L gs:=hfr
   refine LW.callP (K:=LayK b (ma0 ((f.rows c s m i b0).setR (f.gas - cost) s m) 0 0 0 0) L gs l ((b6,Obj.cells #[.int .u64 (cost:Int)] 26 (0,0))::rest)) rfl rfl inferInstance (by (exact .cons rfl (.cons rfl .nil))) rfl (fun fs h=>by rcases h with ⟨_,h,_⟩|⟨_,_,_,_,h,_⟩<;>cases h) (fun w' hst=>lay_calls w0 S b _ L gs l v hok.2.2.2.1 hll hfr1 _ w' (fun w2 h2=>hv w2 h2.bel) hst) ?_ ?_
   ·rintro v fs' (⟨_,h,_⟩|⟨hc,s',k',gs',h,hfr',rfl⟩)
    ·cases h
    ·have hR:tellR f L cost l=some (f.gas - cost,L.setW (L.ws++l)):=by unfold tellR;exact if_pos ⟨hge,hc⟩
     rw [hR]
     cases h
     (apply zV)
     exact inPI (.inr rfl) .nil rfl .nil rfl ⟨_,⟨s',k',gs',rfl,hfr',rfl⟩,_,List.Sublist.cons_cons _ (List.Sublist.append_left (List.sublist_cons_self _ _) _),.refl _⟩
   ·rintro ch fs' (⟨hc,h,rfl⟩|⟨_,_,_,_,h,_⟩)
    ·have hR:tellR f L cost l=none:=by unfold tellR;exact if_neg (fun h=>by omega)
     rw [hR]
     cases h
     exact inPP .nil ⟨rest,⟨rfl,rfl⟩,_,qQ _ (List.Sublist.trans (List.sublist_cons_self _ _) (List.sublist_append_right _ _)),.refl _⟩
    ·cases h
 ·rcases Nat.lt_or_ge f.gas cost with hlt|hge
  ·have hsp:spendM (ma0 (f.rows c s m i b0) 0 0 0 0) [cost]=none:=by unfold spendM;rw [if_neg (by simp;exact hlt)]
   rw [hsp]
   rintro ch fs' ⟨h,rfl⟩
   have hR:tellR f L cost l=none:=by unfold tellR;exact if_neg (fun h=>by omega)
   rw [hR]
   cases h
   refine thenP ?_
   exact inPP .nil ⟨rest,⟨rfl,rfl⟩,_,qQ _ (List.Sublist.trans (List.sublist_cons_self _ _) (List.sublist_append_right _ _)),.refl _⟩
  ·have hsp:spendM (ma0 (f.rows c s m i b0) 0 0 0 0) [cost]=some (ma0 ((f.rows c s m i b0).setR (f.gas - cost) s m) 0 0 0 0):=by unfold spendM;rw [if_pos (by simp;exact hge)];simp;rfl
   rw [hsp]
   rintro ch fs' ⟨h,_⟩
   cases h
theorem Tell_calls (f:FrV) (L:FrL) (cost:Nat) (l:List Nat) (v:Value) (hll:l.length≤100000) (w:World) (hv:RowAt w 4 v l.length (wcs l)) (h:FrRows w f L):Calls Tryz.prog 28 #[frv f,.int .u64 (cost:Int),v] w (RetG w [] (ToldR f (if okF f L then tellR f L cost l else none))):=by
 obtain ⟨p,cc,rfl,_,_⟩:=id hv.form
 refine enter (args:=[_,_,_]) _ [] [] Tryz.func28 rfl Tryz.ntmps28 rfl (by simp) .nil ?_
 have hzs:=zero_sl
 (refine sRz ?_;apply zT;rfl;rfl;intro _;apply LW.box1;rfl;rfl;rfl;intro _;apply LW.box1;rfl;rfl;rfl;intro _;apply zU;rfl;intro _;refine vAz<|nSz<|ldz rfl (.tail (.tail (.tail .head))) (qF rfl) ?_;apply LW.v0;rfl;rfl;apply ValP.makeFunc;exact ArgsOk.nil;exact .cons rfl (.cons rfl .nil))
 rename_i b3 b4 b5 b6
 refine LW.callP (K:=ToldK f (if okF f L then tellR f L cost l else none) ((b6,Obj.cells (fra zeroF) 31 (0,0))::(b5,Obj.cells #[.slice p l.length cc] 23 (0,0))::(b4,Obj.cells #[.int .u64 (cost:Int)] 26 (0,0))::(b3,Obj.cells (fra f) 31 (0,0))::[])) rfl rfl inferInstance (by (exact .cons rfl (.cons rfl .nil))) rfl (fun fs h=>?_) (fun w' hst=>?_) ?_ ?_
 ·obtain ⟨_,h⟩:=h.ret;cases h
 ·by_cases hok:okF f L
  ·rw [if_pos hok]
   exact told_calls w [] f L _ _ _ _ hok.short inferInstance (tell1_does w [] f L cost l _ hll (fun w2 hb=>hv.bel hb) hok _ b4 b5 (by simp) (by simp)) hok w' hst fun w2 hb=>h.bel hb
  ·rw [if_neg hok]
   exact told_bad w [] f L _ _ _ hok w' hst fun w2 hb=>h.bel hb
 ·intro v fs' hk
  cases hR:(if okF f L then tellR f L cost l else none) with
  |none =>
   rw [hR] at hk
   obtain ⟨h1,rfl⟩:=hk
   cases h1
   (refine vEz ?_;refine vEz ?_;refine zR rfl rfl .head (.whole rfl rfl rfl)<|vAz<|nNz<|zK ?_)
   exact fin (vs:=[frv zeroF,.bool false]) [] (.inl rfl) rfl rfl (by (apply zD;apply zH;rfl;apply qE;apply zY;exact qF rfl;apply zD;exact zG rfl;exact zF)) (List.nil_sublist _) ⟨rfl,rfl⟩
  |some x =>
   rw [hR] at hk
   obtain ⟨g,L'⟩:=x
   obtain ⟨c,s,m,i,b,gs',h1,hfr,rfl⟩:=hk
   cases h1
   have hsl:=hfr.sl
   (refine vEz ?_;refine vEz ?_;apply zR;rfl;rfl;apply qC;apply qA;apply fr_wrW;rfl;assumption;refine vAz<|nNz<|zK ?_)
   exact fin (vs:=[frv (f.rowsG g c s m i b),.bool true]) gs' (.inl rfl) rfl rfl (by (apply zD;apply zH;rfl;apply qE;apply zZ;apply zY;exact qF rfl;apply zD;exact zG rfl;exact zF)) (qP _ _) ⟨c,s,m,i,b,rfl,hfr⟩
 ·intro ch fs' h
  obtain ⟨_,h⟩:=h.ret
  cases h
end
end Go.Proofs.YtdeggbkbblfpoaaGreatDoor
namespace Go.Proofs.YtdeggbkbblfpoaaGreatDoor.CK
open Go Go.RowKit SL
set_option maxRecDepth 8000
set_option maxHeartbeats 4000000
set_option linter.unusedSimpArgs false
set_option linter.unusedVariables false
attribute [local irreducible] SL.CW SL.LW SL.DW Calls SL.Ret SL.RetG SL.beginQ SL.roundQ SL.rangeQ SL.inQ SL.RW SL.AnyW SL.thenQ SL.thenC SL.thenW SL.blkQ SL.finQ SL.ValP SL.NewP SL.SetP SL.CallP SL.Rd SL.Wr SL.Known
section
attribute [local irreducible] opOf
theorem LW.copyFull {C:Cu} {ops:Array Oper} {Q:Post} {rest:List Oper} {e:Env} {fs:Fs} {d:Nat} {t:TypeId} {pos:String} {af:Array Edge} {x y:Operand} {tys:Array TypeId} {T E bytes:TypeId} {z vx:Value} {g off dLen dCap m:Nat} {cur:Array Value} {E':TypeId} {news:List Value} {fs':Fs} (hd:Nat.blt d C.N=true) (hT:tys=#[T,T]) (hU:UnI C.P T (.slice E)) (hI:InfoI C.P E 1 z) (hB:BytI C.P E bytes)
  (hx:e.ev x=some (.slice (some ⟨g,off,none⟩) dLen dCap)) (hy:e.ev y=some vx) (hat:∀ w,St C.w0 C.S fs w→RowAt w 1 vx m news) (h1:∀ u∈news,u.oneCell'=true) (h0:0 < dLen) (hm:dLen≤m) (hfit:off+dLen≤cur.size)
  (hset:SetAt fs g (.cells cur E' (0,0)) (.cells (cur.toList.take off++news.take dLen++cur.toList.drop (off+dLen)).toArray E' (0,0)) fs')
  (k:LW C ops Q rest ((d,.int .i64 (dLen:Int))::e) fs') :
  LW C ops Q (⟨some d,.call { callee:=.builtin .copy,args:=#[x,y],argTypes:=tys },t,pos,af,none⟩::rest) e fs:=by
 subst hT
 refine LW.valset hd (fun c h=>by cases h) hset (fun a w hs hg=>?_) k
 have hA:=hat w hs.st
 have hl:(news.take dLen).length=dLen:=by have:=hA.len;rw [List.length_take];omega
 have hsz:(C.P.info? E).map (·.size)=some 1:=by
  obtain ⟨i,i1,i2,i3,i4⟩:=info_all (P:=C.P) (T:=E);rw [i1];simp [i2]
 obtain ⟨b,o2,c,cs,E2,fr,rfl,hblk,hnx⟩:=hA.pos (by omega)
 have hrun:=run_copy_row (P:=C.P) w T T t E g off dLen dCap ⟨b,o2,none⟩ m c cur E' (news.take dLen) hU.un hsz hg (by rw [hl];exact (Nat.min_eq_right hm).symm) (fun j u hj=>by
  rw [addr_add,cell_of hblk]
  rw [List.getElem?_take] at hj
  split at hj
  ·exact cut_get hnx hj
  ·cases hj) (by rw [hl];exact hfit) (fun u hu=>h1 u (List.mem_of_mem_take hu))
 rw [hl] at hrun
 have hput:w.setRow g (cur.toList.take off++news.take dLen++cur.toList.drop (off+dLen)).toArray=w.putObj g (.cells (cur.toList.take off++news.take dLen++cur.toList.drop (off+dLen)).toArray E' (0,0)):=setRow_put hg
 rw [hput] at hrun
 simp [execOp,resolve,invoke,builtin,hs.env.ev hx,hs.env.ev hy,hrun,goInt]
def datF (bs:List UInt8) (n k:Nat):List UInt8:=(List.range k).map fun i=>bs.getD (n+1+i) 0
theorem datF_len (bs:List UInt8) (n k:Nat):(datF bs n k).length=k:=by simp [datF]
theorem datF_get (bs:List UInt8) (n k i:Nat):(datF bs n k)[i]?=if i < k then some (bs.getD (n+1+i) 0) else none:=by
 unfold datF
 rw [List.getElem?_map]
 split
 ·rename_i h;rw [List.getElem?_range h];rfl
 ·rename_i h;rw [List.getElem?_eq_none (by simp;omega)];rfl
theorem datF_eq (bs:List UInt8) (n k:Nat):datF bs n k=(bs.drop (n+1)).take k++List.replicate (k - (bs.length - (n+1))) 0:=by
 refine List.ext_getElem? fun i=>?_
 rw [datF_get,List.getElem?_append,List.length_take,List.length_drop]
 split
 ·rename_i h
  split
  ·rename_i h2
   rw [List.getElem?_take,if_pos h,List.getElem?_drop,List.getD_eq_getElem?_getD,List.getElem?_eq_getElem (show n+1+i < bs.length by omega)];rfl
  ·rename_i h2
   rw [List.getElem?_replicate,if_pos (by omega),List.getD_eq_getElem?_getD,List.getElem?_eq_none (by omega)];rfl
 ·rename_i h
  rw [if_neg (by omega),List.getElem?_replicate,if_neg (by omega)]
def dataL (bs:List UInt8) (i:Int):List UInt8:=if readB bs i=true then datF bs i.toNat (szOf (bs.getD i.toNat 0).toNat) else []
def dataC (bs:List UInt8) (i:Int):List UInt8:=if bs.length≤200 then dataL bs i else []
theorem readB_range {bs:List UInt8} {i:Int} (h:readB bs i=true):0≤i∧i < bs.length:=by
 unfold readB at h
 obtain ⟨s,hs,he⟩:=List.any_eq_true.1 h
 have he':(s.1:Int)=i:=by simpa using he
 refine ⟨by omega,?_⟩
 have key:∀ n (bs:List UInt8) p,bs.length≤n→∀ s∈segsAt p bs,s.1 < p+bs.length:=by
  intro n
  induction n with
  |zero =>
   intro bs p h s hs
   rw [List.eq_nil_of_length_eq_zero (show bs.length=0 by omega),segsAt_nil] at hs
   cases hs
  |succ n ih =>
   intro bs p h s hs
   cases bs with
   |nil=>rw [segsAt_nil] at hs;cases hs
   |cons b r =>
    rw [segsAt_cons] at hs
    rcases List.mem_cons.1 hs with rfl|hs
    ·simp
    ·have h1:=ih (r.drop (szOf b.toNat)) (p+1+szOf b.toNat) (by simp at h ⊢;omega) s hs
     have h2:=segsAt_ge _ _ _ (Nat.le_refl _) s hs
     simp at h1 ⊢
     omega
 have:=key _ bs 0 (Nat.le_refl _) s hs
 omega
theorem readFrom_step' {bs:List UInt8} {p:Nat} {i:Int} (h:p < bs.length) (hi:(p:Int) < i):readFrom bs (p+szOf (bs.getD p 0).toNat+1) i=readFrom bs p i:=by
 rw [← readFrom_step h hi,Nat.add_right_comm p 1]
theorem dataL_none {bs:List UInt8} {i:Int} (h:readB bs i=false):dataL bs i=[]:=by unfold dataL;rw [h];exact if_neg (by decide)
theorem dataL_some {bs:List UInt8} {n:Nat} (h:readB bs n=true):dataL bs n=datF bs n (szOf (bs.getD n 0).toNat):=by unfold dataL;rw [h];exact if_pos rfl
theorem Data_calls (bs:List UInt8) (i:Int) (v:Value) (w:World) (hv:RowAt w 1 v bs.length (ucs bs)):Calls Tryz.prog 132 #[v,.int .i64 i] w (RetG w [] fun v gs=>IsRow 5 1 v (dataC bs i).length (ucs (dataC bs i)) gs):=by
 have hCk0:∀ w' {fs},St w [] fs w'→Calls Tryz.prog 83 #[v] w' (Ret w' (.int .i64 (if bs.length≤200 then 0 else 3))):=fun w' fs hst=>CheckC_calls v bs.length (ucs bs) w' (hv.st hst)
 obtain ⟨p0,c0,rfl,_,_⟩:=hv.form
 unfold dataC
 refine enter (args:=[_,_]) _ [] [] Tryz.func132 rfl Tryz.ntmps132 rfl (by simp) .nil ?_
 rcases Nat.lt_or_ge 200 bs.length with hgt|hle
 ·rw [if_neg (by omega)]
  have hCk:∀ w' {fs},St w [] fs w'→Calls Tryz.prog 83 #[.slice p0 bs.length c0] w' (Ret w' (.int .i64 3)):=by rw [if_neg (by omega)] at hCk0;exact hCk0
  (refine zI<|zL ?_;apply LW.box1;rfl;rfl;rfl;intro _;apply LW.box1;rfl;rfl;rfl;intro _;apply LW.alloc1;rfl;rfl;intro _;apply zV;refine thenN<|zI<|zI<|zL ?_;apply LW.load;rfl;rfl;apply qE;apply zX;apply zX;apply zY;exact Rd.one' rfl)
  apply LW.inline
  rfl
  rfl
  infer_instance
  (apply ArgsOk.cons;rfl;exact ArgsOk.nil)
  rfl
  exact Tryz.func200
  rfl
  exact Tryz.ntmps200
  rfl
  (refine zI<|zL ?_;apply LW.box1;rfl;rfl;rfl;intro _;apply LW.v0;rfl;rfl;apply ValP.assign;rfl;apply zV;refine thenN<|zI<|zL ?_;apply LW.v0;rfl;rfl;apply ValP.makeFunc;exact ArgsOk.nil;apply ArgsOk.cons;rfl;exact ArgsOk.nil;apply LW.v0;rfl;rfl;apply ValP.assign;rfl;apply zV;refine thenN<|zK ?_)
  apply inI
  (exact .inl rfl)
  (exact Shut.nil)
  rfl
  (apply zD;exact zG rfl;exact zF)
  rfl
  (apply zV;refine thenN<|zM ?_)
  apply CW.rangeFunc
  rfl
  rfl
  infer_instance
  rfl
  exact Tryz.func218
  rfl
  exact Tryz.ntmps218
  rfl
  rfl
  intro l r rec hrec
  (refine zI<|zI<|zL ?_;apply LW.load;rfl;rfl;apply qE;apply zX;apply zX;apply zY;exact Rd.one' rfl;apply zS;rfl;rfl;infer_instance;apply ArgsOk.cons;rfl;exact ArgsOk.nil;intro w _;exact hCk w (by assumption);apply LW.v0;rfl;rfl;apply ValP.neT;rfl;rfl;omega;apply zV;refine thenN ?_;apply CW.condT;rfl;(with_reducible rfl);refine zK<|thenR ?_)
  apply rangeN
  (exact .inl rfl)
  (exact Shut.nil)
  (apply qA)
  (refine blkN<|thenM<|zI<|zL ?_;apply zR;rfl;rfl;apply qB;apply qB;apply qB;apply qA;apply Wr.cells;rfl;rfl;simp only [List.size_toArray,List.length_cons,List.length_nil];omega;simp only [fillC,wc,wrCells,Value.cells,qJ,qG,qL,qK,Nat.reduceAdd,Nat.reduceMul,qN,Nat.mul_one];rfl;apply zV;refine thenN<|zK ?_)
  apply finM [];(exact .inl rfl);(apply Shut.cons;apply qB;apply qA;exact Shut.nil);rfl;(apply zD;apply zH;rfl;apply qE;apply zX;apply zX;apply zX;apply zY;exact Rd.one' rfl;exact zF);exact List.nil_sublist _
  exact .nil
 ·rw [if_pos hle]
  have hCk:∀ w' {fs},St w [] fs w'→Calls Tryz.prog 83 #[.slice p0 bs.length c0] w' (Ret w' (.int .i64 0)):=by rw [if_pos hle] at hCk0;exact hCk0
  obtain ⟨T,hT⟩:∃ T,dataL bs i=T:=⟨_,rfl⟩
  rw [hT]
  (refine zI<|zL ?_;apply LW.box1;rfl;rfl;rfl;intro _;apply LW.box1;rfl;rfl;rfl;intro _;apply LW.alloc1;rfl;rfl;intro _;apply zV;refine thenN<|zI<|zI<|zL ?_;apply LW.load;rfl;rfl;apply qE;apply zX;apply zX;apply zY;exact Rd.one' rfl)
  apply LW.inline
  rfl
  rfl
  infer_instance
  (apply ArgsOk.cons;rfl;exact ArgsOk.nil)
  rfl
  exact Tryz.func200
  rfl
  exact Tryz.ntmps200
  rfl
  (refine zI<|zL ?_;apply LW.box1;rfl;rfl;rfl;intro _;apply LW.v0;rfl;rfl;apply ValP.assign;rfl;apply zV;refine thenN<|zI<|zL ?_;apply LW.v0;rfl;rfl;apply ValP.makeFunc;exact ArgsOk.nil;apply ArgsOk.cons;rfl;exact ArgsOk.nil;apply LW.v0;rfl;rfl;apply ValP.assign;rfl;apply zV;refine thenN<|zK ?_)
  apply inI
  (exact .inl rfl)
  (exact Shut.nil)
  rfl
  (apply zD;exact zG rfl;exact zF)
  rfl
  (apply zV;refine thenN<|zM ?_)
  apply CW.rangeFunc
  rfl
  rfl
  infer_instance
  rfl
  exact Tryz.func218
  rfl
  exact Tryz.ntmps218
  rfl
  rfl
  intro l r rec hrec
  (refine zI<|zI<|zL ?_;apply LW.load;rfl;rfl;apply qE;apply zX;apply zX;apply zY;exact Rd.one' rfl;apply zS;rfl;rfl;infer_instance;apply ArgsOk.cons;rfl;exact ArgsOk.nil;intro w _;exact hCk w (by assumption);apply LW.v0;rfl;rfl;apply ValP.neF;rfl;rfl;omega;apply zV;refine thenN ?_;apply CW.condF;rfl;(with_reducible rfl);refine zJ<|thenN<|zI<|zL ?_;apply LW.v0;rfl;rfl;apply ValP.assign;rfl;apply zV;refine thenN<|zM ?_)
  rename_i b1 b2 b3 bb
  refine CW.loop (fun p:Nat=>([(3,.int .i64 (p:Int)),(0,.func (.yield l) #[] #[]),(1,.pointer (some ⟨bb,0,none⟩))],
   [(l,rdy rec),(r,.deferred (some [])),(bb,.cells #[.slice p0 bs.length c0] 22 (0,0)),(b3,.cells #[.slice none 0 0] 22 (0,0)),(b2,.cells #[.int .i64 i] 3 (0,0)),(b1,.cells #[.slice p0 bs.length c0] 22 (0,0))]))
   (fun p=>p≤300∧(readFrom bs p i=readB bs i∨(i < (p:Int)∧T=[]))) (fun p=>bs.length - p) 0 ⟨by decide,.inl (by unfold readFrom readB;rw [List.drop_zero])⟩ ⟨rfl,rfl,rfl,trivial⟩ (qM _) ?_
  rintro p ⟨hp,hinv⟩
  dsimp only at hp hinv ⊢
  rcases Nat.lt_or_ge p bs.length with hlt|hge
  ·obtain ⟨b,off,c',cs,E,fr,heq,hbk,hx⟩:=hv.pos (by omega)
   cases heq
   obtain ⟨u,hu⟩:∃ u,bs.getD p 0=u:=⟨_,rfl⟩
   have hrd:Rd Tryz.prog 5 (.cells cs E fr) (off+p * 1) (.int .u8 (u.toNat:Int)):=Rd.elem1 hx (ucs_one bs) (List.getElem?_eq_getElem hlt) (by rw [← hu];simp [hlt])
   have hub:u.toNat < 256:=u.toNat_lt
   have hOf0:=Of_op_calls u.toNat hub
   have hzl:=szOf_le u.toNat
   have hxd:=opAt_dt u.toNat
   obtain ⟨x,hx0⟩:∃ x,opAt u.toNat=x:=⟨_,rfl⟩
   rw [hx0] at hxd
   rw [← hxd] at hzl
   unfold opAt at hx0
   cases ho:opOf u.toNat with
   |none =>
    rw [ho] at hx0 hOf0
    dsimp only at hx0
    subst hx0
    have hOf:∀ w,Calls Tryz.prog 91 #[.int .u8 (u.toNat:Int)] w (Ret w (.tuple #[.agg (opc zeroOp),.int .i64 4])):=hOf0
    dsimp only at hzl hxd
    (refine zI<|zI<|zL ?_;apply LW.v0;rfl;rfl;apply ValP.move;rfl;apply LW.load;rfl;rfl;apply qE;apply zX;apply zX;apply zY;exact Rd.one' rfl;apply LW.v0;rfl;rfl;apply ValP.lenR;rfl;infer_instance;rfl;apply LW.v0;rfl;rfl;apply ValP.lssT;rfl;rfl;omega;apply zV;refine thenN ?_;apply CW.condT;rfl;(with_reducible rfl);refine zJ<|thenN<|zI<|zM<|zI<|zL ?_;apply LW.load;rfl;rfl;apply qE;apply zX;apply zX;apply zY;exact Rd.one' rfl;apply LW.v0;rfl;rfl;apply ValP.move;rfl;apply LW.v0;rfl;rfl;apply ValP.indexAddrS;rfl;rfl;rfl;omega;apply LW.load;rfl;rfl;exact Known.ext (by assumption) (by simp);assumption;apply zS;rfl;rfl;infer_instance;apply ArgsOk.cons;rfl;exact ArgsOk.nil;intro w _;exact hOf w;apply LW.v0;rfl;rfl;apply ValP.move;rfl;apply LW.v0;rfl;rfl;apply ValP.extractN;rfl;rfl;apply LW.v0;rfl;rfl;apply ValP.extractN;rfl;rfl;apply zU;rfl;intro _;apply zR;rfl;rfl;apply qA;apply Wr.whole;rfl;rfl;rfl;apply LW.v0;rfl;rfl;apply ValP.assign;rfl;apply zV;refine thenN<|zI<|zI<|zL ?_;apply LW.v0;rfl;rfl;apply ValP.move;rfl;apply LW.v0;rfl;rfl;apply ValP.neT;rfl;rfl;omega;apply zV;refine thenN ?_;apply CW.condT;rfl;(with_reducible rfl);refine zL ?_;apply LW.load;rfl;rfl;apply qE;apply zX;apply zX;apply zX;apply zY;exact Rd.one' rfl;apply LW.v0;rfl;rfl;apply ValP.move;rfl;apply LW.v0;rfl;rfl;apply ValP.indexAddrS;rfl;rfl;rfl;omega;apply LW.load;rfl;rfl;exact Known.ext (by assumption) (by simp);assumption;apply LW.v0;rfl;rfl;apply zW;infer_instance;infer_instance;apply zA;rfl;exact zB;rfl;simp only [fillP,wrCells,Value.cells,qH,qI,qJ,qG,qL,qK,Nat.reduceAdd,qN];rfl;apply zR;rfl;rfl;apply qA;apply Wr.whole;rfl;rfl;rfl;apply zV;refine thenN<|zI<|zI<|zL ?_;apply LW.v0;rfl;rfl;apply ValP.move;rfl;apply LW.v0;rfl;rfl;apply ValP.move;rfl;apply LW.load;rfl;rfl;apply qE;apply zY;exact qF rfl)
    by_cases hpi:(p:Int)=i
    ·have hno:¬ i < (p:Int):=by omega
     have hrb:readB bs i=true:=by
      rcases hinv with h|⟨h,_⟩
      ·rw [← h,← hpi];exact readFrom_hit hlt
      ·exact absurd h hno
     rcases Nat.eq_zero_or_pos 0 with hz|hz
     ·have hT0:T=[]:=by rw [← hT,← hpi,dataL_some (by rw [hpi];exact hrb),hu,← hxd];exact List.eq_nil_of_length_eq_zero ((datF_len _ _ _).trans hz)
      apply LW.yield
      rfl
      rfl
      (apply ArgsOk.cons;rfl;apply ArgsOk.cons;rfl;exact ArgsOk.nil)
      exact hrec
      (apply zX;apply zY)
      rfl
      rfl
      (refine zI<|zL ?_;apply LW.v0;rfl;rfl;apply ValP.assign;rfl;apply zV;refine thenN<|zL ?_;apply zU;rfl;intro _;apply zR;rfl;rfl;apply qA;apply Wr.whole;rfl;rfl;rfl;apply zV;apply beginI;apply qB;apply qB;apply qA;refine zM<|zI<|zL ?_;apply LW.v0;rfl;rfl;apply ValP.move;rfl;apply LW.load;rfl;rfl;apply qE;apply zX;apply zX;apply zX;apply zX;apply zX;apply zX;apply zY;exact Rd.one' rfl;apply LW.v0;rfl;rfl;apply ValP.eqT;rfl;rfl;omega;apply LW.v0;rfl;rfl;apply ValP.move;rfl;apply LW.guardT';rfl;rfl;(with_reducible rfl);apply LW.v0;rfl;rfl;apply ValP.fieldAddr;rfl;rfl;apply LW.guardT';rfl;rfl;(with_reducible rfl);apply LW.load;rfl;rfl;apply qE;apply zY;exact Rd.one' rfl;apply LW.guardT';rfl;rfl;(with_reducible rfl);apply LW.v0;rfl;rfl;apply ValP.gtrF;rfl;rfl;omega;apply LW.v0;rfl;rfl;apply ValP.pickT';rfl;(with_reducible rfl);rfl;apply zV;refine thenN ?_;apply CW.condF;rfl;(with_reducible rfl);refine zJ<|blkN ?_;apply roundN;apply qB;apply qB;apply qA;apply LW.v0;rfl;rfl;apply ValP.notT;rfl;(with_reducible rfl);apply zV;refine thenN ?_;apply CW.condF;rfl;(with_reducible rfl);refine zJ<|thenN<|zL ?_;apply LW.v0;rfl;rfl;apply ValP.move;rfl;apply LW.v0;rfl;rfl;apply ValP.fieldAddr;rfl;rfl;apply LW.load;rfl;rfl;apply qE;apply zX;apply zY;exact Rd.one' rfl;apply LW.v0;rfl;rfl;apply ValP.addZL;rfl;rfl;decide;omega;apply LW.v0;rfl;rfl;apply ValP.assign;rfl;apply zV;refine blkN<|thenN<|zL ?_;apply LW.v0;rfl;rfl;apply ValP.move;rfl;apply LW.v0;rfl;rfl;apply ValP.addZL;rfl;rfl;decide;omega;apply LW.v0;rfl;rfl;apply ValP.assign;rfl;apply zV)
      apply thenX
      exact ⟨rfl,p+0+1,⟨by omega,.inr ⟨by omega,hT0⟩⟩,by omega,⟨rfl,rfl,rfl,trivial⟩,by (apply qQ;apply qQ;exact qM _)⟩
     ·omega
    ·have hnext:readFrom bs (p+0+1) i=readB bs i∨(i < ((p+0+1:Nat):Int)∧T=[]):=by
      rcases Int.lt_or_gt_of_ne hpi with h|h
      ·rcases hinv with h'|⟨h',_⟩
       ·left;rw [← h',hxd,← hu];exact readFrom_step' hlt h
       ·omega
      ·right
       refine ⟨by omega,?_⟩
       rcases hinv with h'|⟨_,h'⟩
       ·rw [readFrom_gt h] at h';rw [← hT];exact dataL_none h'.symm
       ·exact h'
     apply LW.yield
     rfl
     rfl
     (apply ArgsOk.cons;rfl;apply ArgsOk.cons;rfl;exact ArgsOk.nil)
     exact hrec
     (apply zX;apply zY)
     rfl
     rfl
     (refine zI<|zL ?_;apply LW.v0;rfl;rfl;apply ValP.assign;rfl;apply zV;refine thenN<|zL ?_;apply zU;rfl;intro _;apply zR;rfl;rfl;apply qA;apply Wr.whole;rfl;rfl;rfl;apply zV;apply beginI;apply qB;apply qB;apply qA;refine zM<|zI<|zL ?_;apply LW.v0;rfl;rfl;apply ValP.move;rfl;apply LW.load;rfl;rfl;apply qE;apply zX;apply zX;apply zX;apply zX;apply zX;apply zX;apply zY;exact Rd.one' rfl;apply LW.v0;rfl;rfl;apply ValP.eqF;rfl;rfl;omega;apply LW.v0;rfl;rfl;apply ValP.move;rfl;apply LW.guardF';rfl;rfl;simp only [Bool.not_true,Bool.not_false];rfl;apply LW.guardF';rfl;rfl;simp only [Bool.not_true,Bool.not_false];rfl;apply LW.guardF';rfl;rfl;simp only [Bool.not_true,Bool.not_false];rfl;apply LW.v0;rfl;rfl;apply ValP.pickF';rfl;(with_reducible rfl);rfl;apply zV;refine thenN ?_;apply CW.condF;rfl;(with_reducible rfl);refine zJ<|blkN ?_;apply roundN;apply qB;apply qB;apply qA;apply LW.v0;rfl;rfl;apply ValP.notT;rfl;(with_reducible rfl);apply zV;refine thenN ?_;apply CW.condF;rfl;(with_reducible rfl);refine zJ<|thenN<|zL ?_;apply LW.v0;rfl;rfl;apply ValP.move;rfl;apply LW.v0;rfl;rfl;apply ValP.fieldAddr;rfl;rfl;apply LW.load;rfl;rfl;apply qE;apply zX;apply zY;exact Rd.one' rfl;apply LW.v0;rfl;rfl;apply ValP.addZL;rfl;rfl;decide;omega;apply LW.v0;rfl;rfl;apply ValP.assign;rfl;apply zV;refine blkN<|thenN<|zL ?_;apply LW.v0;rfl;rfl;apply ValP.move;rfl;apply LW.v0;rfl;rfl;apply ValP.addZL;rfl;rfl;decide;omega;apply LW.v0;rfl;rfl;apply ValP.assign;rfl;apply zV)
     apply thenX
     exact ⟨rfl,p+0+1,⟨by omega,hnext⟩,by omega,⟨rfl,rfl,rfl,trivial⟩,by (apply qQ;apply qQ;exact qM _)⟩
   |some y =>
    rw [ho] at hx0 hOf0
    dsimp only at hx0
    subst hx0
    have hOf:∀ w,Calls Tryz.prog 91 #[.int .u8 (u.toNat:Int)] w (Ret w (.tuple #[.agg (opc y),.int .i64 0])):=hOf0
    (refine zI<|zI<|zL ?_;apply LW.v0;rfl;rfl;apply ValP.move;rfl;apply LW.load;rfl;rfl;apply qE;apply zX;apply zX;apply zY;exact Rd.one' rfl;apply LW.v0;rfl;rfl;apply ValP.lenR;rfl;infer_instance;rfl;apply LW.v0;rfl;rfl;apply ValP.lssT;rfl;rfl;omega;apply zV;refine thenN ?_;apply CW.condT;rfl;(with_reducible rfl);refine zJ<|thenN<|zI<|zM<|zI<|zL ?_;apply LW.load;rfl;rfl;apply qE;apply zX;apply zX;apply zY;exact Rd.one' rfl;apply LW.v0;rfl;rfl;apply ValP.move;rfl;apply LW.v0;rfl;rfl;apply ValP.indexAddrS;rfl;rfl;rfl;omega;apply LW.load;rfl;rfl;exact Known.ext (by assumption) (by simp);assumption;apply zS;rfl;rfl;infer_instance;apply ArgsOk.cons;rfl;exact ArgsOk.nil;intro w _;exact hOf w;apply LW.v0;rfl;rfl;apply ValP.move;rfl;apply LW.v0;rfl;rfl;apply ValP.extractN;rfl;rfl;apply LW.v0;rfl;rfl;apply ValP.extractN;rfl;rfl;apply zU;rfl;intro _;apply zR;rfl;rfl;apply qA;apply Wr.whole;rfl;rfl;rfl;apply LW.v0;rfl;rfl;apply ValP.assign;rfl;apply zV;refine thenN<|zI<|zI<|zL ?_;apply LW.v0;rfl;rfl;apply ValP.move;rfl;apply LW.v0;rfl;rfl;apply ValP.neF;rfl;rfl;omega;apply zV;refine thenN ?_;apply CW.condF;rfl;(with_reducible rfl);refine zJ<|thenN<|zI<|zI<|zL ?_;apply LW.v0;rfl;rfl;apply ValP.move;rfl;apply LW.v0;rfl;rfl;apply ValP.move;rfl;apply LW.load;rfl;rfl;apply qE;apply zY;exact qF rfl)
    by_cases hpi:(p:Int)=i
    ·have hno:¬ i < (p:Int):=by omega
     have hrb:readB bs i=true:=by
      rcases hinv with h|⟨h,_⟩
      ·rw [← h,← hpi];exact readFrom_hit hlt
      ·exact absurd h hno
     rcases Nat.eq_zero_or_pos y.dt with hz|hz
     ·have hT0:T=[]:=by rw [← hT,← hpi,dataL_some (by rw [hpi];exact hrb),hu,← hxd];exact List.eq_nil_of_length_eq_zero ((datF_len _ _ _).trans hz)
      apply LW.yield
      rfl
      rfl
      (apply ArgsOk.cons;rfl;apply ArgsOk.cons;rfl;exact ArgsOk.nil)
      exact hrec
      (apply zX;apply zY)
      rfl
      rfl
      (refine zI<|zL ?_;apply LW.v0;rfl;rfl;apply ValP.assign;rfl;apply zV;refine thenN<|zL ?_;apply zU;rfl;intro _;apply zR;rfl;rfl;apply qA;apply Wr.whole;rfl;rfl;rfl;apply zV;apply beginI;apply qB;apply qB;apply qA;refine zM<|zI<|zL ?_;apply LW.v0;rfl;rfl;apply ValP.move;rfl;apply LW.load;rfl;rfl;apply qE;apply zX;apply zX;apply zX;apply zX;apply zX;apply zX;apply zY;exact Rd.one' rfl;apply LW.v0;rfl;rfl;apply ValP.eqT;rfl;rfl;omega;apply LW.v0;rfl;rfl;apply ValP.move;rfl;apply LW.guardT';rfl;rfl;(with_reducible rfl);apply LW.v0;rfl;rfl;apply ValP.fieldAddr;rfl;rfl;apply LW.guardT';rfl;rfl;(with_reducible rfl);apply LW.load;rfl;rfl;apply qE;apply zY;exact Rd.one' rfl;apply LW.guardT';rfl;rfl;(with_reducible rfl);apply LW.v0;rfl;rfl;apply ValP.gtrF;rfl;rfl;omega;apply LW.v0;rfl;rfl;apply ValP.pickT';rfl;(with_reducible rfl);rfl;apply zV;refine thenN ?_;apply CW.condF;rfl;(with_reducible rfl);refine zJ<|blkN ?_;apply roundN;apply qB;apply qB;apply qA;apply LW.v0;rfl;rfl;apply ValP.notT;rfl;(with_reducible rfl);apply zV;refine thenN ?_;apply CW.condF;rfl;(with_reducible rfl);refine zJ<|thenN<|zL ?_;apply LW.v0;rfl;rfl;apply ValP.move;rfl;apply LW.v0;rfl;rfl;apply ValP.fieldAddr;rfl;rfl;apply LW.load;rfl;rfl;apply qE;apply zX;apply zY;exact Rd.one' rfl;apply LW.v0;rfl;rfl;apply ValP.addZ;rfl;rfl;omega;apply LW.v0;rfl;rfl;apply ValP.assign;rfl;apply zV;refine blkN<|thenN<|zL ?_;apply LW.v0;rfl;rfl;apply ValP.move;rfl;apply LW.v0;rfl;rfl;apply ValP.addZL;rfl;rfl;decide;omega;apply LW.v0;rfl;rfl;apply ValP.assign;rfl;apply zV)
      apply thenX
      exact ⟨rfl,p+y.dt+1,⟨by omega,.inr ⟨by omega,hT0⟩⟩,by omega,⟨rfl,rfl,rfl,trivial⟩,by (apply qQ;apply qQ;exact qM _)⟩
     ·have hTe:T=datF bs p y.dt:=by rw [← hT,← hpi,dataL_some (by rw [hpi];exact hrb),hu,← hxd]
      have hTl:T.length=y.dt:=by rw [hTe,datF_len]
      have hcut:=RowAt.drop (k:=p+1) hv (by omega)
      rw [ucs_drop] at hcut
      apply LW.yield
      rfl
      rfl
      (apply ArgsOk.cons;rfl;apply ArgsOk.cons;rfl;exact ArgsOk.nil)
      exact hrec
      (apply zX;apply zY)
      rfl
      rfl
      (refine zI<|zL ?_;apply LW.v0;rfl;rfl;apply ValP.assign;rfl;apply zV;refine thenN<|zL ?_;apply zU;rfl;intro _;apply zR;rfl;rfl;apply qA;apply Wr.whole;rfl;rfl;rfl;apply zV;apply beginI;apply qB;apply qB;apply qA;refine zM<|zI<|zL ?_;apply LW.v0;rfl;rfl;apply ValP.move;rfl;apply LW.load;rfl;rfl;apply qE;apply zX;apply zX;apply zX;apply zX;apply zX;apply zX;apply zY;exact Rd.one' rfl;apply LW.v0;rfl;rfl;apply ValP.eqT;rfl;rfl;omega;apply LW.v0;rfl;rfl;apply ValP.move;rfl;apply LW.guardT';rfl;rfl;(with_reducible rfl);apply LW.v0;rfl;rfl;apply ValP.fieldAddr;rfl;rfl;apply LW.guardT';rfl;rfl;(with_reducible rfl);apply LW.load;rfl;rfl;apply qE;apply zY;exact Rd.one' rfl;apply LW.guardT';rfl;rfl;(with_reducible rfl);apply LW.v0;rfl;rfl;apply ValP.gtrT;rfl;rfl;omega;apply LW.v0;rfl;rfl;apply ValP.pickT';rfl;(with_reducible rfl);rfl;apply zV;refine thenN ?_;apply CW.condT;rfl;(with_reducible rfl);refine zI<|zL ?_;apply LW.v0;rfl;rfl;apply ValP.fieldAddr;rfl;rfl;apply LW.load;rfl;rfl;apply qE;apply zY;exact Rd.one' rfl)
      refine LW.makeOwn rfl inferInstance inferInstance inferInstance rfl rfl (by omega) (by simp only [maxLen];omega) fun g=>?_
      subst hpi
      (apply LW.v0;rfl;rfl;apply ValP.assign;rfl;apply zV;refine thenN<|zI<|zL ?_;apply LW.v0;rfl;rfl;apply ValP.move;rfl;apply LW.load;rfl;rfl;apply qE;apply zX;apply zX;apply zX;apply zX;apply zX;apply zX;apply zX;apply zX;apply zY;exact Rd.one' rfl;apply LW.load;rfl;rfl;apply qE;apply zX;apply zX;apply zX;apply zX;apply zX;apply zX;apply zX;apply zY;exact Rd.one' rfl;apply LW.v0;rfl;rfl;apply ValP.addZL;rfl;rfl;decide;omega;apply LW.v0;rfl;rfl;apply ValP.cutFrom;infer_instance;infer_instance;rfl;rfl;omega)
      have fin:∀ cur:Array Value,cur.toList=ucs T→IsRow 5 1 (.slice (some ⟨g,0,none⟩) y.dt y.dt) T.length (ucs T) [(g,.cells cur 5 (0,0))]:=fun cur hc=>by
       have h1:cur.size=y.dt:=by rw [← Array.length_toList,hc,ucs_len,hTl]
       have:=IsRow.own (E:=5) (size:=1) (g:=g) (n:=y.dt) (cap:=y.dt) (cur:=cur) (xs:=ucs T) (Nat.le_refl _) (by simp only [maxLen];omega) (by rw [h1,Nat.mul_one]) (by rw [hc];exact List.take_of_length_le (by rw [ucs_len,hTl,Nat.mul_one];exact Nat.le_refl _)) (by rw [ucs_len,hTl,Nat.mul_one])
       rw [hTl]
       exact this
      have hz0:(List.replicate y.dt (Value.int .u8 0))=ucs (List.replicate y.dt 0):=(ucs_zero _).symm
      rcases Nat.lt_or_ge (bs.length - (p+1)) y.dt with hsh|hfull
      ·refine LW.copyAt (cur:=(List.replicate y.dt (Value.int .u8 0)).toArray) (E':=5) (m:=bs.length - (p+1)) (news:=ucs (bs.drop (p+1))) rfl rfl inferInstance inferInstance inferInstance rfl rfl (fun w' hst=>hcut.st hst) (ucs_cells _) (by omega) (by simp;omega) (by (apply qA)) ?_
       have hc:((List.replicate y.dt (Value.int .u8 0)).toArray.toList.take 0++ucs (bs.drop (p+1))++(List.replicate y.dt (Value.int .u8 0)).toArray.toList.drop (0+(bs.length - (p+1)))).toArray.toList=ucs T:=by
        rw [hTe,datF_eq,ucs_app,ucs_zero,List.take_of_length_le (show (bs.drop (p+1)).length≤y.dt by rw [List.length_drop];omega)]
        simp
       (apply zV;refine thenN<|zI<|zL ?_;apply LW.v0;rfl;rfl;apply ValP.move;rfl;apply zR;rfl;rfl;apply qB;apply qB;apply qB;apply qB;apply qB;apply qB;apply qA;apply Wr.cells;rfl;rfl;simp only [List.size_toArray,List.length_cons,List.length_nil];omega;simp only [fillC,wc,wrCells,Value.cells,qJ,qG,qL,qK,Nat.reduceAdd,Nat.reduceMul,qN,Nat.mul_one];rfl;apply zV;refine thenN<|zK<|blkR ?_)
       apply roundR
       (apply qB;apply qB;apply qB;apply qA)
       (apply LW.v0;rfl;rfl;apply ValP.notF;rfl;(with_reducible rfl);apply zV;refine thenN ?_;apply CW.condT;rfl;(with_reducible rfl);refine zK<|thenR<|blkR<|thenR<|thenR<|blkR ?_)
       apply rangeR
       (exact .inl rfl)
       (exact Shut.nil)
       (apply qB;apply qB;apply qB;apply qA)
       (refine blkR<|thenR ?_)
       have hfin:=fin _ hc
       apply finM [_];(exact .inl rfl);(apply Shut.cons;apply qB;apply qB;apply qB;apply qB;apply qA;exact Shut.nil);rfl;(apply zD;apply zH;rfl;apply qE;apply zX;apply zX;apply zX;apply zX;apply zX;apply zX;apply zY;exact Rd.one' rfl;exact zF)
       case hg=>exact List.singleton_sublist.2 (by (exact List.Mem.head _))
       exact hfin
      ·refine LW.copyFull (cur:=(List.replicate y.dt (Value.int .u8 0)).toArray) (E':=5) (m:=bs.length - (p+1)) (news:=ucs (bs.drop (p+1))) rfl rfl inferInstance inferInstance inferInstance rfl rfl (fun w' hst=>hcut.st hst) (ucs_cells _) hz (by omega) (by simp) (by (apply qA)) ?_
       have hc:((List.replicate y.dt (Value.int .u8 0)).toArray.toList.take 0++(ucs (bs.drop (p+1))).take y.dt++(List.replicate y.dt (Value.int .u8 0)).toArray.toList.drop (0+y.dt)).toArray.toList=ucs T:=by
        rw [hTe,datF_eq,ucs_app,ucs_zero,show y.dt - (bs.length - (p+1))=0 by omega,← ucs_take,Nat.mul_one]
        simp
       (apply zV;refine thenN<|zI<|zL ?_;apply LW.v0;rfl;rfl;apply ValP.move;rfl;apply zR;rfl;rfl;apply qB;apply qB;apply qB;apply qB;apply qB;apply qB;apply qA;apply Wr.cells;rfl;rfl;simp only [List.size_toArray,List.length_cons,List.length_nil];omega;simp only [fillC,wc,wrCells,Value.cells,qJ,qG,qL,qK,Nat.reduceAdd,Nat.reduceMul,qN,Nat.mul_one];rfl;apply zV;refine thenN<|zK<|blkR ?_)
       apply roundR
       (apply qB;apply qB;apply qB;apply qA)
       (apply LW.v0;rfl;rfl;apply ValP.notF;rfl;(with_reducible rfl);apply zV;refine thenN ?_;apply CW.condT;rfl;(with_reducible rfl);refine zK<|thenR<|blkR<|thenR<|thenR<|blkR ?_)
       apply rangeR
       (exact .inl rfl)
       (exact Shut.nil)
       (apply qB;apply qB;apply qB;apply qA)
       (refine blkR<|thenR ?_)
       have hfin:=fin _ hc
       apply finM [_];(exact .inl rfl);(apply Shut.cons;apply qB;apply qB;apply qB;apply qB;apply qA;exact Shut.nil);rfl;(apply zD;apply zH;rfl;apply qE;apply zX;apply zX;apply zX;apply zX;apply zX;apply zX;apply zY;exact Rd.one' rfl;exact zF)
       case hg=>exact List.singleton_sublist.2 (by (exact List.Mem.head _))
       exact hfin
    ·have hnext:readFrom bs (p+y.dt+1) i=readB bs i∨(i < ((p+y.dt+1:Nat):Int)∧T=[]):=by
      rcases Int.lt_or_gt_of_ne hpi with h|h
      ·rcases hinv with h'|⟨h',_⟩
       ·left;rw [← h',hxd,← hu];exact readFrom_step' hlt h
       ·omega
      ·right
       refine ⟨by omega,?_⟩
       rcases hinv with h'|⟨_,h'⟩
       ·rw [readFrom_gt h] at h';rw [← hT];exact dataL_none h'.symm
       ·exact h'
     apply LW.yield
     rfl
     rfl
     (apply ArgsOk.cons;rfl;apply ArgsOk.cons;rfl;exact ArgsOk.nil)
     exact hrec
     (apply zX;apply zY)
     rfl
     rfl
     (refine zI<|zL ?_;apply LW.v0;rfl;rfl;apply ValP.assign;rfl;apply zV;refine thenN<|zL ?_;apply zU;rfl;intro _;apply zR;rfl;rfl;apply qA;apply Wr.whole;rfl;rfl;rfl;apply zV;apply beginI;apply qB;apply qB;apply qA;refine zM<|zI<|zL ?_;apply LW.v0;rfl;rfl;apply ValP.move;rfl;apply LW.load;rfl;rfl;apply qE;apply zX;apply zX;apply zX;apply zX;apply zX;apply zX;apply zY;exact Rd.one' rfl;apply LW.v0;rfl;rfl;apply ValP.eqF;rfl;rfl;omega;apply LW.v0;rfl;rfl;apply ValP.move;rfl;apply LW.guardF';rfl;rfl;simp only [Bool.not_true,Bool.not_false];rfl;apply LW.guardF';rfl;rfl;simp only [Bool.not_true,Bool.not_false];rfl;apply LW.guardF';rfl;rfl;simp only [Bool.not_true,Bool.not_false];rfl;apply LW.v0;rfl;rfl;apply ValP.pickF';rfl;(with_reducible rfl);rfl;apply zV;refine thenN ?_;apply CW.condF;rfl;(with_reducible rfl);refine zJ<|blkN ?_;apply roundN;apply qB;apply qB;apply qA;apply LW.v0;rfl;rfl;apply ValP.notT;rfl;(with_reducible rfl);apply zV;refine thenN ?_;apply CW.condF;rfl;(with_reducible rfl);refine zJ<|thenN<|zL ?_;apply LW.v0;rfl;rfl;apply ValP.move;rfl;apply LW.v0;rfl;rfl;apply ValP.fieldAddr;rfl;rfl;apply LW.load;rfl;rfl;apply qE;apply zX;apply zY;exact Rd.one' rfl;apply LW.v0;rfl;rfl;apply ValP.addZ;rfl;rfl;omega;apply LW.v0;rfl;rfl;apply ValP.assign;rfl;apply zV;refine blkN<|thenN<|zL ?_;apply LW.v0;rfl;rfl;apply ValP.move;rfl;apply LW.v0;rfl;rfl;apply ValP.addZL;rfl;rfl;decide;omega;apply LW.v0;rfl;rfl;apply ValP.assign;rfl;apply zV)
     apply thenX
     exact ⟨rfl,p+y.dt+1,⟨by omega,hnext⟩,by omega,⟨rfl,rfl,rfl,trivial⟩,by (apply qQ;apply qQ;exact qM _)⟩
  ·have hT0:T=[]:=by
    rcases hinv with h|⟨_,h⟩
    ·rw [readFrom_end hge] at h;rw [← hT];exact dataL_none h.symm
    ·exact h
   subst hT0
   (refine zI<|zI<|zL ?_;apply LW.v0;rfl;rfl;apply ValP.move;rfl;apply LW.load;rfl;rfl;apply qE;apply zX;apply zX;apply zY;exact Rd.one' rfl;apply LW.v0;rfl;rfl;apply ValP.lenR;rfl;infer_instance;rfl;apply LW.v0;rfl;rfl;apply ValP.lssF;rfl;rfl;omega;apply zV;refine thenN ?_;apply CW.condF;rfl;(with_reducible rfl);refine CW.exit<|thenE<|thenE<|blkE rfl ?_)
   apply rangeN
   (exact .inr rfl)
   (exact Shut.nil)
   (apply qA)
   (refine blkN<|thenM<|zI<|zL ?_;apply zR;rfl;rfl;apply qB;apply qB;apply qB;apply qA;apply Wr.cells;rfl;rfl;simp only [List.size_toArray,List.length_cons,List.length_nil];omega;simp only [fillC,wc,wrCells,Value.cells,qJ,qG,qL,qK,Nat.reduceAdd,Nat.reduceMul,qN,Nat.mul_one];rfl;apply zV;refine thenN<|zK ?_)
   apply finM [];(exact .inl rfl);(apply Shut.cons;apply qB;apply qA;exact Shut.nil);rfl;(apply zD;apply zH;rfl;apply qE;apply zX;apply zX;apply zX;apply zY;exact Rd.one' rfl;exact zF);exact List.nil_sublist _
   exact .nil
end
end Go.Proofs.YtdeggbkbblfpoaaGreatDoor.CK
namespace Go.Proofs.YtdeggbkbblfpoaaGreatDoor
open Go Go.RowKit SL
set_option maxRecDepth 8000
set_option maxHeartbeats 4000000
set_option linter.unusedSimpArgs false
set_option linter.unusedVariables false
attribute [local irreducible] SL.CW SL.LW SL.DW Calls SL.Ret SL.RetG SL.beginQ SL.roundQ SL.rangeQ SL.inQ SL.RW SL.AnyW SL.thenQ SL.thenC SL.thenW SL.blkQ SL.finQ SL.ValP SL.NewP SL.SetP SL.CallP SL.Rd SL.Wr SL.Known
section
open CK (CheckC_calls)
def aska (kind:Int) (op:Nat) (ws dt:Value):Array Value:=#[.int .i64 kind,.int .u8 (op:Int),ws,dt]
section rd
variable {P : Program} {T E : TypeId} {fr : Nat × Nat} {kind : Int} {op : Nat} {ws dt : Value}
end rd
theorem word_rd {P:Program} {T E:TypeId} {fr:Nat × Nat} {cs:Array Value} {off m:Nat} {l:List Nat} [AgI P T true] {z:Value} [InfoI P T 4 z] (hx:(cs.toList.drop off).take m=wcs l) (i:Nat) (hi:i < l.length):Rd P T (.cells cs E fr) (off+i * 4) (wv (l.getD i 0)):=by
 have h:=Rd.elemA (P:=P) (T:=T) (E:=E) (fr:=fr) (g:=fun a=>(wc a).toList) (l:=l) (a:=l[i]) hx (wcs_len l) (List.getElem?_eq_getElem hi)
 rw [List.getD_eq_getElem?_getD,List.getElem?_eq_getElem hi]
 exact h
end
section
open CK (CheckC_calls)
section rd
variable {P : Program} {T E : TypeId} {fr : Nat × Nat} {op dst self frm val gas pl n : Nat} {inp code : Value} {mv stat : Bool}
end rd
end
theorem sEqB_calls (a b:List UInt8) (va vb:Value) (w:World) (ha:RowAt w 1 va a.length (ucs a)) (hb:RowAt w 1 vb b.length (ucs b)):Calls Tryz.prog 86 #[va,vb] w (Ret w (.bool (decide (a=b)))):=by
 obtain ⟨p0,c0,rfl,hc0,hm0⟩:=ha.form
 obtain ⟨p1,c1,rfl,hc1,hm1⟩:=hb.form
 simp only [maxLen] at hm0 hm1
 refine enter (args:=[_,_]) _ [] [] Tryz.func86 rfl Tryz.ntmps86 rfl (by simp) .nil ?_
 by_cases hl:a.length=b.length
 ·(refine sRz<|vAz<|nNz<|zI<|sRz<|vMz<|lvz (.lenR rfl inferInstance rfl)<|vMz<|lvz (.lenR rfl inferInstance rfl) ?_;refine lvz (.neF rfl rfl (by omega)) ?_;refine nNz<|cFz<|zJ<|thenN<|zI<|sRz<|vMz<|lvz (.lenR rfl inferInstance rfl)<|vMz<|nNz<|zM ?_)
  refine CW.loop (fun k:Nat=>([(0,.slice p0 a.length c0),(1,.slice p1 b.length c1),(12,.int .i64 (a.length:Int)),(13,.int .i64 (k:Int))],[]))
   (fun k=>k≤a.length∧∀ j,j < k→a[j]?=b[j]?) (fun k=>a.length - k) 0 ⟨Nat.zero_le _,fun j h=>absurd h (Nat.not_lt_zero _)⟩ ⟨rfl,rfl,rfl,rfl,trivial⟩ (qM _) ?_
  rintro k ⟨hk,hall⟩
  dsimp only
  rcases Nat.lt_or_ge k a.length with hlt|hge
  ·obtain ⟨b1,off1,c',cs1,E1,fr1,heq,hbk1,hx1⟩:=ha.pos (by omega)
   cases heq
   obtain ⟨b2,off2,c',cs2,E2,fr2,heq,hbk2,hx2⟩:=hb.pos (by omega)
   cases heq
   have hlt2:k < b.length:=by omega
   obtain ⟨x,hx⟩:∃ x,a[k]=x:=⟨_,rfl⟩
   obtain ⟨y,hy⟩:∃ y,b[k]=y:=⟨_,rfl⟩
   have hrd1:Rd Tryz.prog 5 (.cells cs1 E1 fr1) (off1+k * 1) (.int .u8 (x.toNat:Int)):=Rd.elem1 hx1 (ucs_one a) (List.getElem?_eq_getElem hlt) (by rw [hx])
   have hrd2:Rd Tryz.prog 5 (.cells cs2 E2 fr2) (off2+k * 1) (.int .u8 (y.toNat:Int)):=Rd.elem1 hx2 (ucs_one b) (List.getElem?_eq_getElem hlt2) (by rw [hy])
   by_cases he:x=y
   ·subst he
    (refine sRz ?_;refine lvz (.lssT rfl rfl (by omega)) ?_;refine nNz<|zI<|cTz<|zJ<|thenN<|zI<|zM<|sRz<|vMz<|vAz<|nNz<|zI ?_;refine CW.quiet rfl mixed (by decide +kernel) ?_;apply QW.v0;rfl;exact zC;apply ValP.move;rfl;apply QW.v0;rfl;exact zC;apply ValP.move;rfl;apply QW.v0;rfl;exact zC;apply ValP.indexAddrS;rfl;rfl;rfl;omega;apply QW.load;rfl;exact zC;rfl;exact Known.ext (by assumption) (by simp);assumption;apply QW.v0;rfl;exact zC;apply ValP.move;rfl;apply QW.v0;rfl;exact zC;apply ValP.move;rfl;apply QW.v0;rfl;exact zC;apply ValP.indexAddrS;rfl;rfl;rfl;omega;apply QW.load;rfl;exact zC;rfl;exact Known.ext (by assumption) (by simp);assumption;apply QW.v0;rfl;exact zC;apply ValP.neF;rfl;rfl;omega;refine QW.nil<|thenN<|cFz<|zJ<|blkN<|thenN<|zL ?_;refine lvz (.addZL rfl rfl (by decide) (by omega)) ?_;refine vMz ?_;apply zV)
    apply thenX
    refine ⟨rfl,k+1,⟨hlt,fun j hj=>?_⟩,by omega,⟨rfl,rfl,rfl,rfl,trivial⟩,qM _⟩
    rcases Nat.lt_or_ge j k with h|h
    ·exact hall j h
    ·obtain rfl:j=k:=by omega
     rw [List.getElem?_eq_getElem hlt,List.getElem?_eq_getElem hlt2,hx,hy]
   ·have hne:¬ (x.toNat:Int)=(y.toNat:Int):=fun h=>he (UInt8.toNat_inj.1 (by omega))
    rw [decide_eq_false (fun h:a=b=>he (by rw [← hx,← hy];subst h;rfl))]
    (refine sRz ?_;refine lvz (.lssT rfl rfl (by omega)) ?_;refine nNz<|zI<|cTz<|zJ<|thenN<|zI<|zM<|sRz<|vMz<|vAz<|nNz<|zI ?_;refine CW.quiet rfl mixed (by decide +kernel) ?_;apply QW.v0;rfl;exact zC;apply ValP.move;rfl;apply QW.v0;rfl;exact zC;apply ValP.move;rfl;apply QW.v0;rfl;exact zC;apply ValP.indexAddrS;rfl;rfl;rfl;omega;apply QW.load;rfl;exact zC;rfl;exact Known.ext (by assumption) (by simp);assumption;apply QW.v0;rfl;exact zC;apply ValP.move;rfl;apply QW.v0;rfl;exact zC;apply ValP.move;rfl;apply QW.v0;rfl;exact zC;apply ValP.indexAddrS;rfl;rfl;rfl;omega;apply QW.load;rfl;exact zC;rfl;exact Known.ext (by assumption) (by simp);assumption;apply QW.v0;rfl;exact zC;apply ValP.neT;rfl;rfl;omega;refine QW.nil<|thenN<|cTz<|sRz<|vAz<|nNz<|zK<|blkR<|thenR<|thenR<|blkR<|thenR ?_)
    (apply finR;exact .inl rfl;rfl;rfl;rfl;apply zD;exact zG rfl;exact zF)
    rfl
  ·rw [decide_eq_true (List.ext_getElem? fun j=>by
    rcases Nat.lt_or_ge j k with h|h
    ·exact hall j h
    ·rw [List.getElem?_eq_none (by omega),List.getElem?_eq_none (by omega)])]
   (refine sRz ?_;refine lvz (.lssF rfl rfl (by omega)) ?_;refine nNz<|zI<|cFz<|CW.exit<|thenE<|thenE<|blkE rfl<|thenN<|sRz<|vAz<|nNz<|zK ?_)
   (apply finR;exact .inl rfl;rfl;rfl;rfl;apply zD;exact zG rfl;exact zF)
   rfl
 ·rw [decide_eq_false (fun h:a=b=>hl (by rw [h]))]
  (refine sRz<|vAz<|nNz<|zI<|sRz<|vMz<|lvz (.lenR rfl inferInstance rfl)<|vMz<|lvz (.lenR rfl inferInstance rfl) ?_;refine lvz (.neT rfl rfl (by omega)) ?_;refine nNz<|cTz<|sRz<|vAz<|nNz<|zK<|thenR ?_)
  (apply finR;exact .inl rfl;rfl;rfl;rfl;apply zD;exact zG rfl;exact zF)
  rfl
theorem sEqW_calls (a b:List Nat) (hwa:∀ x∈a,x < M256) (hwb:∀ x∈b,x < M256) (va vb:Value) (w:World) (ha:RowAt w 4 va a.length (wcs a)) (hb:RowAt w 4 vb b.length (wcs b)):Calls Tryz.prog 88 #[va,vb] w (Ret w (.bool (decide (a=b)))):=by
 obtain ⟨p0,c0,rfl,hc0,hm0⟩:=ha.form
 obtain ⟨p1,c1,rfl,hc1,hm1⟩:=hb.form
 simp only [maxLen] at hm0 hm1
 refine enter (args:=[_,_]) _ [] [] Tryz.func88 rfl Tryz.ntmps88 rfl (by simp) .nil ?_
 by_cases hl:a.length=b.length
 ·(refine sRz<|vAz<|nNz<|zI<|sRz<|vMz<|lvz (.lenR rfl inferInstance rfl)<|vMz<|lvz (.lenR rfl inferInstance rfl) ?_;refine lvz (.neF rfl rfl (by omega)) ?_;refine nNz<|cFz<|zJ<|thenN<|zI<|sRz<|vMz<|lvz (.lenR rfl inferInstance rfl)<|vMz<|nNz<|zM ?_)
  refine CW.loop (fun k:Nat=>([(0,.slice p0 a.length c0),(1,.slice p1 b.length c1),(12,.int .i64 (a.length:Int)),(13,.int .i64 (k:Int))],[]))
   (fun k=>k≤a.length∧∀ j,j < k→a[j]?=b[j]?) (fun k=>a.length - k) 0 ⟨Nat.zero_le _,fun j h=>absurd h (Nat.not_lt_zero _)⟩ ⟨rfl,rfl,rfl,rfl,trivial⟩ (qM _) ?_
  rintro k ⟨hk,hall⟩
  dsimp only
  rcases Nat.lt_or_ge k a.length with hlt|hge
  ·obtain ⟨b1,off1,c',cs1,E1,fr1,heq,hbk1,hx1⟩:=ha.pos (by omega)
   cases heq
   obtain ⟨b2,off2,c',cs2,E2,fr2,heq,hbk2,hx2⟩:=hb.pos (by omega)
   cases heq
   have hlt2:k < b.length:=by omega
   obtain ⟨x,hx⟩:∃ x,a[k]=x:=⟨_,rfl⟩
   obtain ⟨y,hy⟩:∃ y,b[k]=y:=⟨_,rfl⟩
   have hxl:x < M256:=by rw [← hx];exact hwa _ (List.getElem_mem hlt)
   have hyl:y < M256:=by rw [← hy];exact hwb _ (List.getElem_mem hlt2)
   have hrd1:Rd Tryz.prog 29 (.cells cs1 E1 fr1) (off1+k * 4) (wv x):=by have h:=word_rd (P:=Tryz.prog) (T:=29) (E:=E1) (fr:=fr1) hx1 k hlt;rwa [List.getD_eq_getElem?_getD,List.getElem?_eq_getElem hlt,Option.getD_some,hx] at h
   have hrd2:Rd Tryz.prog 29 (.cells cs2 E2 fr2) (off2+k * 4) (wv y):=by have h:=word_rd (P:=Tryz.prog) (T:=29) (E:=E2) (fr:=fr2) hx2 k hlt2;rwa [List.getD_eq_getElem?_getD,List.getElem?_eq_getElem hlt2,Option.getD_some,hy] at h
   by_cases he:x=y
   ·subst he
    (refine sRz ?_;refine lvz (.lssT rfl rfl (by omega)) ?_;refine nNz<|zI<|cTz<|zJ<|thenN<|zI<|zM<|sRz<|vMz<|vAz<|nNz<|zI ?_;refine CW.quiet rfl mixed (by decide +kernel) ?_;apply QW.v0;rfl;exact zC;apply ValP.move;rfl;apply QW.v0;rfl;exact zC;apply ValP.move;rfl;apply QW.v0;rfl;exact zC;apply ValP.indexAddrS;rfl;rfl;rfl;omega;apply QW.load;rfl;exact zC;rfl;exact Known.ext (by assumption) (by simp);assumption;apply QW.v0;rfl;exact zC;apply ValP.move;rfl;apply QW.v0;rfl;exact zC;apply ValP.move;rfl;apply QW.v0;rfl;exact zC;apply ValP.indexAddrS;rfl;rfl;rfl;omega;apply QW.load;rfl;exact zC;rfl;exact Known.ext (by assumption) (by simp);assumption;apply QW.v0;rfl;exact zC;apply ValP.neWF;rfl;rfl;(with_reducible rfl);refine QW.nil<|thenN<|cFz<|zJ<|blkN<|thenN<|zL ?_;refine lvz (.addZL rfl rfl (by decide) (by omega)) ?_;refine vMz ?_;apply zV)
    apply thenX
    refine ⟨rfl,k+1,⟨hlt,fun j hj=>?_⟩,by omega,⟨rfl,rfl,rfl,rfl,trivial⟩,qM _⟩
    rcases Nat.lt_or_ge j k with h|h
    ·exact hall j h
    ·obtain rfl:j=k:=by omega
     rw [List.getElem?_eq_getElem hlt,List.getElem?_eq_getElem hlt2,hx,hy]
   ·have hne:=he
    rw [decide_eq_false (fun h:a=b=>he (by rw [← hx,← hy];subst h;rfl))]
    (refine sRz ?_;refine lvz (.lssT rfl rfl (by omega)) ?_;refine nNz<|zI<|cTz<|zJ<|thenN<|zI<|zM<|sRz<|vMz<|vAz<|nNz<|zI ?_;refine CW.quiet rfl mixed (by decide +kernel) ?_;apply QW.v0;rfl;exact zC;apply ValP.move;rfl;apply QW.v0;rfl;exact zC;apply ValP.move;rfl;apply QW.v0;rfl;exact zC;apply ValP.indexAddrS;rfl;rfl;rfl;omega;apply QW.load;rfl;exact zC;rfl;exact Known.ext (by assumption) (by simp);assumption;apply QW.v0;rfl;exact zC;apply ValP.move;rfl;apply QW.v0;rfl;exact zC;apply ValP.move;rfl;apply QW.v0;rfl;exact zC;apply ValP.indexAddrS;rfl;rfl;rfl;omega;apply QW.load;rfl;exact zC;rfl;exact Known.ext (by assumption) (by simp);assumption;apply QW.v0;rfl;exact zC;apply ValP.neWT;rfl;rfl;assumption;assumption;assumption;refine QW.nil<|thenN<|cTz<|sRz<|vAz<|nNz<|zK<|blkR<|thenR<|thenR<|blkR<|thenR ?_)
    (apply finR;exact .inl rfl;rfl;rfl;rfl;apply zD;exact zG rfl;exact zF)
    rfl
  ·rw [decide_eq_true (List.ext_getElem? fun j=>by
    rcases Nat.lt_or_ge j k with h|h
    ·exact hall j h
    ·rw [List.getElem?_eq_none (by omega),List.getElem?_eq_none (by omega)])]
   (refine sRz ?_;refine lvz (.lssF rfl rfl (by omega)) ?_;refine nNz<|zI<|cFz<|CW.exit<|thenE<|thenE<|blkE rfl<|thenN<|sRz<|vAz<|nNz<|zK ?_)
   (apply finR;exact .inl rfl;rfl;rfl;rfl;apply zD;exact zG rfl;exact zF)
   rfl
 ·rw [decide_eq_false (fun h:a=b=>hl (by rw [h]))]
  (refine sRz<|vAz<|nNz<|zI<|sRz<|vMz<|lvz (.lenR rfl inferInstance rfl)<|vMz<|lvz (.lenR rfl inferInstance rfl) ?_;refine lvz (.neT rfl rfl (by omega)) ?_;refine nNz<|cTz<|sRz<|vAz<|nNz<|zK<|thenR ?_)
  (apply finR;exact .inl rfl;rfl;rfl;rfl;apply zD;exact zG rfl;exact zF)
  rfl
theorem rSame1_calls (a b:List UInt8) (va vb:Value) (w:World) (ha:RowAt w 1 va a.length (ucs a)) (hb:RowAt w 1 vb b.length (ucs b)):Calls Tryz.prog 46 #[va,vb] w (Ret w (.bool (decide (a=b)))):=by
 obtain ⟨p0,c0,rfl,hc0,hm0⟩:=ha.form
 obtain ⟨p1,c1,rfl,hc1,hm1⟩:=hb.form
 simp only [maxLen] at hm0 hm1
 refine enter (args:=[_,_]) _ [] [] Tryz.func46 rfl Tryz.ntmps46 rfl (by simp) .nil ?_
 by_cases hl:a.length=b.length
 ·(refine sRz<|vAz<|nNz<|zI<|sRz<|vMz<|lvz (.lenR rfl inferInstance rfl)<|vMz<|lvz (.lenR rfl inferInstance rfl) ?_;refine lvz (.neF rfl rfl (by omega)) ?_;refine nNz<|cFz<|zJ<|thenN<|zI<|sRz<|vMz<|lvz (.lenR rfl inferInstance rfl)<|vMz<|nNz<|zM ?_)
  refine CW.loop (fun k:Nat=>([(0,.slice p0 a.length c0),(1,.slice p1 b.length c1),(12,.int .i64 (a.length:Int)),(13,.int .i64 (k:Int))],[]))
   (fun k=>k≤a.length∧∀ j,j < k→a[j]?=b[j]?) (fun k=>a.length - k) 0 ⟨Nat.zero_le _,fun j h=>absurd h (Nat.not_lt_zero _)⟩ ⟨rfl,rfl,rfl,rfl,trivial⟩ (qM _) ?_
  rintro k ⟨hk,hall⟩
  dsimp only
  rcases Nat.lt_or_ge k a.length with hlt|hge
  ·obtain ⟨b1,off1,c',cs1,E1,fr1,heq,hbk1,hx1⟩:=ha.pos (by omega)
   cases heq
   obtain ⟨b2,off2,c',cs2,E2,fr2,heq,hbk2,hx2⟩:=hb.pos (by omega)
   cases heq
   have hlt2:k < b.length:=by omega
   obtain ⟨x,hx⟩:∃ x,a[k]=x:=⟨_,rfl⟩
   obtain ⟨y,hy⟩:∃ y,b[k]=y:=⟨_,rfl⟩
   have hrd1:Rd Tryz.prog 5 (.cells cs1 E1 fr1) (off1+k * 1) (.int .u8 (x.toNat:Int)):=Rd.elem1 hx1 (ucs_one a) (List.getElem?_eq_getElem hlt) (by rw [hx])
   have hrd2:Rd Tryz.prog 5 (.cells cs2 E2 fr2) (off2+k * 1) (.int .u8 (y.toNat:Int)):=Rd.elem1 hx2 (ucs_one b) (List.getElem?_eq_getElem hlt2) (by rw [hy])
   by_cases he:x=y
   ·subst he
    (refine sRz ?_;refine lvz (.lssT rfl rfl (by omega)) ?_;refine nNz<|zI<|cTz<|zJ<|thenN<|zI<|zM<|sRz<|vMz<|vAz<|nNz<|zI ?_;refine CW.quiet rfl mixed (by decide +kernel) ?_;apply QW.v0;rfl;exact zC;apply ValP.move;rfl;apply QW.v0;rfl;exact zC;apply ValP.move;rfl;apply QW.v0;rfl;exact zC;apply ValP.indexAddrS;rfl;rfl;rfl;omega;apply QW.load;rfl;exact zC;rfl;exact Known.ext (by assumption) (by simp);assumption;apply QW.v0;rfl;exact zC;apply ValP.move;rfl;apply QW.v0;rfl;exact zC;apply ValP.move;rfl;apply QW.v0;rfl;exact zC;apply ValP.indexAddrS;rfl;rfl;rfl;omega;apply QW.load;rfl;exact zC;rfl;exact Known.ext (by assumption) (by simp);assumption;apply QW.v0;rfl;exact zC;apply ValP.neF;rfl;rfl;omega;refine QW.nil<|thenN<|cFz<|zJ<|blkN<|thenN<|zL ?_;refine lvz (.addZL rfl rfl (by decide) (by omega)) ?_;refine vMz ?_;apply zV)
    apply thenX
    refine ⟨rfl,k+1,⟨hlt,fun j hj=>?_⟩,by omega,⟨rfl,rfl,rfl,rfl,trivial⟩,qM _⟩
    rcases Nat.lt_or_ge j k with h|h
    ·exact hall j h
    ·obtain rfl:j=k:=by omega
     rw [List.getElem?_eq_getElem hlt,List.getElem?_eq_getElem hlt2,hx,hy]
   ·have hne:¬ (x.toNat:Int)=(y.toNat:Int):=fun h=>he (UInt8.toNat_inj.1 (by omega))
    rw [decide_eq_false (fun h:a=b=>he (by rw [← hx,← hy];subst h;rfl))]
    (refine sRz ?_;refine lvz (.lssT rfl rfl (by omega)) ?_;refine nNz<|zI<|cTz<|zJ<|thenN<|zI<|zM<|sRz<|vMz<|vAz<|nNz<|zI ?_;refine CW.quiet rfl mixed (by decide +kernel) ?_;apply QW.v0;rfl;exact zC;apply ValP.move;rfl;apply QW.v0;rfl;exact zC;apply ValP.move;rfl;apply QW.v0;rfl;exact zC;apply ValP.indexAddrS;rfl;rfl;rfl;omega;apply QW.load;rfl;exact zC;rfl;exact Known.ext (by assumption) (by simp);assumption;apply QW.v0;rfl;exact zC;apply ValP.move;rfl;apply QW.v0;rfl;exact zC;apply ValP.move;rfl;apply QW.v0;rfl;exact zC;apply ValP.indexAddrS;rfl;rfl;rfl;omega;apply QW.load;rfl;exact zC;rfl;exact Known.ext (by assumption) (by simp);assumption;apply QW.v0;rfl;exact zC;apply ValP.neT;rfl;rfl;omega;refine QW.nil<|thenN<|cTz<|sRz<|vAz<|nNz<|zK<|blkR<|thenR<|thenR<|blkR<|thenR ?_)
    (apply finR;exact .inl rfl;rfl;rfl;rfl;apply zD;exact zG rfl;exact zF)
    rfl
  ·rw [decide_eq_true (List.ext_getElem? fun j=>by
    rcases Nat.lt_or_ge j k with h|h
    ·exact hall j h
    ·rw [List.getElem?_eq_none (by omega),List.getElem?_eq_none (by omega)])]
   (refine sRz ?_;refine lvz (.lssF rfl rfl (by omega)) ?_;refine nNz<|zI<|cFz<|CW.exit<|thenE<|thenE<|blkE rfl<|thenN<|sRz<|vAz<|nNz<|zK ?_)
   (apply finR;exact .inl rfl;rfl;rfl;rfl;apply zD;exact zG rfl;exact zF)
   rfl
 ·rw [decide_eq_false (fun h:a=b=>hl (by rw [h]))]
  (refine sRz<|vAz<|nNz<|zI<|sRz<|vMz<|lvz (.lenR rfl inferInstance rfl)<|vMz<|lvz (.lenR rfl inferInstance rfl) ?_;refine lvz (.neT rfl rfl (by omega)) ?_;refine nNz<|cTz<|sRz<|vAz<|nNz<|zK<|thenR ?_)
  (apply finR;exact .inl rfl;rfl;rfl;rfl;apply zD;exact zG rfl;exact zF)
  rfl
theorem rSameB_calls (a b:List UInt8) (va vb:Value) (w:World) (ha:RowAt w 1 va a.length (ucs a)) (hb:RowAt w 1 vb b.length (ucs b)):Calls Tryz.prog 101 #[va,vb] w (Ret w (.bool (decide (a=b)))):=by
 obtain ⟨p0,c0,rfl,hc0,hm0⟩:=ha.form
 obtain ⟨p1,c1,rfl,hc1,hm1⟩:=hb.form
 simp only [maxLen] at hm0 hm1
 refine enter (args:=[_,_]) _ [] [] Tryz.func101 rfl Tryz.ntmps101 rfl (by simp) .nil ?_
 by_cases hl:a.length=b.length
 ·(refine sRz<|vAz<|nNz<|zI<|sRz<|vMz<|lvz (.lenR rfl inferInstance rfl)<|vMz<|lvz (.lenR rfl inferInstance rfl) ?_;refine lvz (.neF rfl rfl (by omega)) ?_;refine nNz<|cFz<|zJ<|thenN<|zI<|sRz<|vAz<|nNz<|zM ?_)
  refine CW.loop (fun k:Nat=>([(0,.slice p0 a.length c0),(1,.slice p1 b.length c1),(4,.bool false),(5,.int .i64 (k:Int))],[]))
   (fun k=>k≤a.length∧∀ j,j < k→a[j]?=b[j]?) (fun k=>a.length - k) 0 ⟨Nat.zero_le _,fun j h=>absurd h (Nat.not_lt_zero _)⟩ ⟨rfl,rfl,rfl,rfl,trivial⟩ (qM _) ?_
  rintro k ⟨hk,hall⟩
  dsimp only
  rcases Nat.lt_or_ge k a.length with hlt|hge
  ·obtain ⟨b1,off1,c',cs1,E1,fr1,heq,hbk1,hx1⟩:=ha.pos (by omega)
   cases heq
   obtain ⟨b2,off2,c',cs2,E2,fr2,heq,hbk2,hx2⟩:=hb.pos (by omega)
   cases heq
   have hlt2:k < b.length:=by omega
   obtain ⟨x,hx⟩:∃ x,a[k]=x:=⟨_,rfl⟩
   obtain ⟨y,hy⟩:∃ y,b[k]=y:=⟨_,rfl⟩
   have hrd1:Rd Tryz.prog 5 (.cells cs1 E1 fr1) (off1+k * 1) (.int .u8 (x.toNat:Int)):=Rd.elem1 hx1 (ucs_one a) (List.getElem?_eq_getElem hlt) (by rw [hx])
   have hrd2:Rd Tryz.prog 5 (.cells cs2 E2 fr2) (off2+k * 1) (.int .u8 (y.toNat:Int)):=Rd.elem1 hx2 (ucs_one b) (List.getElem?_eq_getElem hlt2) (by rw [hy])
   by_cases he:x=y
   ·subst he
    (refine zI<|sRz<|vMz<|vMz<|lvz (.lenR rfl inferInstance rfl) ?_;refine lvz (.lssT rfl rfl (by omega)) ?_;refine nNz<|cTz<|zJ<|thenN<|zI<|zM<|zI ?_;refine CW.quiet rfl mixed (by decide +kernel) ?_;apply QW.v0;rfl;exact zC;apply ValP.move;rfl;apply QW.v0;rfl;exact zC;apply ValP.move;rfl;apply QW.v0;rfl;exact zC;apply ValP.indexAddrS;rfl;rfl;rfl;omega;apply QW.load;rfl;exact zC;rfl;exact Known.ext (by assumption) (by simp);assumption;apply QW.v0;rfl;exact zC;apply ValP.move;rfl;apply QW.v0;rfl;exact zC;apply ValP.move;rfl;apply QW.v0;rfl;exact zC;apply ValP.indexAddrS;rfl;rfl;rfl;omega;apply QW.load;rfl;exact zC;rfl;exact Known.ext (by assumption) (by simp);assumption;apply QW.v0;rfl;exact zC;apply ValP.neF;rfl;rfl;omega;refine QW.nil<|thenN<|cFz<|zJ<|blkN<|thenN<|zL<|vMz ?_;refine lvz (.addZL rfl rfl (by decide) (by omega)) ?_;refine vAz ?_;apply zV)
    apply thenX
    refine ⟨rfl,k+1,⟨hlt,fun j hj=>?_⟩,by omega,⟨rfl,rfl,rfl,rfl,trivial⟩,qM _⟩
    rcases Nat.lt_or_ge j k with h|h
    ·exact hall j h
    ·obtain rfl:j=k:=by omega
     rw [List.getElem?_eq_getElem hlt,List.getElem?_eq_getElem hlt2,hx,hy]
   ·have hne:¬ (x.toNat:Int)=(y.toNat:Int):=fun h=>he (UInt8.toNat_inj.1 (by omega))
    rw [decide_eq_false (fun h:a=b=>he (by rw [← hx,← hy];subst h;rfl))]
    (refine zI<|sRz<|vMz<|vMz<|lvz (.lenR rfl inferInstance rfl) ?_;refine lvz (.lssT rfl rfl (by omega)) ?_;refine nNz<|cTz<|zJ<|thenN<|zI<|zM<|zI ?_;refine CW.quiet rfl mixed (by decide +kernel) ?_;apply QW.v0;rfl;exact zC;apply ValP.move;rfl;apply QW.v0;rfl;exact zC;apply ValP.move;rfl;apply QW.v0;rfl;exact zC;apply ValP.indexAddrS;rfl;rfl;rfl;omega;apply QW.load;rfl;exact zC;rfl;exact Known.ext (by assumption) (by simp);assumption;apply QW.v0;rfl;exact zC;apply ValP.move;rfl;apply QW.v0;rfl;exact zC;apply ValP.move;rfl;apply QW.v0;rfl;exact zC;apply ValP.indexAddrS;rfl;rfl;rfl;omega;apply QW.load;rfl;exact zC;rfl;exact Known.ext (by assumption) (by simp);assumption;apply QW.v0;rfl;exact zC;apply ValP.neT;rfl;rfl;omega;refine QW.nil<|thenN<|cTz<|sRz<|vAz<|nNz<|zK<|blkR<|thenR<|thenR<|blkR<|thenR ?_)
    (apply finR;exact .inl rfl;rfl;rfl;rfl;apply zD;exact zG rfl;exact zF)
    rfl
  ·rw [decide_eq_true (List.ext_getElem? fun j=>by
    rcases Nat.lt_or_ge j k with h|h
    ·exact hall j h
    ·rw [List.getElem?_eq_none (by omega),List.getElem?_eq_none (by omega)])]
   (refine zI<|sRz<|vMz<|vMz<|lvz (.lenR rfl inferInstance rfl) ?_;refine lvz (.lssF rfl rfl (by omega)) ?_;refine nNz<|cFz<|CW.exit<|thenE<|thenE<|blkE rfl<|thenN<|sRz<|vAz<|nNz<|zK ?_)
   (apply finR;exact .inl rfl;rfl;rfl;rfl;apply zD;exact zG rfl;exact zF)
   rfl
 ·rw [decide_eq_false (fun h:a=b=>hl (by rw [h]))]
  (refine sRz<|vAz<|nNz<|zI<|sRz<|vMz<|lvz (.lenR rfl inferInstance rfl)<|vMz<|lvz (.lenR rfl inferInstance rfl) ?_;refine lvz (.neT rfl rfl (by omega)) ?_;refine nNz<|cTz<|sRz<|vAz<|nNz<|zK<|thenR ?_)
  (apply finR;exact .inl rfl;rfl;rfl;rfl;apply zD;exact zG rfl;exact zF)
  rfl
theorem rSameW_calls (a b:List Nat) (hwa:∀ x∈a,x < M256) (hwb:∀ x∈b,x < M256) (va vb:Value) (w:World) (ha:RowAt w 4 va a.length (wcs a)) (hb:RowAt w 4 vb b.length (wcs b)):Calls Tryz.prog 48 #[va,vb] w (Ret w (.bool (decide (a=b)))):=by
 obtain ⟨p0,c0,rfl,hc0,hm0⟩:=ha.form
 obtain ⟨p1,c1,rfl,hc1,hm1⟩:=hb.form
 simp only [maxLen] at hm0 hm1
 refine enter (args:=[_,_]) _ [] [] Tryz.func48 rfl Tryz.ntmps48 rfl (by simp) .nil ?_
 by_cases hl:a.length=b.length
 ·(refine sRz<|vAz<|nNz<|zI<|sRz<|vMz<|lvz (.lenR rfl inferInstance rfl)<|vMz<|lvz (.lenR rfl inferInstance rfl) ?_;refine lvz (.neF rfl rfl (by omega)) ?_;refine nNz<|cFz<|zJ<|thenN<|zI<|sRz<|vAz<|nNz<|zM ?_)
  refine CW.loop (fun k:Nat=>([(0,.slice p0 a.length c0),(1,.slice p1 b.length c1),(4,.bool false),(5,.int .i64 (k:Int))],[]))
   (fun k=>k≤a.length∧∀ j,j < k→a[j]?=b[j]?) (fun k=>a.length - k) 0 ⟨Nat.zero_le _,fun j h=>absurd h (Nat.not_lt_zero _)⟩ ⟨rfl,rfl,rfl,rfl,trivial⟩ (qM _) ?_
  rintro k ⟨hk,hall⟩
  dsimp only
  rcases Nat.lt_or_ge k a.length with hlt|hge
  ·obtain ⟨b1,off1,c',cs1,E1,fr1,heq,hbk1,hx1⟩:=ha.pos (by omega)
   cases heq
   obtain ⟨b2,off2,c',cs2,E2,fr2,heq,hbk2,hx2⟩:=hb.pos (by omega)
   cases heq
   have hlt2:k < b.length:=by omega
   obtain ⟨x,hx⟩:∃ x,a[k]=x:=⟨_,rfl⟩
   obtain ⟨y,hy⟩:∃ y,b[k]=y:=⟨_,rfl⟩
   have hxl:x < M256:=by rw [← hx];exact hwa _ (List.getElem_mem hlt)
   have hyl:y < M256:=by rw [← hy];exact hwb _ (List.getElem_mem hlt2)
   have hrd1:Rd Tryz.prog 29 (.cells cs1 E1 fr1) (off1+k * 4) (wv x):=by have h:=word_rd (P:=Tryz.prog) (T:=29) (E:=E1) (fr:=fr1) hx1 k hlt;rwa [List.getD_eq_getElem?_getD,List.getElem?_eq_getElem hlt,Option.getD_some,hx] at h
   have hrd2:Rd Tryz.prog 29 (.cells cs2 E2 fr2) (off2+k * 4) (wv y):=by have h:=word_rd (P:=Tryz.prog) (T:=29) (E:=E2) (fr:=fr2) hx2 k hlt2;rwa [List.getD_eq_getElem?_getD,List.getElem?_eq_getElem hlt2,Option.getD_some,hy] at h
   by_cases he:x=y
   ·subst he
    (refine zI<|sRz<|vMz<|vMz<|lvz (.lenR rfl inferInstance rfl) ?_;refine lvz (.lssT rfl rfl (by omega)) ?_;refine nNz<|cTz<|zJ<|thenN<|zI<|zM<|zI ?_;refine CW.quiet rfl mixed (by decide +kernel) ?_;apply QW.v0;rfl;exact zC;apply ValP.move;rfl;apply QW.v0;rfl;exact zC;apply ValP.move;rfl;apply QW.v0;rfl;exact zC;apply ValP.indexAddrS;rfl;rfl;rfl;omega;apply QW.load;rfl;exact zC;rfl;exact Known.ext (by assumption) (by simp);assumption;apply QW.v0;rfl;exact zC;apply ValP.move;rfl;apply QW.v0;rfl;exact zC;apply ValP.move;rfl;apply QW.v0;rfl;exact zC;apply ValP.indexAddrS;rfl;rfl;rfl;omega;apply QW.load;rfl;exact zC;rfl;exact Known.ext (by assumption) (by simp);assumption;apply QW.v0;rfl;exact zC;apply ValP.neWF;rfl;rfl;(with_reducible rfl);refine QW.nil<|thenN<|cFz<|zJ<|blkN<|thenN<|zL<|vMz ?_;refine lvz (.addZL rfl rfl (by decide) (by omega)) ?_;refine vAz ?_;apply zV)
    apply thenX
    refine ⟨rfl,k+1,⟨hlt,fun j hj=>?_⟩,by omega,⟨rfl,rfl,rfl,rfl,trivial⟩,qM _⟩
    rcases Nat.lt_or_ge j k with h|h
    ·exact hall j h
    ·obtain rfl:j=k:=by omega
     rw [List.getElem?_eq_getElem hlt,List.getElem?_eq_getElem hlt2,hx,hy]
   ·have hne:=he
    rw [decide_eq_false (fun h:a=b=>he (by rw [← hx,← hy];subst h;rfl))]
    (refine zI<|sRz<|vMz<|vMz<|lvz (.lenR rfl inferInstance rfl) ?_;refine lvz (.lssT rfl rfl (by omega)) ?_;refine nNz<|cTz<|zJ<|thenN<|zI<|zM<|zI ?_;refine CW.quiet rfl mixed (by decide +kernel) ?_;apply QW.v0;rfl;exact zC;apply ValP.move;rfl;apply QW.v0;rfl;exact zC;apply ValP.move;rfl;apply QW.v0;rfl;exact zC;apply ValP.indexAddrS;rfl;rfl;rfl;omega;apply QW.load;rfl;exact zC;rfl;exact Known.ext (by assumption) (by simp);assumption;apply QW.v0;rfl;exact zC;apply ValP.move;rfl;apply QW.v0;rfl;exact zC;apply ValP.move;rfl;apply QW.v0;rfl;exact zC;apply ValP.indexAddrS;rfl;rfl;rfl;omega;apply QW.load;rfl;exact zC;rfl;exact Known.ext (by assumption) (by simp);assumption;apply QW.v0;rfl;exact zC;apply ValP.neWT;rfl;rfl;assumption;assumption;assumption;refine QW.nil<|thenN<|cTz<|sRz<|vAz<|nNz<|zK<|blkR<|thenR<|thenR<|blkR<|thenR ?_)
    (apply finR;exact .inl rfl;rfl;rfl;rfl;apply zD;exact zG rfl;exact zF)
    rfl
  ·rw [decide_eq_true (List.ext_getElem? fun j=>by
    rcases Nat.lt_or_ge j k with h|h
    ·exact hall j h
    ·rw [List.getElem?_eq_none (by omega),List.getElem?_eq_none (by omega)])]
   (refine zI<|sRz<|vMz<|vMz<|lvz (.lenR rfl inferInstance rfl) ?_;refine lvz (.lssF rfl rfl (by omega)) ?_;refine nNz<|cFz<|CW.exit<|thenE<|thenE<|blkE rfl<|thenN<|sRz<|vAz<|nNz<|zK ?_)
   (apply finR;exact .inl rfl;rfl;rfl;rfl;apply zD;exact zG rfl;exact zF)
   rfl
 ·rw [decide_eq_false (fun h:a=b=>hl (by rw [h]))]
  (refine sRz<|vAz<|nNz<|zI<|sRz<|vMz<|lvz (.lenR rfl inferInstance rfl)<|vMz<|lvz (.lenR rfl inferInstance rfl) ?_;refine lvz (.neT rfl rfl (by omega)) ?_;refine nNz<|cTz<|sRz<|vAz<|nNz<|zK<|thenR ?_)
  (apply finR;exact .inl rfl;rfl;rfl;rfl;apply zD;exact zG rfl;exact zF)
  rfl
end Go.Proofs.YtdeggbkbblfpoaaGreatDoor
namespace Go.Proofs.YtdeggbkbblfpoaaGreatDoor.SL
set_option linter.unusedVariables false
set_option linter.unusedSimpArgs false
open Go Go.RowKit
section dw
variable {C : Cu} {ops : Array Oper} {μ : Mu} {Q : Post} {tl rest : List Oper} {k d : Nat} {e : Env} {ts : Ts} {t : TypeId} {pos : String} {af : Array Edge} {g : Option (Nat × Bool)}
end dw
end Go.Proofs.YtdeggbkbblfpoaaGreatDoor.SL
namespace Go.Proofs.YtdeggbkbblfpoaaGreatDoor.SL
set_option linter.unusedVariables false
set_option linter.unusedSimpArgs false
open Go Go.RowKit
theorem upon_join {F:Fence} {n:Nat} {P:Program} {o:Oper} {a:Act} {w:World} {K K':Act→World→Prop} {Q Q':Exit→Act→World→Prop} (h:∀ a w,K a w→K' a w) (hp:∀ ch a w,Q (.panic ch) a w→Q' (.panic ch) a w) (hl:LetsOut Q→LetsOut Q')
  (hh:o.wpIn F n P a w K Q):o.wpIn F n P a w K' Q':=by
 unfold Oper.wpIn at *
 refine ⟨hh.1,?_⟩
 have hh:=hh.2
 generalize (o.semAt F.round a.eval).run P w=r at *
 cases r with
 |ok x w' =>
  cases x<;>simp only [Oper.uponIn] at hh ⊢ <;>
   first
    |exact h _ _ hh
    |exact ⟨hh.1,CallsIn.mono hh.2 (fun e w'' he=>by cases e<;>first|exact h _ _ he|exact hp _ _ _ he|exact hl he)⟩
    |exact ⟨hh.1,RowsIn.mono hh.2 (fun _ _ he=>h _ _ he)⟩
    |exact ⟨hh.1,RoundIn.mono hh.2 (fun e w'' he=>by cases e<;>first|exact h _ _ he|exact hp _ _ _ he|exact hl he)⟩
 |halt x w'=>cases x<;>simp only [Oper.uponIn] at hh ⊢<;>first|exact hp _ _ _ hh|exact hh
theorem list_join {F:Fence} {n:Nat} {P:Program} {ops:Array Oper} {Qm Q:Exit→Act→World→Prop} {l2:List Oper} (hn:∀ a w,Qm .normal a w→wpListIn F n P ops Q l2 a w) (hp:∀ ch a w,Qm (.panic ch) a w→Q (.panic ch) a w) (hl:LetsOut Qm→LetsOut Q) :
  ∀ (l1:List Oper) (a:Act) (w:World),wpListIn F n P ops Qm l1 a w→wpListIn F n P ops Q (l1++l2) a w
 |[],a,w,h=>hn a w h
 |o::r,a,w,h=>by
  rw [List.cons_append]
  unfold wpListIn at h ⊢
  split
  ·rename_i hw
   rw [if_pos hw] at h
   exact upon_join (fun a w h=>list_join hn hp hl r a w h) hp hl h
  ·rename_i hw
   rw [if_neg hw] at h
   exact ⟨h.1,list_join hn hp hl r _ _ h.2⟩
def joinQ (C:Cu) (e1:Env) (fs1:Fs) (Q:Post):Post:=fun x ds e fs=>match x with
 |.normal=>ds=C.ds∧e.le e1∧List.Sublist fs1 fs
 |x=>Q x ds e fs
theorem LW.join {C:Cu} {ops:Array Oper} {Q:Post} {l:List Oper} {e:Env} {fs:Fs} (k:Nat) (e1:Env) (fs1:Fs) (h2:LW C ops Q (l.drop k) e1 fs1) (h1:LW C ops (joinQ C e1 fs1 Q) (l.take k) e fs):LW C ops Q l e fs:=fun a w hs=>by
 have h:=h1 a w hs
 rw [← List.take_append_drop k l]
 refine list_join (fun a w hq=>?_) (fun ch a w hq=>?_) (fun hq=>?_) _ _ _ h
 ·obtain ⟨ds,e',fs',⟨rfl,h4,h5⟩,s⟩:=hq
  exact h2 a w (fs_sub s h4 h5)
 ·obtain ⟨ds,e',fs',hq,s⟩:=hq
  exact ⟨ds,e',fs',hq,s⟩
 ·obtain ⟨a,w,ds,e',fs',hq,s⟩:=hq
  exact ⟨a,w,ds,e',fs',hq,s⟩
theorem joinI {C:Cu} {e1 e:Env} {fs1 fs:Fs} {Q:Post} (h1:e.le e1) (h2:List.Sublist fs1 fs):joinQ C e1 fs1 Q .normal C.ds e fs:=⟨rfl,h1,h2⟩
section hm
variable {P : Program} {e : Env} {T : TypeId} {x : Operand} {n : Nat}
theorem run_slice_hm {w:World} {a:Option Addr} {len cap:Nat} (ht:P.underlying T=some (.slice (P.elem T))) (kh km:IntKind) (h m:Int) (h0:0≤h) (h2:h≤m) (h3:m≤cap) :
  (Instr.slice T (.slice a len cap) none (some (.int kh h)) (some (.int km m))).run P w=((sizeOf (P.elem T)).run P w).andThen fun s w=>.ok (sliced a 0 h.toNat m.toNat s) w:=by
 have eh:(h.toNat:Int)=h:=Int.toNat_of_nonneg (by omega)
 have em:(m.toNat:Int)=m:=Int.toNat_of_nonneg (by omega)
 simp [Instr.slice,run_underlying ht,Instr.sliceBounds,run_sliceBound,sliced, *,eh,em,(by omega:0≤h),(by omega:0≤m)]
theorem ValP.cutMax {ik im:IntKind} {E j k c sz:Nat} {z:Value} {p:Option Addr} {hi mx:Operand} (hU:UnI P T (.slice E)) (hI:InfoI P E sz z) (hx:e.ev x=some (.slice p n c)) (hh:e.ev hi=some (.int ik (j:Int))) (hm:e.ev mx=some (.int im (k:Int))) (h2:j≤k) (h3:k≤c) :
  ValP P e [] (.slice T x none (some hi) (some mx)) (.slice p j k):=fun ρ w hρ _ d t pos af g=>by
 have hu:P.underlying T=some (.slice E):=hU.un
 have h1:=run_slice_hm (P:=P) (T:=T) (w:=w) (a:=p) (len:=n) (cap:=c) (elem_un hu) ik im (j:Int) (k:Int) (by omega) (by omega) (by omega)
 rw [elem_eq hu,run_size] at h1
 have h2:(Instr.sliceAt T (.slice p n c) none (some (.int ik (j:Int))) (some (.int im (k:Int)))).run P w=.ok (.slice p j k) w:=by
  rw [run_sliceAt_slice (w:=w) T _ _ _ _ (elem_un hu),h1]
  simp only [Result.andThen_ok,sliced,Int.toNat_natCast,Nat.sub_zero,Nat.zero_mul]
  cases p with
  |none=>simp
  |some a=>cases a with|mk b o s=>simp [addr_add,Addr.add]
 simp [execOp,hρ x _ hx,hρ hi _ hh,hρ mx _ hm,h2]
end hm
section dv
variable {C : Cu} {ops : Array Oper} {Q : Post} {tl rest : List Oper} {e : Env} {ts : Ts} {μ : Mu} {k d : Nat} {t : TypeId} {pos : String} {af : Array Edge} {g : Option (Nat × Bool)} {fo : Operand} {args : Array Operand} {tys : Array TypeId} {f : FuncId} {vs vs' : List Value} {us : Fs} {ts' : Ts}
theorem DW.callW {v:Value} (hk:ops[k]?=some ⟨some d,.call { callee:=.value fo,args:=args,argTypes:=tys },t,pos,af,g⟩) (hm:μ k=none)
  (hd:Nat.blt d C.N=true) (hg:WantT ops e g) (hf:e.ev fo=some (.func (.func f) #[] #[])) (hF:FnI C.P f) (ha:ArgsOk e args.toList vs) (hbl:vs.flatMap (blocksN 4)=vs'.flatMap (blocksN 4)) (hr:RdV C ops k vs' ts us ts')
  (hc:∀ w,Bel C.w0.heap.size C.S C.w0 w→(∀ p∈us,w.heap[p.1]?=some p.2)→Calls C.P f vs.toArray w (Ret w v)) (kk:DW C ops μ Q tl rest (k+1) ((d,v)::e) ts') :
  DW C ops μ Q tl (⟨some d,.call { callee:=.value fo,args:=args,argTypes:=tys },t,pos,af,g⟩::rest) k e ts:=by
 obtain ⟨us2,h1,h2⟩:=hr.all
 rw [← hbl] at h1
 exact DW.callE hk hm hd hg hf hF ha (show _=vs.flatMap (blocksN 4) from rfl) h1 (fun w hb hu=>hc w hb fun p hp=>hu p (h2 p hp)) kk
theorem DW.manyW {M:Rel1} (hk:ops[k]?=some ⟨some d,.call { callee:=.value fo,args:=args,argTypes:=tys },t,pos,af,g⟩) (hm:μ k=some (cst M,(false:Fl)))
  (hd:Nat.blt d C.N=true) (hg:WantT ops e g) (hf:e.ev fo=some (.func (.func f) #[] #[])) (hF:FnI C.P f) (ha:ArgsOk e args.toList vs) (hbl:vs.flatMap (blocksN 4)=vs'.flatMap (blocksN 4)) (hr:RdV C ops k vs' ts us ts')
  (hc:∀ w,Bel C.w0.heap.size C.S C.w0 w→(∀ p∈us,w.heap[p.1]?=some p.2)→Calls C.P f vs.toArray w (RetG w [] M)) (kk:∀ v gs,M v gs→DW C ops μ Q tl rest (k+1) ((d,v)::e) (tsNew k gs++ts')) :
  DW C ops μ Q tl (⟨some d,.call { callee:=.value fo,args:=args,argTypes:=tys },t,pos,af,g⟩::rest) k e ts:=by
 obtain ⟨us2,h1,h2⟩:=hr.all
 rw [← hbl] at h1
 exact DW.manyE hk hm hd hg hf hF ha (show _=vs.flatMap (blocksN 4) from rfl) h1 (fun w hb hu=>hc w hb fun p hp=>hu p (h2 p hp)) kk
theorem blocks_sl {x:Value} (h:∃ p n c,x=.slice p n c):blocksN 3 x=blocksN 4 x:=by
 obtain ⟨p,n,c,rfl⟩:=h
 cases p<;>rfl
end dv
section de
variable {C : Cu} {ops : Array Oper} {μ : Mu} {Q : Post} {tl rest : List Oper} {k d : Nat} {e : Env} {ts : Ts} {t : TypeId} {pos : String} {af : Array Edge} {g : Option (Nat × Bool)}
end de
end Go.Proofs.YtdeggbkbblfpoaaGreatDoor.SL
namespace Go.Proofs.YtdeggbkbblfpoaaGreatDoor
open Go Go.RowKit SL
set_option maxRecDepth 8000
set_option maxHeartbeats 4000000
set_option linter.unusedSimpArgs false
set_option linter.unusedVariables false
attribute [local irreducible] SL.CW SL.LW SL.DW Calls SL.Ret SL.RetG SL.beginQ SL.roundQ SL.rangeQ SL.inQ SL.RW SL.AnyW SL.thenQ SL.thenC SL.thenW SL.blkQ SL.finQ SL.ValP SL.NewP SL.SetP SL.CallP SL.Rd SL.Wr SL.Known
structure FrNum (f:FrV) (L:FrL):Prop where
 gas:f.gas < 18446744073709551616
 self:f.self < 18446744073709551616
 frm:f.frm < 18446744073709551616
 val:f.val < M256
 ws:∀ x∈L.ws,x < M256
def sameF (f:FrV) (L:FrL) (g:FrV) (M:FrL):Prop:=f.pc=g.pc∧f.gas=g.gas∧f.self=g.self∧f.frm=g.frm∧f.val=g.val∧f.stat=g.stat∧L.cl=M.cl∧L.il=M.il∧L.bl=M.bl∧(L.ws=M.ws∧L.ms=M.ms)
instance (f:FrV) (L:FrL) (g:FrV) (M:FrL):Decidable (sameF f L g M):=by unfold sameF;infer_instance
theorem SL.LW.joinF {C:Cu} {ops:Array Oper} {Q:Post} {l:List Oper} {e:Env} {fs:Fs} (k:Nat) (e1:Env) (h2:LW C ops Q (l.drop k) e1 fs) (h1:LW C ops (joinQ C e1 fs Q) (l.take k) e fs):LW C ops Q l e fs:=LW.join k e1 fs h2 h1
theorem scSame1_calls (x y:List UInt8) (vx vy:Value) (w:World) (hx:RowAt w 1 vx x.length (ucs x)) (hy:RowAt w 1 vy y.length (ucs y)):Calls Tryz.prog 125 #[vx,vy] w (Ret w (.bool (decide (x=y)))):=by
 obtain ⟨p2,c2,rfl,_,_⟩:=id hx.form
 obtain ⟨p3,c3,rfl,_,_⟩:=id hy.form
 have hB:=fun w' {fs:Fs} (hst:St w [] fs w')=>sEqB_calls x y _ _ w' (hx.st hst) (hy.st hst)
 refine enter (args:=[_,_]) _ [] [] Tryz.func125 rfl Tryz.ntmps125 rfl (by simp) .nil ?_
 (refine sRz<|vAz<|nSz<|vMz<|vMz ?_;apply zS;rfl;rfl;infer_instance;exact .cons rfl (.cons rfl .nil);intro w _;exact hB w (by assumption);refine vAz<|nNz<|zK ?_)
 (apply finR;exact .inl rfl;rfl;rfl;rfl;apply zD;exact zG rfl;exact zF)
 rfl
theorem scSame_calls (a b:List Nat) (x y:List UInt8) (hwa:∀ x∈a,x < M256) (hwb:∀ x∈b,x < M256) (va vb vx vy:Value) (w:World) (ha:RowAt w 4 va a.length (wcs a)) (hb:RowAt w 4 vb b.length (wcs b)) (hx:RowAt w 1 vx x.length (ucs x)) (hy:RowAt w 1 vy y.length (ucs y)) :
  Calls Tryz.prog 87 #[.agg #[va,vx],.agg #[vb,vy]] w (Ret w (.bool (decide (a=b∧x=y)))):=by
 obtain ⟨p0,c0,rfl,_,_⟩:=id ha.form
 obtain ⟨p1,c1,rfl,_,_⟩:=id hb.form
 obtain ⟨p2,c2,rfl,_,_⟩:=id hx.form
 obtain ⟨p3,c3,rfl,_,_⟩:=id hy.form
 have hW0:=fun w' {fs:Fs} (hst:St w [] fs w')=>sEqW_calls a b hwa hwb _ _ w' (ha.st hst) (hb.st hst)
 have hB0:=fun w' {fs:Fs} (hst:St w [] fs w')=>scSame1_calls x y _ _ w' (hx.st hst) (hy.st hst)
 refine enter (args:=[_,_]) _ [] [] Tryz.func87 rfl Tryz.ntmps87 rfl (by simp) .nil ?_
 by_cases e:a=b
 ·have hW:∀ w' {fs:Fs},St w [] fs w'→Calls Tryz.prog 88 #[.slice p0 a.length c0,.slice p1 b.length c1] w' (Ret w' (.bool true)):=fun w' fs hst=>by have h:=hW0 w' hst;rwa [decide_eq_true e] at h
  by_cases e2:x=y
  ·have hB:∀ w' {fs:Fs},St w [] fs w'→Calls Tryz.prog 125 #[.slice p2 x.length c2,.slice p3 y.length c3] w' (Ret w' (.bool true)):=fun w' fs hst=>by have h:=hB0 w' hst;rwa [decide_eq_true e2] at h
   rw [decide_eq_true ⟨e,e2⟩]
   (refine sRz ?_;apply zT;rfl;rfl;intro _;apply zT;rfl;rfl;intro _;refine vAz<|nSz<|vAz<|nSz<|vFz<|ldz rfl (.tail .head) sc_rd0<|vFz<|ldz rfl .head sc_rd0 ?_;apply zS;rfl;rfl;infer_instance;exact .cons rfl (.cons rfl .nil);intro w _;exact hW w (by assumption);refine vMz<|gTz<|vMz<|gTz<|vFz<|gTz<|ldz rfl (.tail .head) sc_rd1<|gTz<|vFz<|gTz<|ldz rfl .head sc_rd1<|gTz ?_;apply zS;rfl;rfl;infer_instance;exact .cons rfl (.cons rfl .nil);intro w _;exact hB w (by assumption);refine pTz<|vAz<|nNz<|zK ?_)
   (apply finR;exact .inl rfl;rfl;rfl;rfl;apply zD;exact zG rfl;exact zF)
   rfl
  ·have hB:∀ w' {fs:Fs},St w [] fs w'→Calls Tryz.prog 125 #[.slice p2 x.length c2,.slice p3 y.length c3] w' (Ret w' (.bool false)):=fun w' fs hst=>by have h:=hB0 w' hst;rwa [decide_eq_false e2] at h
   rw [decide_eq_false (fun h=>e2 h.2)]
   (refine sRz ?_;apply zT;rfl;rfl;intro _;apply zT;rfl;rfl;intro _;refine vAz<|nSz<|vAz<|nSz<|vFz<|ldz rfl (.tail .head) sc_rd0<|vFz<|ldz rfl .head sc_rd0 ?_;apply zS;rfl;rfl;infer_instance;exact .cons rfl (.cons rfl .nil);intro w _;exact hW w (by assumption);refine vMz<|gTz<|vMz<|gTz<|vFz<|gTz<|ldz rfl (.tail .head) sc_rd1<|gTz<|vFz<|gTz<|ldz rfl .head sc_rd1<|gTz ?_;apply zS;rfl;rfl;infer_instance;exact .cons rfl (.cons rfl .nil);intro w _;exact hB w (by assumption);refine pTz<|vAz<|nNz<|zK ?_)
   (apply finR;exact .inl rfl;rfl;rfl;rfl;apply zD;exact zG rfl;exact zF)
   rfl
 ·have hW:∀ w' {fs:Fs},St w [] fs w'→Calls Tryz.prog 88 #[.slice p0 a.length c0,.slice p1 b.length c1] w' (Ret w' (.bool false)):=fun w' fs hst=>by have h:=hW0 w' hst;rwa [decide_eq_false e] at h
  rw [decide_eq_false (fun h=>e h.1)]
  (refine sRz ?_;apply zT;rfl;rfl;intro _;apply zT;rfl;rfl;intro _;refine vAz<|nSz<|vAz<|nSz<|vFz<|ldz rfl (.tail .head) sc_rd0<|vFz<|ldz rfl .head sc_rd0 ?_;apply zS;rfl;rfl;infer_instance;exact .cons rfl (.cons rfl .nil);intro w _;exact hW w (by assumption);refine vMz ?_;(iterate 6 refine gFz ?_);refine pFz<|vAz<|nNz<|zK ?_)
  (apply finR;exact .inl rfl;rfl;rfl;rfl;apply zD;exact zG rfl;exact zF)
  rfl
theorem rScSame_calls (a b:List Nat) (x y:List UInt8) (hwa:∀ x∈a,x < M256) (hwb:∀ x∈b,x < M256) (va vb vx vy:Value) (w:World) (ha:RowAt w 4 va a.length (wcs a)) (hb:RowAt w 4 vb b.length (wcs b)) (hx:RowAt w 1 vx x.length (ucs x)) (hy:RowAt w 1 vy y.length (ucs y)) :
  Calls Tryz.prog 47 #[.agg #[va,vx],.agg #[vb,vy]] w (Ret w (.bool (decide (a=b∧x=y)))):=by
 obtain ⟨p0,c0,rfl,_,_⟩:=id ha.form
 obtain ⟨p1,c1,rfl,_,_⟩:=id hb.form
 obtain ⟨p2,c2,rfl,_,_⟩:=id hx.form
 obtain ⟨p3,c3,rfl,_,_⟩:=id hy.form
 have hW0:=fun w' {fs:Fs} (hst:St w [] fs w')=>rSameW_calls a b hwa hwb _ _ w' (ha.st hst) (hb.st hst)
 have hB0:=fun w' {fs:Fs} (hst:St w [] fs w')=>rSameB_calls x y _ _ w' (hx.st hst) (hy.st hst)
 refine enter (args:=[_,_]) _ [] [] Tryz.func47 rfl Tryz.ntmps47 rfl (by simp) .nil ?_
 by_cases e:a=b
 ·have hW:∀ w' {fs:Fs},St w [] fs w'→Calls Tryz.prog 48 #[.slice p0 a.length c0,.slice p1 b.length c1] w' (Ret w' (.bool true)):=fun w' fs hst=>by have h:=hW0 w' hst;rwa [decide_eq_true e] at h
  by_cases e2:x=y
  ·have hB:∀ w' {fs:Fs},St w [] fs w'→Calls Tryz.prog 101 #[.slice p2 x.length c2,.slice p3 y.length c3] w' (Ret w' (.bool true)):=fun w' fs hst=>by have h:=hB0 w' hst;rwa [decide_eq_true e2] at h
   rw [decide_eq_true ⟨e,e2⟩]
   (refine sRz ?_;apply zT;rfl;rfl;intro _;apply zT;rfl;rfl;intro _;refine vAz<|nSz<|vFz<|ldz rfl (.tail .head) sc_rd0<|vFz<|ldz rfl .head sc_rd0 ?_;apply zS;rfl;rfl;infer_instance;exact .cons rfl (.cons rfl .nil);intro w _;exact hW w (by assumption);refine vMz<|gTz<|vFz<|gTz<|ldz rfl (.tail .head) sc_rd1<|gTz<|vFz<|gTz<|ldz rfl .head sc_rd1<|gTz ?_;apply zS;rfl;rfl;infer_instance;exact .cons rfl (.cons rfl .nil);intro w _;exact hB w (by assumption);refine pTz<|vAz<|nNz<|zK ?_)
   (apply finR;exact .inl rfl;rfl;rfl;rfl;apply zD;exact zG rfl;exact zF)
   rfl
  ·have hB:∀ w' {fs:Fs},St w [] fs w'→Calls Tryz.prog 101 #[.slice p2 x.length c2,.slice p3 y.length c3] w' (Ret w' (.bool false)):=fun w' fs hst=>by have h:=hB0 w' hst;rwa [decide_eq_false e2] at h
   rw [decide_eq_false (fun h=>e2 h.2)]
   (refine sRz ?_;apply zT;rfl;rfl;intro _;apply zT;rfl;rfl;intro _;refine vAz<|nSz<|vFz<|ldz rfl (.tail .head) sc_rd0<|vFz<|ldz rfl .head sc_rd0 ?_;apply zS;rfl;rfl;infer_instance;exact .cons rfl (.cons rfl .nil);intro w _;exact hW w (by assumption);refine vMz<|gTz<|vFz<|gTz<|ldz rfl (.tail .head) sc_rd1<|gTz<|vFz<|gTz<|ldz rfl .head sc_rd1<|gTz ?_;apply zS;rfl;rfl;infer_instance;exact .cons rfl (.cons rfl .nil);intro w _;exact hB w (by assumption);refine pTz<|vAz<|nNz<|zK ?_)
   (apply finR;exact .inl rfl;rfl;rfl;rfl;apply zD;exact zG rfl;exact zF)
   rfl
 ·have hW:∀ w' {fs:Fs},St w [] fs w'→Calls Tryz.prog 48 #[.slice p0 a.length c0,.slice p1 b.length c1] w' (Ret w' (.bool false)):=fun w' fs hst=>by have h:=hW0 w' hst;rwa [decide_eq_false e] at h
  rw [decide_eq_false (fun h=>e h.1)]
  (refine sRz ?_;apply zT;rfl;rfl;intro _;apply zT;rfl;rfl;intro _;refine vAz<|nSz<|vFz<|ldz rfl (.tail .head) sc_rd0<|vFz<|ldz rfl .head sc_rd0 ?_;apply zS;rfl;rfl;infer_instance;exact .cons rfl (.cons rfl .nil);intro w _;exact hW w (by assumption);refine vMz ?_;(iterate 5 refine gFz ?_);refine pFz<|vAz<|nNz<|zK ?_)
  (apply finR;exact .inl rfl;rfl;rfl;rfl;apply zD;exact zG rfl;exact zF)
  rfl
theorem fSame_calls (f g:FrV) (L M:FrL) (hf:FrNum f L) (hg:FrNum g M) (w:World) (h:FrRows w f L) (h':FrRows w g M):Calls Tryz.prog 36 #[frv f,frv g] w (Ret w (.bool (decide (sameF f L g M)))):=by
 have hww:=hf.ws
 have hwm:=hg.ws
 have hv1:=hf.val
 have hv2:=hg.val
 obtain ⟨code,pc,stk,mem,gas,self,frm,val,inp,back,stat⟩:=f
 obtain ⟨code',pc',stk',mem',gas',self',frm',val',inp',back',stat'⟩:=g
 obtain ⟨h0,h2,h3,h11,h12⟩:=h
 obtain ⟨k0,k2,k3,k11,k12⟩:=h'
 dsimp only at h0 h2 h3 h11 h12 k0 k2 k3 k11 k12 hv1 hv2
 obtain ⟨p0,c0,rfl,_,_⟩:=id h0.form
 obtain ⟨p2,c2,rfl,_,_⟩:=id h2.form
 obtain ⟨p3,c3,rfl,_,_⟩:=id h3.form
 obtain ⟨p11,c11,rfl,_,_⟩:=id h11.form
 obtain ⟨p12,c12,rfl,_,_⟩:=id h12.form
 obtain ⟨r0,d0,rfl,_,_⟩:=id k0.form
 obtain ⟨r2,d2,rfl,_,_⟩:=id k2.form
 obtain ⟨r3,d3,rfl,_,_⟩:=id k3.form
 obtain ⟨r11,d11,rfl,_,_⟩:=id k11.form
 obtain ⟨r12,d12,rfl,_,_⟩:=id k12.form
 have hq6:=fun w' {fs:Fs} (hst:St w [] fs w')=>sEqB_calls L.cl M.cl _ _ w' (h0.st hst) (k0.st hst)
 have hq7:=fun w' {fs:Fs} (hst:St w [] fs w')=>sEqB_calls L.il M.il _ _ w' (h11.st hst) (k11.st hst)
 have hq8:=fun w' {fs:Fs} (hst:St w [] fs w')=>sEqB_calls L.bl M.bl _ _ w' (h12.st hst) (k12.st hst)
 have hq9:=fun w' {fs:Fs} (hst:St w [] fs w')=>scSame_calls L.ws M.ws L.ms M.ms hww hwm _ _ _ _ w' (h2.st hst) (k2.st hst) (h3.st hst) (k3.st hst)
 refine enter (args:=[_,_]) _ [] [] Tryz.func36 rfl Tryz.ntmps36 rfl (by simp) .nil ?_
 (refine sRz ?_;apply zT;rfl;rfl;intro _;apply zT;rfl;rfl;intro _;refine vAz<|nSz<|vFz<|ldz rfl (.tail .head) fr_rd1<|vFz<|ldz rfl .head fr_rd1<|lvz (.eq rfl rfl)<|vMz ?_)
 rename_i b2 b3
 obtain ⟨y0,hy0⟩:∃ c:Bool,c=decide (pc=pc'):=⟨_,rfl⟩
 refine LW.joinF 0 ((11,.bool (y0))::[(2,.pointer (some ⟨b2,0,none⟩)),(3,.pointer (some ⟨b3,0,none⟩))]) ?_ ?_
 rotate_left
 ·rw [hy0]
  (apply zV)
  exact joinI ⟨getB rfl (by (rfl)),rfl,rfl,trivial⟩ (qM _)
 obtain ⟨y1,hy1⟩:∃ c:Bool,c=(y0 && decide (gas=gas')):=⟨_,rfl⟩
 refine LW.joinF 7 ((18,.bool (y1))::[(2,.pointer (some ⟨b2,0,none⟩)),(3,.pointer (some ⟨b3,0,none⟩))]) ?_ ?_
 rotate_left
 ·rw [hy1]
  clear hy1 hy0
  cases y0
  ·((iterate 5 refine gFz ?_);refine pFz<|vMz ?_;apply zV)
   exact joinI ⟨getB rfl (by (rfl)),rfl,rfl,trivial⟩ (qM _)
  ·(refine gTz<|vFz<|gTz<|ldz rfl (.tail .head) fr_rd4<|gTz<|vFz<|gTz<|ldz rfl .head fr_rd4<|gTz<|lvz (.eq rfl rfl)<|pTz<|vMz ?_;apply zV)
   exact joinI ⟨getB rfl (by (exact decide_eq_decide.2 Int.ofNat_inj)),rfl,rfl,trivial⟩ (qM _)
 obtain ⟨y2,hy2⟩:∃ c:Bool,c=(y1 && decide (self=self')):=⟨_,rfl⟩
 refine LW.joinF 7 ((25,.bool (y2))::[(2,.pointer (some ⟨b2,0,none⟩)),(3,.pointer (some ⟨b3,0,none⟩))]) ?_ ?_
 rotate_left
 ·rw [hy2]
  clear hy2 hy1 hy0
  cases y1
  ·((iterate 5 refine gFz ?_);refine pFz<|vMz ?_;apply zV)
   exact joinI ⟨getB rfl (by (rfl)),rfl,rfl,trivial⟩ (qM _)
  ·(refine gTz<|vFz<|gTz<|ldz rfl (.tail .head) fr_rd5<|gTz<|vFz<|gTz<|ldz rfl .head fr_rd5<|gTz<|lvz (.eq rfl rfl)<|pTz<|vMz ?_;apply zV)
   exact joinI ⟨getB rfl (by (exact decide_eq_decide.2 Int.ofNat_inj)),rfl,rfl,trivial⟩ (qM _)
 obtain ⟨y3,hy3⟩:∃ c:Bool,c=(y2 && decide (frm=frm')):=⟨_,rfl⟩
 refine LW.joinF 7 ((32,.bool (y3))::[(2,.pointer (some ⟨b2,0,none⟩)),(3,.pointer (some ⟨b3,0,none⟩))]) ?_ ?_
 rotate_left
 ·rw [hy3]
  clear hy3 hy2 hy1 hy0
  cases y2
  ·((iterate 5 refine gFz ?_);refine pFz<|vMz ?_;apply zV)
   exact joinI ⟨getB rfl (by (rfl)),rfl,rfl,trivial⟩ (qM _)
  ·(refine gTz<|vFz<|gTz<|ldz rfl (.tail .head) fr_rd6<|gTz<|vFz<|gTz<|ldz rfl .head fr_rd6<|gTz<|lvz (.eq rfl rfl)<|pTz<|vMz ?_;apply zV)
   exact joinI ⟨getB rfl (by (exact decide_eq_decide.2 Int.ofNat_inj)),rfl,rfl,trivial⟩ (qM _)
 obtain ⟨y4,hy4⟩:∃ c:Bool,c=(y3 && decide (val=val')):=⟨_,rfl⟩
 refine LW.joinF 7 ((39,.bool (y4))::[(2,.pointer (some ⟨b2,0,none⟩)),(3,.pointer (some ⟨b3,0,none⟩))]) ?_ ?_
 rotate_left
 ·rw [hy4]
  clear hy4 hy3 hy2 hy1 hy0
  cases y3
  ·((iterate 5 refine gFz ?_);refine pFz<|vMz ?_;apply zV)
   exact joinI ⟨getB rfl (by (rfl)),rfl,rfl,trivial⟩ (qM _)
  ·(refine gTz<|vFz<|gTz<|ldz rfl (.tail .head) fr_rd7<|gTz<|vFz<|gTz<|ldz rfl .head fr_rd7<|gTz ?_;refine lvz (.eqW rfl rfl (by assumption) (by assumption)) ?_;refine pTz<|vMz ?_;apply zV)
   exact joinI ⟨getB rfl (by (rfl)),rfl,rfl,trivial⟩ (qM _)
 obtain ⟨y5,hy5⟩:∃ c:Bool,c=(y4 && decide (stat=stat')):=⟨_,rfl⟩
 refine LW.joinF 7 ((5,.bool (y5))::[(2,.pointer (some ⟨b2,0,none⟩)),(3,.pointer (some ⟨b3,0,none⟩))]) ?_ ?_
 rotate_left
 ·rw [hy5]
  clear hy5 hy4 hy3 hy2 hy1 hy0
  cases y4
  ·((iterate 5 refine gFz ?_);refine pFz<|vAz ?_;apply zV)
   exact joinI ⟨getB rfl (by (rfl)),rfl,rfl,trivial⟩ (qM _)
  ·(refine gTz<|vFz<|gTz<|ldz rfl (.tail .head) fr_rd13<|gTz<|vFz<|gTz<|ldz rfl .head fr_rd13<|gTz<|lvz (.boolEq rfl rfl)<|pTz<|vAz ?_;apply zV)
   exact joinI ⟨getB rfl (by (rfl)),rfl,rfl,trivial⟩ (qM _)
 (refine nSz<|vMz<|vMz ?_)
 obtain ⟨y6,hy6⟩:∃ c:Bool,c=(y5 && decide (L.cl=M.cl)):=⟨_,rfl⟩
 refine LW.joinF 7 ((54,.bool (y6))::[(2,.pointer (some ⟨b2,0,none⟩)),(3,.pointer (some ⟨b3,0,none⟩))]) ?_ ?_
 rotate_left
 ·rw [hy6]
  clear hy6 hy5 hy4 hy3 hy2 hy1 hy0
  cases y5
  ·((iterate 5 refine gFz ?_);refine pFz<|vMz ?_;apply zV)
   exact joinI ⟨getB rfl (by (rfl)),rfl,rfl,trivial⟩ (qM _)
  ·(refine gTz<|vFz<|gTz<|ldz rfl (.tail .head) fr_rd0<|gTz<|vFz<|gTz<|ldz rfl .head fr_rd0<|gTz ?_;apply zS;rfl;rfl;infer_instance;exact .cons rfl (.cons rfl .nil);intro w _;exact hq6 w (by assumption);refine pTz<|vMz ?_;apply zV)
   exact joinI ⟨getB rfl (by (rfl)),rfl,rfl,trivial⟩ (qM _)
 obtain ⟨y7,hy7⟩:∃ c:Bool,c=(y6 && decide (L.il=M.il)):=⟨_,rfl⟩
 refine LW.joinF 7 ((61,.bool (y7))::[(2,.pointer (some ⟨b2,0,none⟩)),(3,.pointer (some ⟨b3,0,none⟩))]) ?_ ?_
 rotate_left
 ·rw [hy7]
  clear hy7 hy6 hy5 hy4 hy3 hy2 hy1 hy0
  cases y6
  ·((iterate 5 refine gFz ?_);refine pFz<|vMz ?_;apply zV)
   exact joinI ⟨getB rfl (by (rfl)),rfl,rfl,trivial⟩ (qM _)
  ·(refine gTz<|vFz<|gTz<|ldz rfl (.tail .head) fr_rd11<|gTz<|vFz<|gTz<|ldz rfl .head fr_rd11<|gTz ?_;apply zS;rfl;rfl;infer_instance;exact .cons rfl (.cons rfl .nil);intro w _;exact hq7 w (by assumption);refine pTz<|vMz ?_;apply zV)
   exact joinI ⟨getB rfl (by (rfl)),rfl,rfl,trivial⟩ (qM _)
 obtain ⟨y8,hy8⟩:∃ c:Bool,c=(y7 && decide (L.bl=M.bl)):=⟨_,rfl⟩
 refine LW.joinF 7 ((68,.bool (y8))::[(2,.pointer (some ⟨b2,0,none⟩)),(3,.pointer (some ⟨b3,0,none⟩))]) ?_ ?_
 rotate_left
 ·rw [hy8]
  clear hy8 hy7 hy6 hy5 hy4 hy3 hy2 hy1 hy0
  cases y7
  ·((iterate 5 refine gFz ?_);refine pFz<|vMz ?_;apply zV)
   exact joinI ⟨getB rfl (by (rfl)),rfl,rfl,trivial⟩ (qM _)
  ·(refine gTz<|vFz<|gTz<|ldz rfl (.tail .head) fr_rd12<|gTz<|vFz<|gTz<|ldz rfl .head fr_rd12<|gTz ?_;apply zS;rfl;rfl;infer_instance;exact .cons rfl (.cons rfl .nil);intro w _;exact hq8 w (by assumption);refine pTz<|vMz ?_;apply zV)
   exact joinI ⟨getB rfl (by (rfl)),rfl,rfl,trivial⟩ (qM _)
 obtain ⟨y9,hy9⟩:∃ c:Bool,c=(y8 && decide (L.ws=M.ws∧L.ms=M.ms)):=⟨_,rfl⟩
 refine LW.joinF 7 ((4,.bool (y9))::[(2,.pointer (some ⟨b2,0,none⟩)),(3,.pointer (some ⟨b3,0,none⟩))]) ?_ ?_
 rotate_left
 ·rw [hy9]
  clear hy9 hy8 hy7 hy6 hy5 hy4 hy3 hy2 hy1 hy0
  cases y8
  ·((iterate 5 refine gFz ?_);refine pFz<|vAz ?_;apply zV)
   exact joinI ⟨getB rfl (by (rfl)),rfl,rfl,trivial⟩ (qM _)
  ·(refine gTz<|vFz<|gTz<|ldz rfl (.tail .head) fr_rd2<|gTz<|vFz<|gTz<|ldz rfl .head fr_rd2<|gTz ?_;apply zS;rfl;rfl;infer_instance;exact .cons rfl (.cons rfl .nil);intro w _;exact hq9 w (by assumption);refine pTz<|vAz ?_;apply zV)
   exact joinI ⟨getB rfl (by (rfl)),rfl,rfl,trivial⟩ (qM _)
 have hfin:y9=decide (sameF ⟨.slice p0 L.cl.length c0,pc,.slice p2 L.ws.length c2,.slice p3 L.ms.length c3,gas,self,frm,val,.slice p11 L.il.length c11,.slice p12 L.bl.length c12,stat⟩ L ⟨.slice r0 M.cl.length d0,pc',.slice r2 M.ws.length d2,.slice r3 M.ms.length d3,gas',self',frm',val',.slice r11 M.il.length d11,.slice r12 M.bl.length d12,stat'⟩ M):=by
  rw [Bool.eq_iff_iff]
  simp only [hy9,hy8,hy7,hy6,hy5,hy4,hy3,hy2,hy1,hy0,Bool.and_eq_true,decide_eq_true_eq]
  unfold sameF
  dsimp only
  exact ⟨fun ⟨⟨⟨⟨⟨⟨⟨⟨⟨e0,e1⟩,e2⟩,e3⟩,e4⟩,e5⟩,e6⟩,e7⟩,e8⟩,e9⟩=>⟨e0,e1,e2,e3,e4,e5,e6,e7,e8,e9⟩,fun ⟨e0,e1,e2,e3,e4,e5,e6,e7,e8,e9⟩=>⟨⟨⟨⟨⟨⟨⟨⟨⟨e0,e1⟩,e2⟩,e3⟩,e4⟩,e5⟩,e6⟩,e7⟩,e8⟩,e9⟩⟩
 rw [← hfin]
 (refine nNz<|zK ?_)
 (apply finR;exact .inl rfl;rfl;rfl;rfl;apply zD;exact zG rfl;exact zF)
 rfl
theorem rfSame_calls (f g:FrV) (L M:FrL) (hf:FrNum f L) (hg:FrNum g M) (w:World) (h:FrRows w f L) (h':FrRows w g M):Calls Tryz.prog 12 #[frv f,frv g] w (Ret w (.bool (decide (sameF f L g M)))):=by
 have hww:=hf.ws
 have hwm:=hg.ws
 have hv1:=hf.val
 have hv2:=hg.val
 obtain ⟨code,pc,stk,mem,gas,self,frm,val,inp,back,stat⟩:=f
 obtain ⟨code',pc',stk',mem',gas',self',frm',val',inp',back',stat'⟩:=g
 obtain ⟨h0,h2,h3,h11,h12⟩:=h
 obtain ⟨k0,k2,k3,k11,k12⟩:=h'
 dsimp only at h0 h2 h3 h11 h12 k0 k2 k3 k11 k12 hv1 hv2
 obtain ⟨p0,c0,rfl,_,_⟩:=id h0.form
 obtain ⟨p2,c2,rfl,_,_⟩:=id h2.form
 obtain ⟨p3,c3,rfl,_,_⟩:=id h3.form
 obtain ⟨p11,c11,rfl,_,_⟩:=id h11.form
 obtain ⟨p12,c12,rfl,_,_⟩:=id h12.form
 obtain ⟨r0,d0,rfl,_,_⟩:=id k0.form
 obtain ⟨r2,d2,rfl,_,_⟩:=id k2.form
 obtain ⟨r3,d3,rfl,_,_⟩:=id k3.form
 obtain ⟨r11,d11,rfl,_,_⟩:=id k11.form
 obtain ⟨r12,d12,rfl,_,_⟩:=id k12.form
 have hq6:=fun w' {fs:Fs} (hst:St w [] fs w')=>rSame1_calls L.cl M.cl _ _ w' (h0.st hst) (k0.st hst)
 have hq7:=fun w' {fs:Fs} (hst:St w [] fs w')=>rSame1_calls L.il M.il _ _ w' (h11.st hst) (k11.st hst)
 have hq8:=fun w' {fs:Fs} (hst:St w [] fs w')=>rSame1_calls L.bl M.bl _ _ w' (h12.st hst) (k12.st hst)
 have hq9:=fun w' {fs:Fs} (hst:St w [] fs w')=>rScSame_calls L.ws M.ws L.ms M.ms hww hwm _ _ _ _ w' (h2.st hst) (k2.st hst) (h3.st hst) (k3.st hst)
 refine enter (args:=[_,_]) _ [] [] Tryz.func12 rfl Tryz.ntmps12 rfl (by simp) .nil ?_
 (refine sRz ?_;apply zT;rfl;rfl;intro _;apply zT;rfl;rfl;intro _;refine vAz<|nNz<|zI<|sRz<|vFz<|ldz rfl (.tail .head) fr_rd1<|vFz<|ldz rfl .head fr_rd1<|lvz (.ne rfl rfl)<|vMz ?_)
 rename_i b2 b3
 obtain ⟨y0,hy0⟩:∃ c:Bool,c=decide (pc=pc'):=⟨_,rfl⟩
 refine LW.joinF 0 ((10,.bool (!y0))::[(2,.pointer (some ⟨b2,0,none⟩)),(3,.pointer (some ⟨b3,0,none⟩))]) ?_ ?_
 rotate_left
 ·rw [hy0]
  (apply zV)
  exact joinI ⟨getB rfl (by (rfl)),rfl,rfl,trivial⟩ (qM _)
 obtain ⟨y1,hy1⟩:∃ c:Bool,c=(y0 && decide (gas=gas')):=⟨_,rfl⟩
 refine LW.joinF 7 ((17,.bool (!y1))::[(2,.pointer (some ⟨b2,0,none⟩)),(3,.pointer (some ⟨b3,0,none⟩))]) ?_ ?_
 rotate_left
 ·rw [hy1]
  clear hy1 hy0
  cases y0
  ·((iterate 5 refine gFrz ?_);apply LW.v0;rfl;rfl;apply ValP.pickT';rfl;simp only [Bool.not_true,Bool.not_false];rfl;refine vMz ?_;apply zV)
   exact joinI ⟨getB rfl (by (rfl)),rfl,rfl,trivial⟩ (qM _)
  ·(refine gTsz<|vFz<|gTsz<|ldz rfl (.tail .head) fr_rd4<|gTsz<|vFz<|gTsz<|ldz rfl .head fr_rd4<|gTsz<|lvz (.ne rfl rfl) ?_;apply LW.v0;rfl;rfl;apply ValP.pickF';rfl;simp only [Bool.not_true,Bool.not_false];rfl;refine vMz ?_;apply zV)
   exact joinI ⟨getB rfl (by (exact congrArg not (decide_eq_decide.2 Int.ofNat_inj))),rfl,rfl,trivial⟩ (qM _)
 obtain ⟨y2,hy2⟩:∃ c:Bool,c=(y1 && decide (self=self')):=⟨_,rfl⟩
 refine LW.joinF 7 ((24,.bool (!y2))::[(2,.pointer (some ⟨b2,0,none⟩)),(3,.pointer (some ⟨b3,0,none⟩))]) ?_ ?_
 rotate_left
 ·rw [hy2]
  clear hy2 hy1 hy0
  cases y1
  ·((iterate 5 refine gFrz ?_);apply LW.v0;rfl;rfl;apply ValP.pickT';rfl;simp only [Bool.not_true,Bool.not_false];rfl;refine vMz ?_;apply zV)
   exact joinI ⟨getB rfl (by (rfl)),rfl,rfl,trivial⟩ (qM _)
  ·(refine gTsz<|vFz<|gTsz<|ldz rfl (.tail .head) fr_rd5<|gTsz<|vFz<|gTsz<|ldz rfl .head fr_rd5<|gTsz<|lvz (.ne rfl rfl) ?_;apply LW.v0;rfl;rfl;apply ValP.pickF';rfl;simp only [Bool.not_true,Bool.not_false];rfl;refine vMz ?_;apply zV)
   exact joinI ⟨getB rfl (by (exact congrArg not (decide_eq_decide.2 Int.ofNat_inj))),rfl,rfl,trivial⟩ (qM _)
 obtain ⟨y3,hy3⟩:∃ c:Bool,c=(y2 && decide (frm=frm')):=⟨_,rfl⟩
 refine LW.joinF 7 ((31,.bool (!y3))::[(2,.pointer (some ⟨b2,0,none⟩)),(3,.pointer (some ⟨b3,0,none⟩))]) ?_ ?_
 rotate_left
 ·rw [hy3]
  clear hy3 hy2 hy1 hy0
  cases y2
  ·((iterate 5 refine gFrz ?_);apply LW.v0;rfl;rfl;apply ValP.pickT';rfl;simp only [Bool.not_true,Bool.not_false];rfl;refine vMz ?_;apply zV)
   exact joinI ⟨getB rfl (by (rfl)),rfl,rfl,trivial⟩ (qM _)
  ·(refine gTsz<|vFz<|gTsz<|ldz rfl (.tail .head) fr_rd6<|gTsz<|vFz<|gTsz<|ldz rfl .head fr_rd6<|gTsz<|lvz (.ne rfl rfl) ?_;apply LW.v0;rfl;rfl;apply ValP.pickF';rfl;simp only [Bool.not_true,Bool.not_false];rfl;refine vMz ?_;apply zV)
   exact joinI ⟨getB rfl (by (exact congrArg not (decide_eq_decide.2 Int.ofNat_inj))),rfl,rfl,trivial⟩ (qM _)
 obtain ⟨y4,hy4⟩:∃ c:Bool,c=(y3 && decide (val=val')):=⟨_,rfl⟩
 refine LW.joinF 7 ((38,.bool (!y4))::[(2,.pointer (some ⟨b2,0,none⟩)),(3,.pointer (some ⟨b3,0,none⟩))]) ?_ ?_
 rotate_left
 ·rw [hy4]
  clear hy4 hy3 hy2 hy1 hy0
  cases y3
  ·((iterate 5 refine gFrz ?_);apply LW.v0;rfl;rfl;apply ValP.pickT';rfl;simp only [Bool.not_true,Bool.not_false];rfl;refine vMz ?_;apply zV)
   exact joinI ⟨getB rfl (by (rfl)),rfl,rfl,trivial⟩ (qM _)
  ·(refine gTsz<|vFz<|gTsz<|ldz rfl (.tail .head) fr_rd7<|gTsz<|vFz<|gTsz<|ldz rfl .head fr_rd7<|gTsz ?_;refine lvz (.neW rfl rfl (by assumption) (by assumption)) ?_;apply LW.v0;rfl;rfl;apply ValP.pickF';rfl;simp only [Bool.not_true,Bool.not_false];rfl;refine vMz ?_;apply zV)
   exact joinI ⟨getB rfl (by (rfl)),rfl,rfl,trivial⟩ (qM _)
 obtain ⟨y5,hy5⟩:∃ c:Bool,c=(y4 && decide (stat=stat')):=⟨_,rfl⟩
 refine LW.joinF 6 ((44,.bool (!y5))::[(2,.pointer (some ⟨b2,0,none⟩)),(3,.pointer (some ⟨b3,0,none⟩))]) ?_ ?_
 rotate_left
 ·rw [hy5]
  clear hy5 hy4 hy3 hy2 hy1 hy0
  cases y4
  ·((iterate 5 refine gFrz ?_);apply LW.v0;rfl;rfl;apply ValP.pickT';rfl;simp only [Bool.not_true,Bool.not_false];rfl;apply zV)
   exact joinI ⟨getB rfl (by (rfl)),rfl,rfl,trivial⟩ (qM _)
  ·(refine gTsz<|vFz<|gTsz<|ldz rfl (.tail .head) fr_rd13<|gTsz<|vFz<|gTsz<|ldz rfl .head fr_rd13<|gTsz<|lvz (.boolNe rfl rfl) ?_;apply LW.v0;rfl;rfl;apply ValP.pickF';rfl;simp only [Bool.not_true,Bool.not_false];rfl;apply zV)
   exact joinI ⟨getB rfl (by (rfl)),rfl,rfl,trivial⟩ (qM _)
 cases hyy:y5
 ·rw [show decide (sameF ⟨.slice p0 L.cl.length c0,pc,.slice p2 L.ws.length c2,.slice p3 L.ms.length c3,gas,self,frm,val,.slice p11 L.il.length c11,.slice p12 L.bl.length c12,stat⟩ L ⟨.slice r0 M.cl.length d0,pc',.slice r2 M.ws.length d2,.slice r3 M.ms.length d3,gas',self',frm',val',.slice r11 M.il.length d11,.slice r12 M.bl.length d12,stat'⟩ M)=false from decide_eq_false fun h=>by unfold sameF at h;dsimp only at h;obtain ⟨e0,e1,e2,e3,e4,e5,e6,e7,e8,e9⟩:=h;simp [hy5,hy4,hy3,hy2,hy1,hy0,e0,e1,e2,e3,e4,e5] at hyy]
  (refine nNz ?_;apply CW.condT;rfl;simp only [Bool.not_true,Bool.not_false];refine sRz<|vAz<|nNz<|zK<|thenR ?_)
  (apply finR;exact .inl rfl;rfl;rfl;rfl;apply zD;exact zG rfl;exact zF)
  rfl
 simp only [hy5,hy4,hy3,hy2,hy1,hy0,Bool.and_eq_true,decide_eq_true_eq] at hyy
 obtain ⟨⟨⟨⟨⟨e0,e1⟩,e2⟩,e3⟩,e4⟩,e5⟩:=hyy
 (refine nNz ?_;apply CW.condF;rfl;simp only [Bool.not_true,Bool.not_false];refine zJ<|thenN<|sRz<|vFz<|ldz rfl (.tail .head) fr_rd0<|vFz<|ldz rfl .head fr_rd0 ?_;apply zS;rfl;rfl;infer_instance;exact .cons rfl (.cons rfl .nil);intro w _;exact hq6 w (by assumption);refine vMz ?_)
 obtain ⟨y6,hy6⟩:∃ c:Bool,c=decide (L.cl=M.cl):=⟨_,rfl⟩
 refine LW.joinF 0 ((50,.bool (y6))::[(2,.pointer (some ⟨b2,0,none⟩)),(3,.pointer (some ⟨b3,0,none⟩))]) ?_ ?_
 rotate_left
 ·rw [hy6]
  (apply zV)
  exact joinI ⟨getB rfl (by (rfl)),rfl,rfl,trivial⟩ (qM _)
 obtain ⟨y7,hy7⟩:∃ c:Bool,c=(y6 && decide (L.il=M.il)):=⟨_,rfl⟩
 refine LW.joinF 7 ((57,.bool (y7))::[(2,.pointer (some ⟨b2,0,none⟩)),(3,.pointer (some ⟨b3,0,none⟩))]) ?_ ?_
 rotate_left
 ·rw [hy7]
  clear hy7 hy6 hy5 hy4 hy3 hy2 hy1 hy0
  cases y6
  ·((iterate 5 refine gFz ?_);refine pFz<|vMz ?_;apply zV)
   exact joinI ⟨getB rfl (by (rfl)),rfl,rfl,trivial⟩ (qM _)
  ·(refine gTz<|vFz<|gTz<|ldz rfl (.tail .head) fr_rd11<|gTz<|vFz<|gTz<|ldz rfl .head fr_rd11<|gTz ?_;apply zS;rfl;rfl;infer_instance;exact .cons rfl (.cons rfl .nil);intro w _;exact hq7 w (by assumption);refine pTz<|vMz ?_;apply zV)
   exact joinI ⟨getB rfl (by (rfl)),rfl,rfl,trivial⟩ (qM _)
 obtain ⟨y8,hy8⟩:∃ c:Bool,c=(y7 && decide (L.bl=M.bl)):=⟨_,rfl⟩
 refine LW.joinF 7 ((64,.bool (y8))::[(2,.pointer (some ⟨b2,0,none⟩)),(3,.pointer (some ⟨b3,0,none⟩))]) ?_ ?_
 rotate_left
 ·rw [hy8]
  clear hy8 hy7 hy6 hy5 hy4 hy3 hy2 hy1 hy0
  cases y7
  ·((iterate 5 refine gFz ?_);refine pFz<|vMz ?_;apply zV)
   exact joinI ⟨getB rfl (by (rfl)),rfl,rfl,trivial⟩ (qM _)
  ·(refine gTz<|vFz<|gTz<|ldz rfl (.tail .head) fr_rd12<|gTz<|vFz<|gTz<|ldz rfl .head fr_rd12<|gTz ?_;apply zS;rfl;rfl;infer_instance;exact .cons rfl (.cons rfl .nil);intro w _;exact hq8 w (by assumption);refine pTz<|vMz ?_;apply zV)
   exact joinI ⟨getB rfl (by (rfl)),rfl,rfl,trivial⟩ (qM _)
 obtain ⟨y9,hy9⟩:∃ c:Bool,c=(y8 && decide (L.ws=M.ws∧L.ms=M.ms)):=⟨_,rfl⟩
 refine LW.joinF 7 ((4,.bool (y9))::[(2,.pointer (some ⟨b2,0,none⟩)),(3,.pointer (some ⟨b3,0,none⟩))]) ?_ ?_
 rotate_left
 ·rw [hy9]
  clear hy9 hy8 hy7 hy6 hy5 hy4 hy3 hy2 hy1 hy0
  cases y8
  ·((iterate 5 refine gFz ?_);refine pFz<|vAz ?_;apply zV)
   exact joinI ⟨getB rfl (by (rfl)),rfl,rfl,trivial⟩ (qM _)
  ·(refine gTz<|vFz<|gTz<|ldz rfl (.tail .head) fr_rd2<|gTz<|vFz<|gTz<|ldz rfl .head fr_rd2<|gTz ?_;apply zS;rfl;rfl;infer_instance;exact .cons rfl (.cons rfl .nil);intro w _;exact hq9 w (by assumption);refine pTz<|vAz ?_;apply zV)
   exact joinI ⟨getB rfl (by (rfl)),rfl,rfl,trivial⟩ (qM _)
 have hfin:y9=decide (sameF ⟨.slice p0 L.cl.length c0,pc,.slice p2 L.ws.length c2,.slice p3 L.ms.length c3,gas,self,frm,val,.slice p11 L.il.length c11,.slice p12 L.bl.length c12,stat⟩ L ⟨.slice r0 M.cl.length d0,pc',.slice r2 M.ws.length d2,.slice r3 M.ms.length d3,gas',self',frm',val',.slice r11 M.il.length d11,.slice r12 M.bl.length d12,stat'⟩ M):=by
  rw [Bool.eq_iff_iff]
  simp only [hy9,hy8,hy7,hy6,Bool.and_eq_true,decide_eq_true_eq]
  unfold sameF
  dsimp only
  exact ⟨fun ⟨⟨⟨e6,e7⟩,e8⟩,e9⟩=>⟨e0,e1,e2,e3,e4,e5,e6,e7,e8,e9⟩,fun ⟨e0,e1,e2,e3,e4,e5,e6,e7,e8,e9⟩=>⟨⟨⟨e6,e7⟩,e8⟩,e9⟩⟩
 rw [← hfin]
 (refine nNz<|zK ?_)
 (apply finR;exact .inl rfl;rfl;rfl;rfl;apply zD;exact zG rfl;exact zF)
 rfl
section
open CK (readB)
theorem rScRight_calls (p q:Option Addr) (n c k d:Nat) (hn1:n≤maxLen) (hk1:k≤maxLen) (w:World):Calls Tryz.prog 44 #[.agg #[.slice p n c,.slice q k d]] w (Ret w (.bool (decide (okSc n k)))):=by
 obtain ⟨e,he⟩:∃ e:Bool,e=decide (okSc n k):=⟨_,rfl⟩
 have hp:okSc n k→e=true:=fun h=>by rw [he,decide_eq_true h]
 have hn:¬ okSc n k→e=false:=fun h=>by rw [he,decide_eq_false h]
 rw [← he]
 clear he
 unfold okSc at hp hn
 refine enter (args:=[_]) _ [] [] Tryz.func44 rfl Tryz.ntmps44 rfl (by simp) .nil ?_
 by_cases hz:k % 32=0
 ·(refine sRz ?_;apply zT;rfl;rfl;intro _;refine vAz<|nSz<|vFz<|ldz rfl .head sc_rd0<|lvz (.lenR rfl inferInstance rfl)<|lvz (.leq rfl rfl)<|vMz ?_)
  (refine LW.guardDT rfl rfl rfl (fun hsq hsp=>?_) (fun hsq hsp=>?_))
  (refine vFz<|gTaz<|ldz rfl .head sc_rd1<|gTaz<|lvz (.lenR rfl inferInstance rfl)<|gTaz<|lvz (.leq rfl rfl)<|pTaz<|vMz ?_;refine LW.guardDT rfl rfl rfl (fun hsq hsp=>?_) (fun hsq hsp=>?_);refine vFz<|gTaz<|ldz rfl .head sc_rd1<|gTaz<|lvz (.lenR rfl inferInstance rfl)<|gTaz ?_;refine lvz (.remZL rfl rfl (by decide) (by omega)) ?_;refine gTaz ?_;refine lvz (.eqT rfl rfl (by omega)) ?_;refine pTaz<|vAz<|nNz<|zK ?_;apply finR;exact .inl rfl;rfl;rfl;rfl;apply zD;exact zG rfl;exact zF;rw [hp (by omega)];rfl;(iterate 4 refine gFaz ?_);refine pFaz<|vAz<|nNz<|zK ?_;apply finR;exact .inl rfl;rfl;rfl;rfl;apply zD;exact zG rfl;exact zF;rw [hn (by omega)];rfl;(iterate 3 refine gFaz ?_);refine pFaz<|vMz ?_;(iterate 5 refine gFz ?_);refine pFz<|vAz<|nNz<|zK ?_;apply finR;exact .inl rfl;rfl;rfl;rfl;apply zD;exact zG rfl;exact zF;rw [hn (by omega)];rfl)
 ·(refine sRz ?_;apply zT;rfl;rfl;intro _;refine vAz<|nSz<|vFz<|ldz rfl .head sc_rd0<|lvz (.lenR rfl inferInstance rfl)<|lvz (.leq rfl rfl)<|vMz ?_)
  (refine LW.guardDT rfl rfl rfl (fun hsq hsp=>?_) (fun hsq hsp=>?_))
  (refine vFz<|gTaz<|ldz rfl .head sc_rd1<|gTaz<|lvz (.lenR rfl inferInstance rfl)<|gTaz<|lvz (.leq rfl rfl)<|pTaz<|vMz ?_;refine LW.guardDT rfl rfl rfl (fun hsq hsp=>?_) (fun hsq hsp=>?_);refine vFz<|gTaz<|ldz rfl .head sc_rd1<|gTaz<|lvz (.lenR rfl inferInstance rfl)<|gTaz ?_;refine lvz (.remZL rfl rfl (by decide) (by omega)) ?_;refine gTaz ?_;refine lvz (.eqF rfl rfl (by omega)) ?_;refine pTaz<|vAz<|nNz<|zK ?_;apply finR;exact .inl rfl;rfl;rfl;rfl;apply zD;exact zG rfl;exact zF;rw [hn (by omega)];rfl;(iterate 4 refine gFaz ?_);refine pFaz<|vAz<|nNz<|zK ?_;apply finR;exact .inl rfl;rfl;rfl;rfl;apply zD;exact zG rfl;exact zF;rw [hn (by omega)];rfl;(iterate 3 refine gFaz ?_);refine pFaz<|vMz ?_;(iterate 5 refine gFz ?_);refine pFz<|vAz<|nNz<|zK ?_;apply finR;exact .inl rfl;rfl;rfl;rfl;apply zD;exact zG rfl;exact zF;rw [hn (by omega)];rfl)
theorem rfRight_calls (f:FrV) (L:FrL) (w:World) (h:FrRows w f L):Calls Tryz.prog 11 #[frv f] w (Ret w (.bool (decide (okF f L)))):=by
 obtain ⟨e,he⟩:∃ e:Bool,e=decide (okF f L):=⟨_,rfl⟩
 have hp:okF f L→e=true:=fun h=>by rw [he,decide_eq_true h]
 have hn:¬ okF f L→e=false:=fun h=>by rw [he,decide_eq_false h]
 rw [← he]
 clear he
 unfold okF at hp hn
 obtain ⟨code,pc,stk,mem,gas,self,frm,val,inp,back,stat⟩:=f
 obtain ⟨h0,h2,h3,h11,h12⟩:=h
 dsimp only at h0 h2 h3 h11 h12 hp hn
 obtain ⟨p0,c0,rfl,_,hm0⟩:=h0.form
 obtain ⟨p2,c2,rfl,_,hm2⟩:=h2.form
 obtain ⟨p3,c3,rfl,_,hm3⟩:=h3.form
 obtain ⟨p11,c11,rfl,_,hm11⟩:=h11.form
 obtain ⟨p12,c12,rfl,_,hm12⟩:=h12.form
 have hS0:=rScRight_calls p2 p3 L.ws.length c2 L.ms.length c3 (by omega) (by omega)
 have hC0:∀ w' {fs},St w [] fs w'→Calls Tryz.prog 43 #[.slice p0 L.cl.length c0] w' (Ret w' (.bool (decide (L.cl.length≤200)))):=fun w' fs hst=>CK.Right_calls _ _ _ w' (h0.st hst)
 simp only [maxLen] at hm0 hm2 hm3 hm11 hm12
 refine enter (args:=[_]) _ [] [] Tryz.func11 rfl Tryz.ntmps11 rfl (by simp) .nil ?_
 by_cases hc:L.cl.length≤200
 ·have hRd0:∀ w' {fs},St w [] fs w'→Calls Tryz.prog 45 #[.slice p0 L.cl.length c0,.int .i64 pc] w' (Ret w' (.bool (readB L.cl pc))):=fun w' fs hst=>CK.Read_calls _ (by omega) _ _ w' (h0.st hst)
  rw [decide_eq_true hc] at hC0
  have hC:∀ w' {fs},St w [] fs w'→Calls Tryz.prog 43 #[.slice p0 L.cl.length c0] w' (Ret w' (.bool true)):=hC0
  by_cases hs:okSc L.ws.length L.ms.length
  ·rw [decide_eq_true hs] at hS0
   have hS:∀ w',Calls Tryz.prog 44 #[.agg #[.slice p2 L.ws.length c2,.slice p3 L.ms.length c3]] w' (Ret w' (.bool true)):=hS0
   simp only [hs,true_and] at hp hn
   by_cases hpc:pc=(L.cl.length:Int)
   ·simp only [hpc,true_or,and_true] at hp hn
    subst hpc
    (refine sRz ?_;apply zT;rfl;rfl;intro _;refine vAz<|nNz<|zI<|sRz<|vFz<|ldz rfl .head fr_rd0 ?_;apply zS;rfl;rfl;infer_instance;exact .cons rfl .nil;intro w _;exact hC w (by assumption);refine lvz (.notT rfl (by with_reducible rfl)) ?_;refine vMz<|gTz<|vFz<|gTz<|ldz rfl .head fr_rd2<|gTz ?_;apply zS;rfl;rfl;infer_instance;exact .cons rfl .nil;intro w _;exact hS w;refine gTz ?_;refine lvz (.notT rfl (by with_reducible rfl)) ?_;refine pFz<|vMz<|gTz<|vFz<|gTz<|ldz rfl .head fr_rd4<|gTz<|lvz (.gtr rfl rfl)<|pFz<|vMz ?_)
    (refine LW.guardDF rfl rfl rfl (fun hsq hsp=>?_) (fun hsq hsp=>?_))
    (refine vFz<|gTaz<|ldz rfl .head fr_rd5<|gTaz<|lvz (.eq rfl rfl)<|pFaz<|nNz ?_;refine CW.condD rfl (fun hsq hsp=>?_) (fun hsq hsp=>?_);refine sRz<|vAz<|nNz<|zK ?_;refine thenR (finR (.inl rfl) rfl rfl rfl (.cons (.tmp rfl) .nil) ?_);rw [hn (by omega)];rfl;refine zJ<|thenN<|zI<|sRz<|vFz<|ldz rfl .head fr_rd11<|lvz (.lenR rfl inferInstance rfl)<|lvz (.gtr rfl rfl)<|vMz ?_;refine LW.guardDF rfl rfl rfl (fun hsq hsp=>?_) (fun hsq hsp=>?_);refine vFz<|gTaz<|ldz rfl .head fr_rd12<|gTaz<|lvz (.lenR rfl inferInstance rfl)<|gTaz<|lvz (.gtr rfl rfl)<|pFaz<|nNz ?_;refine CW.condD rfl (fun hsq hsp=>?_) (fun hsq hsp=>?_);refine sRz<|vAz<|nNz<|zK ?_;refine thenR (finR (.inl rfl) rfl rfl rfl (.cons (.tmp rfl) .nil) ?_);rw [hn (by omega)];rfl;refine zJ<|thenN<|sRz<|vFz<|ldz rfl .head fr_rd1<|vFz<|ldz rfl .head fr_rd0<|lvz (.lenR rfl inferInstance rfl) ?_;refine lvz (.eqT rfl rfl (by omega)) ?_;refine vMz ?_;(iterate 5 refine gFz ?_);refine pTz<|vAz<|nNz<|zK ?_;apply finR;exact .inl rfl;rfl;rfl;rfl;apply zD;exact zG rfl;exact zF;rw [hp (by omega)];rfl;(iterate 3 refine gFaz ?_);refine pTaz<|nNz<|cTz<|sRz<|vAz<|nNz<|zK ?_;refine thenR (finR (.inl rfl) rfl rfl rfl (.cons (.tmp rfl) .nil) ?_);rw [hn (by omega)];rfl;refine gFaz<|gFaz<|pTaz<|nNz<|cTz<|sRz<|vAz<|nNz<|zK ?_;refine thenR (finR (.inl rfl) rfl rfl rfl (.cons (.tmp rfl) .nil) ?_);rw [hn (by omega)];rfl)
   ·cases hr:readB L.cl pc with
    |true =>
     rw [hr] at hRd0 hp hn
     have hRd:∀ w' {fs},St w [] fs w'→Calls Tryz.prog 45 #[.slice p0 L.cl.length c0,.int .i64 pc] w' (Ret w' (.bool true)):=hRd0
     simp only [or_true,and_true] at hp hn
     (refine sRz ?_;apply zT;rfl;rfl;intro _;refine vAz<|nNz<|zI<|sRz<|vFz<|ldz rfl .head fr_rd0 ?_;apply zS;rfl;rfl;infer_instance;exact .cons rfl .nil;intro w _;exact hC w (by assumption);refine lvz (.notT rfl (by with_reducible rfl)) ?_;refine vMz<|gTz<|vFz<|gTz<|ldz rfl .head fr_rd2<|gTz ?_;apply zS;rfl;rfl;infer_instance;exact .cons rfl .nil;intro w _;exact hS w;refine gTz ?_;refine lvz (.notT rfl (by with_reducible rfl)) ?_;refine pFz<|vMz<|gTz<|vFz<|gTz<|ldz rfl .head fr_rd4<|gTz<|lvz (.gtr rfl rfl)<|pFz<|vMz ?_)
     (refine LW.guardDF rfl rfl rfl (fun hsq hsp=>?_) (fun hsq hsp=>?_))
     (refine vFz<|gTaz<|ldz rfl .head fr_rd5<|gTaz<|lvz (.eq rfl rfl)<|pFaz<|nNz ?_;refine CW.condD rfl (fun hsq hsp=>?_) (fun hsq hsp=>?_);refine sRz<|vAz<|nNz<|zK ?_;refine thenR (finR (.inl rfl) rfl rfl rfl (.cons (.tmp rfl) .nil) ?_);rw [hn (by omega)];rfl;refine zJ<|thenN<|zI<|sRz<|vFz<|ldz rfl .head fr_rd11<|lvz (.lenR rfl inferInstance rfl)<|lvz (.gtr rfl rfl)<|vMz ?_;refine LW.guardDF rfl rfl rfl (fun hsq hsp=>?_) (fun hsq hsp=>?_);refine vFz<|gTaz<|ldz rfl .head fr_rd12<|gTaz<|lvz (.lenR rfl inferInstance rfl)<|gTaz<|lvz (.gtr rfl rfl)<|pFaz<|nNz ?_;refine CW.condD rfl (fun hsq hsp=>?_) (fun hsq hsp=>?_);refine sRz<|vAz<|nNz<|zK ?_;refine thenR (finR (.inl rfl) rfl rfl rfl (.cons (.tmp rfl) .nil) ?_);rw [hn (by omega)];rfl;refine zJ<|thenN<|sRz<|vFz<|ldz rfl .head fr_rd1<|vFz<|ldz rfl .head fr_rd0<|lvz (.lenR rfl inferInstance rfl) ?_;refine lvz (.eqF rfl rfl (by omega)) ?_;refine vMz<|gTz<|vFz<|gTz<|ldz rfl .head fr_rd0<|gTz<|vFz<|gTz<|ldz rfl .head fr_rd1<|gTz ?_;apply zS;rfl;rfl;infer_instance;exact .cons rfl (.cons rfl .nil);intro w _;exact hRd w (by assumption);refine pFz<|vAz<|nNz<|zK ?_;apply finR;exact .inl rfl;rfl;rfl;rfl;apply zD;exact zG rfl;exact zF;rw [hp (by omega)];rfl;(iterate 3 refine gFaz ?_);refine pTaz<|nNz<|cTz<|sRz<|vAz<|nNz<|zK ?_;refine thenR (finR (.inl rfl) rfl rfl rfl (.cons (.tmp rfl) .nil) ?_);rw [hn (by omega)];rfl;refine gFaz<|gFaz<|pTaz<|nNz<|cTz<|sRz<|vAz<|nNz<|zK ?_;refine thenR (finR (.inl rfl) rfl rfl rfl (.cons (.tmp rfl) .nil) ?_);rw [hn (by omega)];rfl)
    |false =>
     rw [hr] at hRd0 hp hn
     have hRd:∀ w' {fs},St w [] fs w'→Calls Tryz.prog 45 #[.slice p0 L.cl.length c0,.int .i64 pc] w' (Ret w' (.bool false)):=hRd0
     simp only [Bool.false_eq_true,or_false] at hp hn
     (refine sRz ?_;apply zT;rfl;rfl;intro _;refine vAz<|nNz<|zI<|sRz<|vFz<|ldz rfl .head fr_rd0 ?_;apply zS;rfl;rfl;infer_instance;exact .cons rfl .nil;intro w _;exact hC w (by assumption);refine lvz (.notT rfl (by with_reducible rfl)) ?_;refine vMz<|gTz<|vFz<|gTz<|ldz rfl .head fr_rd2<|gTz ?_;apply zS;rfl;rfl;infer_instance;exact .cons rfl .nil;intro w _;exact hS w;refine gTz ?_;refine lvz (.notT rfl (by with_reducible rfl)) ?_;refine pFz<|vMz<|gTz<|vFz<|gTz<|ldz rfl .head fr_rd4<|gTz<|lvz (.gtr rfl rfl)<|pFz<|vMz ?_)
     (refine LW.guardDF rfl rfl rfl (fun hsq hsp=>?_) (fun hsq hsp=>?_))
     (refine vFz<|gTaz<|ldz rfl .head fr_rd5<|gTaz<|lvz (.eq rfl rfl)<|pFaz<|nNz ?_;refine CW.condD rfl (fun hsq hsp=>?_) (fun hsq hsp=>?_);refine sRz<|vAz<|nNz<|zK ?_;refine thenR (finR (.inl rfl) rfl rfl rfl (.cons (.tmp rfl) .nil) ?_);rw [hn (by omega)];rfl;refine zJ<|thenN<|zI<|sRz<|vFz<|ldz rfl .head fr_rd11<|lvz (.lenR rfl inferInstance rfl)<|lvz (.gtr rfl rfl)<|vMz ?_;refine LW.guardDF rfl rfl rfl (fun hsq hsp=>?_) (fun hsq hsp=>?_);refine vFz<|gTaz<|ldz rfl .head fr_rd12<|gTaz<|lvz (.lenR rfl inferInstance rfl)<|gTaz<|lvz (.gtr rfl rfl)<|pFaz<|nNz ?_;refine CW.condD rfl (fun hsq hsp=>?_) (fun hsq hsp=>?_);refine sRz<|vAz<|nNz<|zK ?_;refine thenR (finR (.inl rfl) rfl rfl rfl (.cons (.tmp rfl) .nil) ?_);rw [hn (by omega)];rfl;refine zJ<|thenN<|sRz<|vFz<|ldz rfl .head fr_rd1<|vFz<|ldz rfl .head fr_rd0<|lvz (.lenR rfl inferInstance rfl) ?_;refine lvz (.eqF rfl rfl (by omega)) ?_;refine vMz<|gTz<|vFz<|gTz<|ldz rfl .head fr_rd0<|gTz<|vFz<|gTz<|ldz rfl .head fr_rd1<|gTz ?_;apply zS;rfl;rfl;infer_instance;exact .cons rfl (.cons rfl .nil);intro w _;exact hRd w (by assumption);refine pFz<|vAz<|nNz<|zK ?_;apply finR;exact .inl rfl;rfl;rfl;rfl;apply zD;exact zG rfl;exact zF;rw [hn (by omega)];rfl;(iterate 3 refine gFaz ?_);refine pTaz<|nNz<|cTz<|sRz<|vAz<|nNz<|zK ?_;refine thenR (finR (.inl rfl) rfl rfl rfl (.cons (.tmp rfl) .nil) ?_);rw [hn (by omega)];rfl;refine gFaz<|gFaz<|pTaz<|nNz<|cTz<|sRz<|vAz<|nNz<|zK ?_;refine thenR (finR (.inl rfl) rfl rfl rfl (.cons (.tmp rfl) .nil) ?_);rw [hn (by omega)];rfl)
  ·rw [decide_eq_false hs] at hS0
   have hS:∀ w',Calls Tryz.prog 44 #[.agg #[.slice p2 L.ws.length c2,.slice p3 L.ms.length c3]] w' (Ret w' (.bool false)):=hS0
   rw [hn (fun h=>hs h.2.2.2.1)] at *
   clear hp hn
   (refine sRz ?_;apply zT;rfl;rfl;intro _;refine vAz<|nNz<|zI<|sRz<|vFz<|ldz rfl .head fr_rd0 ?_;apply zS;rfl;rfl;infer_instance;exact .cons rfl .nil;intro w _;exact hC w (by assumption);refine lvz (.notT rfl (by with_reducible rfl)) ?_;refine vMz<|gTz<|vFz<|gTz<|ldz rfl .head fr_rd2<|gTz ?_;apply zS;rfl;rfl;infer_instance;exact .cons rfl .nil;intro w _;exact hS w;refine gTz ?_;refine lvz (.notF rfl (by with_reducible rfl)) ?_;refine pFz<|vMz ?_;(iterate 3 refine gFz ?_);refine pTz<|vMz ?_;(iterate 3 refine gFz ?_);refine pTz<|nNz<|cTz<|sRz<|vAz<|nNz<|zK<|thenR ?_)
   (apply finR;exact .inl rfl;rfl;rfl;rfl;apply zD;exact zG rfl;exact zF)
   rfl
 ·rw [decide_eq_false hc] at hC0
  have hC:∀ w' {fs},St w [] fs w'→Calls Tryz.prog 43 #[.slice p0 L.cl.length c0] w' (Ret w' (.bool false)):=hC0
  rw [hn (fun h=>hc h.2.2.1)] at *
  clear hp hn
  (refine sRz ?_;apply zT;rfl;rfl;intro _;refine vAz<|nNz<|zI<|sRz<|vFz<|ldz rfl .head fr_rd0 ?_;apply zS;rfl;rfl;infer_instance;exact .cons rfl .nil;intro w _;exact hC w (by assumption);refine lvz (.notF rfl (by with_reducible rfl)) ?_;refine vMz ?_;(iterate 4 refine gFz ?_);refine pTz<|vMz ?_;(iterate 3 refine gFz ?_);refine pTz<|vMz ?_;(iterate 3 refine gFz ?_);refine pTz<|nNz<|cTz<|sRz<|vAz<|nNz<|zK<|thenR ?_)
  (apply finR;exact .inl rfl;rfl;rfl;rfl;apply zD;exact zG rfl;exact zF)
  rfl
theorem IsRow.le {E:TypeId} {sz n n' c:Nat} {p:Option Addr} {xs:List Value} {seg:Fs} (h:IsRow E sz (.slice p n' c) n xs seg):n'≤c:=by
 cases h with
 |nil=>exact Nat.le_refl _
 |own hn _ _ _ _=>exact hn
end
end Go.Proofs.YtdeggbkbblfpoaaGreatDoor
namespace Go.Proofs.YtdeggbkbblfpoaaGreatDoor.SL
set_option linter.unusedVariables false
set_option linter.unusedSimpArgs false
open Go Go.RowKit
inductive MoreR:Ts→Ts→Prop
 |nil:MoreR [] []
 |cons {b:Nat} {o:Obj} {ws rs rs':List Nat} {r r':Ts} (h:∀ x∈rs,x∈rs') (t:MoreR r r'):MoreR ((b,o,ws,rs)::r) ((b,o,ws,rs')::r')
def markAll (k:Nat) (ts:Ts):Ts:=ts.map fun p=>(p.1,p.2.1,p.2.2.1,k::p.2.2.2)
theorem MoreR.keys {ts ts':Ts} (h:MoreR ts ts'):ts'.map (·.1)=ts.map (·.1):=by
 induction h with
 |nil=>rfl
 |cons _ _ ih=>simp [ih]
theorem MoreR.mem {ts ts':Ts} (h:MoreR ts ts'):∀ p'∈ts',∃ rs,(p'.1,p'.2.1,p'.2.2.1,rs)∈ts∧∀ x∈rs,x∈p'.2.2.2:=by
 induction h with
 |nil=>intro p hp;cases hp
 |@cons b o ws rs rs' r r' hx _ ih =>
  intro p hp
  rcases List.mem_cons.1 hp with rfl|hp
  ·exact ⟨rs,List.mem_cons_self,hx⟩
  ·obtain ⟨rs,h1,h2⟩:=ih p hp
   exact ⟨rs,qO _ h1,h2⟩
theorem MoreR.refl:∀ ts:Ts,MoreR ts ts
 |[]=>.nil
 |(b,o,ws,rs)::r=>.cons (fun _ h=>h) (MoreR.refl r)
theorem MoreR.mark {k:Nat}:∀ ts:Ts,MoreR ts (markAll k ts)
 |[]=>.nil
 |(b,o,ws,rs)::r=>.cons (fun _ h=>qO _ h) (MoreR.mark r)
theorem more_app:∀ (l:Ts) {ts ts':Ts},MoreR ts ts'→MoreR (l++ts) (l++ts')
 |[],_,_,h=>h
 |(b,o,ws,rs)::l,_,_,h=>.cons (fun _ h=>h) (more_app l h)
theorem fsOf_mark {k:Nat} (ts:Ts):fsOf (markAll k ts)=fsOf ts:=by simp [fsOf,markAll]
theorem DW.moreA {C:Cu} {ops:Array Oper} {μ:Mu} {Q:Post} {tl l:List Oper} {k:Nat} {e:Env} {ts ts':Ts} (hm:MoreR ts ts') (h:DW C ops μ Q tl l k e ts'):DW C ops μ Q tl l k e ts:=fun a φ tw tr ha hr hi=>by
 refine h a φ tw tr ha ⟨fun p hp=>?_,fun p hp j hj=>?_,fun p hp j hj=>?_,hr.old,hr.oldr,?_⟩ hi
 ·obtain ⟨rs,h1,_⟩:=hm.mem p hp
  exact hr.fsome (p.1,p.2.1,p.2.2.1,rs) h1
 ·obtain ⟨rs,h1,_⟩:=hm.mem p hp
  exact hr.ftw (p.1,p.2.1,p.2.2.1,rs) h1 j hj
 ·obtain ⟨rs,h1,h2⟩:=hm.mem p hp
  exact h2 _ (hr.ftr (p.1,p.2.1,p.2.2.1,rs) h1 j hj)
 ·have h1:(ts.map (·.1)).Pairwise (· ≠ ·):=List.pairwise_map.2 hr.nd
  rw [← hm.keys] at h1
  exact List.pairwise_map.1 h1
theorem read_one {ops:Array Oper} {k:Nat} {tsF:Ts}:∀ {ts:Ts},MoreR tsF ts→MoreR ts (markAll k tsF)→∀ {b:Nat} {o:Obj} {ws rs:List Nat},(b,o,ws,rs)∈tsF→ancB ops k ws=true→∃ ts',TRead ops k ts b o ts'∧MoreR tsF ts'∧MoreR ts' (markAll k tsF):=by
 induction tsF with
 |nil=>intro ts _ _ b o ws rs hm;cases hm
 |cons q r ih =>
  intro ts h0 h
  obtain ⟨qb,qo,qw,qr⟩:=q
  rw [show markAll k ((qb,qo,qw,qr)::r)=(qb,qo,qw,k::qr)::markAll k r from rfl] at h ⊢
  cases h with
  |@cons _ _ _ rs1 _ r1 _ hx ht =>
   cases h0 with
   |cons hy hu =>
    intro b o ws rs hm ha
    rcases List.mem_cons.1 hm with he|hm
    ·cases he
     exact ⟨_,.head ha,.cons (fun x hx'=>qO _ (hy x hx')) hu,.cons (fun x hx'=>by
      rcases List.mem_cons.1 hx' with rfl|h'
      ·exact List.mem_cons_self
      ·exact hx x h') ht⟩
    ·obtain ⟨ts',h1,h2,h3⟩:=ih hu ht hm ha
     exact ⟨_,.tail h1,.cons hy h2,.cons hx h3⟩
def Lie (C:Cu) (ops:Array Oper) (k:Nat) (ts:Ts) (p:Nat × Obj):Prop:=(∃ ws rs,(p.1,p.2,ws,rs)∈ts∧ancB ops k ws=true)∨(C.w0.heap[p.1]?=some p.2∧p.1 ∉ C.S)
theorem read_all {C:Cu} {ops:Array Oper} {k:Nat} {tsF:Ts}:∀ (us:Fs) {ts:Ts},MoreR tsF ts→MoreR ts (markAll k tsF)→(∀ p∈us,Lie C ops k tsF p)→∃ ts',ReadAll C ops k (us.map (·.1)) ts us ts'∧MoreR ts' (markAll k tsF)
 |[],ts,_,h,_=>⟨ts,.nil,h⟩
 |(b,o)::us,ts,h0,h,hl=>by
  rcases hl (b,o) List.mem_cons_self with ⟨ws,rs,h1,h2⟩|⟨h1,h2⟩
  ·obtain ⟨ts1,h4,h5,h6⟩:=read_one h0 h h1 h2
   obtain ⟨ts',h7,h8⟩:=read_all us h5 h6 fun p hp=>hl p (qO _ hp)
   exact ⟨ts',.own h4 h7,h8⟩
  ·obtain ⟨ts',h7,h8⟩:=read_all us h0 h fun p hp=>hl p (qO _ hp)
   exact ⟨ts',.ext h1 h2 h7,h8⟩
theorem markAll_nil {k:Nat}:markAll k []=[]:=rfl
theorem markAll_cons {k b:Nat} {o:Obj} {ws rs:List Nat} {r:Ts}:markAll k ((b,o,ws,rs)::r)=(b,o,ws,k::rs)::markAll k r:=rfl
theorem markAll_app {k:Nat} {l r:Ts}:markAll k (l++r)=markAll k l++markAll k r:=by simp [markAll]
theorem markAll_tsOf {k:Nat} {g:Fs}:markAll k (tsOf g)=tsTag [] [k] g:=by simp [markAll,tsOf,tsTag]
section dw
variable {C : Cu} {ops : Array Oper} {Q : Post} {tl rest : List Oper} {e : Env} {ts : Ts} {μ : Mu} {k d : Nat} {t : TypeId} {pos : String} {af : Array Edge} {g : Option (Nat × Bool)} {fo : Operand} {args : Array Operand} {tys : Array TypeId} {f : FuncId} {vs : List Value} (us : Fs)
theorem DW.callA {v:Value} (hk:ops[k]?=some ⟨some d,.call { callee:=.value fo,args:=args,argTypes:=tys },t,pos,af,g⟩) (hm:μ k=none)
  (hd:Nat.blt d C.N=true) (hg:WantT ops e g) (hf:e.ev fo=some (.func (.func f) #[] #[])) (hF:FnI C.P f) (ha:ArgsOk e args.toList vs) (hbl:vs.flatMap (blocksN 4)=us.map (·.1)) (hl:∀ p∈us,Lie C ops k ts p)
  (hc:∀ w,Bel C.w0.heap.size C.S C.w0 w→(∀ p∈us,w.heap[p.1]?=some p.2)→Calls C.P f vs.toArray w (Ret w v)) (kk:DW C ops μ Q tl rest (k+1) ((d,v)::e) (markAll k ts)) :
  DW C ops μ Q tl (⟨some d,.call { callee:=.value fo,args:=args,argTypes:=tys },t,pos,af,g⟩::rest) k e ts:=by
 obtain ⟨ts',h1,h2⟩:=read_all us (MoreR.refl ts) (MoreR.mark ts) hl
 rw [← hbl] at h1
 exact DW.callE hk hm hd hg hf hF ha (show _=vs.flatMap (blocksN 4) from rfl) h1 hc (DW.moreA h2 kk)
theorem DW.manyA {M:Rel1} (hk:ops[k]?=some ⟨some d,.call { callee:=.value fo,args:=args,argTypes:=tys },t,pos,af,g⟩) (hm:μ k=some (cst M,(false:Fl)))
  (hd:Nat.blt d C.N=true) (hg:WantT ops e g) (hf:e.ev fo=some (.func (.func f) #[] #[])) (hF:FnI C.P f) (ha:ArgsOk e args.toList vs) (hbl:vs.flatMap (blocksN 4)=us.map (·.1)) (hl:∀ p∈us,Lie C ops k ts p)
  (hc:∀ w,Bel C.w0.heap.size C.S C.w0 w→(∀ p∈us,w.heap[p.1]?=some p.2)→Calls C.P f vs.toArray w (RetG w [] M)) (kk:∀ v gs,M v gs→DW C ops μ Q tl rest (k+1) ((d,v)::e) (tsNew k gs++markAll k ts)) :
  DW C ops μ Q tl (⟨some d,.call { callee:=.value fo,args:=args,argTypes:=tys },t,pos,af,g⟩::rest) k e ts:=by
 obtain ⟨ts',h1,h2⟩:=read_all us (MoreR.refl ts) (MoreR.mark ts) hl
 rw [← hbl] at h1
 refine DW.manyE hk hm hd hg hf hF ha (show _=vs.flatMap (blocksN 4) from rfl) h1 hc fun v gs hM=>DW.moreA ?_ (kk v gs hM)
 exact (more_app _ h2)
end dw
end Go.Proofs.YtdeggbkbblfpoaaGreatDoor.SL
namespace Go.Proofs.YtdeggbkbblfpoaaGreatDoor
open Go Go.RowKit SL
set_option maxRecDepth 8000
set_option maxHeartbeats 4000000
set_option linter.unusedSimpArgs false
set_option linter.unusedVariables false
attribute [local irreducible] SL.CW SL.LW SL.DW Calls SL.Ret SL.RetG SL.beginQ SL.roundQ SL.rangeQ SL.inQ SL.RW SL.AnyW SL.thenQ SL.thenC SL.thenW SL.blkQ SL.finQ SL.ValP SL.NewP SL.SetP SL.CallP SL.Rd SL.Wr SL.Known
section
structure AskQ where
 kind:Int
 op:Nat
 ws:Value
 l:List Nat
 dt:Value
 d:List UInt8
structure AskQAt (w:World) (a:AskQ):Prop where
 row:RowAt w 4 a.ws a.l.length (wcs a.l)
 dat:RowAt w 1 a.dt a.d.length (ucs a.d)
 lt:∀ x∈a.l,x < M256
theorem AskQAt.bel {w0 w:World} {a:AskQ} (h:AskQAt w0 a) (hb:Bel w0.heap.size [] w0 w):AskQAt w a:=⟨h.row.bel hb,h.dat.bel hb,h.lt⟩
def sameA (a b:AskQ):Prop:=a.kind=b.kind∧a.op=b.op∧a.l=b.l∧a.d=b.d
instance (a b:AskQ):Decidable (sameA a b):=by unfold sameA;infer_instance
def aqa (a:AskQ):Array Value:=aska a.kind a.op a.ws a.dt
section rd
variable {P : Program} {T E : TypeId} {fr : Nat × Nat} {kind : Int} {op : Nat} {u v : Value}
theorem aq_rd0 [AgI P T false]:Rd P T (.cells (aska kind op u v) E fr) 0 (.int .i64 kind):=Rd.one rfl
theorem aq_rd1 [AgI P T false]:Rd P T (.cells (aska kind op u v) E fr) 1 (.int .u8 (op:Int)):=Rd.one rfl
theorem aq_rd2 [AgI P T false]:Rd P T (.cells (aska kind op u v) E fr) 2 u:=Rd.one rfl
theorem aq_rd3 [AgI P T false]:Rd P T (.cells (aska kind op u v) E fr) 3 v:=Rd.one rfl
end rd
theorem SameAsk_calls (a b:AskQ) (w:World) (ha:AskQAt w a) (hb:AskQAt w b):Calls Tryz.prog 37 #[.agg (aqa a),.agg (aqa b)] w (Ret w (.bool (decide (sameA a b)))):=by
 obtain ⟨ak,ao,aw,al,av,ad⟩:=a
 obtain ⟨bk,bo,bw,bl,bv,bd⟩:=b
 obtain ⟨h1r,h1d,h1l⟩:=ha
 obtain ⟨h2r,h2d,h2l⟩:=hb
 dsimp only at h1r h1d h1l h2r h2d h2l
 obtain ⟨p0,c0,rfl,_,_⟩:=id h1r.form
 obtain ⟨p1,c1,rfl,_,_⟩:=id h1d.form
 obtain ⟨p2,c2,rfl,_,_⟩:=id h2r.form
 obtain ⟨p3,c3,rfl,_,_⟩:=id h2d.form
 have hW0:=fun w' {fs:Fs} (hst:St w [] fs w')=>sEqW_calls al bl h1l h2l _ _ w' (h1r.st hst) (h2r.st hst)
 have hB0:=fun w' {fs:Fs} (hst:St w [] fs w')=>sEqB_calls ad bd _ _ w' (h1d.st hst) (h2d.st hst)
 unfold aqa
 dsimp only
 obtain ⟨r,hr⟩:∃ r,decide (sameA ⟨ak,ao,.slice p0 al.length c0,al,.slice p1 ad.length c1,ad⟩ ⟨bk,bo,.slice p2 bl.length c2,bl,.slice p3 bd.length c3,bd⟩)=r:=⟨_,rfl⟩
 rw [hr]
 refine enter (args:=[_,_]) _ [] [] Tryz.func37 rfl Tryz.ntmps37 rfl (by simp) .nil ?_
 by_cases e1:ak=bk
 ·subst e1
  by_cases e2:ao=bo
  ·subst e2
   by_cases e3:al=bl
   ·have hW:∀ w' {fs:Fs},St w [] fs w'→Calls Tryz.prog 88 #[.slice p0 al.length c0,.slice p2 bl.length c2] w' (Ret w' (.bool true)):=fun w' fs hst=>by have h:=hW0 w' hst;rwa [decide_eq_true e3] at h
    by_cases e4:ad=bd
    ·have hB:∀ w' {fs:Fs},St w [] fs w'→Calls Tryz.prog 86 #[.slice p1 ad.length c1,.slice p3 bd.length c3] w' (Ret w' (.bool true)):=fun w' fs hst=>by have h:=hB0 w' hst;rwa [decide_eq_true e4] at h
     obtain rfl:r=true:=hr.symm.trans (decide_eq_true ⟨rfl,rfl,e3,e4⟩)
     (refine sRz ?_;apply zT;rfl;rfl;intro _;apply zT;rfl;rfl;intro _;refine vAz<|nSz<|vFz<|ldz rfl (.tail .head) aq_rd0<|vFz<|ldz rfl .head aq_rd0 ?_;refine lvz (.eqT rfl rfl (by omega)) ?_;refine vMz<|gTz<|vFz<|gTz<|ldz rfl (.tail .head) aq_rd1<|gTz<|vFz<|gTz<|ldz rfl .head aq_rd1<|gTz ?_;refine lvz (.eqT rfl rfl (by omega)) ?_;refine pTz<|vMz<|gTz<|vFz<|gTz<|ldz rfl (.tail .head) aq_rd2<|gTz<|vFz<|gTz<|ldz rfl .head aq_rd2<|gTz ?_;apply zS;rfl;rfl;infer_instance;exact .cons rfl (.cons rfl .nil);intro w _;exact hW w (by assumption);refine pTz<|vMz<|gTz<|vFz<|gTz<|ldz rfl (.tail .head) aq_rd3<|gTz<|vFz<|gTz<|ldz rfl .head aq_rd3<|gTz ?_;apply zS;rfl;rfl;infer_instance;exact .cons rfl (.cons rfl .nil);intro w _;exact hB w (by assumption);refine pTz<|vAz<|nNz<|zK ?_)
     (apply finR;exact .inl rfl;rfl;rfl;rfl;apply zD;exact zG rfl;exact zF)
     rfl
    ·have hB:∀ w' {fs:Fs},St w [] fs w'→Calls Tryz.prog 86 #[.slice p1 ad.length c1,.slice p3 bd.length c3] w' (Ret w' (.bool false)):=fun w' fs hst=>by have h:=hB0 w' hst;rwa [decide_eq_false e4] at h
     obtain rfl:r=false:=hr.symm.trans (decide_eq_false fun h=>e4 h.2.2.2)
     (refine sRz ?_;apply zT;rfl;rfl;intro _;apply zT;rfl;rfl;intro _;refine vAz<|nSz<|vFz<|ldz rfl (.tail .head) aq_rd0<|vFz<|ldz rfl .head aq_rd0 ?_;refine lvz (.eqT rfl rfl (by omega)) ?_;refine vMz<|gTz<|vFz<|gTz<|ldz rfl (.tail .head) aq_rd1<|gTz<|vFz<|gTz<|ldz rfl .head aq_rd1<|gTz ?_;refine lvz (.eqT rfl rfl (by omega)) ?_;refine pTz<|vMz<|gTz<|vFz<|gTz<|ldz rfl (.tail .head) aq_rd2<|gTz<|vFz<|gTz<|ldz rfl .head aq_rd2<|gTz ?_;apply zS;rfl;rfl;infer_instance;exact .cons rfl (.cons rfl .nil);intro w _;exact hW w (by assumption);refine pTz<|vMz<|gTz<|vFz<|gTz<|ldz rfl (.tail .head) aq_rd3<|gTz<|vFz<|gTz<|ldz rfl .head aq_rd3<|gTz ?_;apply zS;rfl;rfl;infer_instance;exact .cons rfl (.cons rfl .nil);intro w _;exact hB w (by assumption);refine pTz<|vAz<|nNz<|zK ?_)
     (apply finR;exact .inl rfl;rfl;rfl;rfl;apply zD;exact zG rfl;exact zF)
     rfl
   ·have hW:∀ w' {fs:Fs},St w [] fs w'→Calls Tryz.prog 88 #[.slice p0 al.length c0,.slice p2 bl.length c2] w' (Ret w' (.bool false)):=fun w' fs hst=>by have h:=hW0 w' hst;rwa [decide_eq_false e3] at h
    obtain rfl:r=false:=hr.symm.trans (decide_eq_false fun h=>e3 h.2.2.1)
    (refine sRz ?_;apply zT;rfl;rfl;intro _;apply zT;rfl;rfl;intro _;refine vAz<|nSz<|vFz<|ldz rfl (.tail .head) aq_rd0<|vFz<|ldz rfl .head aq_rd0 ?_;refine lvz (.eqT rfl rfl (by omega)) ?_;refine vMz<|gTz<|vFz<|gTz<|ldz rfl (.tail .head) aq_rd1<|gTz<|vFz<|gTz<|ldz rfl .head aq_rd1<|gTz ?_;refine lvz (.eqT rfl rfl (by omega)) ?_;refine pTz<|vMz<|gTz<|vFz<|gTz<|ldz rfl (.tail .head) aq_rd2<|gTz<|vFz<|gTz<|ldz rfl .head aq_rd2<|gTz ?_;apply zS;rfl;rfl;infer_instance;exact .cons rfl (.cons rfl .nil);intro w _;exact hW w (by assumption);refine pTz<|vMz ?_;(iterate 5 refine gFz ?_);refine pFz<|vAz<|nNz<|zK ?_)
    (apply finR;exact .inl rfl;rfl;rfl;rfl;apply zD;exact zG rfl;exact zF)
    rfl
  ·obtain rfl:r=false:=hr.symm.trans (decide_eq_false fun h=>e2 h.2.1)
   (refine sRz ?_;apply zT;rfl;rfl;intro _;apply zT;rfl;rfl;intro _;refine vAz<|nSz<|vFz<|ldz rfl (.tail .head) aq_rd0<|vFz<|ldz rfl .head aq_rd0 ?_;refine lvz (.eqT rfl rfl (by omega)) ?_;refine vMz<|gTz<|vFz<|gTz<|ldz rfl (.tail .head) aq_rd1<|gTz<|vFz<|gTz<|ldz rfl .head aq_rd1<|gTz ?_;refine lvz (.eqF rfl rfl (by omega)) ?_;refine pTz<|vMz ?_;(iterate 5 refine gFz ?_);refine pFz<|vMz ?_;(iterate 5 refine gFz ?_);refine pFz<|vAz<|nNz<|zK ?_)
   (apply finR;exact .inl rfl;rfl;rfl;rfl;apply zD;exact zG rfl;exact zF)
   rfl
 ·obtain rfl:r=false:=hr.symm.trans (decide_eq_false fun h=>e1 h.1)
  (refine sRz ?_;apply zT;rfl;rfl;intro _;apply zT;rfl;rfl;intro _;refine vAz<|nSz<|vFz<|ldz rfl (.tail .head) aq_rd0<|vFz<|ldz rfl .head aq_rd0 ?_;refine lvz (.eqF rfl rfl (by omega)) ?_;refine vMz ?_;(iterate 5 refine gFz ?_);refine pFz<|vMz ?_;(iterate 5 refine gFz ?_);refine pFz<|vMz ?_;(iterate 5 refine gFz ?_);refine pFz<|vAz<|nNz<|zK ?_)
  (apply finR;exact .inl rfl;rfl;rfl;rfl;apply zD;exact zG rfl;exact zF)
  rfl
theorem rSameAsk_calls (a b:AskQ) (w:World) (ha:AskQAt w a) (hb:AskQAt w b):Calls Tryz.prog 13 #[.agg (aqa a),.agg (aqa b)] w (Ret w (.bool (decide (sameA a b)))):=by
 obtain ⟨ak,ao,aw,al,av,ad⟩:=a
 obtain ⟨bk,bo,bw,bl,bv,bd⟩:=b
 obtain ⟨h1r,h1d,h1l⟩:=ha
 obtain ⟨h2r,h2d,h2l⟩:=hb
 dsimp only at h1r h1d h1l h2r h2d h2l
 obtain ⟨p0,c0,rfl,_,_⟩:=id h1r.form
 obtain ⟨p1,c1,rfl,_,_⟩:=id h1d.form
 obtain ⟨p2,c2,rfl,_,_⟩:=id h2r.form
 obtain ⟨p3,c3,rfl,_,_⟩:=id h2d.form
 have hW0:=fun w' {fs:Fs} (hst:St w [] fs w')=>rSameW_calls al bl h1l h2l _ _ w' (h1r.st hst) (h2r.st hst)
 have hB0:=fun w' {fs:Fs} (hst:St w [] fs w')=>rSame1_calls ad bd _ _ w' (h1d.st hst) (h2d.st hst)
 unfold aqa
 dsimp only
 obtain ⟨r,hr⟩:∃ r,decide (sameA ⟨ak,ao,.slice p0 al.length c0,al,.slice p1 ad.length c1,ad⟩ ⟨bk,bo,.slice p2 bl.length c2,bl,.slice p3 bd.length c3,bd⟩)=r:=⟨_,rfl⟩
 rw [hr]
 refine enter (args:=[_,_]) _ [] [] Tryz.func13 rfl Tryz.ntmps13 rfl (by simp) .nil ?_
 by_cases e1:ak=bk
 ·subst e1
  by_cases e2:ao=bo
  ·subst e2
   by_cases e3:al=bl
   ·have hW:∀ w' {fs:Fs},St w [] fs w'→Calls Tryz.prog 48 #[.slice p0 al.length c0,.slice p2 bl.length c2] w' (Ret w' (.bool true)):=fun w' fs hst=>by have h:=hW0 w' hst;rwa [decide_eq_true e3] at h
    by_cases e4:ad=bd
    ·have hB:∀ w' {fs:Fs},St w [] fs w'→Calls Tryz.prog 46 #[.slice p1 ad.length c1,.slice p3 bd.length c3] w' (Ret w' (.bool true)):=fun w' fs hst=>by have h:=hB0 w' hst;rwa [decide_eq_true e4] at h
     obtain rfl:r=true:=hr.symm.trans (decide_eq_true ⟨rfl,rfl,e3,e4⟩)
     (refine sRz ?_;apply zT;rfl;rfl;intro _;apply zT;rfl;rfl;intro _;refine vAz<|nSz<|vFz<|ldz rfl (.tail .head) aq_rd0<|vFz<|ldz rfl .head aq_rd0 ?_;refine lvz (.eqT rfl rfl (by omega)) ?_;refine vMz<|gTz<|vFz<|gTz<|ldz rfl (.tail .head) aq_rd1<|gTz<|vFz<|gTz<|ldz rfl .head aq_rd1<|gTz ?_;refine lvz (.eqT rfl rfl (by omega)) ?_;refine pTz<|vMz<|gTz<|vFz<|gTz<|ldz rfl (.tail .head) aq_rd2<|gTz<|vFz<|gTz<|ldz rfl .head aq_rd2<|gTz ?_;apply zS;rfl;rfl;infer_instance;exact .cons rfl (.cons rfl .nil);intro w _;exact hW w (by assumption);refine pTz<|vMz<|gTz<|vFz<|gTz<|ldz rfl (.tail .head) aq_rd3<|gTz<|vFz<|gTz<|ldz rfl .head aq_rd3<|gTz ?_;apply zS;rfl;rfl;infer_instance;exact .cons rfl (.cons rfl .nil);intro w _;exact hB w (by assumption);refine pTz<|vAz<|nNz<|zK ?_)
     (apply finR;exact .inl rfl;rfl;rfl;rfl;apply zD;exact zG rfl;exact zF)
     rfl
    ·have hB:∀ w' {fs:Fs},St w [] fs w'→Calls Tryz.prog 46 #[.slice p1 ad.length c1,.slice p3 bd.length c3] w' (Ret w' (.bool false)):=fun w' fs hst=>by have h:=hB0 w' hst;rwa [decide_eq_false e4] at h
     obtain rfl:r=false:=hr.symm.trans (decide_eq_false fun h=>e4 h.2.2.2)
     (refine sRz ?_;apply zT;rfl;rfl;intro _;apply zT;rfl;rfl;intro _;refine vAz<|nSz<|vFz<|ldz rfl (.tail .head) aq_rd0<|vFz<|ldz rfl .head aq_rd0 ?_;refine lvz (.eqT rfl rfl (by omega)) ?_;refine vMz<|gTz<|vFz<|gTz<|ldz rfl (.tail .head) aq_rd1<|gTz<|vFz<|gTz<|ldz rfl .head aq_rd1<|gTz ?_;refine lvz (.eqT rfl rfl (by omega)) ?_;refine pTz<|vMz<|gTz<|vFz<|gTz<|ldz rfl (.tail .head) aq_rd2<|gTz<|vFz<|gTz<|ldz rfl .head aq_rd2<|gTz ?_;apply zS;rfl;rfl;infer_instance;exact .cons rfl (.cons rfl .nil);intro w _;exact hW w (by assumption);refine pTz<|vMz<|gTz<|vFz<|gTz<|ldz rfl (.tail .head) aq_rd3<|gTz<|vFz<|gTz<|ldz rfl .head aq_rd3<|gTz ?_;apply zS;rfl;rfl;infer_instance;exact .cons rfl (.cons rfl .nil);intro w _;exact hB w (by assumption);refine pTz<|vAz<|nNz<|zK ?_)
     (apply finR;exact .inl rfl;rfl;rfl;rfl;apply zD;exact zG rfl;exact zF)
     rfl
   ·have hW:∀ w' {fs:Fs},St w [] fs w'→Calls Tryz.prog 48 #[.slice p0 al.length c0,.slice p2 bl.length c2] w' (Ret w' (.bool false)):=fun w' fs hst=>by have h:=hW0 w' hst;rwa [decide_eq_false e3] at h
    obtain rfl:r=false:=hr.symm.trans (decide_eq_false fun h=>e3 h.2.2.1)
    (refine sRz ?_;apply zT;rfl;rfl;intro _;apply zT;rfl;rfl;intro _;refine vAz<|nSz<|vFz<|ldz rfl (.tail .head) aq_rd0<|vFz<|ldz rfl .head aq_rd0 ?_;refine lvz (.eqT rfl rfl (by omega)) ?_;refine vMz<|gTz<|vFz<|gTz<|ldz rfl (.tail .head) aq_rd1<|gTz<|vFz<|gTz<|ldz rfl .head aq_rd1<|gTz ?_;refine lvz (.eqT rfl rfl (by omega)) ?_;refine pTz<|vMz<|gTz<|vFz<|gTz<|ldz rfl (.tail .head) aq_rd2<|gTz<|vFz<|gTz<|ldz rfl .head aq_rd2<|gTz ?_;apply zS;rfl;rfl;infer_instance;exact .cons rfl (.cons rfl .nil);intro w _;exact hW w (by assumption);refine pTz<|vMz ?_;(iterate 5 refine gFz ?_);refine pFz<|vAz<|nNz<|zK ?_)
    (apply finR;exact .inl rfl;rfl;rfl;rfl;apply zD;exact zG rfl;exact zF)
    rfl
  ·obtain rfl:r=false:=hr.symm.trans (decide_eq_false fun h=>e2 h.2.1)
   (refine sRz ?_;apply zT;rfl;rfl;intro _;apply zT;rfl;rfl;intro _;refine vAz<|nSz<|vFz<|ldz rfl (.tail .head) aq_rd0<|vFz<|ldz rfl .head aq_rd0 ?_;refine lvz (.eqT rfl rfl (by omega)) ?_;refine vMz<|gTz<|vFz<|gTz<|ldz rfl (.tail .head) aq_rd1<|gTz<|vFz<|gTz<|ldz rfl .head aq_rd1<|gTz ?_;refine lvz (.eqF rfl rfl (by omega)) ?_;refine pTz<|vMz ?_;(iterate 5 refine gFz ?_);refine pFz<|vMz ?_;(iterate 5 refine gFz ?_);refine pFz<|vAz<|nNz<|zK ?_)
   (apply finR;exact .inl rfl;rfl;rfl;rfl;apply zD;exact zG rfl;exact zF)
   rfl
 ·obtain rfl:r=false:=hr.symm.trans (decide_eq_false fun h=>e1 h.1)
  (refine sRz ?_;apply zT;rfl;rfl;intro _;apply zT;rfl;rfl;intro _;refine vAz<|nSz<|vFz<|ldz rfl (.tail .head) aq_rd0<|vFz<|ldz rfl .head aq_rd0 ?_;refine lvz (.eqF rfl rfl (by omega)) ?_;refine vMz ?_;(iterate 5 refine gFz ?_);refine pFz<|vMz ?_;(iterate 5 refine gFz ?_);refine pFz<|vMz ?_;(iterate 5 refine gFz ?_);refine pFz<|vAz<|nNz<|zK ?_)
  (apply finR;exact .inl rfl;rfl;rfl;rfl;apply zD;exact zG rfl;exact zF)
  rfl
def opF (f:FrV) (L:FrL):Nat:=if f.pc=(L.cl.length:Int) then 0 else (L.cl.getD f.pc.toNat 0).toNat
theorem next_calls (f:FrV) (L:FrL) (hp:f.pc=(L.cl.length:Int)∨(0≤f.pc∧f.pc < (L.cl.length:Int))) (w:World) (h:FrRows w f L):Calls Tryz.prog 82 #[frv f] w (Ret w (.int .u8 ((opF f L:Nat):Int))):=by
 obtain ⟨code,pc,stk,mem,gas,self,frm,val,inp,back,stat⟩:=f
 obtain ⟨h0,h2,h3,h11,h12⟩:=h
 dsimp only at h0 hp
 unfold opF
 dsimp only
 by_cases he:pc=(L.cl.length:Int)
 ·obtain ⟨p0,c0,rfl,hl0,_⟩:=id h0.form
  rw [if_pos he]
  refine enter (args:=[_]) _ [] [] Tryz.func82 rfl Tryz.ntmps82 rfl (by simp) .nil ?_
  (refine sRz ?_;apply zT;rfl;rfl;intro _;refine vAz<|nNz<|zI<|sRz<|vFz<|ldz rfl .head fr_rd1<|vFz<|ldz rfl .head fr_rd0<|lvz (.lenR rfl inferInstance rfl) ?_;refine lvz (.eqT rfl rfl (by omega)) ?_;refine nNz<|cTz<|sRz<|vAz<|nNz<|zK<|thenR ?_)
  (apply finR;exact .inl rfl;rfl;rfl;rfl;apply zD;exact zG rfl;exact zF)
  rfl
 ·rw [if_neg he]
  obtain ⟨k,rfl⟩:∃ k:Nat,pc=(k:Int):=⟨pc.toNat,by omega⟩
  have hk:k < L.cl.length:=by omega
  obtain ⟨b0,o0,c0,cs,E,fr,rfl,hb,hx⟩:=h0.pos (by omega)
  obtain ⟨bk,hbk⟩:∃ bk,L.cl[k]?=some bk:=⟨_,List.getElem?_eq_getElem hk⟩
  have hrd:Rd Tryz.prog 5 (.cells cs E fr) (o0+k * 1) (.int .u8 (bk.toNat:Int)):=Rd.elem1 hx (ucs_one _) hbk rfl
  rw [Int.toNat_natCast,List.getD_eq_getElem?_getD,hbk]
  refine enter (args:=[_]) _ [] [] Tryz.func82 rfl Tryz.ntmps82 rfl (by simp) .nil ?_
  (refine sRz ?_;apply zT;rfl;rfl;intro _;refine vAz<|nNz<|zI<|sRz<|vFz<|ldz rfl .head fr_rd1<|vFz<|ldz rfl .head fr_rd0<|lvz (.lenR rfl inferInstance rfl) ?_;refine lvz (.eqF rfl rfl (by omega)) ?_;refine nNz<|cFz<|zJ<|thenN<|sRz<|vFz<|ldz rfl .head fr_rd0<|vFz<|ldz rfl .head fr_rd1 ?_;refine lvz (.indexAddrS rfl rfl rfl (by omega)) ?_;apply LW.load;rfl;rfl;exact Known.ext (by assumption) (by simp);exact hrd;refine vAz<|nNz<|zK ?_)
  (apply finR;exact .inl rfl;rfl;rfl;rfl;apply zD;exact zG rfl;exact zF)
  rfl
theorem rOp_calls (f:FrV) (L:FrL) (hp:f.pc=(L.cl.length:Int)∨(0≤f.pc∧f.pc < (L.cl.length:Int))) (w:World) (h:FrRows w f L):Calls Tryz.prog 35 #[frv f] w (Ret w (.int .u8 ((opF f L:Nat):Int))):=by
 obtain ⟨code,pc,stk,mem,gas,self,frm,val,inp,back,stat⟩:=f
 obtain ⟨h0,h2,h3,h11,h12⟩:=h
 dsimp only at h0 hp
 unfold opF
 dsimp only
 by_cases he:pc=(L.cl.length:Int)
 ·obtain ⟨p0,c0,rfl,hl0,_⟩:=id h0.form
  rw [if_pos he]
  refine enter (args:=[_]) _ [] [] Tryz.func35 rfl Tryz.ntmps35 rfl (by simp) .nil ?_
  (refine sRz ?_;apply zT;rfl;rfl;intro _;refine vAz<|nNz<|zI<|sRz<|vFz<|ldz rfl .head fr_rd1<|vFz<|ldz rfl .head fr_rd0<|lvz (.lenR rfl inferInstance rfl) ?_;refine lvz (.eqT rfl rfl (by omega)) ?_;refine nNz<|cTz<|sRz<|vAz<|nNz<|zK<|thenR ?_)
  (apply finR;exact .inl rfl;rfl;rfl;rfl;apply zD;exact zG rfl;exact zF)
  rfl
 ·rw [if_neg he]
  obtain ⟨k,rfl⟩:∃ k:Nat,pc=(k:Int):=⟨pc.toNat,by omega⟩
  have hk:k < L.cl.length:=by omega
  obtain ⟨b0,o0,c0,cs,E,fr,rfl,hb,hx⟩:=h0.pos (by omega)
  obtain ⟨bk,hbk⟩:∃ bk,L.cl[k]?=some bk:=⟨_,List.getElem?_eq_getElem hk⟩
  have hrd:Rd Tryz.prog 5 (.cells cs E fr) (o0+k * 1) (.int .u8 (bk.toNat:Int)):=Rd.elem1 hx (ucs_one _) hbk rfl
  rw [Int.toNat_natCast,List.getD_eq_getElem?_getD,hbk]
  refine enter (args:=[_]) _ [] [] Tryz.func35 rfl Tryz.ntmps35 rfl (by simp) .nil ?_
  (refine sRz ?_;apply zT;rfl;rfl;intro _;refine vAz<|nNz<|zI<|sRz<|vFz<|ldz rfl .head fr_rd1<|vFz<|ldz rfl .head fr_rd0<|lvz (.lenR rfl inferInstance rfl) ?_;refine lvz (.eqF rfl rfl (by omega)) ?_;refine nNz<|cFz<|zJ<|thenN<|sRz<|vFz<|ldz rfl .head fr_rd0<|vFz<|ldz rfl .head fr_rd1 ?_;refine lvz (.indexAddrS rfl rfl rfl (by omega)) ?_;apply LW.load;rfl;rfl;exact Known.ext (by assumption) (by simp);exact hrd;refine vAz<|nNz<|zK ?_)
  (apply finR;exact .inl rfl;rfl;rfl;rfl;apply zD;exact zG rfl;exact zF)
  rfl
theorem okF_pc {f:FrV} {L:FrL} (h:okF f L):f.pc=(L.cl.length:Int)∨(0≤f.pc∧f.pc < (L.cl.length:Int)):=by
 rcases h.2.2.2.2 with h|h
 ·exact .inl h
 ·exact .inr (CK.readB_range h)
theorem Next_calls (f:FrV) (L:FrL) (w:World) (h:FrRows w f L):Calls Tryz.prog 33 #[frv f] w (Ret w (.tuple #[.int .u8 (((if okF f L then opF f L else 0):Nat):Int),.bool (decide (okF f L))])):=by
 have hC0:=fun w' {fs:Fs} (hst:St w [] fs w')=>fCheck_calls f L w' (h.st hst)
 by_cases hok:okF f L
 ·have hC:∀ w' {fs:Fs},St w [] fs w'→Calls Tryz.prog 34 #[frv f] w' (Ret w' (.int .i64 0)):=fun w' fs hst=>by have h:=hC0 w' hst;rwa [if_pos hok] at h
  have hN:=fun w' {fs:Fs} (hst:St w [] fs w')=>next_calls f L (okF_pc hok) w' (h.st hst)
  rw [if_pos hok,decide_eq_true hok]
  refine enter (args:=[_]) _ [] [] Tryz.func33 rfl Tryz.ntmps33 rfl (by simp) .nil ?_
  (refine sRz ?_;apply zT;rfl;rfl;intro _;refine vAz<|vAz<|nNz<|zI<|sRz<|ldz rfl .head fr_rdW ?_;apply zS;rfl;rfl;infer_instance;exact .cons rfl .nil;intro w _;exact hC w (by assumption);refine lvz (.neF rfl rfl (by omega)) ?_;refine nNz<|cFz<|zJ<|thenN<|sRz<|ldz rfl .head fr_rdW ?_;apply zS;rfl;rfl;infer_instance;exact .cons rfl .nil;intro w _;exact hN w (by assumption);refine vAz<|vAz<|nNz<|zK ?_)
  (apply finR;exact .inl rfl;rfl;rfl;rfl;apply zD;exact zG rfl;apply zD;exact zG rfl;exact zF)
  rfl
 ·have hC:∀ w' {fs:Fs},St w [] fs w'→Calls Tryz.prog 34 #[frv f] w' (Ret w' (.int .i64 240)):=fun w' fs hst=>by have h:=hC0 w' hst;rwa [if_neg hok] at h
  rw [if_neg hok,decide_eq_false hok]
  refine enter (args:=[_]) _ [] [] Tryz.func33 rfl Tryz.ntmps33 rfl (by simp) .nil ?_
  (refine sRz ?_;apply zT;rfl;rfl;intro _;refine vAz<|vAz<|nNz<|zI<|sRz<|ldz rfl .head fr_rdW ?_;apply zS;rfl;rfl;infer_instance;exact .cons rfl .nil;intro w _;exact hC w (by assumption);refine lvz (.neT rfl rfl (by omega)) ?_;refine nNz<|cTz<|sRz<|vAz<|vAz<|nNz<|zK<|thenR ?_)
  (apply finR;exact .inl rfl;rfl;rfl;rfl;apply zD;exact zG rfl;apply zD;exact zG rfl;exact zF)
  rfl
end
section
open CK (readB readFrom readFrom_hit)
section wr
variable {P : Program} {T E : TypeId} {code stk mem inp back z : Value} {pc : Int} {gas self frm val n c n2 c2 : Nat} {stat : Bool} {p p2 : Option Addr}
end wr
end
section
section rd
variable {P : Program} {T E : TypeId} {fr : Nat × Nat} {ok : Bool} {left : Nat} {out : Value}
end rd
theorem blocks_frv {f:FrV} (h:FrSl f):blocksN 4 (frv f)=[f.code,f.stk,f.mem,f.inp,f.back].flatMap (blocksN 4):=by
 show (frc f).flatMap (blocksN 3)=_
 have e:∀ (k:IntKind) (n:Int),blocksN 3 (.int k n)=[]:=fun _ _=>rfl
 have e2:∀ b:Bool,blocksN 3 (.bool b)=[]:=fun _=>rfl
 simp only [frc,wc,List.flatMap_cons,List.flatMap_nil,List.cons_append,List.nil_append,e,e2,List.append_nil,blocks_sl h.c,blocks_sl h.s,blocks_sl h.m,blocks_sl h.i,blocks_sl h.b]
end
section
theorem rowU_own {E:TypeId} {sz n:Nat} {v:Value} {xs:List Value} {seg:Fs} (h:IsRow E sz v n xs seg):∃ us:Fs,blocksN 4 v=us.map (·.1)∧(∀ p∈us,p∈seg)∧∀ w:World,(∀ p∈us,w.heap[p.1]?=some p.2)→RowAt w sz v n xs:=by
 cases h with
 |nil=>exact ⟨[],rfl,(fun p h=>by cases h),fun w _=>.nil⟩
 |@own g _ cap cur _ hn hm hc ht hl =>
  rcases Nat.eq_zero_or_pos cap with h0|h0
  ·subst h0
   obtain rfl:n=0:=by omega
   refine ⟨[],by simp [blocksN],(fun p h=>by cases h),fun w _=>⟨⟨_,_,rfl,Nat.le_refl _,hm⟩,hl,(fun h=>by cases h),fun p n c he=>by cases he;exact .inr (.inl rfl)⟩⟩
  ·exact ⟨[(g,.cells cur E (0,0))],by simp [blocksN,Nat.ne_of_gt h0],fun p h=>h,fun w hw=>IsRow.us (.own hn hm hc ht hl) hw (qM _)⟩
theorem FrO.lie {f:FrV} {L:FrL} {gs:Fs} (h:FrO f L gs):∃ us:Fs,blocksN 4 (frv f)=us.map (·.1)∧(∀ p∈us,p∈gs)∧∀ w:World,(∀ p∈us,w.heap[p.1]?=some p.2)→FrRows w f L:=by
 have hsl:=h.sl
 obtain ⟨g1,g2,g3,g4,g5,hp,h1,h2,h3,h4,h5⟩:=h
 unfold bM at h1 h3 h4 h5
 unfold wM at h2
 obtain ⟨u1,a1,b1,c1⟩:=rowU_own h1
 obtain ⟨u2,a2,b2,c2⟩:=rowU_own h2
 obtain ⟨u3,a3,b3,c3⟩:=rowU_own h3
 obtain ⟨u4,a4,b4,c4⟩:=rowU_own h4
 obtain ⟨u5,a5,b5,c5⟩:=rowU_own h5
 refine ⟨u1++(u2++(u3++(u4++u5))),?_,fun p hq=>hp.subset ?_,fun w hw=>⟨c1 w fun p h=>hw p (by simp [h]),c2 w fun p h=>hw p (by simp [h]),c3 w fun p h=>hw p (by simp [h]),c4 w fun p h=>hw p (by simp [h]),c5 w fun p h=>hw p (by simp [h])⟩⟩
 ·rw [blocks_frv hsl]
  simp [a1,a2,a3,a4,a5]
 ·simp only [List.mem_append] at hq ⊢
  rcases hq with h|h|h|h|h
  ·exact .inl (b1 p h)
  ·exact .inr (.inl (b2 p h))
  ·exact .inr (.inr (.inl (b3 p h)))
  ·exact .inr (.inr (.inr (.inl (b4 p h))))
  ·exact .inr (.inr (.inr (.inr (b5 p h))))
theorem FrO.us {f:FrV} {L:FrL} {gs:Fs} {w:World} (h:FrO f L gs) (hw:∀ p∈gs,w.heap[p.1]?=some p.2):FrRows w f L:=h.rows hw
theorem FrRows.blocks {f:FrV} {L:FrL} {w:World} (h:FrRows w f L):[frv f].flatMap (blocksN 4)=[f.code,f.stk,f.mem,f.inp,f.back].flatMap (blocksN 4):=by
 rw [List.flatMap_cons,blocks_frv h.sl]
 exact List.append_nil _
def LikeF (x y:FrV):Prop:=∃ c s m i b,y=x.rows c s m i b
theorem LikeF.num {x y:FrV} {L:FrL} (h:LikeF x y) (hx:FrNum x L):FrNum y L:=by
 obtain ⟨c,s,m,i,b,rfl⟩:=h
 exact ⟨hx.gas,hx.self,hx.frm,hx.val,hx.ws⟩
theorem LikeF.same {x y z:FrV} {L:FrL} (h:LikeF x y) (h2:LikeF x z):sameF y L z L:=by
 obtain ⟨c,s,m,i,b,rfl⟩:=h
 obtain ⟨c2,s2,m2,i2,b2,rfl⟩:=h2
 exact ⟨rfl,rfl,rfl,rfl,rfl,rfl,rfl,rfl,rfl,rfl,rfl⟩
theorem anc_nil {ops:Array Oper} {k:Nat}:ancB ops k []=true:=rfl
theorem st_ou {w0 w:World} {S:List Nat} {fs gs:Fs} (hs:St w0 S fs w) (h:List.Sublist gs fs):∀ p∈gs,w.heap[p.1]?=some p.2:=fun p hp=>(hs.own p (h.subset hp)).2
theorem markAll_tag {k:Nat} {ws rs:List Nat} {g:Fs}:markAll k (tsTag ws rs g)=tsTag ws (k::rs) g:=by simp [markAll,tsTag]
theorem markAll_new {k j:Nat} {g:Fs}:markAll k (tsNew j g)=tsTag [j] [k] g:=by simp [markAll,tsTag,tsNew]
def AncT (ops:Array Oper) (k:Nat) (ts:Ts):Prop:=∀ q∈ts,ancB ops k q.2.2.1=true
section anc
variable {ops : Array Oper} {k j : Nat} {s ts : Ts} {gs : Fs} {b : Nat} {o : Obj} {ws rs : List Nat}
theorem AncT.nil:AncT ops k []:=fun q h=>by cases h
theorem AncT.cons (h:ancB ops k ws=true) (ht:AncT ops k ts):AncT ops k ((b,o,ws,rs)::ts):=fun q hq=>by
 rcases List.mem_cons.1 hq with rfl|hq
 ·exact h
 ·exact ht q hq
theorem AncT.app (h:AncT ops k s) (ht:AncT ops k ts):AncT ops k (s++ts):=fun q hq=>by
 rcases List.mem_append.1 hq with hq|hq
 ·exact h q hq
 ·exact ht q hq
theorem AncT.tsOf:AncT ops k (tsOf gs):=fun q hq=>by
 obtain ⟨p,_,rfl⟩:=List.mem_map.1 (show q∈gs.map _ from hq)
 exact anc_nil
theorem AncT.tag (h:ancB ops k ws=true):AncT ops k (tsTag ws rs gs):=fun q hq=>by
 obtain ⟨p,_,rfl⟩:=List.mem_map.1 (show q∈gs.map _ from hq)
 exact h
theorem AncT.new (h:ancB ops k [j]=true):AncT ops k (tsNew j gs):=fun q hq=>by
 obtain ⟨p,_,rfl⟩:=List.mem_map.1 (show q∈gs.map _ from hq)
 exact h
theorem AncT.lie {C:Cu} {p:Nat × Obj} (h:AncT ops k ts) (hp:p∈fsOf ts):Lie C ops k ts p:=by
 obtain ⟨q,hq,rfl⟩:=List.mem_map.1 (show p∈ts.map _ from hp)
 exact .inl ⟨q.2.2.1,q.2.2.2,hq,h q hq⟩
end anc
end
section
def revS (l L:List Nat) (k:Nat):Prop:=L.length=l.length∧∀ i,i < l.length→L[i]?=if i < k∨l.length - 1 - i < k then l[l.length - 1 - i]? else l[i]?
theorem revS_zero (l:List Nat):revS l l 0:=⟨rfl,fun i hi=>by rw [if_neg (by omega)]⟩
theorem revS_step {l L:List Nat} {k x y:Nat} (h:revS l L k) (hk:2 * k+1 < l.length) (hx:L[l.length - 1 - k]?=some x) (hy:L[k]?=some y):revS l ((L.set k x).set (l.length - 1 - k) y) (k+1):=by
 obtain ⟨h1,h2⟩:=h
 have hx0:=h2 (l.length - 1 - k) (by omega)
 rw [if_neg (by omega),hx] at hx0
 have hy0:=h2 k (by omega)
 rw [if_neg (by omega),hy] at hy0
 refine ⟨by rw [List.length_set,List.length_set,h1],fun i hi=>?_⟩
 by_cases e1:i=l.length - 1 - k
 ·subst e1
  rw [List.getElem?_set_self (by rw [List.length_set];omega),if_pos (by omega),show l.length - 1 - (l.length - 1 - k)=k by omega]
  exact hy0
 ·rw [List.getElem?_set_ne (fun h=>e1 h.symm)]
  by_cases e2:i=k
  ·subst e2
   rw [List.getElem?_set_self (by omega),if_pos (by omega)]
   exact hx0
  ·rw [List.getElem?_set_ne (fun h=>e2 h.symm),h2 i hi]
   by_cases c:i < k∨l.length - 1 - i < k
   ·rw [if_pos c,if_pos (by omega)]
   ·rw [if_neg c,if_neg (by omega)]
theorem revS_end {l L:List Nat} {k:Nat} (h:revS l L k) (hk:l.length≤2 * k+1):L=l.reverse:=by
 obtain ⟨h1,h2⟩:=h
 refine List.ext_getElem? fun i=>?_
 rcases Nat.lt_or_ge i l.length with hi|hi
 ·rw [h2 i hi,List.getElem?_reverse hi]
  by_cases c:i < k∨l.length - 1 - i < k
  ·rw [if_pos c]
  ·rw [if_neg c,show l.length - 1 - i=i by omega]
 ·rw [List.getElem?_eq_none (by omega),List.getElem?_eq_none (by rw [List.length_reverse];exact hi)]
theorem wcs_lenN (L:List Nat):(wcs L).length=L.length * 4:=by
 induction L with
 |nil=>rfl
 |cons x L ih =>
  show ((wc x).toList++wcs L).length=_
  rw [List.length_append,ih,List.length_cons]
  show 4+_=_
  omega
theorem wcs_set (L:List Nat) (i x:Nat) (hi:i < L.length):(wcs L).take (i * 4)++(wc x).toList++(wcs L).drop ((i+1) * 4)=wcs (L.set i x):=by
 rw [wcs_take,wcs_drop,List.set_eq_take_append_cons_drop,if_pos hi,wcs_app]
 show _++_++_=wcs (L.take i)++((wc x).toList++wcs (L.drop (i+1)))
 rw [List.append_assoc]
attribute [local irreducible] SL.inP
theorem reverse_calls (w0:World) (S:List Nat) (l:List Nat) (v:Value) (g rest:Fs) (hr:wM l v g) (hl:l.length≤100000) (w:World) (hs:St w0 S (g++rest) w) :
  Calls Tryz.prog 136 #[v] w (fun x w'=>∃ fs',(x=.returned (.tuple #[])∧∃ g',wM l.reverse v g'∧fs'=g'++rest)∧St w0 S fs' w'):=by
 unfold wM at hr ⊢
 obtain ⟨q,c,rfl⟩:=id hr.form
 refine calls_inlineP (K:=fun x fs'=>x=.returned (.tuple #[])∧∃ g',IsRow 29 4 (.slice q l.length c) l.reverse.length (wcs l.reverse) g'∧fs'=g'++rest) (args:=[_]) Tryz.func136 rfl Tryz.ntmps136 rfl ?_ hs
 (refine sRz<|vMz<|lvz (.lenR rfl inferInstance rfl) ?_;refine lvz (.subI rfl rfl (by omega) (by omega)) ?_;refine vAz<|vAz<|nNz<|zM ?_)
 refine CW.loop (fun x:Nat × List Nat × Fs=>([(3,.int .i64 ((l.length:Int) - 1 - (x.1:Int))),(2,.int .i64 (x.1:Int)),(0,.slice q l.length c)],x.2.2++rest))
  (fun x=>x.1≤l.length∧revS l x.2.1 x.1∧IsRow 29 4 (.slice q l.length c) l.length (wcs x.2.1) x.2.2) (fun x=>l.length - x.1) (0,l,g) ⟨Nat.zero_le _,revS_zero l,hr⟩ ⟨(by have h:(l.length:Int) - 1=(l.length:Int) - 1 - ((0:Nat):Int):=by { omega };exact congrArg (fun z=>some (Value.int .i64 z)) h),rfl,rfl,trivial⟩ (qM _) ?_
 rintro ⟨k,L,seg⟩ ⟨hk,hrev,hrow⟩
 dsimp only at hk hrev hrow ⊢
 rcases Nat.lt_or_ge (2 * k+1) l.length with hlt|hge
 ·obtain ⟨gm,cur,rfl,rfl,hn9,hm9,hsz9,htk9⟩:=hrow.pos (by omega)
  have hLl:L.length=l.length:=hrev.1
  obtain ⟨j,hj⟩:∃ j,l.length - 1 - k=j:=⟨_,rfl⟩
  rw [show (l.length:Int) - 1 - (k:Int)=(j:Int) by omega]
  have hrdK:Rd Tryz.prog 29 (.cells cur 29 (0,0)) (0+k * 4) (wv (L.getD k 0)):=word_rd (by rw [List.drop_zero];exact htk9) k (by omega)
  have hrdJ:Rd Tryz.prog 29 (.cells cur 29 (0,0)) (0+j * 4) (wv (L.getD j 0)):=word_rd (by rw [List.drop_zero];exact htk9) j (by omega)
  have hgk:L[k]?=some (L.getD k 0):=by rw [List.getD_eq_getElem?_getD,List.getElem?_eq_getElem (by omega)];rfl
  have hgj:L[l.length - 1 - k]?=some (L.getD j 0):=by rw [hj,List.getD_eq_getElem?_getD,List.getElem?_eq_getElem (by omega)];rfl
  have hstep:=revS_step hrev hlt hgj hgk
  rw [hj] at hstep
  obtain ⟨x,hx⟩:∃ x,L.getD j 0=x:=⟨_,rfl⟩
  obtain ⟨y,hy⟩:∃ y,L.getD k 0=y:=⟨_,rfl⟩
  rw [hx] at hrdJ hstep
  rw [hy] at hrdK hstep
  obtain ⟨w1,w2⟩:=wr_take (i:=k) (vs:=(wc x).toList) htk9 rfl (by omega) (by omega)
  rw [wcs_set L k x (by omega)] at w1
  obtain ⟨w3,w4⟩:=wr_take (i:=j) (vs:=(wc y).toList) w1 rfl (by omega) (by omega)
  rw [wcs_set _ j y (by rw [List.length_set];omega)] at w3
  have hW1:Wr Tryz.prog 29 (.cells cur 29 (0,0)) (0+k * 4) (wv x) (.cells (wrCells cur (k * 4) (wc x).toList) 29 (0,0)):=Wr.cells (z:=wv 0) (n:=4) rfl rfl (by rw [hsz9];show 0+k * 4+4≤c * 4;omega) (by rw [qN];rfl)
  have hW2:Wr Tryz.prog 29 (.cells (wrCells cur (k * 4) (wc x).toList) 29 (0,0)) (0+j * 4) (wv y) (.cells (wrCells (wrCells cur (k * 4) (wc x).toList) (j * 4) (wc y).toList) 29 (0,0)):=Wr.cells (z:=wv 0) (n:=4) rfl rfl (by rw [w2,hsz9];show 0+j * 4+4≤c * 4;omega) (by rw [qN];rfl)
  (refine zI<|sRz<|vMz<|vMz ?_;refine lvz (.lssT rfl rfl (by omega)) ?_;refine nNz<|cTz<|zJ<|thenN<|zI<|zM ?_)
  apply CW.pre
  (refine AnyW.anyM [] 14 mixed (by decide +kernel) ?_)
  ((try simp only [tsOf_cons,tsOf_nil,tsOf_app]);refine dvz (.move rfl)<|dvz (.move rfl)<|dvz (.move rfl)<|dvz (.move rfl)<|dvz (.move rfl)<|dvz (.move rfl) ?_;refine dvz (.indexAddrS rfl rfl rfl (by omega)) ?_;apply qD;rfl;rfl;rfl;exact zC;rfl;apply zP;exact zN;exact hrdJ;refine dvz (.move rfl)<|dvz (.move rfl) ?_;refine dvz (.indexAddrS rfl rfl rfl (by omega)) ?_;apply qD;rfl;rfl;rfl;exact zC;rfl;apply zP;exact zN;exact hrdK;refine dvz (.indexAddrS rfl rfl rfl (by omega)) ?_;apply DW.store;rfl;rfl;exact zC;rfl;rfl;apply TSet.head;exact zN;kernel_rfl;exact hW1;apply DW.nil;simp only [fsOf_cons,fsOf_nil,fsOf_app,fsOf_tsOf,fsOf_new])
  try simp only [fsOf_mark,fsOf_cons,fsOf_nil,fsOf_app,fsOf_tsOf,fsOf_new,fsOf_tag,List.append_eq,List.nil_append]
  (refine lvz (.indexAddrS rfl rfl rfl (by omega)) ?_;refine zR rfl rfl .head hW2 ?_;apply zV;refine blkN<|thenN<|zL<|vMz ?_;refine lvz (.addZL rfl rfl (by decide) (by omega)) ?_;refine vMz ?_;refine lvz (.subZL rfl rfl (by decide) (by omega) (by omega)) ?_;refine vAz<|vAz ?_;apply zV)
  apply thenX
  exact ⟨rfl,(k+1,_,_),⟨by omega,hstep,.own hn9 hm9 (by rw [w4,w2,hsz9]) w3 (by rw [wcs_lenN,List.length_set,List.length_set,hLl])⟩,by show l.length - (k+1) < l.length - k;omega,⟨(by have h:((j - 1:Nat):Int)=(l.length:Int) - 1 - ((k+1:Nat):Int):=by { omega };exact congrArg (fun z=>some (Value.int .i64 z)) h),rfl,rfl,trivial⟩,qM _⟩
 ·obtain rfl:=revS_end hrev hge
  (refine zI<|sRz<|vMz<|vMz ?_;refine lvz (.lssF rfl rfl (by omega)) ?_;refine nNz<|cFz<|CW.exit<|thenE<|thenE<|blkE rfl ?_)
  exact inPI (.inr rfl) .nil rfl .nil rfl ⟨rfl,seg,by rw [List.length_reverse];exact hrow,rfl⟩
def wP (l:List Nat) (v:Value) (gs:Fs):Prop:=wM l v gs∨∃ g cur,v=.slice (some ⟨g,0,none⟩) l.length l.length∧gs=[(g,.cells cur 29 (0,0))]∧l.length * 4≤cur.size∧cur.toList.take (l.length * 4)=wcs l∧l.length≤maxLen
theorem wP.form {l:List Nat} {v:Value} {gs:Fs} (h:wP l v gs):∃ p c,v=.slice p l.length c:=by
 rcases h with h|⟨g,cur,rfl,_⟩
 ·unfold wM at h
  exact h.form
 ·exact ⟨_,_,rfl⟩
theorem wP.at {l:List Nat} {v:Value} {g:Fs} {w:World} (h:wP l v g) (hw:∀ p∈g,w.heap[p.1]?=some p.2):RowAt w 4 v l.length (wcs l):=by
 rcases h with h|⟨b,cur,rfl,rfl,hsz,htk,hm⟩
 ·exact wM_at h hw
 ·exact RowAt.us (us:=[]) hw (Nat.le_refl _) hm htk (wcs_lenN l)
theorem wM_cut {l:List Nat} {p:Option Addr} {c k:Nat} {gs:Fs} (h:wM l (.slice p l.length c) gs) (hk:k≤l.length):wP (l.take k) (.slice p k k) gs:=by
 unfold wM at h
 have hlk:(l.take k).length=k:=by rw [List.length_take];omega
 rcases Nat.eq_zero_or_pos l.length with h0|h0
 ·have hl0:=List.length_eq_zero_iff.1 h0
  subst hl0
  obtain rfl:k=0:=by simpa using hk
  generalize hn:([]:List Nat).length=n at h
  generalize hx:wcs []=xs at h
  cases h with
  |nil=>exact .inl .nil
  |own hn hm hc ht hl=>exact .inr ⟨_,_,rfl,rfl,Nat.zero_le _,rfl,Nat.zero_le _⟩
 ·obtain ⟨g,cur,rfl,rfl,hn,hm,hsz,htk⟩:=IsRow.pos h h0
  refine .inr ⟨g,cur,by rw [hlk],rfl,by rw [hlk,hsz];omega,?_,by rw [hlk];omega⟩
  rw [hlk,← wcs_take,← htk,List.take_take,Nat.min_eq_left (by omega)]
def PopR (ws:List Nat) (ms:List UInt8) (n:Nat) (v:Value) (gs:Fs):Prop:=∃ s k t g1 g2 g3,v=.tuple #[.agg #[s,k],t,.int .i64 0]∧gs=g3++(g2++g1)∧wP (ws.take (ws.length - n)) s g1∧bM ms k g2∧wM ((ws.drop (ws.length - n)).reverse) t g3
theorem pop_calls (ws:List Nat) (ms:List UInt8) (n:Nat) (s m:Value) (hn:n≤ws.length) (w:World) (hs:RowAt w 4 s ws.length (wcs ws)) (hm:RowAt w 1 m ms.length (ucs ms)) (hok:okSc ws.length ms.length) :
  Calls Tryz.prog 95 #[.agg #[s,m],.int .i64 (n:Int)] w (RetG w [] (PopR ws ms n)):=by
 have hs0:=hs
 have hm0:=hm
 obtain ⟨p,c,rfl,_,hc⟩:=hs.form
 obtain ⟨p2,c2,rfl,_,hc2⟩:=hm.form
 have hC:∀ w,Calls Tryz.prog 84 #[.agg #[.slice p ws.length c,.slice p2 ms.length c2]] w (Ret w (.int .i64 0)):=fun w=>by
  have h:=scCheck_calls p p2 ws.length c ms.length c2 (by omega) (by omega) w
  rwa [if_pos hok] at h
 have hok2:=hok
 unfold okSc at hok2
 obtain ⟨hn1,hk1,hk2⟩:=hok2
 refine enter (args:=[_,_]) _ [] [] Tryz.func95 rfl Tryz.ntmps95 rfl (by simp) .nil ?_
 (refine sRz ?_;apply zT;rfl;rfl;intro _;apply zU;rfl;intro _;refine vAz<|vAz<|nNz<|zI<|sRz<|ldz rfl (.tail .head) (qF rfl) ?_;apply zS;rfl;rfl;infer_instance;exact .cons rfl .nil;intro w _;exact hC w;refine vAz<|nSz<|vMz ?_;refine lvz (.neF rfl rfl (by omega)) ?_;refine nNz<|cFz<|zJ<|thenN<|zI<|zM<|sRz<|vMz ?_;refine lvz (.lssF rfl rfl (by omega)) ?_;refine vAz<|nNz<|cFz<|sRz<|vMz<|vFz<|ldz rfl (.tail .head) sc_rd0<|lvz (.lenR rfl inferInstance rfl) ?_;refine lvz (.gtrF rfl rfl (by omega)) ?_;refine vAz<|nNz<|cFz<|zJ<|blkN<|thenN<|sRz<|ldz rfl (.tail .head) (qF rfl) ?_)
 (apply LW.callR;rfl;rfl;infer_instance;exact .cons rfl .nil;intro w hs)
 exact copied_calls ws ms _ _ w (hs0.st hs) (hm0.st hs) (by omega) (by omega)
 rintro vo gso ⟨s1,m1,g1,g2,rfl,rfl,h1,h2⟩
 have h1':=h1
 have h2':=h2
 unfold wM at h1'
 unfold bM at h2'
 obtain ⟨q1,k1,rfl⟩:=h1'.form
 obtain ⟨q2,k2,rfl⟩:=h2'.form
 rw [List.append_assoc]
 (apply zU;rfl;intro _;refine zR rfl rfl .head (.whole rfl rfl rfl)<|nSz<|vFz<|ldz rfl .head sc_rd0<|lvz (.lenR rfl inferInstance rfl)<|vMz ?_;refine lvz (.subZ rfl rfl (by omega) (by omega)) ?_;refine vAz<|nSz<|vFz<|ldz rfl .head sc_rd0<|vMz ?_;refine lvz (.cutFrom inferInstance inferInstance rfl rfl (by omega)) ?_)
 refine LW.callR rfl rfl inferInstance (by (exact .cons rfl .nil)) (fun w hst=>CloneW_calls (ws.drop (ws.length - n)) _ w (by
  have h:=(h1'.us (fun p hp=>(hst.own p (qO _ (List.mem_append_right _ (List.mem_append_left _ hp)))).2) (qM _)).drop (k:=ws.length - n) (by omega)
  rw [wcs_drop] at h
  rw [List.length_drop]
  exact h) (by rw [List.length_drop];omega)) ?_
 intro v3 g3 h3
 have h3':=h3
 unfold wM at h3'
 obtain ⟨q3,k3,rfl⟩:=id h3'.form
 (refine vAz<|nSz<|vMz ?_)
 rename_i b2 b4 b8
 have hrl:(ws.drop (ws.length - n)).length≤100000:=by rw [List.length_drop];omega
 replace h3:wM (ws.drop (ws.length - n)) (.slice q3 (ws.drop (ws.length - n)).length k3) g3:=h3
 refine LW.callSt (K:=fun v fs'=>v=.tuple #[]∧∃ g',wM (ws.drop (ws.length - n)).reverse (.slice q3 (ws.drop (ws.length - n)).length k3) g'∧fs'=g'++((b8,.cells #[.slice q1 ws.length k1,.slice q2 ms.length k2] 25 (0,0))::(g2++(g1++[(b4,.cells #[.slice none 0 0,.slice none 0 0] 25 (0,0)),(b2,.cells #[.slice p ws.length c,.slice p2 ms.length c2] 25 (0,0))])))) rfl rfl inferInstance (by (exact .cons rfl .nil)) (fun w' hst=>Calls.mono (reverse_calls _ _ _ _ g3 _ h3 hrl w' hst) fun x w'' ⟨fs',⟨h1,h2⟩,hst⟩=>⟨_,_,h1,⟨rfl,h2⟩,hst⟩) ?_
 rintro _ _ ⟨rfl,g4,h4,rfl⟩
 have hroom:ws.length≤k1:=IsRow.le h1'
 (refine nSz<|vFz<|ldz rfl (.app .head) sc_rd0<|vMz<|vMz ?_;apply LW.v0;rfl;rfl;apply ValP.cutMax;infer_instance;infer_instance;rfl;rfl;rfl;omega;omega;refine vFz ?_;refine zR rfl rfl (.app .head) sc_wr0<|nSz<|ldz rfl (.app .head) (qF rfl)<|vMz ?_;refine zR rfl rfl (.app (.tail (.app (.app .head)))) (.whole rfl rfl rfl)<|vAz<|vAz<|nNz<|zK ?_)
 refine fin (vs:=[.agg #[.slice q1 (ws.length - n) (ws.length - n),.slice q2 ms.length k2],.slice q3 (ws.drop (ws.length - n)).length k3,.int .i64 0]) (g4++(g2++g1)) (.inl rfl) rfl rfl (by (apply zD;apply zH;rfl;apply qE;apply zZ;apply zX;apply zZ;apply zZ;apply zY;exact qF rfl;apply zD;exact zG rfl;apply zD;exact zG rfl;exact zF)) ?_ ⟨_,_,_,g1,g2,g4,rfl,rfl,wM_cut h1 (by omega),h2,h4⟩
 exact List.Sublist.append_left (List.Sublist.append_left (qP _ _) _ |>.cons _) _
end
section
open CK (dataC)
theorem number_calls (l:List UInt8) (v:Value) (hl:l.length≤32) (w:World) (h:RowAt w 1 v l.length (ucs l)):Calls Tryz.prog 131 #[v] w (Ret w (wv (bev l))):=by
 obtain ⟨p,c,rfl,_,_⟩:=id h.form
 have hR:=fun w' {fs:Fs} (hst:St w [] fs w')=>Read_calls _ l w' (h.st hst) hl
 refine enter (args:=[_]) _ [] [] Tryz.func131 rfl Tryz.ntmps131 rfl (by simp) .nil ?_
 (refine sRz ?_;apply LW.allocW;rfl;intro _;refine nSz<|vMz ?_;apply zS;rfl;rfl;infer_instance;exact .cons rfl .nil;intro w _;exact hR w (by assumption);refine vMz ?_;refine vEz ?_;refine vEz ?_;apply LW.allocW;rfl;intro _;refine zR rfl rfl .head (.whole rfl rfl rfl)<|vAz<|nSz<|vMz ?_;refine lvz (.eqT rfl rfl (by omega)) ?_;apply zS;rfl;rfl;infer_instance;exact .cons rfl .nil;intro w _;exact need_true w;refine nSz<|ldz rfl .head (qF rfl) ?_;refine zR rfl rfl (.tail .head) (.whole rfl rfl rfl)<|nNz<|zK ?_)
 (apply finR;exact .inl rfl;rfl;rfl;rfl;apply zD;apply zH;rfl;apply qE;apply zX;apply zY;exact qF rfl;exact zF)
 rfl
theorem dataL_len (bs:List UInt8) (i:Int):(CK.dataL bs i).length≤32:=by
 unfold CK.dataL
 split
 ·rw [CK.datF_len]
  exact CK.szOf_le _
 ·exact Nat.zero_le _
theorem dataC_len (bs:List UInt8) (i:Int):(dataC bs i).length≤32:=by
 unfold CK.dataC
 split
 ·exact dataL_len bs i
 ·exact Nat.zero_le _
section rd
variable {P : Program} {T E : TypeId} {fr : Nat × Nat} {m : MaV}
theorem ma_rd0 [AgI P T false]:Rd P T (.cells (mca m) E fr) 0 m.fr.code:=Rd.one rfl
theorem ma_rd1 [AgI P T false]:Rd P T (.cells (mca m) E fr) 1 (.int .i64 m.fr.pc):=Rd.one rfl
theorem ma_rd2s [AgI P T false]:Rd P T (.cells (mca m) E fr) 2 m.fr.stk:=Rd.one rfl
end rd
attribute [local irreducible] SL.inP
def RowK (b:Nat) (m:MaV) (L:FrL) (ws:List Nat) (rest:Fs):Out:=fun x fs'=>x=.returned (.bool true)∧∃ s k gs',FrO (m.fr.setR m.fr.gas s k) (L.setW ws) gs'∧fs'=(b,maO (m.setF (m.fr.setR m.fr.gas s k)))::(gs'++rest)
theorem row_push (w0:World) (S:List Nat) (b:Nat) (m:MaV) (L:FrL) (gs rest:Fs) (op:Nat) (h1:96≤op) (h2:op≤127) (hok:okSc L.ws.length L.ms.length) (hf:L.ws.length+1≤64) (hfr:FrO m.fr L gs) (w:World) (hs:St w0 S ((b,maO m)::(gs++rest)) w) :
  Calls Tryz.prog 94 #[.pointer (some ⟨b,0,none⟩),.int .u8 (op:Int)] w (fun x w'=>∃ fs',RowK b m L (L.ws++[bev (dataC L.cl m.fr.pc)]) rest x fs'∧St w0 S fs' w'):=by
 obtain ⟨g1,g2,g3,g4,g5,hp,hall⟩:=hfr
 replace hs:St w0 S ((b,maO m)::(g1++(g2++(g3++(g4++g5)))++rest)) w:=hs.perm (List.Perm.cons _ (hp.append_right rest))
 clear hp
 obtain ⟨r1,r2,r3,r4,r5⟩:=id hall
 unfold bM at r1 r3
 unfold wM at r2
 obtain ⟨fr,e0,e1,e2,e3,took,kind,aop,awords,adata⟩:=m
 obtain ⟨code,pc,stk,mem,gas,self,frm,val,inp,back,stat⟩:=fr
 dsimp only at r1 r2 r3
 obtain ⟨q1,k1,rfl⟩:=id r1.form
 obtain ⟨q2,k2,rfl⟩:=id r2.form
 obtain ⟨q3,k3,rfl⟩:=id r3.form
 obtain ⟨us1,hbl1,hin1,hrows1⟩:=rowU_own r1
 obtain ⟨us2,hbl2,hin2,hrows2⟩:=rowU_own r2
 obtain ⟨us3,hbl3,hin3,hrows3⟩:=rowU_own r3
 dsimp only
 obtain ⟨x,hx⟩:∃ x,bev (dataC L.cl pc)=x:=⟨_,rfl⟩
 rw [hx]
 refine calls_anyO (calls_inlineP (K:=anyO (RowK b ⟨⟨.slice q1 L.cl.length k1,pc,.slice q2 L.ws.length k2,.slice q3 L.ms.length k3,gas,self,frm,val,inp,back,stat⟩,e0,e1,e2,e3,took,kind,aop,awords,adata⟩ L (L.ws++[x]) rest)) (args:=[_,_]) Tryz.func94 rfl Tryz.ntmps94 rfl ?_ hs)
 (refine sRz<|vAz<|nSz<|vMz<|vNz<|vFz<|vFz<|ldz rfl .head ma_rd2 ?_;apply zU;rfl;intro _;refine zR rfl rfl .head (.whole rfl rfl rfl)<|vAz<|nNz<|zI<|zM<|sRz<|vMz ?_;refine lvz (.geqT rfl rfl (by omega)) ?_;refine vMz<|gTz<|vMz<|gTz ?_;refine lvz (.leqT rfl rfl (by omega)) ?_;refine pTz<|vAz<|nNz<|cTz ?_)
 apply CW.pre
 (refine AnyW.anyM [(11,bM (dataC L.cl pc)),(14,fun r gs=>∃ o,r=.tuple #[o,.int .i64 0]∧ScO (L.ws++[x]) L.ms o gs)] 19 mixed (by decide +kernel) ?_)
 ((try simp only [tsOf_cons,tsOf_nil,tsOf_app]);apply qD;rfl;rfl;rfl;exact zC;rfl;apply zP;exact zN;exact qF rfl;refine dvz (.move rfl)<|dvz (.nilCheck rfl)<|dvz (.fieldAddr rfl rfl)<|dvz (.fieldAddr rfl rfl) ?_;apply qD;rfl;rfl;rfl;exact zC;rfl;apply zO;apply zP;exact zN;exact ma_rd0;refine dvz (.move rfl)<|dvz (.nilCheck rfl)<|dvz (.fieldAddr rfl rfl)<|dvz (.fieldAddr rfl rfl) ?_;apply qD;rfl;rfl;rfl;exact zC;rfl;apply zO;apply zP;exact zN;exact ma_rd1)
 dsimp only
 refine DW.manyA us1 rfl rfl rfl (by (exact zC)) rfl inferInstance (by (exact .cons rfl (.cons rfl .nil))) (by rw [List.flatMap_cons,hbl1];exact List.append_nil _) (fun p hp=>AncT.lie (by (refine AncT.cons ?_ ?_;exact zN;refine AncT.cons ?_ ?_;exact zN;refine AncT.app ?_ ?_;refine AncT.app ?_ ?_;exact AncT.tsOf;refine AncT.app ?_ ?_;exact AncT.tsOf;refine AncT.app ?_ ?_;exact AncT.tsOf;refine AncT.app ?_ ?_;exact AncT.tsOf;exact AncT.tsOf;exact AncT.tsOf)) (by have hp:=hin1 p hp;simp [fsOf,tsOf,tsNew,tsTag,markAll,Function.comp_def,hp])) (fun w _ hu=>CK.Data_calls L.cl pc _ w (hrows1 w hu)) ?_
 intro vD gD hD
 have hD':=hD
 obtain ⟨q4,k4,rfl⟩:=id (IsRow.form hD')
 obtain ⟨us4,hbl4,hin4,hrows4⟩:=rowU_own hD'
 (try simp only [markAll_cons,markAll_app,markAll_tsOf,markAll_tag,markAll_new,markAll_nil])
 ((try simp only [tsOf_cons,tsOf_nil,tsOf_app]))
 refine DW.callA us4 (v:=wv x) rfl rfl rfl (by (exact zC)) rfl inferInstance (by (exact .cons rfl .nil)) (by rw [List.flatMap_cons,hbl4];exact List.append_nil _) (fun p hp=>AncT.lie (by (refine AncT.app ?_ ?_;refine AncT.new ?_;kernel_rfl;refine AncT.cons ?_ ?_;exact zN;refine AncT.cons ?_ ?_;exact zN;refine AncT.app ?_ ?_;refine AncT.app ?_ ?_;refine AncT.tag ?_;exact zN;refine AncT.app ?_ ?_;refine AncT.tag ?_;exact zN;refine AncT.app ?_ ?_;refine AncT.tag ?_;exact zN;refine AncT.app ?_ ?_;refine AncT.tag ?_;exact zN;refine AncT.tag ?_;exact zN;refine AncT.tag ?_;exact zN)) (by have hp:=hin4 p hp;simp [fsOf,tsOf,tsNew,tsTag,markAll,Function.comp_def,hp])) (fun w _ hu=>by rw [← hx];exact number_calls _ _ (dataC_len _ _) w (hrows4 w hu)) ?_
 (try simp only [markAll_cons,markAll_app,markAll_tsOf,markAll_tag,markAll_new,markAll_nil])
 ((try simp only [tsOf_cons,tsOf_nil,tsOf_app]);apply DW.layA;rfl;rfl;rfl;exact zC;infer_instance;infer_instance;rfl;rfl;rfl;rfl;rfl;intro _)
 rename_i b5 b33
 have hrow33:∀ w':World,w'.heap[b33]?=some (.cells (wc x) 29 (0,0))→RowAt w' 4 (.slice (some ⟨b33,0,none⟩) 1 1) 1 (wcs [x]):=fun w' h=>row_cells h rfl rfl (by decide)
 refine DW.manyA (us2++(us3++[(b33,.cells (wc x) 29 (0,0))])) rfl rfl rfl (by (exact zC)) rfl inferInstance (by (exact .cons rfl (.cons rfl .nil))) ?_ (fun p hp=>AncT.lie (by (refine AncT.cons ?_ ?_;kernel_rfl;refine AncT.app ?_ ?_;refine AncT.tag ?_;kernel_rfl;refine AncT.cons ?_ ?_;exact zN;refine AncT.cons ?_ ?_;exact zN;refine AncT.app ?_ ?_;refine AncT.app ?_ ?_;refine AncT.tag ?_;exact zN;refine AncT.app ?_ ?_;refine AncT.tag ?_;exact zN;refine AncT.app ?_ ?_;refine AncT.tag ?_;exact zN;refine AncT.app ?_ ?_;refine AncT.tag ?_;exact zN;refine AncT.tag ?_;exact zN;refine AncT.tag ?_;exact zN)) ?_) (fun w _ hu=>?_) ?_
 ·rw [List.flatMap_cons,List.flatMap_cons,List.map_append,List.map_append,← hbl2,← hbl3,← blocks_sl ⟨q2,_,k2,rfl⟩,← blocks_sl ⟨q3,_,k3,rfl⟩]
  show ((blocksN 3 _++(blocksN 3 _++[]))++([b33]++[]))=_
  simp only [List.append_nil,List.append_assoc]
  rfl
 ·rcases List.mem_append.1 hp with hp|hp
  ·have hp:=hin2 p hp
   simp [fsOf,tsOf,tsNew,tsTag,markAll,Function.comp_def,hp]
  ·rcases List.mem_append.1 hp with hp|hp
   ·have hp:=hin3 p hp
    simp [fsOf,tsOf,tsNew,tsTag,markAll,Function.comp_def,hp]
   ·obtain rfl:=List.mem_singleton.1 hp
    simp [fsOf,tsOf,tsNew,tsTag,markAll,Function.comp_def]
 ·exact push_ok L.ws L.ms [x] _ _ _ w (hrows2 w fun q hq=>hu q (List.mem_append_left _ hq)) (hrows3 w fun q hq=>hu q (List.mem_append_right _ (List.mem_append_left _ hq))) (hrow33 w (hu _ (List.mem_append_right _ (List.mem_append_right _ List.mem_cons_self)))) hok (by show 1≤100000;omega) hf
 rintro vP gP ⟨o,rfl,s1,m1,gg1,gg2,rfl,rfl,hw1,hb1⟩
 have hw1':=hw1
 have hb1':=hb1
 unfold wM at hw1'
 unfold bM at hb1'
 obtain ⟨q5,k5,rfl⟩:=hw1'.form
 obtain ⟨q6,k6,rfl⟩:=hb1'.form
 (try simp only [markAll_cons,markAll_app,markAll_tsOf,markAll_tag,markAll_new,markAll_nil])
 ((try simp only [tsOf_cons,tsOf_nil,tsOf_app]);refine dvz (.move rfl) ?_;refine dvz (.extractN rfl rfl) ?_;refine dvz (.extractN rfl rfl) ?_;apply DW.store;rfl;rfl;exact zC;rfl;rfl;apply TSet.app;apply TSet.tail;apply TSet.app;apply TSet.head;exact zN;kernel_rfl;apply Wr.whole;rfl;rfl;rfl;apply DW.nil;simp only [fsOf_cons,fsOf_nil,fsOf_app,fsOf_tsOf,fsOf_new])
 try simp only [fsOf_mark,fsOf_cons,fsOf_nil,fsOf_app,fsOf_tsOf,fsOf_new,fsOf_tag,List.append_eq,List.nil_append]
 (refine vAz ?_;apply zV;refine blkN<|thenN<|sRz<|vMz ?_;refine lvz (.eqT rfl rfl (by omega)) ?_;apply zS;rfl;rfl;infer_instance;exact .cons rfl .nil;intro w _;exact need_true w;refine nSz<|vMz<|ldz rfl (.app (.tail (.app .head))) (qF rfl)<|vNz<|vFz<|vFz ?_;refine zR rfl rfl (.app (.tail (.app (.tail .head)))) (ma_wr2 rfl rfl rfl rfl)<|nSz<|vAz<|nNz<|zK ?_)
 refine inPI (.inl rfl) .nil rfl (by (apply zD;exact zG rfl;exact zF)) rfl ⟨_,⟨rfl,.slice q5 (L.ws++[x]).length k5,.slice q6 L.ms.length k6,g1++(gg1++(gg2++(g4++g5))),⟨g1,gg1,gg2,g4,g5,.refl _,hall.1,hw1,hb1,hall.2.2.2.1,hall.2.2.2.2⟩,rfl⟩,?_⟩
 simp only [List.append_assoc,List.cons_append,List.nil_append]
 exact subp_ix [gg2,gg1,[_],gD,[_],[_],g1,g2,g3,g4,g5] (xs:=[5,6,1,0,9,10]) (ys:=[0,1,2,3,4,5,6,7,8,9,10]) rest rfl
theorem row_none (w0:World) (S:List Nat) (b:Nat) (m:MaV) (rest:Fs) (op:Nat) (h1:¬ (96≤op∧op≤127)) (h2:¬ (128≤op∧op≤143)) (h3:¬ (144≤op∧op≤159)) (hsl:∃ p n c,m.fr.stk=.slice p n c) (hml:∃ p n c,m.fr.mem=.slice p n c) (w:World) (hs:St w0 S ((b,maO m)::rest) w) :
  Calls Tryz.prog 94 #[.pointer (some ⟨b,0,none⟩),.int .u8 (op:Int)] w (fun x w'=>∃ fs',(x=.returned (.bool false)∧fs'=(b,maO m)::rest)∧St w0 S fs' w'):=by
 obtain ⟨fr,e0,e1,e2,e3,took,kind,aop,awords,adata⟩:=m
 obtain ⟨code,pc,stk,mem,gas,self,frm,val,inp,back,stat⟩:=fr
 dsimp only at hsl hml
 obtain ⟨q2,n2,k2,rfl⟩:=hsl
 obtain ⟨q3,n3,k3,rfl⟩:=hml
 refine calls_anyO (calls_inlineP (K:=anyO fun x fs'=>x=.returned (.bool false)∧fs'=(b,maO ⟨⟨code,pc,.slice q2 n2 k2,.slice q3 n3 k3,gas,self,frm,val,inp,back,stat⟩,e0,e1,e2,e3,took,kind,aop,awords,adata⟩)::rest) (args:=[_,_]) Tryz.func94 rfl Tryz.ntmps94 rfl ?_ hs)
 rcases (by omega:op < 96∨(96≤op∧127 < op∧128≤op∧143 < op∧144≤op∧159 < op)) with hlt|⟨g1,g2,g3,g4,g5,g6⟩
 ·(refine sRz<|vAz<|nSz<|vMz<|vNz<|vFz<|vFz<|ldz rfl .head ma_rd2 ?_;apply zU;rfl;intro _;refine zR rfl rfl .head (.whole rfl rfl rfl)<|vAz<|nNz<|zI<|zM<|sRz<|vMz ?_;refine lvz (.geqF rfl rfl (by omega)) ?_;refine vMz<|gFz<|gFz<|pFz<|vAz<|nNz<|cFz<|sRz<|vMz ?_;refine lvz (.geqF rfl rfl (by omega)) ?_;refine vMz<|gFz<|gFz<|pFz<|vAz<|nNz<|cFz<|sRz<|vMz ?_;refine lvz (.geqF rfl rfl (by omega)) ?_;refine vMz<|gFz<|gFz<|pFz<|vAz<|nNz<|cFz<|sRz<|vAz<|nNz<|zK<|blkR<|thenR ?_)
  refine inPI (.inl rfl) .nil rfl (by (apply zD;exact zG rfl;exact zF)) rfl ⟨_,⟨rfl,rfl⟩,_,qQ _ (qM _),.refl _⟩
 ·(refine sRz<|vAz<|nSz<|vMz<|vNz<|vFz<|vFz<|ldz rfl .head ma_rd2 ?_;apply zU;rfl;intro _;refine zR rfl rfl .head (.whole rfl rfl rfl)<|vAz<|nNz<|zI<|zM<|sRz<|vMz ?_;refine lvz (.geqT rfl rfl (by omega)) ?_;refine vMz<|gTz<|vMz<|gTz ?_;refine lvz (.leqF rfl rfl (by omega)) ?_;refine pTz<|vAz<|nNz<|cFz<|sRz<|vMz ?_;refine lvz (.geqT rfl rfl (by omega)) ?_;refine vMz<|gTz<|vMz<|gTz ?_;refine lvz (.leqF rfl rfl (by omega)) ?_;refine pTz<|vAz<|nNz<|cFz<|sRz<|vMz ?_;refine lvz (.geqT rfl rfl (by omega)) ?_;refine vMz<|gTz<|vMz<|gTz ?_;refine lvz (.leqF rfl rfl (by omega)) ?_;refine pTz<|vAz<|nNz<|cFz<|sRz<|vAz<|nNz<|zK<|blkR<|thenR ?_)
  refine inPI (.inl rfl) .nil rfl (by (apply zD;exact zG rfl;exact zF)) rfl ⟨_,⟨rfl,rfl⟩,_,qQ _ (qM _),.refl _⟩
end
section
open CK (dataC)
def FrV.setPc (f:FrV) (p:Int):FrV:={ f with pc:=p }
section wr
variable {P : Program} {T E : TypeId} {fr : Nat × Nat} {m : MaV} {x : OpV}
theorem ma_wr1 {z:Value} {p:Int} [InfoI P T 1 z]:Wr P T (.cells (mca m) E (0,0)) 1 (.int .i64 p) (.cells (mca (m.setF (m.fr.setPc p))) E (0,0)):=Wr.cells (n:=1) (z:=z) rfl rfl (by show 1+1≤23;omega) rfl
theorem op_rd2 [AgI P T false]:Rd P T (.cells (opc x) E fr) 2 (.int .i64 (x.tk:Int)):=Rd.one rfl
theorem op_rd3 [AgI P T false]:Rd P T (.cells (opc x) E fr) 3 (.int .i64 (x.ly:Int)):=Rd.one rfl
theorem op_rd4 [AgI P T false]:Rd P T (.cells (opc x) E fr) 4 (.int .i64 (x.dt:Int)):=Rd.one rfl
end wr
theorem op_wrW {P:Program} {T E:TypeId} {x:OpV} {z:Value} {cs:Array Value} [InfoI P T 5 z] (h:cs.size=5):Wr P T (.cells cs E (0,0)) 0 (.agg (opc x)) (.cells (opc x) E (0,0)):=Wr.whole h rfl rfl
attribute [local irreducible] SL.inP opOf opX gasB
theorem push_op {op:Nat} (h1:96≤op) (h2:op≤127):(opOf op).isSome=true∧(opX op).tk=0∧(opX op).ly=1∧gasB op=3:=by
 have hr:opOf op=some ⟨op,[80,85,83,72]++itoa (op - 95),0,1,op - 95⟩:=by
  unfold opOf rowOp
  rw [if_pos ⟨h1,h2⟩]
 refine ⟨by rw [hr];rfl,by unfold opX;rw [hr];rfl,by unfold opX;rw [hr];rfl,?_⟩
 unfold gasB
 repeat rw [if_neg (by omega)]
theorem step_push (w0:World) (S:List Nat) (b:Nat) (f:FrV) (L:FrL) (e0 e1 e2 e3:Nat) (gs rest:Fs) (hF:okF f L) (h1:96≤opF f L) (h2:opF f L≤127) (hg:3≤f.gas) (hf:L.ws.length+1≤64) (hfr:FrO f L gs) (w:World) (hs:St w0 S ((b,maO (ma0 f e0 e1 e2 e3))::(gs++rest)) w) :
  Calls Tryz.prog 42 #[.pointer (some ⟨b,0,none⟩)] w (fun x w'=>∃ fs',(x=.returned (.tuple #[])∧∃ s k gs',FrO ((f.setR (f.gas - 3) s k).setPc ((min (f.pc.toNat+1+(opX (opF f L)).dt) L.cl.length:Nat):Int)) (L.setW (L.ws++[bev (dataC L.cl f.pc)])) gs'∧fs'=(b,maO (ma0 ((f.setR (f.gas - 3) s k).setPc ((min (f.pc.toNat+1+(opX (opF f L)).dt) L.cl.length:Nat):Int)) e0 e1 e2 e3))::(gs'++rest))∧St w0 S fs' w'):=by
 obtain ⟨code,pc,stk,mem,gas,self,frm,val,inp,back,stat⟩:=f
 obtain ⟨g1,g2,g3,g4,g5,hp,r1,r2,r3,r4,r5⟩:=id hfr
 unfold bM at r1 r3
 unfold wM at r2
 dsimp only at r1 r2 r3
 obtain ⟨q1,k1,rfl⟩:=id r1.form
 obtain ⟨q2,k2,rfl⟩:=id r2.form
 obtain ⟨q3,k3,rfl⟩:=id r3.form
 obtain ⟨f,hfe⟩:∃ f:FrV,f=⟨.slice q1 L.cl.length k1,pc,.slice q2 L.ws.length k2,.slice q3 L.ms.length k3,gas,self,frm,val,inp,back,stat⟩:=⟨_,rfl⟩
 rw [← hfe] at hF h1 h2 hg hfr hs ⊢
 have hst1:f.code=.slice q1 L.cl.length k1:=by rw [hfe]
 have hst2:f.stk=.slice q2 L.ws.length k2:=by rw [hfe]
 clear hfe
 have hrdS:∀ {g E fr},Rd Tryz.prog 23 (.cells (mca ((ma0 f e0 e1 e2 e3).setGas g)) E fr) 2 (.slice q2 L.ws.length k2):=fun {g E fr}=>by rw [← hst2];exact ma_rd2s (m:=(ma0 f e0 e1 e2 e3).setGas g)
 have hrdC:∀ {g E fr},Rd Tryz.prog 22 (.cells (mca ((ma0 f e0 e1 e2 e3).setGas g)) E fr) 0 (.slice q1 L.cl.length k1):=fun {g E fr}=>by rw [← hst1];exact ma_rd0 (m:=(ma0 f e0 e1 e2 e3).setGas g)
 obtain ⟨pn,hpn⟩:∃ pn:Nat,f.pc=(pn:Int):=by
  rcases okF_pc hF with h|h
  ·exact ⟨_,h⟩
  ·exact ⟨f.pc.toNat,by omega⟩
 have hpl:pn≤L.cl.length:=by
  rcases okF_pc hF with h|h<;>omega
 have hcl2:L.cl.length≤200:=hF.2.2.1
 have hrdP:∀ {g E fr},Rd Tryz.prog 3 (.cells (mca ((ma0 f e0 e1 e2 e3).setGas g)) E fr) 1 (.int .i64 (pn:Int)):=fun {g E fr}=>by rw [← hpn];exact ma_rd1 (m:=(ma0 f e0 e1 e2 e3).setGas g)
 have hpt:f.pc.toNat=pn:=by rw [hpn];exact Int.toNat_natCast pn
 rw [hpt]
 have hgl:f.gas < 18446744073709551616:=by have:=hF.1.2.2;omega
 have hok:okSc L.ws.length L.ms.length:=hF.2.2.2.1
 have hrowsF:∀ w',(∀ q∈gs,w'.heap[q.1]?=some q.2)→FrRows w' f L:=fun w' h=>hfr.us h
 have hsl:=hfr.sl
 obtain ⟨op,hop⟩:∃ op,opF f L=op:=⟨_,rfl⟩
 have hN:∀ w',(∀ q∈gs,w'.heap[q.1]?=some q.2)→Calls Tryz.prog 82 #[frv f] w' (Ret w' (.int .u8 (op:Int))):=fun w' h=>by
  have h:=next_calls f L (okF_pc hF) w' (hrowsF w' h)
  rwa [hop] at h
 rw [hop] at h1 h2 ⊢
 obtain ⟨o1,o2,o3,o4⟩:=push_op h1 h2
 have o5:(opX op).dt≤32:=by rw [opX_dt];exact CK.szOf_le _
 obtain ⟨e,hOf,he⟩:=OfX_calls op (by omega) w
 rw [if_pos o1] at he
 subst he
 have hBs:∀ w',Calls Tryz.prog 93 #[.int .u8 (op:Int)] w' (Ret w' (.tuple #[.int .u64 3,.int .i64 0])):=fun w'=>by
  have h:=Base_calls op (by omega) w'
  obtain ⟨y,hy⟩:=Option.isSome_iff_exists.1 o1
  rw [hy,o4] at h
  exact h
 refine calls_anyO (calls_inlineP (K:=anyO fun x fs'=>x=.returned (.tuple #[])∧∃ s k gs',FrO ((f.setR (f.gas - 3) s k).setPc ((min (pn+1+(opX op).dt) L.cl.length:Nat):Int)) (L.setW (L.ws++[bev (dataC L.cl f.pc)])) gs'∧fs'=(b,maO (ma0 ((f.setR (f.gas - 3) s k).setPc ((min (pn+1+(opX op).dt) L.cl.length:Nat):Int)) e0 e1 e2 e3))::(gs'++rest)) (args:=[_]) Tryz.func42 rfl Tryz.ntmps42 rfl ?_ hs)
 (refine sRz<|vMz<|vNz<|vFz<|ldz rfl .head ma_rdF ?_;apply zS;rfl;rfl;infer_instance;exact .cons rfl .nil;intro w _;rename_i hst;(exact hN w (st_ou hst (by (repeat (first|exact qM _|exact qP _ _|apply qQ|apply List.sublist_append_of_sublist_right)))));refine vAz<|nSz<|vMz ?_;apply zS;rfl;rfl;infer_instance;exact .cons rfl .nil;intro w _;exact hOf w;refine vMz ?_;refine vEz ?_;refine vEz ?_;apply zU;rfl;intro _;apply zR;rfl;rfl;apply qA;apply op_wrW;rfl;refine vAz<|nSz<|vMz ?_;refine lvz (.eqT rfl rfl (by omega)) ?_;refine vMz<|gTz<|vMz<|gTz ?_;refine lvz (.neT rfl rfl (by omega)) ?_;refine pTz ?_;apply zS;rfl;rfl;infer_instance;exact .cons rfl .nil;intro w _;exact need_true w;refine nSz<|vMz ?_;apply zS;rfl;rfl;infer_instance;exact .cons rfl .nil;intro w _;exact hBs w;refine vMz ?_;refine vEz ?_;refine vEz ?_;refine vAz<|vAz<|nSz<|vMz<|vMz ?_;apply LW.lay1;rfl;infer_instance;infer_instance;rfl;rfl;rfl;rfl;rfl;rfl;intro _)
 rename_i b3 b39
 have hsp:spendM (ma0 f e0 e1 e2 e3) [3]=some ((ma0 f e0 e1 e2 e3).setGas (f.gas - 3)):=if_pos (by show 3+0≤f.gas;omega)
 refine LW.perm (fs':=(b,maO (ma0 f e0 e1 e2 e3))::(b39,.cells #[.int .u64 3] 26 (0,0))::(b3,.cells (opc (opX op)) 86 (0,0))::(gs++rest)) (List.perm_middle (l₁:=[_,_])).symm ?_
 refine LW.callP (K:=MaK b (ma0 f e0 e1 e2 e3) (spendM (ma0 f e0 e1 e2 e3) [3]) _) rfl rfl inferInstance (by (exact .cons rfl (.cons rfl .nil))) rfl (fun fs h=>by rw [hsp] at h;cases h.1) (fun w' hst=>spend_calls w0 S b _ [3] hgl _ _ w' hst (fun w2 h2=>row_cells (h2.own (b39,_) (List.Mem.tail _ (List.Mem.head _))).2 rfl rfl (by simp [maxLen]))) ?_ ?_
 rotate_left
 ·rintro ch fs' h
  rw [hsp] at h;cases h.1
 rintro v fs' h
 rw [hsp] at h
 obtain ⟨h,rfl⟩:=h
 cases h
 (refine nSz<|vMz<|vNz<|vFz<|vFz<|vFz<|ldz rfl .head hrdS<|lvz (.lenR rfl inferInstance rfl)<|vAz<|nSz<|vMz<|vFz<|ldz rfl (.tail (.tail .head)) op_rd2 ?_;refine lvz (.geqT rfl rfl (by omega)) ?_;refine vMz<|gTz<|vMz<|gTz<|vFz<|gTz<|ldz rfl (.tail (.tail .head)) op_rd2<|gTz ?_;refine lvz (.subZ rfl rfl (by omega) (by omega)) ?_;refine gTz<|vFz<|gTz<|ldz rfl (.tail (.tail .head)) op_rd3<|gTz ?_;refine lvz (.addZ rfl rfl (by omega)) ?_;refine gTz ?_;refine lvz (.leqT rfl rfl (by omega)) ?_;refine pTz ?_;apply zS;rfl;rfl;infer_instance;exact .cons rfl .nil;intro w _;exact need_true w;refine nNz<|zI ?_)
 apply CW.pre
 (refine AnyW.anyM [] 15 mixed (by decide +kernel) ?_)
 ((try simp only [tsOf_cons,tsOf_nil,tsOf_app]);refine dvz (.move rfl)<|dvz (.nilCheck rfl)<|dvz (.fieldAddr rfl rfl)<|dvz (.fieldAddr rfl rfl) ?_;apply qD;rfl;rfl;rfl;exact zC;rfl;apply zP;exact zN;exact hrdP;refine dvz (.addZL rfl rfl (by decide) (by omega)) ?_;refine dvz (.fieldAddr rfl rfl) ?_;apply qD;rfl;rfl;rfl;exact zC;rfl;apply zO;apply zO;apply zP;exact zN;exact op_rd4;refine dvz (.addZ rfl rfl (by omega)) ?_;refine dvz (.move rfl)<|dvz (.nilCheck rfl)<|dvz (.fieldAddr rfl rfl)<|dvz (.fieldAddr rfl rfl) ?_;apply qD;rfl;rfl;rfl;exact zC;rfl;apply zP;exact zN;exact hrdC;refine dvz (.lenR rfl inferInstance rfl) ?_;apply DW.nil;simp only [fsOf_cons,fsOf_nil,fsOf_app,fsOf_tsOf,fsOf_new])
 try simp only [fsOf_mark,fsOf_cons,fsOf_nil,fsOf_app,fsOf_tsOf,fsOf_new,fsOf_tag,List.append_eq,List.nil_append]
 (refine lvz (.minZ rfl rfl)<|vAz<|nNz<|zI<|sRz<|vMz<|vMz ?_)
 refine LW.perm (fs':=(b,maO ((ma0 f e0 e1 e2 e3).setGas (f.gas - 3)))::(gs++([(b39,.cells #[.int .u64 3] 26 (0,0)),(b3,.cells (opc (opX op)) 86 (0,0))]++rest))) (List.Perm.cons _ (List.perm_append_comm_assoc gs [_,_] rest)) ?_
 refine LW.callSt (K:=fun v fs'=>RowK b ((ma0 f e0 e1 e2 e3).setGas (f.gas - 3)) L (L.ws++[bev (dataC L.cl f.pc)]) ([(b39,.cells #[.int .u64 3] 26 (0,0)),(b3,.cells (opc (opX op)) 86 (0,0))]++rest) (.returned v) fs') rfl rfl inferInstance (by (exact .cons rfl (.cons rfl .nil))) (fun w' hst=>Calls.mono (row_push w0 S b ((ma0 f e0 e1 e2 e3).setGas (f.gas - 3)) L gs _ op h1 h2 hok hf hfr w' hst) fun x w'' ⟨fs',hk,hst⟩=>⟨.bool true,fs',hk.1,by { have h:=hk;rw [hk.1] at h;exact h },hst⟩) ?_
 rintro v fs' ⟨hv,s,k,gs',hfr',rfl⟩
 cases hv
 (refine nNz<|cTz<|sRz<|vMz<|vMz<|vNz<|vFz<|vFz ?_;apply zR;rfl;rfl;apply qA;apply ma_wr1 (z:=.int .i64 0);refine nNz<|zK<|thenR ?_)
 refine inPI (.inl rfl) .nil rfl .nil rfl ⟨_,⟨rfl,s,k,gs',hfr',rfl⟩,_,?_,.refl _⟩
 exact List.Sublist.cons_cons _ (List.Sublist.append_left (.cons _ (.cons _ (.refl _))) gs')
end
section
attribute [local irreducible] SL.inP SL.inD SL.outD
theorem tries_bound (w0:World) (S:List Nat) (f:FuncId) (first:Array Value) (K:Out) (hK:TryK K) (hF:FnI Tryz.prog f) (own rest:Fs) (w:World)
  (hc:∀ rest w',St w0 S (own++rest) w'→Calls Tryz.prog f first w' (fun x w''=>∃ fs',(∃ own',K x own'∧fs'=own'++rest)∧St w0 S fs' w'')) (hs:St w0 S (own++rest) w) :
  Calls Tryz.prog 41 #[.func (.func f) first #[]] w (fun x w'=>∃ fs',(∃ ok own',x=.returned (.bool ok)∧K (match ok with|true=>.returned (.tuple #[])|false=>.panicked failC) own'∧fs'=own'++rest)∧St w0 S fs' w'):=by
 refine calls_inlineD (args:=[_]) Tryz.func41 rfl Tryz.ntmps41 rfl ?_ hs
 (refine sRz ?_;apply LW.alloc1;rfl;rfl;intro _;refine nSz ?_;apply LW.v0;rfl;rfl;apply ValP.makeFunc;exact ArgsOk.nil;exact .cons rfl .nil)
 rename_i bok
 apply LW.defer
 rfl
 rfl
 (apply zV;refine thenM<|sRz<|vMz ?_)
 refine LW.perm (fs':=own++(bok,.cells #[.bool false] 4 (0,0))::rest) List.perm_middle ?_
 refine LW.callP (K:=fun x fs'=>∃ own',K x own'∧fs'=own'++(bok,.cells #[.bool false] 4 (0,0))::rest) rfl rfl hF (by (exact ArgsOk.nil)) (aas:=first.toList) (by simp) (fun fs ⟨own',h,_⟩=>by rcases hK _ _ h with h|h<;>cases h) (fun w' hst=>by simpa using hc _ w' hst) ?_ ?_
 ·rintro v fs' ⟨own',hKv,rfl⟩
  obtain rfl:v=.tuple #[]:=by
   rcases hK _ _ hKv with h|h
   ·exact Ending.returned.inj h
   ·cases h
  refine LW.perm (fs':=(bok,.cells #[.bool false] 4 (0,0))::(own'++rest)) List.perm_middle.symm ?_
  (refine nSz ?_;apply zR;rfl;rfl;apply qA;apply Wr.cells;rfl;rfl;simp only [wc,List.size_toArray,List.length_cons,List.length_nil];omega;simp only [fillC,wc,wrCells,Value.cells,qJ,qG,qL,qK,Nat.reduceAdd,Nat.reduceMul,qN,Nat.mul_one];rfl;refine nNz<|zK ?_)
  refine outDI (.inl rfl) rfl fun a w2 s2=>?_
  refine leaves_clo (K:=fun e fs'=>e=.returned (.tuple #[])∧fs'=(bok,.cells #[.bool true] 4 (0,0))::(own'++rest)) inferInstance (fun h=>by cases h) (tries1_idle w0 S bok true (own'++rest) w2 s2.st) (fun fs h=>by cases h.1) ?_ ?_
  ·rintro v fs' w' ⟨_,rfl⟩ hst
   refine leaves_end (vs:=[.bool true]) (w:=w') rfl s2.env hst ?_ rfl ?_
   ·(apply zD;apply zH;rfl;apply qE;apply zY;exact Rd.one' rfl;exact zF)
   ·refine ⟨own'++rest,⟨true,own',rfl,hKv,rfl⟩,?_⟩
    exact ⟨hst.bel,fun p hp=>hst.own p (qO _ hp),(List.pairwise_cons.1 hst.nd).2⟩
  ·rintro ch fs' w' ⟨h,_⟩
   cases h
 ·rintro ch fs' ⟨own',hKv,rfl⟩
  obtain rfl:ch=failC:=by
   rcases hK _ _ hKv with h|h
   ·cases h
   ·exact Ending.panicked.inj h
  refine thenP ?_
  refine outDP rfl fun a w2 s2=>?_
  have s3:=s2.st.perm List.perm_middle.symm
  refine leaves_clo (K:=fun e fs'=>e=.returned (.tuple #[])∧∃ b2,fs'=b2::(bok,.cells #[.bool false] 4 (0,0))::(own'++rest)) inferInstance (fun h=>by cases h) (tries1_failed w0 S bok false (own'++rest) w2 s3) (fun fs h=>by cases h.1) ?_ ?_
  ·rintro v fs' w' ⟨_,b2,rfl⟩ hst
   refine leaves_end (vs:=[.bool false]) (w:=w') rfl s2.env hst ?_ rfl ?_
   ·(apply zD;apply zH;rfl;apply qE;apply zX;apply zY;exact Rd.one' rfl;exact zF)
   ·refine ⟨own'++rest,⟨false,own',rfl,hKv,rfl⟩,?_⟩
    exact ⟨hst.bel,fun p hp=>hst.own p (qO _ (qO _ hp)),(List.pairwise_cons.1 (List.pairwise_cons.1 hst.nd).2).2⟩
  ·rintro ch fs' w' ⟨h,_⟩
   cases h
def StepR (R:MaV→Fs→Prop) (v:Value) (gs:Fs):Prop:=∃ m,R m gs∧v=.tuple #[frv m.fr,.agg (aska m.kind m.op m.words m.data),.int .i64 0]
theorem aq_cells {kind:Int} {op:Nat} {u d:Value} (h:∃ p n c,u=.slice p n c) (h2:∃ p n c,d=.slice p n c):(aska kind op u d).toList.all Value.oneCell'=true:=by
 obtain ⟨p,n,c,rfl⟩:=h
 obtain ⟨p,n,c,rfl⟩:=h2
 rfl
theorem aq_wrW {P:Program} {T E:TypeId} {kind:Int} {op:Nat} {u d z:Value} {cs:Array Value} [InfoI P T 4 z] (h:cs.size=4) (h1:∃ p n c,u=.slice p n c) (h2:∃ p n c,d=.slice p n c):Wr P T (.cells cs E (0,0)) 0 (.agg (aska kind op u d)) (.cells (aska kind op u d) E (0,0)):=Wr.whole h rfl (aq_cells h1 h2)
theorem ma_rdA {P:Program} {T E:TypeId} {fr:Nat × Nat} {m:MaV} [AgI P T true] {z:Value} [InfoI P T 4 z]:Rd P T (.cells (mca m) E fr) 19 (.agg (aska m.kind m.op m.words m.data)):=Rd.mid (cs:=[.int .i64 m.kind,.int .u8 (m.op:Int),m.words,m.data]) rfl rfl
theorem Step_ok (f:FrV) (L:FrL) (e0 e1 e2 e3:Nat) (R:MaV→Fs→Prop) (hF:okF f L) (hR:∀ m gs,R m gs→FrSl m.fr∧(∃ p n c,m.words=.slice p n c)∧(∃ p n c,m.data=.slice p n c))
  (hstep:∀ (w0:World) (S:List Nat) (b:Nat) (c s m i b5:Value) (gs rest:Fs) (w':World),FrO (f.rows c s m i b5) L gs→St w0 S ((b,maO (ma0 (f.rows c s m i b5) e0 e1 e2 e3))::(gs++rest)) w' →
   Calls Tryz.prog 42 #[.pointer (some ⟨b,0,none⟩)] w' (fun x w''=>∃ fs',(x=.returned (.tuple #[])∧∃ m' gs',R m' gs'∧fs'=(b,maO m')::(gs'++rest))∧St w0 S fs' w''))
  (w:World) (h:FrRows w f L):Calls Tryz.prog 10 #[frv f,.agg (enva e0 e1 e2 e3)] w (RetG w [] (StepR R)):=by
 have hC:∀ w' {fs:Fs},St w [] fs w'→Calls Tryz.prog 34 #[frv f] w' (Ret w' (.int .i64 0)):=fun w' fs hst=>by
  have h0:=fCheck_calls f L w' (h.st hst)
  rwa [if_pos hF] at h0
 have hs1:=h.sl
 refine enter (args:=[_,_]) _ [] [] Tryz.func10 rfl Tryz.ntmps10 rfl (by simp) .nil ?_
 (refine sRz ?_;apply zT;rfl;rfl;intro _;apply zT;rfl;rfl;intro _;apply zU;rfl;intro _;apply zU;rfl;intro _;refine vAz<|nNz<|zI<|sRz<|ldz rfl (.tail (.tail (.tail .head))) fr_rdW ?_;apply zS;rfl;rfl;infer_instance;exact .cons rfl .nil;intro w _;exact hC w (by assumption);refine vAz<|nSz<|vMz ?_;refine lvz (.neF rfl rfl (by omega)) ?_;refine nNz<|cFz<|zJ<|thenN<|sRz<|ldz rfl (.tail (.tail (.tail .head))) fr_rdW<|ldz rfl (.tail (.tail .head)) (qF rfl) ?_)
 refine LW.callR rfl rfl inferInstance (by (exact .cons rfl (.cons rfl .nil))) (fun w' hst=>fOf_calls f L e0 e1 e2 e3 hF.short w' (h.st hst)) ?_
 rintro v g ⟨bm,c,s,mm,i,b5x,g1,rfl,rfl,hfr⟩
 rename_i b2 b3 b4 b5
 (refine vAz<|nNz<|zI<|sRz<|vMz ?_;apply LW.v0;rfl;rfl;apply ValP.makeFunc;exact .cons rfl .nil;exact ArgsOk.nil)
 refine LW.callSt (K:=fun v fs'=>v=.bool true∧∃ m' gs',R m' gs'∧fs'=(bm,maO m')::(gs'++[(b5,.cells #[.int .i64 0,.int .u8 0,.slice none 0 0,.slice none 0 0] 37 (0,0)),(b4,.cells #[.slice none 0 0,.int .i64 0,.slice none 0 0,.slice none 0 0,.int .u64 0,.int .u64 0,.int .u64 0,.int .u64 0,.int .u64 0,.int .u64 0,.int .u64 0,.slice none 0 0,.slice none 0 0,.bool false] 31 (0,0)),(b3,.cells (enva e0 e1 e2 e3) 33 (0,0)),(b2,.cells (fra f) 31 (0,0))])) rfl rfl inferInstance (by (exact .cons rfl .nil)) (fun w' hst=>Calls.mono (tries_bound w [] 42 #[.pointer (some ⟨bm,0,none⟩)] (fun x fs'=>x=.returned (.tuple #[])∧∃ m' gs',R m' gs'∧fs'=(bm,maO m')::gs') (fun x fs' h=>.inl h.1) inferInstance ((bm,maO (ma0 (f.rows c s mm i b5x) e0 e1 e2 e3))::g1) [(b5,.cells #[.int .i64 0,.int .u8 0,.slice none 0 0,.slice none 0 0] 37 (0,0)),(b4,.cells #[.slice none 0 0,.int .i64 0,.slice none 0 0,.slice none 0 0,.int .u64 0,.int .u64 0,.int .u64 0,.int .u64 0,.int .u64 0,.int .u64 0,.int .u64 0,.slice none 0 0,.slice none 0 0,.bool false] 31 (0,0)),(b3,.cells (enva e0 e1 e2 e3) 33 (0,0)),(b2,.cells (fra f) 31 (0,0))] w' (fun rest w2 h2=>Calls.mono (hstep w [] bm c s mm i b5x g1 rest w2 hfr h2) fun x w3 ⟨fs',⟨h3,m',gs',h4,h5⟩,hst⟩=>⟨fs',⟨_,⟨h3,m',gs',h4,rfl⟩,h5⟩,hst⟩) hst) fun x w3 ⟨fs',⟨ok,own',h3,h4,h5⟩,hst⟩=>?_) ?_
 ·cases ok with
  |false=>obtain ⟨h6,_⟩:=h4;cases h6
  |true =>
   obtain ⟨_,m',gs',h7,h8⟩:=h4
   exact ⟨_,_,h3,⟨rfl,m',gs',h7,by rw [h5,h8];rfl⟩,hst⟩
 rintro _ _ ⟨rfl,m',gs',hRm,rfl⟩
 obtain ⟨hsf,hsw,hsd⟩:=hR _ _ hRm
 (refine lvz (.notT rfl (by with_reducible rfl)) ?_;refine nNz<|cFz<|zJ<|thenN<|zI ?_)
 apply CW.pre
 (refine AnyW.anyM [] 9 mixed (by decide +kernel) ?_)
 ((try simp only [tsOf_cons,tsOf_nil,tsOf_app]);refine dvz (.move rfl)<|dvz (.nilCheck rfl)<|dvz (.fieldAddr rfl rfl) ?_;apply qD;rfl;rfl;rfl;exact zC;rfl;apply zP;exact zN;exact ma_rdF;refine dvz (.move rfl)<|dvz (.nilCheck rfl)<|dvz (.fieldAddr rfl rfl) ?_;apply qD;rfl;rfl;rfl;exact zC;rfl;apply zP;exact zN;exact ma_rdA;apply DW.store;rfl;rfl;exact zC;rfl;rfl;apply TSet.tail;apply TSet.app;apply TSet.tail;apply TSet.head;exact zN;exact zN;apply fr_wrW;rfl;exact hsf;apply DW.nil;simp only [fsOf_cons,fsOf_nil,fsOf_app,fsOf_tsOf,fsOf_new])
 try simp only [fsOf_mark,fsOf_cons,fsOf_nil,fsOf_app,fsOf_tsOf,fsOf_new,fsOf_tag,List.append_eq,List.nil_append]
 (apply zR;rfl;rfl;apply qB;apply qC;apply qA;apply aq_wrW;rfl;exact hsw;exact hsd;refine vAz<|nNz<|zK ?_)
 trace_state
 exact fin (vs:=[frv m'.fr,.agg (aska m'.kind m'.op m'.words m'.data),.int .i64 0]) gs' (.inl rfl) rfl rfl (by (apply zD;apply zH;rfl;apply qE;apply zX;apply zZ;apply zX;apply zY;exact fr_rdW;apply zD;apply zH;rfl;apply qE;apply zX;apply zZ;apply zY;exact qF rfl;apply zD;exact zG rfl;exact zF)) (qQ _ (qP _ _)) ⟨m',hRm,rfl⟩
end
end Go.Proofs.YtdeggbkbblfpoaaGreatDoor
