/-
  Texts that were built apart, put behind one another (3 of 5): K5 K9 KA KB KD N4 N5 N6 Smx N7 N8 C1 C2 C3 C4 C5 C6 C7 N9 NA NB NC ND NE NF NG Smy Smz NH NI.
  Conditions: none.
-/
import Derived.Test.YtpgdnfgjbhdbpaaGreatDoorZ2
import Derived.Lib.Bytealg
import Derived.Laws.IdiomCopy
namespace Go.Proofs.YtpgdnfgjbhdbpaaGreatDoor.SK
open Go Go.RowKit SL
set_option maxRecDepth 8000
set_option maxHeartbeats 4000000
set_option linter.unusedSimpArgs false
set_option linter.unusedVariables false
attribute [local irreducible] SL.CW SL.LW SL.DW Calls SL.Ret SL.RetG SL.beginQ SL.roundQ SL.rangeQ SL.RW SL.AnyW SL.thenQ SL.thenC SL.thenW SL.blkQ SL.finQ SL.ValP SL.NewP SL.SetP SL.CallP SL.Rd SL.Wr SL.Known
section
def soakF (L:List Nat) (p:List UInt8) (o:Nat):Nat→List Nat
 |0=>L
 |k+1=>(soakF L p o k).set (k / 8) ((soakF L p o k).getD (k / 8) 0 ^^^ ((p.getD (o+k) 0).toNat * 2 ^ (8 * (k % 8)) % 18446744073709551616))
theorem soakF_len (L:List Nat) (p:List UInt8) (o k:Nat):(soakF L p o k).length=L.length:=by
 induction k with
 |zero=>rfl
 |succ k ih=>simp [soakF,ih]
theorem soakF_lt (L:List Nat) (p:List UInt8) (o:Nat) (hb:∀ i,L.getD i 0 < 18446744073709551616) (k:Nat):∀ i,(soakF L p o k).getD i 0 < 18446744073709551616:=by
 induction k with
 |zero=>exact hb
 |succ k ih=>exact getD_set_lt ih (xor_lt (ih _) (Nat.mod_lt _ (by decide)))
def sumF (p:List UInt8):Nat→List Nat
 |0=>List.replicate 25 0
 |c+1=>permL (soakF (sumF p c) p (136 * c) 136)
theorem sumF_len (p:List UInt8) (c:Nat):(sumF p c).length=25:=by
 induction c with
 |zero=>simp [sumF]
 |succ c ih=>exact permL_len _ (by rw [soakF_len,ih])
theorem sumF_lt (p:List UInt8) (c:Nat):∀ i,(sumF p c).getD i 0 < 18446744073709551616:=by
 induction c with
 |zero=>exact rep_lt 25
 |succ c ih=>exact permL_lt _ (soakF_lt _ _ _ ih _)
def idF (L:List Nat):Nat→List UInt8
 |0=>List.replicate 32 0
 |k+1=>(idF L k).set k (UInt8.ofNat (L.getD (k / 8) 0 / 2 ^ (8 * (k % 8)) % 256))
theorem idF_len (L:List Nat) (k:Nat):(idF L k).length=32:=by
 induction k with
 |zero=>simp [idF]
 |succ k ih=>simp [idF,ih]
def padC (n:Nat):Nat:=n / 136+1
def sumB (b:List UInt8):List UInt8:=idF (sumF (padB b) (padC b.length)) 32
theorem ValP.cut3o {P:Program} {e:Env} {T:TypeId} {x:Operand} {g o o' m n:Nat} {ik il im:IntKind} {E i j k c:Nat} {z:Value} {lo hi mx:Operand} (hU:UnI P T (.slice E)) (hI:InfoI P E 1 z) (hx:e.ev x=some (.slice (some ⟨g,o,none⟩) n c)) (hl:e.ev lo=some (.int il (i:Int))) (hh:e.ev hi=some (.int ik (j:Int))) (hm:e.ev mx=some (.int im (k:Int))) (h1:j=i+m) (h2:k=i+m) (h3:i+m≤c) (h4:0 < m) (h5:o'=o+i) :
  ValP P e [] (.slice T x (some lo) (some hi) (some mx)) (.slice (some ⟨g,o',none⟩) m m):=by
 subst h1 h2 h5
 have h:=ValP.cut3 (P:=P) (e:=e) hU hI hx hl hh hm (by omega) (by omega) h3 (by omega)
 have e1:i+m - i=m:=by omega
 have e2:(Option.map (fun x=>Addr.add x (i * 1)) (some ⟨g,o,none⟩))=some ⟨g,o+i,none⟩:=by simp [Addr.add]
 rw [e1] at h
 rw [← e2]
 exact h
theorem soakF_zero (L:List Nat) (p:List UInt8) (o:Nat):soakF L p o 0=L:=rfl
theorem sumF_zero (p:List UInt8):sumF p 0=List.replicate 25 0:=rfl
theorem soakF_succ (L:List Nat) (p:List UInt8) (o k:Nat):soakF L p o (k+1)=(soakF L p o k).set (k / 8) ((soakF L p o k).getD (k / 8) 0 ^^^ ((p.getD (o+k) 0).toNat * 2 ^ (8 * (k % 8)) % 18446744073709551616)):=rfl
theorem sumF_succ (p:List UInt8) (c:Nat):sumF p (c+1)=permL (soakF (sumF p c) p (136 * c) 136):=rfl
theorem idF_zero (L:List Nat):idF L 0=List.replicate 32 0:=rfl
theorem idF_succ (L:List Nat) (k:Nat):idF L (k+1)=(idF L k).set k (UInt8.ofNat (L.getD (k / 8) 0 / 2 ^ (8 * (k % 8)) % 256)):=rfl
attribute [local irreducible] permL padB soakF sumF idF
theorem Sum_calls (b:List UInt8) (v:Value) (w:World) (hv:RowAt w 1 v b.length (ucs b)) (hb:b.length≤100000) (hT:TurnAt w) (hN:NumAt w):Calls Tryz.prog 69 #[v] w (Ret w (.agg (uca (sumB b)))):=by
 have hPad:∀ w' {fs},St w [] fs w'→Calls Tryz.prog 105 #[v] w' (RetG w' [] (PadR b)):=fun w' fs hst=>Pad_calls b v w' (hv.st hst) hb
 have hP:∀ L:List Nat,L.length=25→(∀ i,L.getD i 0 < 18446744073709551616)→∀ w' {fs},St w [] fs w'→Calls Tryz.prog 106 #[.agg (nca L)] w' (Ret w' (.agg (nca (permL L)))):=fun L h1 h2 w' fs hst=>Permute_calls L h1 h2 w' (hT.st hst) (hN.st hst)
 obtain ⟨p0,c0,rfl,_,_⟩:=hv.form
 obtain ⟨P,hPe⟩:∃ P,P=padB b:=⟨_,rfl⟩
 obtain ⟨N,hNe⟩:∃ N,N=padC b.length:=⟨_,rfl⟩
 have hlP:P.length=136 * N:=by rw [hPe,hNe,padB_len,padN,padC];omega
 have hNb:N≤1000:=by rw [hNe,padC];omega
 refine enter (args:=[_]) _ [] [] Tryz.func69 rfl Tryz.ntmps69 rfl (by simp) .nil ?_
 (refine sRz ?_;apply zU;rfl;intro _;refine nSz ?_;apply zU;rfl;intro _;refine nNz<|zI<|sRz<|vMz ?_)
 refine LW.callR rfl rfl inferInstance (by (exact .cons rfl .nil)) (fun w hst=>hPad w hst) ?_
 rintro v1 gs1 ⟨g,rfl,rfl⟩
 rw [← hPe]
 skip
 refine LW.callR rfl rfl inferInstance (by (exact .cons rfl (.cons rfl .nil))) (fun w hst=>Chunk_calls _ _ _ w) ?_
 rintro v2 gs2 ⟨b1,b2,rfl,rfl⟩
 simp only [List.cons_append,List.nil_append]
 (refine nNz<|zM ?_)
 rename_i bi bl
 apply CW.rangeFunc
 rfl
 rfl
 infer_instance
 rfl
 exact Tryz.func134
 rfl
 exact Tryz.ntmps134
 rfl
 rfl
 intro l r rec hrec
 (refine sRz<|vAz<|nNz<|zM ?_)
 refine CW.loop (fun c:Nat=>([(4,.int .i64 ((136 * c:Nat):Int)),(0,.func (.yield l) #[] #[]),(1,.pointer (some ⟨b1,0,none⟩)),(2,.pointer (some ⟨b2,0,none⟩))],
  [(l,rdy rec),(r,.deferred (some [])),(b2,.cells #[.int .i64 136] 3 (0,0)),(b1,.cells #[.slice (some ⟨g,0,none⟩) P.length P.length] 22 (0,0)),(g,.cells (uca P) 5 (0,0)),
   (bl,.cells (nca (sumF P c)) 140 (0,0)),(bi,.cells (uca (List.replicate 32 0)) 107 (0,0))]))
  (fun c=>c≤N) (fun c=>N - c) 0 (Nat.zero_le _) ⟨rfl,rfl,rfl,rfl,trivial⟩ (by dsimp only;rw [sumF_zero];exact qM _) ?_
 intro c hc
 dsimp only at hc ⊢
 rcases Nat.lt_or_ge c N with hcN|hcN
 ·have hle:136 * c+136≤P.length:=by omega
  (refine zI<|sRz<|vMz<|ldz rfl (.tail (.tail (.tail .head))) (Rd.one' rfl)<|lvz (.lenR rfl inferInstance rfl) ?_;refine lvz (.lssT rfl rfl (by omega)) ?_;refine nNz<|cTz<|zJ<|thenN<|zI<|zM<|zI ?_;apply CW.pre;refine AnyW.any 5 mixed (by decide +kernel) ?_;(try simp only [tsOf_cons,tsOf_nil,tsOf_app]);apply qD;rfl;rfl;rfl;exact zC;rfl;apply zO;apply zO;apply zP;exact zN;exact Rd.one' rfl;apply qD;rfl;rfl;rfl;exact zC;rfl;apply zO;apply zO;apply zO;apply zP;exact zN;exact Rd.one' rfl;refine dvz (.move rfl) ?_;refine dvz (.cutFrom inferInstance inferInstance rfl rfl (by omega)) ?_;refine dvz (.lenR rfl inferInstance rfl) ?_;apply DW.nil;simp only [fsOf_cons,fsOf_nil,fsOf_app,fsOf_tsOf,fsOf_new];refine lvz (.minZ rfl rfl)<|vAz<|nSz<|vMz<|ldz rfl (.tail (.tail (.tail .head))) (Rd.one' rfl)<|vMz<|vMz<|vMz ?_;refine lvz (.addZ rfl rfl (by omega)) ?_;refine vMz<|vMz ?_;refine lvz (.addZ rfl rfl (by omega)) ?_)
  apply LW.v0
  rfl
  rfl
  refine ValP.cut3o (o':=136 * c) (m:=136) inferInstance inferInstance rfl rfl rfl rfl ?_ ?_ ?_ ?_ ?_
  ·show 136 * c+min 136 (P.length - 136 * c)=136 * c+136
   omega
  ·show 136 * c+min 136 (P.length - 136 * c)=136 * c+136
   omega
  ·omega
  ·omega
  ·omega
  apply LW.yield
  rfl
  rfl
  (exact .cons rfl .nil)
  exact hrec
  (apply zY)
  rfl
  rfl
  (refine zL<|vAz ?_;apply zV;apply beginI;apply qA;refine zM<|zI<|sRz<|vMz<|lvz (.lenR rfl inferInstance rfl)<|vMz<|nNz<|zM ?_)
  refine CW.loop (fun k:Nat=>([(14,.int .i64 (k:Int)),(13,.int .i64 136),(12,.slice (some ⟨g,136 * c,none⟩) 136 136),(3,.pointer (some ⟨bl,0,none⟩)),(2,.pointer (some ⟨bi,0,none⟩))],
   [(l,bsy rec),(r,.deferred (some [])),(b2,.cells #[.int .i64 136] 3 (0,0)),(b1,.cells #[.slice (some ⟨g,0,none⟩) P.length P.length] 22 (0,0)),(g,.cells (uca P) 5 (0,0)),
   (bl,.cells (nca (soakF (sumF P c) P (136 * c) k)) 140 (0,0)),(bi,.cells (uca (List.replicate 32 0)) 107 (0,0))]))
   (fun k=>k≤136) (fun k=>136 - k) 0 (Nat.zero_le _) ⟨rfl,rfl,rfl,rfl,rfl,trivial⟩ ?_ ?_
  ·dsimp only
   rw [soakF_zero]
   exact qM _
  intro k hk
  dsimp only at hk ⊢
  have hls:=soakF_len (sumF P c) P (136 * c) k
  have hls':=sumF_len P c
  have hsb:=soakF_lt _ P (136 * c) (sumF_lt P c) k
  rcases Nat.lt_or_ge k 136 with hk6|hk6
  ·have hbt:(P.getD (136 * c+k) 0).toNat < 256:=UInt8.toNat_lt _
   (refine sRz ?_;refine lvz (.lssT rfl rfl (by omega)) ?_;refine nNz<|zI<|cTz<|zJ<|thenN<|zI<|zM<|sRz<|vMz ?_;refine lvz (.indexAddrS rfl rfl rfl (by omega)) ?_;apply LW.load;rfl;rfl;apply qE;apply zX;apply zX;apply zX;apply zX;apply zY;apply rd_ucaO;omega;refine vAz<|vAz<|nNz ?_;apply CW.pre;refine AnyW.any 10 mixed (by decide +kernel) ?_;(try simp only [tsOf_cons,tsOf_nil,tsOf_app]);refine dvz (.move rfl) ?_;refine dvz (.quoZL rfl rfl (by decide) (by omega) (by omega)) ?_;refine dvz (.indexAddrA rfl rfl rfl (by omega)) ?_;apply qD;rfl;rfl;rfl;exact zC;rfl;apply zO;apply zO;apply zO;apply zO;apply zO;apply zP;exact zN;apply rd_nca;omega;refine dvz (.move rfl) ?_;refine dvz (.convN rfl (by omega) (by omega)) ?_;refine dvz (.move rfl) ?_;refine dvz (.remZL rfl rfl (by decide) (by omega)) ?_;refine dvz (.mulZK rfl rfl (by decide) (by omega)) ?_;refine dvz (.shlU rfl rfl (by omega)) ?_;apply DW.nil;simp only [fsOf_cons,fsOf_nil,fsOf_app,fsOf_tsOf,fsOf_new];apply LW.v0;rfl;rfl;apply ValP.xorU;rfl;rfl;exact hsb _;exact Nat.mod_lt _ (by decide);refine lvz (.indexAddrA rfl rfl rfl (by omega)) ?_;apply zR;rfl;rfl;apply qB;apply qB;apply qB;apply qB;apply qB;apply qA;apply wr_nca;omega;apply zV;refine blkN<|thenN<|zL ?_;refine lvz (.addZL rfl rfl (by decide) (by omega)) ?_;refine vMz ?_;apply zV)
   refine thenX ⟨rfl,k+1,hk6,by omega,⟨rfl,rfl,rfl,rfl,rfl,trivial⟩,?_⟩
   rw [soakF_succ]
   exact qM _
  ·obtain rfl:k=136:=by omega
   have hPerm:∀ w' {fs},St w [] fs w'→Calls Tryz.prog 106 #[.agg (nca (soakF (sumF P c) P (136 * c) 136))] w' (Ret w' (.agg (nca (permL (soakF (sumF P c) P (136 * c) 136))))):=hP _ (by rw [hls,hls']) hsb
   have hlp:=permL_len (soakF (sumF P c) P (136 * c) 136) (by rw [hls,hls'])
   have hls2:(soakF (sumF P c) P (136 * c) 136).length=25:=by rw [hls,hls']
   (refine sRz ?_;refine lvz (.lssF rfl rfl (by omega)) ?_;refine nNz<|zI<|cFz<|CW.exit<|thenE<|thenE<|blkE rfl<|thenN<|zL ?_;apply LW.load;rfl;rfl;apply qE;apply zX;apply zX;apply zX;apply zX;apply zX;apply zY;apply rd_ncaW;assumption;apply zS;rfl;rfl;infer_instance;exact .cons rfl .nil;intro w _;exact hPerm w (by assumption);apply zR;rfl;rfl;apply qB;apply qB;apply qB;apply qB;apply qB;apply qA;apply wr_ncaW;assumption;assumption;apply zV;refine blkN ?_;apply roundN;apply qA;refine lvz (.notT rfl (by with_reducible rfl)) ?_;refine nNz<|cFz<|zJ<|blkN<|thenN<|zL<|vMz<|ldz rfl (.tail (.tail .head)) (Rd.one' rfl) ?_;refine lvz (.addZL rfl rfl (by decide) (by omega)) ?_;refine vAz ?_;apply zV)
   refine thenX ⟨rfl,c+1,hcN,by omega,⟨rfl,rfl,rfl,rfl,trivial⟩,?_⟩
   rw [sumF_succ]
   exact qM _
 ·obtain rfl:c=N:=by omega
  have hls:=sumF_len P c
  have hsb:=sumF_lt P c
  (refine zI<|sRz<|vMz<|ldz rfl (.tail (.tail (.tail .head))) (Rd.one' rfl)<|lvz (.lenR rfl inferInstance rfl) ?_;refine lvz (.lssF rfl rfl (by omega)) ?_;refine nNz<|cFz<|CW.exit<|thenE<|thenE<|blkE rfl ?_)
  apply rangeN
  (exact .inr rfl)
  (exact Shut.nil)
  (apply qA)
  (refine blkN<|thenM<|zI<|sRz<|vMz<|nNz<|zM ?_)
  refine CW.loop (fun k:Nat=>([(34,.int .i64 (k:Int)),(3,.pointer (some ⟨bl,0,none⟩)),(2,.pointer (some ⟨bi,0,none⟩))],
   [(r,.deferred (some [])),(bl,.cells (nca (sumF P c)) 140 (0,0)),(bi,.cells (uca (idF (sumF P c) k)) 107 (0,0))]))
   (fun k=>k≤32) (fun k=>32 - k) 0 (Nat.zero_le _) ⟨rfl,rfl,rfl,trivial⟩ ?_ ?_
  ·dsimp only
   rw [idF_zero]
   (apply qQ;apply List.Sublist.cons_cons;apply qQ;apply qQ;apply qQ;exact qM _)
  intro k hk
  dsimp only at hk ⊢
  have hli:=idF_len (sumF P c) k
  rcases Nat.lt_or_ge k 32 with hk6|hk6
  ·(refine sRz ?_;refine lvz (.lssT rfl rfl (by omega)) ?_;refine nNz<|zI<|cTz<|zJ<|thenN<|zI<|zM<|sRz<|vMz<|vAz<|nNz<|zL<|vMz<|vMz ?_;refine lvz (.quoZL rfl rfl (by decide) (by omega) (by omega)) ?_;refine lvz (.indexAddrA rfl rfl rfl (by omega)) ?_;apply LW.load;rfl;rfl;apply qE;apply zX;apply zY;apply rd_nca;omega;refine vMz ?_;refine lvz (.remZL rfl rfl (by decide) (by omega)) ?_;refine lvz (.mulZK rfl rfl (by decide) (by omega)) ?_;refine lvz (.shrU rfl rfl (by omega)) ?_;refine lvz (.convB rfl) ?_;refine lvz (.indexAddrA rfl rfl rfl (by omega)) ?_;apply zR;rfl;rfl;apply qB;apply qB;apply qA;apply wr_uca;omega;exact Nat.mod_lt _ (by decide);apply zV;refine blkN<|thenN<|zL ?_;refine lvz (.addZL rfl rfl (by decide) (by omega)) ?_;refine vMz ?_;apply zV)
   refine thenX ⟨rfl,k+1,hk6,by omega,⟨rfl,rfl,rfl,trivial⟩,?_⟩
   rw [idF_succ]
   exact qM _
  ·obtain rfl:k=32:=by omega
   (refine sRz ?_;refine lvz (.lssF rfl rfl (by omega)) ?_;refine nNz<|zI<|cFz<|CW.exit<|thenE<|thenE<|blkE rfl<|thenN<|sRz ?_;apply LW.load;rfl;rfl;apply qE;apply zX;apply zX;apply zY;apply rd_ucaW;assumption;apply zR;rfl;rfl;apply qB;apply qB;apply qA;apply wr_ucaW;assumption;assumption;refine nNz<|zK ?_)
   (apply finRM;exact .inl rfl;apply Shut.cons;apply qA;exact Shut.nil;rfl;rfl;apply zD;apply zH;rfl;apply qE;apply zX;apply zX;apply zY;apply rd_ucaW;assumption;exact zF)
   rw [sumB,← hPe,← hNe]
   rfl
end

end Go.Proofs.YtpgdnfgjbhdbpaaGreatDoor.SK
namespace Go.Proofs.YtpgdnfgjbhdbpaaGreatDoor.SK
open Go Go.RowKit SL
set_option maxRecDepth 100000

end Go.Proofs.YtpgdnfgjbhdbpaaGreatDoor.SK
namespace Go.Proofs.YtpgdnfgjbhdbpaaGreatDoor.SK
open Go Go.RowKit SL
set_option maxRecDepth 8000
set_option maxHeartbeats 4000000
set_option linter.unusedSimpArgs false
set_option linter.unusedVariables false
attribute [local irreducible] SL.CW SL.LW SL.DW Calls SL.Ret SL.RetG SL.beginQ SL.roundQ SL.rangeQ SL.RW SL.AnyW SL.thenQ SL.thenC SL.thenW SL.blkQ SL.finQ SL.ValP SL.NewP SL.SetP SL.CallP SL.Rd SL.Wr SL.Known

theorem Clone_calls (l:List UInt8) (v:Value) (w:World) (hv:RowAt w 1 v l.length (ucs l)) (hl:l.length≤100000):Calls Tryz.prog 12 #[v] w (RetG w [] (fun v' gs=>IsRow 5 1 v' l.length (ucs l) gs)):=by
 obtain ⟨p,c,rfl,_,_⟩:=hv.form
 cases p with
 |none =>
  have h0:l.length=0:=by
   rcases Nat.eq_zero_or_pos l.length with h|h
   ·exact h
   ·obtain ⟨_,_,_,_,_,_,he,_,_⟩:=hv.pos h
    cases he
  have hn:l=[]:=List.length_eq_zero_iff.1 h0
  subst hn
  refine enter (args:=[_]) _ [] [] Tryz.func12 rfl Tryz.ntmps12 rfl (by simp) .nil ?_
  (refine sRz<|vAz<|nNz<|zI<|sRz<|vMz ?_;apply LW.v0;rfl;rfl;apply ValP.sliNilT;rfl;rfl;refine nNz<|cTz<|sRz<|vAz<|nNz<|zK<|thenR ?_)
  exact fin [] (.inl rfl) rfl rfl (by (apply zD;exact zG rfl;exact zF)) (qM _) .nil
 |some a =>
  refine enter (args:=[_]) _ [] [] Tryz.func12 rfl Tryz.ntmps12 rfl (by simp) .nil ?_
  (refine sRz<|vAz<|nNz<|zI<|sRz<|vMz ?_;apply LW.v0;rfl;rfl;apply ValP.sliNilF;rfl;rfl;refine nNz<|cFz<|zJ<|thenN<|sRz ?_)
  refine LW.lay0 rfl inferInstance inferInstance fun v0 seg hrow=>?_
  (refine vMz ?_)
  (apply LW.appendAny;(case hrow=>assumption);rfl;rfl;infer_instance;infer_instance;infer_instance;rfl;rfl;rfl;exact AtSeg.head)
  ·exact fun w hs=>hv.st hs
  ·exact ucs_cells l
  ·simp only [maxLen];omega
  ·omega
  intro v1 seg1 hrow1
  refine ⟨_,(by (exact AtSeg.head)),?_⟩
  simp only [List.nil_append,qN,List.append_nil] at hrow1 ⊢
  (refine vAz<|nNz<|zK ?_)
  refine fin (vs:=[v1]) seg1 (.inl rfl) rfl rfl (by (apply zD;exact zG rfl;exact zF)) ?_ hrow1
  (exact qM _)
def RowR (b:List UInt8) (v:Value) (gs:Fs):Prop:=IsRow 5 1 v b.length (ucs b) gs
end Go.Proofs.YtpgdnfgjbhdbpaaGreatDoor.SK
namespace Go.Proofs.YtpgdnfgjbhdbpaaGreatDoor
open Go Go.RowKit SL
set_option maxRecDepth 8000
set_option maxHeartbeats 4000000
set_option linter.unusedSimpArgs false
set_option linter.unusedVariables false
attribute [local irreducible] SL.CW SL.LW SL.DW Calls SL.Ret SL.RetG SL.beginQ SL.roundQ SL.rangeQ SL.RW SL.AnyW SL.thenQ SL.thenC SL.thenW SL.blkQ SL.finQ SL.ValP SL.NewP SL.SetP SL.CallP SL.Rd SL.Wr SL.Known
theorem CloneW_calls (l:List Nat) (v:Value) (w:World) (hv:RowAt w 4 v l.length (wcs l)) (hl:l.length≤100000):Calls Tryz.prog 38 #[v] w (RetG w [] (fun v' gs=>IsRow 29 4 v' l.length (wcs l) gs)):=by
 obtain ⟨p,c,rfl,_,_⟩:=hv.form
 cases p with
 |none =>
  have h0:l.length=0:=by
   rcases Nat.eq_zero_or_pos l.length with h|h
   ·exact h
   ·obtain ⟨_,_,_,_,_,_,he,_,_⟩:=hv.pos h
    cases he
  have hn:l=[]:=List.length_eq_zero_iff.1 h0
  subst hn
  refine enter (args:=[_]) _ [] [] Tryz.func38 rfl Tryz.ntmps38 rfl (by simp) .nil ?_
  (refine sRz<|vAz<|nNz<|zI<|sRz<|vMz ?_;apply LW.v0;rfl;rfl;apply ValP.sliNilT;rfl;rfl;refine nNz<|cTz<|sRz<|vAz<|nNz<|zK<|thenR ?_)
  exact fin [] (.inl rfl) rfl rfl (by (apply zD;exact zG rfl;exact zF)) (qM _) .nil
 |some a =>
  refine enter (args:=[_]) _ [] [] Tryz.func38 rfl Tryz.ntmps38 rfl (by simp) .nil ?_
  (refine sRz<|vAz<|nNz<|zI<|sRz<|vMz ?_;apply LW.v0;rfl;rfl;apply ValP.sliNilF;rfl;rfl;refine nNz<|cFz<|zJ<|thenN<|sRz ?_)
  refine LW.lay0 rfl inferInstance inferInstance fun v0 seg hrow=>?_
  (refine vMz ?_)
  (apply LW.appendAny;(case hrow=>assumption);rfl;rfl;infer_instance;infer_instance;infer_instance;rfl;rfl;rfl;exact AtSeg.head)
  ·exact fun w hs=>hv.st hs
  ·exact wcs_cells l
  ·simp only [maxLen];omega
  ·omega
  intro v1 seg1 hrow1
  refine ⟨_,(by (exact AtSeg.head)),?_⟩
  simp only [List.nil_append,qN,List.append_nil] at hrow1 ⊢
  (refine vAz<|nNz<|zK ?_)
  refine fin (vs:=[v1]) seg1 (.inl rfl) rfl rfl (by (apply zD;exact zG rfl;exact zF)) ?_ hrow1
  (exact qM _)
def wM (l:List Nat) (v:Value) (gs:Fs):Prop:=IsRow 29 4 v l.length (wcs l) gs
def bM (l:List UInt8) (v:Value) (gs:Fs):Prop:=IsRow 5 1 v l.length (ucs l) gs
def ScO (ws:List Nat) (ms:List UInt8) (v:Value) (gs:Fs):Prop:=∃ s m g1 g2,v=.agg #[s,m]∧gs=g2++g1∧wM ws s g1∧bM ms m g2
theorem copied_calls (ws:List Nat) (ms:List UInt8) (s m:Value) (w:World) (hs:RowAt w 4 s ws.length (wcs ws)) (hm:RowAt w 1 m ms.length (ucs ms)) (hl:ws.length≤100000) (hl2:ms.length≤100000) :
  Calls Tryz.prog 140 #[.agg #[s,m]] w (RetG w [] (ScO ws ms)):=by
 obtain ⟨p,c,rfl,_,_⟩:=hs.form
 obtain ⟨p2,c2,rfl,_,_⟩:=hm.form
 refine enter (args:=[_]) _ [] [] Tryz.func140 rfl Tryz.ntmps140 rfl (by simp) .nil ?_
 (refine sRz ?_;apply zT;rfl;rfl;intro _;apply zU;rfl;intro _;refine nNz<|zI ?_)
 rename_i b1 b2
 apply CW.pre
 (refine AnyW.anyM [(2,wM ws),(5,bM ms)] 5 mixed (by decide +kernel) ?_)
 ((try simp only [tsOf_cons,tsOf_nil,tsOf_app]);refine dvz (.fieldAddr rfl rfl) ?_;apply qD;rfl;rfl;rfl;exact zC;rfl;apply zO;apply zP;exact zN;exact sc_rd0)
 (apply DW.manyV;rfl;rfl;rfl;exact zC;rfl;infer_instance;exact .cons rfl .nil;apply RdV.ext;assumption;rfl;exact RdV.nil;intro w _ _)
 exact CloneW_calls _ _ w (hs.bel (by assumption)) hl
 intro v1 g1 h1
 ((try simp only [tsOf_cons,tsOf_nil,tsOf_app]);refine dvz (.fieldAddr rfl rfl) ?_;apply qD;rfl;rfl;rfl;exact zC;rfl;apply zQ;apply zO;apply zP;exact zN;exact sc_rd1;apply DW.nil;simp only [fsOf_cons,fsOf_nil,fsOf_app,fsOf_tsOf,fsOf_new,fsOf_tag])
 (apply LW.callR;rfl;rfl;infer_instance;exact .cons rfl .nil;intro w hs)
 exact SK.Clone_calls _ _ w (hm.st hs) hl2
 intro v2 g2 h2
 have h1':=h1
 have h2':=h2
 unfold wM at h1'
 unfold bM at h2'
 obtain ⟨q1,k1,rfl⟩:=h1'.form
 obtain ⟨q2,k2,rfl⟩:=h2'.form
 (apply LW.v0;rfl;rfl;apply zW;infer_instance;infer_instance;apply zA;rfl;apply zA;rfl;exact zB;rfl;simp only [fillP,wrCells,Value.cells,qH,qI,qJ,qG,qL,qK,Nat.reduceAdd,qN];rfl;refine zR rfl rfl (.app (.app .head)) (.whole rfl rfl rfl)<|nNz<|zK ?_)
 refine fin (vs:=[.agg #[.slice q1 ws.length k1,.slice q2 ms.length k2]]) (g2++g1) (.inl rfl) rfl rfl (by (apply zD;apply zH;rfl;apply qE;apply zZ;apply zZ;apply zY;exact qF rfl;exact zF)) ?_ ⟨_,_,g1,g2,rfl,rfl,h1,h2⟩
 exact List.Sublist.append_left (qP _ _) _
section
section wr
variable {P : Program} {T E : TypeId} {s m z : Value} {p : Option Addr} {n c : Nat}
theorem sc_wr0 [InfoI P T 1 z]:Wr P T (.cells #[s,m] E (0,0)) 0 (.slice p n c) (.cells #[.slice p n c,m] E (0,0)):=Wr.cells (n:=1) (z:=z) rfl rfl (by show 0+1≤2;omega) rfl
theorem sc_wr1 [InfoI P T 1 z]:Wr P T (.cells #[s,m] E (0,0)) 1 (.slice p n c) (.cells #[s,.slice p n c] E (0,0)):=Wr.cells (n:=1) (z:=z) rfl rfl (by show 1+1≤2;omega) rfl
end wr
theorem push_full (ws:List Nat) (ms:List UInt8) (l:List Nat) (s m v:Value) (w:World) (hs:RowAt w 4 s ws.length (wcs ws)) (hm:RowAt w 1 m ms.length (ucs ms)) (hv:RowAt w 4 v l.length (wcs l)) (hok:okSc ws.length ms.length) (hll:l.length≤100000) (hf:64 < ws.length+l.length) :
  Calls Tryz.prog 118 #[.agg #[s,m],v] w (Ret w (.tuple #[.agg #[.slice none 0 0,.slice none 0 0],.int .i64 6])):=by
 obtain ⟨p,c,rfl,_,hc⟩:=hs.form
 obtain ⟨p2,c2,rfl,_,hc2⟩:=hm.form
 obtain ⟨p3,c3,rfl,_,_⟩:=hv.form
 have hC:∀ w,Calls Tryz.prog 66 #[.agg #[.slice p ws.length c,.slice p2 ms.length c2]] w (Ret w (.int .i64 0)):=fun w=>by
  have h:=scCheck_calls p p2 ws.length c ms.length c2 (by omega) (by omega) w
  rwa [if_pos hok] at h
 have hok2:=hok
 unfold okSc at hok2
 obtain ⟨hn1,hk1,hk2⟩:=hok2
 refine enter (args:=[_,_]) _ [] [] Tryz.func118 rfl Tryz.ntmps118 rfl (by simp) .nil ?_
 (refine sRz ?_;apply zT;rfl;rfl;intro _;apply zU;rfl;intro _;refine vAz<|nNz<|zI<|sRz<|ldz rfl (.tail .head) (qF rfl) ?_;apply zS;rfl;rfl;infer_instance;exact .cons rfl .nil;intro w _;exact hC w;refine vAz<|nSz<|vMz ?_;refine lvz (.neF rfl rfl (by omega)) ?_;refine nNz<|cFz<|zJ<|thenN<|zI<|sRz<|vFz<|ldz rfl (.tail .head) sc_rd0<|lvz (.lenR rfl inferInstance rfl)<|vMz<|lvz (.lenR rfl inferInstance rfl) ?_;refine lvz (.addZ rfl rfl (by omega)) ?_;refine lvz (.gtrT rfl rfl (by omega)) ?_;refine nNz<|cTz<|sRz ?_;apply LW.v0;rfl;rfl;apply zW;infer_instance;infer_instance;exact zB;rfl;simp only [fillP,wrCells,Value.cells,qH,qI,qJ,qG,qL,qK,Nat.reduceAdd,qN];rfl;refine zR rfl rfl .head (.whole rfl rfl rfl)<|vAz<|nNz<|zK<|thenR ?_)
 (apply finR;exact .inl rfl;rfl;rfl;rfl;apply zD;apply zH;rfl;apply qE;apply zY;exact qF rfl;apply zD;exact zG rfl;exact zF)
 rfl
theorem push_ok (ws:List Nat) (ms:List UInt8) (l:List Nat) (s m v:Value) (w:World) (hs:RowAt w 4 s ws.length (wcs ws)) (hm:RowAt w 1 m ms.length (ucs ms)) (hv:RowAt w 4 v l.length (wcs l)) (hok:okSc ws.length ms.length) (hll:l.length≤100000) (hf:ws.length+l.length≤64) :
  Calls Tryz.prog 118 #[.agg #[s,m],v] w (RetG w [] (fun r gs=>∃ o,r=.tuple #[o,.int .i64 0]∧ScO (ws++l) ms o gs)):=by
 have hs0:=hs
 have hm0:=hm
 obtain ⟨p,c,rfl,_,hc⟩:=hs.form
 obtain ⟨p2,c2,rfl,_,hc2⟩:=hm.form
 obtain ⟨p3,c3,rfl,_,_⟩:=id hv.form
 have hC:∀ w,Calls Tryz.prog 66 #[.agg #[.slice p ws.length c,.slice p2 ms.length c2]] w (Ret w (.int .i64 0)):=fun w=>by
  have h:=scCheck_calls p p2 ws.length c ms.length c2 (by omega) (by omega) w
  rwa [if_pos hok] at h
 have hok2:=hok
 unfold okSc at hok2
 obtain ⟨hn1,hk1,hk2⟩:=hok2
 refine enter (args:=[_,_]) _ [] [] Tryz.func118 rfl Tryz.ntmps118 rfl (by simp) .nil ?_
 (refine sRz ?_;apply zT;rfl;rfl;intro _;apply zU;rfl;intro _;refine vAz<|nNz<|zI<|sRz<|ldz rfl (.tail .head) (qF rfl) ?_;apply zS;rfl;rfl;infer_instance;exact .cons rfl .nil;intro w _;exact hC w;refine vAz<|nSz<|vMz ?_;refine lvz (.neF rfl rfl (by omega)) ?_;refine nNz<|cFz<|zJ<|thenN<|zI<|sRz<|vFz<|ldz rfl (.tail .head) sc_rd0<|lvz (.lenR rfl inferInstance rfl)<|vMz<|lvz (.lenR rfl inferInstance rfl) ?_;refine lvz (.addZ rfl rfl (by omega)) ?_;refine lvz (.gtrF rfl rfl (by omega)) ?_;refine nNz<|cFz<|zJ<|thenN<|sRz<|ldz rfl (.tail .head) (qF rfl) ?_)
 (apply LW.callR;rfl;rfl;infer_instance;exact .cons rfl .nil;intro w hs)
 exact copied_calls ws ms _ _ w (hs0.st hs) (hm0.st hs) (by omega) (by omega)
 rintro vo gso ⟨s1,m1,g1,g2,rfl,rfl,h1,h2⟩
 have h1':=h1
 have h2':=h2
 unfold wM at h1'
 unfold bM at h2'
 obtain ⟨q1,k1,rfl⟩:=h1'.form
 obtain ⟨q2,k2,rfl⟩:=h2'.form
 (apply zU;rfl;intro _;refine zR rfl rfl .head (.whole rfl rfl rfl)<|nSz<|vFz<|ldz rfl .head sc_rd0<|vMz ?_)
 rw [List.append_assoc]
 (apply LW.appendAny;(case hrow=>exact h1');rfl;rfl;infer_instance;infer_instance;infer_instance;rfl;rfl;rfl;(apply AtSeg.cons;apply AtSeg.app;exact AtSeg.head))
 ·exact fun w hs=>hv.st hs
 ·exact wcs_cells l
 ·simp only [maxLen];omega
 ·omega
 intro v1 seg1 hrow1
 refine ⟨_,(by (apply AtSeg.cons;apply AtSeg.app;exact AtSeg.head)),?_⟩
 simp only [List.nil_append,qN,List.append_nil] at hrow1 ⊢
 obtain ⟨q3,k3,rfl⟩:=hrow1.form
 (refine vFz ?_;refine zR rfl rfl .head sc_wr0<|nSz<|ldz rfl .head (qF rfl) ?_;refine zR rfl rfl (.tail (.app (.app .head))) (.whole rfl rfl rfl)<|vAz<|nNz<|zK ?_)
 refine fin (vs:=[.agg #[.slice q3 (ws.length+l.length) k3,.slice q2 ms.length k2],.int .i64 0]) (g2++seg1) (.inl rfl) rfl rfl (by (apply zD;apply zH;rfl;apply qE;apply zX;apply zZ;apply zZ;apply zY;exact qF rfl;apply zD;exact zG rfl;exact zF)) ?_ ⟨_,rfl,_,_,seg1,g2,rfl,rfl,?_,h2⟩
 ·exact qQ _ (List.Sublist.append_left (qP _ _) _)
 ·unfold wM
  rw [List.length_append,wcs_app]
  exact hrow1
end
section
attribute [local irreducible] SL.inP
theorem lay_ok (w0:World) (S:List Nat) (b:Nat) (m:MaV) (ws:List Nat) (ms:List UInt8) (l:List Nat) (v:Value) (rest:Fs) (w:World) (hs:St w0 S ((b,maO m)::rest) w)
  (h1:∀ w',St w0 S ((b,maO m)::rest) w'→RowAt w' 4 m.fr.stk ws.length (wcs ws)∧RowAt w' 1 m.fr.mem ms.length (ucs ms)∧RowAt w' 4 v l.length (wcs l)) (hok:okSc ws.length ms.length) (hll:l.length≤100000) (hf:ws.length+l.length≤64) :
  Calls Tryz.prog 78 #[.pointer (some ⟨b,0,none⟩),v] w (fun x w'=>∃ fs',(x=.returned (.tuple #[])∧∃ s k gs c4,ScO (ws++l) ms (.agg #[s,k]) gs∧fs'=c4::(gs++(b,maO (m.setSc s k))::rest))∧St w0 S fs' w'):=by
 refine calls_inlineP (K:=fun x fs'=>x=.returned (.tuple #[])∧∃ s k gs c4,ScO (ws++l) ms (.agg #[s,k]) gs∧fs'=c4::(gs++(b,maO (m.setSc s k))::rest)) (args:=[_,_]) Tryz.func78 rfl Tryz.ntmps78 rfl ?_ hs
 (refine sRz<|vMz<|vNz<|vFz<|vFz<|ldz rfl .head ma_rd2<|vMz ?_)
 (apply LW.callR;rfl;rfl;infer_instance;exact .cons rfl (.cons rfl .nil);intro w hs)
 exact push_ok ws ms l _ _ _ w (h1 w hs).1 (h1 w hs).2.1 (h1 w hs).2.2 hok hll hf
 rintro vo gso ⟨o,rfl,s1,m1,g1,g2,rfl,rfl,hw1,hb1⟩
 have hw1':=hw1
 have hb1':=hb1
 unfold wM at hw1'
 unfold bM at hb1'
 obtain ⟨q1,k1,rfl⟩:=hw1'.form
 obtain ⟨q2,k2,rfl⟩:=hb1'.form
 (refine vMz ?_;refine vEz ?_;refine vEz ?_;apply zU;rfl;intro _;refine zR rfl rfl .head (.whole rfl rfl rfl)<|vAz<|nSz<|vMz ?_;refine lvz (.eqT rfl rfl (by omega)) ?_;apply zS;rfl;rfl;infer_instance;exact .cons rfl .nil;intro w _;exact need_true w;refine nNz<|zL<|vMz<|ldz rfl .head (qF rfl)<|vNz<|vFz<|vFz ?_;refine zR rfl rfl (.tail (.app .head)) (ma_wr2 rfl rfl rfl rfl) ?_;apply zV)
 exact inPI (.inr rfl) .nil rfl .nil rfl ⟨rfl,_,_,g2++g1,_,⟨_,_,g1,g2,rfl,rfl,hw1,hb1⟩,rfl⟩
theorem lay_full (w0:World) (S:List Nat) (b:Nat) (m:MaV) (ws:List Nat) (ms:List UInt8) (l:List Nat) (v:Value) (rest:Fs) (w:World) (hs:St w0 S ((b,maO m)::rest) w)
  (h1:∀ w',St w0 S ((b,maO m)::rest) w'→RowAt w' 4 m.fr.stk ws.length (wcs ws)∧RowAt w' 1 m.fr.mem ms.length (ucs ms)∧RowAt w' 4 v l.length (wcs l)) (hok:okSc ws.length ms.length) (hll:l.length≤100000) (hf:64 < ws.length+l.length) :
  Calls Tryz.prog 78 #[.pointer (some ⟨b,0,none⟩),v] w (fun x w'=>∃ fs',(x=.panicked failC∧∃ c4,fs'=c4::(b,maO m)::rest)∧St w0 S fs' w'):=by
 have hP:∀ w',St w0 S ((b,maO m)::rest) w'→Calls Tryz.prog 118 #[.agg #[m.fr.stk,m.fr.mem],v] w' (Ret w' (.tuple #[.agg #[.slice none 0 0,.slice none 0 0],.int .i64 6])):=fun w' hst =>
  push_full ws ms l _ _ _ w' (h1 w' hst).1 (h1 w' hst).2.1 (h1 w' hst).2.2 hok hll hf
 refine calls_inlineP (K:=fun x fs'=>x=.panicked failC∧∃ c4,fs'=c4::(b,maO m)::rest) (args:=[_,_]) Tryz.func78 rfl Tryz.ntmps78 rfl ?_ hs
 (refine sRz<|vMz<|vNz<|vFz<|vFz<|ldz rfl .head ma_rd2<|vMz ?_;apply zS;rfl;rfl;infer_instance;exact .cons rfl (.cons rfl .nil);intro w _;exact hP w (by assumption);refine vMz ?_;refine vEz ?_;refine vEz ?_;apply zU;rfl;intro _;refine zR rfl rfl .head (.whole rfl rfl rfl)<|vAz<|nSz<|vMz ?_;refine lvz (.eqF rfl rfl (by omega)) ?_)
 rename_i b4
 refine LW.callP (K:=NeedK ((b4,.cells #[.slice none 0 0,.slice none 0 0] 25 (0,0))::(b,maO m)::rest)) rfl rfl inferInstance (by (exact .cons rfl .nil)) rfl (fun fs h=>by cases h.1) (fun w' hst=>need_false w0 S _ w' hst) ?_ ?_
 ·rintro v fs' ⟨h,_⟩
  cases h
 ·rintro ch fs' ⟨h,rfl⟩
  cases h
  refine thenP ?_
  exact inPP .nil ⟨rfl,_,rfl⟩
end
end Go.Proofs.YtpgdnfgjbhdbpaaGreatDoor
namespace Go.Proofs.YtpgdnfgjbhdbpaaGreatDoor.SL
set_option linter.unusedVariables false
open Go Go.RowKit
section mm
variable {P : Program} {e : Env} {x y : Operand} {tys : Array TypeId} {m n : Nat} {ik : IntKind}
theorem ValP.maxD (hx:e.ev x=some (.int ik ((m:Int) - (n:Int)))) (hy:e.ev y=some (.int ik 0)):ValP P e [] (.call { callee:=.builtin .max,args:=#[x,y],argTypes:=tys }) (.int ik ((m - n:Nat):Int)):=fun ρ w hρ _ d t pos af g=>by
 have h:(if (0:Int) > (m:Int) - (n:Int) then (0:Int) else (m:Int) - (n:Int))=((m - n:Nat):Int):=by split<;>omega
 have h2:=run_max_int2 (P:=P) (w:=w) tys t ik ik ((m:Int) - (n:Int)) 0
 rw [h] at h2
 simp [execOp,resolve,invoke,builtin,hρ x _ hx,hρ y _ hy,h2]
end mm
end Go.Proofs.YtpgdnfgjbhdbpaaGreatDoor.SL
namespace Go.Proofs.YtpgdnfgjbhdbpaaGreatDoor
open Go Go.RowKit SL
set_option maxRecDepth 8000
set_option maxHeartbeats 4000000
set_option linter.unusedSimpArgs false
set_option linter.unusedVariables false
attribute [local irreducible] SL.CW SL.LW SL.DW Calls SL.Ret SL.RetG SL.beginQ SL.roundQ SL.rangeQ SL.RW SL.AnyW SL.thenQ SL.thenC SL.thenW SL.blkQ SL.finQ SL.ValP SL.NewP SL.SetP SL.CallP SL.Rd SL.Wr SL.Known
def upW (n:Nat):Nat:=(n+31) / 32 * 32
theorem grow_ok (ws:List Nat) (ms:List UInt8) (n:Nat) (s m:Value) (w:World) (hs:RowAt w 4 s ws.length (wcs ws)) (hm:RowAt w 1 m ms.length (ucs ms)) (hok:okSc ws.length ms.length) (hn:0 < n) (hn2:n≤1024) :
  Calls Tryz.prog 147 #[.agg #[s,m],.int .u64 0,.int .u64 (n:Int)] w (RetG w [] (fun r gs=>∃ o,r=.tuple #[o,.int .i64 0]∧ScO ws (ms++List.replicate (upW n - ms.length) 0) o gs)):=by
 have hs0:=hs
 have hm0:=hm
 obtain ⟨p,c,rfl,_,hc⟩:=hs.form
 obtain ⟨p2,c2,rfl,_,hc2⟩:=hm.form
 have hC:∀ w,Calls Tryz.prog 66 #[.agg #[.slice p ws.length c,.slice p2 ms.length c2]] w (Ret w (.int .i64 0)):=fun w=>by
  have h:=scCheck_calls p p2 ws.length c ms.length c2 (by omega) (by omega) w
  rwa [if_pos hok] at h
 have hok2:=hok
 unfold okSc at hok2
 obtain ⟨hn1,hk1,hk2⟩:=hok2
 refine enter (args:=[_,_,_]) _ [] [] Tryz.func147 rfl Tryz.ntmps147 rfl (by simp) .nil ?_
 (refine sRz ?_;apply zT;rfl;rfl;intro _;apply zU;rfl;intro _;refine vAz<|nNz<|zI<|sRz<|ldz rfl (.tail .head) (qF rfl) ?_;apply zS;rfl;rfl;infer_instance;exact .cons rfl .nil;intro w _;exact hC w;refine vAz<|nSz<|vMz ?_;refine lvz (.neF rfl rfl (by omega)) ?_;refine nNz<|cFz<|zJ<|thenN<|sRz<|ldz rfl (.tail .head) (qF rfl) ?_)
 (apply LW.callR;rfl;rfl;infer_instance;exact .cons rfl .nil;intro w hs)
 exact copied_calls ws ms _ _ w (hs0.st hs) (hm0.st hs) (by omega) (by omega)
 rintro vo gso ⟨s1,m1,g1,g2,rfl,rfl,h1,h2⟩
 have h1':=h1
 have h2':=h2
 unfold wM at h1'
 unfold bM at h2'
 obtain ⟨q1,k1,rfl⟩:=h1'.form
 obtain ⟨q2,k2,rfl⟩:=h2'.form
 (apply zU;rfl;intro _;refine zR rfl rfl .head (.whole rfl rfl rfl)<|nNz<|zI<|sRz<|vMz ?_;refine lvz (.eqF rfl rfl (by omega)) ?_;refine nNz<|cFz<|zJ<|thenN<|zI<|sRz<|vMz ?_;refine lvz (.gtrF rfl rfl (by omega)) ?_;refine vMz<|gTz<|vMz<|gTz ?_;refine lvz (.gtrF rfl rfl (by omega)) ?_;refine pFz<|vMz<|gTz<|vMz<|gTz<|vMz<|gTz ?_;refine lvz (.addNK rfl rfl (by decide)) ?_;refine gTz ?_;refine lvz (.gtrF rfl rfl (by omega)) ?_;refine pFz<|nNz<|cFz<|zJ<|thenN<|sRz<|vMz<|vMz ?_;refine lvz (.addNK rfl rfl (by decide)) ?_;refine lvz (.convI rfl (by omega) (by omega)) ?_;refine lvz (.addZL rfl rfl (by decide) (by omega)) ?_;refine lvz (.subZL rfl rfl (by decide) (by omega) (by omega)) ?_;refine lvz (.quoZL rfl rfl (by decide) (by omega) (by omega)) ?_;refine lvz (.mulZL rfl rfl (by decide) (by omega)) ?_;refine vAz<|nNz<|zI<|sRz<|vMz<|vFz<|ldz rfl .head sc_rd1<|lvz (.lenR rfl inferInstance rfl) ?_;refine lvz (.subI rfl rfl (by omega) (by omega)) ?_;apply LW.v0;rfl;rfl;apply ValP.maxD;rfl;rfl;refine vMz<|nNz<|zM ?_)
 rename_i b3 b6 b9
 obtain ⟨D,hD⟩:∃ D,D=((0+n) % 18446744073709551616+32 - 1) / 32 * 32 - ms.length:=⟨_,rfl⟩
 have hDu:D=upW n - ms.length:=by unfold upW;omega
 rw [← hD]
 refine CW.loop (fun x:Nat × Option Addr × Nat × Fs=>([(9,.pointer (some ⟨b9,0,none⟩)),(6,.pointer (some ⟨b6,0,none⟩)),(48,.int .i64 (D:Int)),(49,.int .i64 (x.1:Int))],(b9,.cells #[.slice q1 ws.length k1,.slice x.2.1 (ms.length+x.1) x.2.2.1] 25 (0,0))::(x.2.2.2++(g1++[(b6,.cells #[.slice none 0 0,.slice none 0 0] 25 (0,0))]))))
  (fun x=>x.1≤D∧IsRow 5 1 (.slice x.2.1 (ms.length+x.1) x.2.2.1) (ms.length+x.1) (ucs (ms++List.replicate x.1 0)) x.2.2.2) (fun x=>D - x.1) (0,q2,k2,g2) ⟨Nat.zero_le _,by simpa using h2'⟩ ⟨rfl,rfl,rfl,rfl,trivial⟩ (by simp) ?_
 rintro ⟨k,q,kc,seg⟩ ⟨hk,hrow⟩
 dsimp only at hk hrow ⊢
 rcases Nat.lt_or_ge k D with hlt|hge
 ·(refine sRz ?_;refine lvz (.lssT rfl rfl (by omega)) ?_;refine nNz<|zI<|cTz<|zJ<|thenN<|zI<|zM<|zL<|vFz<|ldz rfl .head sc_rd1 ?_;apply LW.lay1;rfl;infer_instance;infer_instance;rfl;rfl;rfl;rfl;rfl;rfl;intro _)
  (apply LW.append;rfl;rfl;infer_instance;infer_instance;infer_instance;rfl;rfl;rfl;(case hrow=>assumption);apply AtSeg.cons;apply AtSeg.cons;exact AtSeg.head;apply qE;apply zY;rfl;rfl;rfl;omega;simp only [maxLen];omega;omega;intro v' seg' hrow';obtain ⟨p',c',rfl⟩:=hrow'.form;(refine ⟨_,(by (repeat (first|exact AtSeg.head|apply AtSeg.cons|apply AtSeg.app))),?_⟩);(try simp only [List.cons_append,List.nil_append]))
  (refine vFz ?_;refine zR rfl rfl (.tail .head) sc_wr1 ?_;apply zV;refine blkN<|thenN<|zL ?_;refine lvz (.addZL rfl rfl (by decide) (by omega)) ?_;refine vMz ?_;apply zV)
  apply thenX
  refine ⟨rfl,(k+1,p',c',seg'),⟨hlt,?_⟩,by show D - (k+1) < D - k;omega,⟨rfl,rfl,rfl,rfl,trivial⟩,qQ _ (qM _)⟩
  have e:ucs (ms++List.replicate (k+1) 0)=ucs (ms++List.replicate k 0)++[.int .u8 0]:=by
   rw [List.replicate_succ',← List.append_assoc]
   simp [ucs]
  dsimp only
  rw [e]
  exact hrow'
 ·(refine sRz ?_;refine lvz (.lssF rfl rfl (by omega)) ?_;refine nNz<|zI<|cFz<|CW.exit<|thenE<|thenE<|blkE rfl<|thenN<|sRz<|ldz rfl .head (qF rfl) ?_;refine zR rfl rfl (.tail (.app (.app .head))) (.whole rfl rfl rfl)<|vAz<|nNz<|zK ?_)
  obtain rfl:k=D:=by omega
  rw [← hDu]
  refine fin (vs:=[.agg #[.slice q1 ws.length k1,.slice q (ms.length+k) kc],.int .i64 0]) (seg++g1) (.inl rfl) rfl rfl (by (apply zD;apply zH;rfl;apply qE;apply zX;apply zZ;apply zZ;apply zY;exact qF rfl;apply zD;exact zG rfl;exact zF)) ?_ ⟨_,rfl,_,_,g1,seg,rfl,rfl,h1,?_⟩
  ·exact qQ _ (List.Sublist.append_left (qP _ _) _)
  ·unfold bM
   rw [List.length_append,List.length_replicate]
   exact hrow
section
theorem st_sub {w0 w:World} {S:List Nat} {fs gs:Fs} (h:St w0 S fs w) (hg:List.Sublist gs fs):St w0 S gs w:=⟨h.bel,fun p hp=>h.own p (hg.subset hp),h.nd.sublist hg⟩
attribute [local irreducible] SL.inP
theorem reach_gas (w0:World) (S:List Nat) (b:Nat) (m:MaV) (a n k:Nat) (p2:Option Addr) (c2:Nat) (ha:a < M256) (hn:n < M256) (hE:endV a n < 18446744073709551616) (hk:k≤1024) (hg:m.fr.gas < 18446744073709551616) (hm:m.fr.mem=.slice p2 k c2) (rest:Fs) (w:World) (hs:St w0 S ((b,maO m)::rest) w)
  (hcost:m.fr.gas < memV k (endV a n)) :
  Calls Tryz.prog 146 #[.pointer (some ⟨b,0,none⟩),wv a,wv n] w (fun x w'=>∃ fs',(x=.panicked failC∧∃ ex,fs'=(b,maO m)::(ex++rest))∧St w0 S fs' w'):=by
 have hmem:∀ {E fr},Rd Tryz.prog 22 (.cells (mca m) E fr) 3 (.slice p2 k c2):=fun {E fr}=>by rw [← hm];exact ma_rd3
 refine calls_inlineP (K:=fun x fs'=>x=.panicked failC∧∃ ex,fs'=(b,maO m)::(ex++rest)) (args:=[_,_,_]) Tryz.func146 rfl Tryz.ntmps146 rfl ?_ hs
 (refine sRz ?_;apply zT;rfl;rfl;intro _;apply zT;rfl;rfl;intro _;refine vAz<|vAz<|nSz<|ldz rfl (.tail .head) (qF rfl)<|ldz rfl .head (qF rfl) ?_;apply zS;rfl;rfl;infer_instance;exact .cons rfl (.cons rfl .nil);intro w _;exact End_calls a n ha hn w;refine vAz<|nSz<|vMz<|vMz<|vNz<|vFz<|vFz<|vFz<|ldz rfl (.tail (.tail .head)) hmem<|lvz (.lenR rfl inferInstance rfl) ?_;refine lvz (.convN rfl (by omega) (by omega)) ?_;refine vMz ?_;apply zS;rfl;rfl;infer_instance;exact .cons rfl (.cons rfl .nil);intro w _;exact Memory_calls _ _ (by omega) hE w;apply LW.lay1;rfl;infer_instance;infer_instance;rfl;rfl;rfl;rfl;rfl;rfl;intro _)
 rename_i b4 b5 b29
 obtain ⟨c,hc⟩:∃ c,c=memV k (endV a n):=⟨_,rfl⟩
 rw [← hc] at hcost ⊢
 have hsp:spendM m [c]=none:=by unfold spendM;rw [if_neg (by simp;omega)]
 refine LW.perm (fs':=(b,maO m)::(b29,.cells #[.int .u64 (c:Int)] 26 (0,0))::(b5,.cells (wc n) 29 (0,0))::(b4,.cells (wc a) 29 (0,0))::rest) (by exact (List.perm_middle (l₁:=[_,_,_])).symm) ?_
 refine LW.callP (K:=MaK b m (spendM m [c]) _) rfl rfl inferInstance (by (exact .cons rfl (.cons rfl .nil))) rfl (fun fs h=>?_) (fun w' hst=>spend_calls w0 S b m [c] hg _ _ w' hst (fun w2 h2=>row_cells (h2.own (b29,_) (List.Mem.tail _ (List.Mem.head _))).2 rfl rfl (by simp [maxLen]))) ?_ ?_
 ·rw [hsp] at h;cases h.1
 ·rintro v fs' h
  rw [hsp] at h;cases h.1
 ·rintro ch fs' h
  rw [hsp] at h
  obtain ⟨h,rfl⟩:=h
  cases h
  refine thenP ?_
  exact inPP .nil ⟨rfl,[_,_,_],rfl⟩
theorem reach_none (w0:World) (S:List Nat) (b:Nat) (m:MaV) (a n k:Nat) (hn0:n=0) (p2:Option Addr) (c2:Nat) (ha:a < M256) (hk:k≤1024) (hg:m.fr.gas < 18446744073709551616) (hm:m.fr.mem=.slice p2 k c2) (rest:Fs) (w:World) (hs:St w0 S ((b,maO m)::rest) w) :
  Calls Tryz.prog 146 #[.pointer (some ⟨b,0,none⟩),wv a,wv n] w (fun x w'=>∃ fs',(x=.returned (.tuple #[.int .u64 0,.int .u64 0])∧∃ ex,fs'=(b,maO m)::(ex++rest))∧St w0 S fs' w'):=by
 have hmem:∀ {E fr},Rd Tryz.prog 22 (.cells (mca m) E fr) 3 (.slice p2 k c2):=fun {E fr}=>by rw [← hm];exact ma_rd3
 have hE:endV a n < 18446744073709551616:=by simp [endV,hn0]
 have hn:n < M256:=by rw [hn0];decide
 have he:endV a n=0:=by simp [endV,hn0]
 refine calls_inlineP (K:=fun x fs'=>x=.returned (.tuple #[.int .u64 0,.int .u64 0])∧∃ ex,fs'=(b,maO m)::(ex++rest)) (args:=[_,_,_]) Tryz.func146 rfl Tryz.ntmps146 rfl ?_ hs
 (refine sRz ?_;apply zT;rfl;rfl;intro _;apply zT;rfl;rfl;intro _;refine vAz<|vAz<|nSz<|ldz rfl (.tail .head) (qF rfl)<|ldz rfl .head (qF rfl) ?_;apply zS;rfl;rfl;infer_instance;exact .cons rfl (.cons rfl .nil);intro w _;exact End_calls a n ha hn w;refine vAz<|nSz<|vMz<|vMz<|vNz<|vFz<|vFz<|vFz<|ldz rfl (.tail (.tail .head)) hmem<|lvz (.lenR rfl inferInstance rfl) ?_;refine lvz (.convN rfl (by omega) (by omega)) ?_;refine vMz ?_;apply zS;rfl;rfl;infer_instance;exact .cons rfl (.cons rfl .nil);intro w _;exact Memory_calls _ _ (by omega) hE w;apply LW.lay1;rfl;infer_instance;infer_instance;rfl;rfl;rfl;rfl;rfl;rfl;intro _)
 rename_i b4 b5 b29
 have hc:memV k (endV a n)=0:=by rw [he];simp [memV]
 rw [hc,he]
 have hsp:spendM m [0]=some m:=by unfold spendM;rw [if_pos (by simp)];rfl
 refine LW.perm (fs':=(b,maO m)::(b29,.cells #[.int .u64 ((0:Nat):Int)] 26 (0,0))::(b5,.cells (wc n) 29 (0,0))::(b4,.cells (wc a) 29 (0,0))::rest) (by exact (List.perm_middle (l₁:=[_,_,_])).symm) ?_
 refine LW.callP (K:=MaK b m (spendM m [0]) _) rfl rfl inferInstance (by (exact .cons rfl (.cons rfl .nil))) rfl (fun fs h=>?_) (fun w' hst=>spend_calls w0 S b m [0] hg _ _ w' hst (fun w2 h2=>row_cells (h2.own (b29,_) (List.Mem.tail _ (List.Mem.head _))).2 rfl rfl (by simp [maxLen]))) ?_ ?_
 ·rw [hsp] at h;cases h.1
 ·rintro v fs' h
  rw [hsp] at h
  obtain ⟨h,rfl⟩:=h
  (refine nNz<|zI<|sRz<|vMz ?_;refine lvz (.eqT rfl rfl (by omega)) ?_;refine nNz<|cTz<|sRz<|vAz<|vAz<|nNz<|zK<|thenR ?_)
  exact inPI (.inl rfl) .nil rfl (by (apply zD;exact zG rfl;apply zD;exact zG rfl;exact zF)) rfl ⟨rfl,[_,_,_],rfl⟩
 ·rintro ch fs' h
  rw [hsp] at h;cases h.1
end
end Go.Proofs.YtpgdnfgjbhdbpaaGreatDoor
namespace Go.Proofs.YtpgdnfgjbhdbpaaGreatDoor.CK
open Go Go.RowKit SL
set_option maxRecDepth 8000
set_option maxHeartbeats 4000000
set_option linter.unusedSimpArgs false
set_option linter.unusedVariables false
attribute [local irreducible] SL.CW SL.LW SL.DW Calls SL.Ret SL.RetG SL.beginQ SL.roundQ SL.rangeQ SL.RW SL.AnyW SL.thenQ SL.thenC SL.thenW SL.blkQ SL.finQ SL.ValP SL.NewP SL.SetP SL.CallP SL.Rd SL.Wr SL.Known


theorem ucs_app (a b:List UInt8):ucs (a++b)=ucs a++ucs b:=by simp [ucs]
theorem digit_ucs (n:Nat) (h:n < 10):[Value.int .u8 (((48+n) % 256:Nat):Int)]=ucs [UInt8.ofNat (48+n)]:=by
 have:((UInt8.ofNat (48+n)).toNat:Nat)=(48+n) % 256:=by simp
 show _=[Value.int .u8 (((UInt8.ofNat (48+n)).toNat:Nat):Int)]
 rw [this]
theorem number1_calls (n:Nat) (hn:n < 10) (w:World):Calls Tryz.prog 141 #[.int .i64 (n:Int)] w (Ret w (sv [UInt8.ofNat (48+n)])):=by
 have hd:=digit_ucs n hn
 refine enter (args:=[_]) _ [] [] Tryz.func141 rfl Tryz.ntmps141 rfl (by simp) .nil ?_
 (refine sRz<|vAz<|nNz<|zI<|sRz<|vMz ?_;refine lvz (.lssT rfl rfl (by omega)) ?_;refine nNz<|cTz<|sRz<|vMz ?_;refine lvz (.addZK rfl rfl (by decide) (by omega)) ?_;refine lvz (.convB rfl) ?_;apply LW.lay1;rfl;infer_instance;infer_instance;rfl;rfl;rfl;rfl;rfl;rfl;intro _)
 rename_i b
 have hrow:∀ w',w'.heap[b]?=some (.cells #[.int .u8 (((48+n) % 256:Nat):Int)] 5 (0,0))→RowAt w' 1 (.slice (some ⟨b,0,none⟩) 1 1) 1 (ucs [UInt8.ofNat (48+n)]):=fun w' h =>
  RowAt.us (us:=[]) (cur:=#[.int .u8 (((48+n) % 256:Nat):Int)]) (E:=5) (fr:=(0,0)) (fun p hp=>by rcases List.mem_singleton.1 hp with rfl;exact h) (Nat.le_refl _) (by decide) hd rfl
 refine LW.toStr rfl inferInstance inferInstance inferInstance rfl (fun w' hs=>hrow w' (hs.own (b,_) (by (exact List.Mem.head _))).2) ?_
 (refine vAz<|nNz<|zK<|thenR ?_)
 (apply finR;exact .inl rfl;rfl;rfl;rfl;apply zD;exact zG rfl;exact zF)
 rfl
theorem number_calls (n:Nat) (hn:n < 100) (w:World):Calls Tryz.prog 141 #[.int .i64 (n:Int)] w (Ret w (sv (itoa n))):=by
 unfold itoa
 split
 ·rename_i h;exact number1_calls n h w
 ·rename_i h
  have h1:=number1_calls (n / 10) (by omega)
  have h2:=number1_calls (n % 10) (by omega)
  have l1:[UInt8.ofNat (48+n / 10)].length=1:=rfl
  have l2:[UInt8.ofNat (48+n % 10)].length=1:=rfl
  refine enter (args:=[_]) _ [] [] Tryz.func141 rfl Tryz.ntmps141 rfl (by simp) .nil ?_
  obtain ⟨x,hx⟩:∃ x,[UInt8.ofNat (48+n / 10)]=x:=⟨_,rfl⟩
  obtain ⟨y,hy⟩:∃ y,[UInt8.ofNat (48+n % 10)]=y:=⟨_,rfl⟩
  rw [hx] at h1 l1
  rw [hy] at h2 l2
  rw [show [UInt8.ofNat (48+n / 10),UInt8.ofNat (48+n % 10)]=x++y by rw [← hx,← hy];rfl]
  (refine sRz<|vAz<|nNz<|zI<|sRz<|vMz ?_;refine lvz (.lssF rfl rfl (by omega)) ?_;refine nNz<|cFz<|zJ<|thenN<|sRz<|vMz ?_;refine lvz (.quoZL rfl rfl (by decide) (by omega) (by omega)) ?_;apply zS;rfl;rfl;infer_instance;exact .cons rfl .nil;intro w _;exact h1 w;refine vMz ?_;refine lvz (.remZL rfl rfl (by decide) (by omega)) ?_;apply zS;rfl;rfl;infer_instance;exact .cons rfl .nil;intro w _;exact h2 w;apply LW.v0;rfl;rfl;apply ValP.addStr;rfl;rfl;omega;refine vAz<|nNz<|zK ?_)
  (apply finR;exact .inl rfl;rfl;rfl;rfl;apply zD;exact zG rfl;exact zF)
  rfl
def PlainR (v:Value) (gs:Fs):Prop:=∃ b,v=.slice (some ⟨b,0,none⟩) 50 50∧gs=[(b,.cells (opcs plainOps).toArray 136 (0,0))]
theorem rPlain_calls (w:World):Calls Tryz.prog 142 #[] w (RetG w [] PlainR):=by
 refine enter (args:=[]) _ [] [] Tryz.func142 rfl Tryz.ntmps142 rfl (by simp) .nil ?_
 (refine sRz<|vAz<|nSz ?_;apply LW.v0;rfl;rfl;apply zW;infer_instance;infer_instance;apply zA;rfl;apply zA;rfl;exact zB;rfl;simp only [fillP,wrCells,Value.cells,qH,qI,qJ,qG,qL,qK,Nat.reduceAdd,qN];rfl;apply LW.v0;rfl;rfl;apply zW;infer_instance;infer_instance;apply zA;rfl;apply zA;rfl;apply zA;rfl;apply zA;rfl;exact zB;rfl;simp only [fillP,wrCells,Value.cells,qH,qI,qJ,qG,qL,qK,Nat.reduceAdd,qN];rfl;apply LW.v0;rfl;rfl;apply zW;infer_instance;infer_instance;apply zA;rfl;apply zA;rfl;apply zA;rfl;apply zA;rfl;exact zB;rfl;simp only [fillP,wrCells,Value.cells,qH,qI,qJ,qG,qL,qK,Nat.reduceAdd,qN];rfl;apply LW.v0;rfl;rfl;apply zW;infer_instance;infer_instance;apply zA;rfl;apply zA;rfl;apply zA;rfl;apply zA;rfl;exact zB;rfl;simp only [fillP,wrCells,Value.cells,qH,qI,qJ,qG,qL,qK,Nat.reduceAdd,qN];rfl;apply LW.v0;rfl;rfl;apply zW;infer_instance;infer_instance;apply zA;rfl;apply zA;rfl;apply zA;rfl;apply zA;rfl;exact zB;rfl;simp only [fillP,wrCells,Value.cells,qH,qI,qJ,qG,qL,qK,Nat.reduceAdd,qN];rfl;apply LW.v0;rfl;rfl;apply zW;infer_instance;infer_instance;apply zA;rfl;apply zA;rfl;apply zA;rfl;apply zA;rfl;exact zB;rfl;simp only [fillP,wrCells,Value.cells,qH,qI,qJ,qG,qL,qK,Nat.reduceAdd,qN];rfl;apply LW.v0;rfl;rfl;apply zW;infer_instance;infer_instance;apply zA;rfl;apply zA;rfl;apply zA;rfl;apply zA;rfl;exact zB;rfl;simp only [fillP,wrCells,Value.cells,qH,qI,qJ,qG,qL,qK,Nat.reduceAdd,qN];rfl;apply LW.v0;rfl;rfl;apply zW;infer_instance;infer_instance;apply zA;rfl;apply zA;rfl;apply zA;rfl;apply zA;rfl;exact zB;rfl;simp only [fillP,wrCells,Value.cells,qH,qI,qJ,qG,qL,qK,Nat.reduceAdd,qN];rfl;apply LW.v0;rfl;rfl;apply zW;infer_instance;infer_instance;apply zA;rfl;apply zA;rfl;apply zA;rfl;apply zA;rfl;exact zB;rfl;simp only [fillP,wrCells,Value.cells,qH,qI,qJ,qG,qL,qK,Nat.reduceAdd,qN];rfl;apply LW.v0;rfl;rfl;apply zW;infer_instance;infer_instance;apply zA;rfl;apply zA;rfl;apply zA;rfl;apply zA;rfl;exact zB;rfl;simp only [fillP,wrCells,Value.cells,qH,qI,qJ,qG,qL,qK,Nat.reduceAdd,qN];rfl;apply LW.v0;rfl;rfl;apply zW;infer_instance;infer_instance;apply zA;rfl;apply zA;rfl;apply zA;rfl;apply zA;rfl;exact zB;rfl;simp only [fillP,wrCells,Value.cells,qH,qI,qJ,qG,qL,qK,Nat.reduceAdd,qN];rfl;apply LW.v0;rfl;rfl;apply zW;infer_instance;infer_instance;apply zA;rfl;apply zA;rfl;apply zA;rfl;apply zA;rfl;exact zB;rfl;simp only [fillP,wrCells,Value.cells,qH,qI,qJ,qG,qL,qK,Nat.reduceAdd,qN];rfl;apply LW.v0;rfl;rfl;apply zW;infer_instance;infer_instance;apply zA;rfl;apply zA;rfl;apply zA;rfl;apply zA;rfl;exact zB;rfl;simp only [fillP,wrCells,Value.cells,qH,qI,qJ,qG,qL,qK,Nat.reduceAdd,qN];rfl;apply LW.v0;rfl;rfl;apply zW;infer_instance;infer_instance;apply zA;rfl;apply zA;rfl;apply zA;rfl;apply zA;rfl;exact zB;rfl;simp only [fillP,wrCells,Value.cells,qH,qI,qJ,qG,qL,qK,Nat.reduceAdd,qN];rfl;apply LW.v0;rfl;rfl;apply zW;infer_instance;infer_instance;apply zA;rfl;apply zA;rfl;apply zA;rfl;apply zA;rfl;exact zB;rfl;simp only [fillP,wrCells,Value.cells,qH,qI,qJ,qG,qL,qK,Nat.reduceAdd,qN];rfl;apply LW.v0;rfl;rfl;apply zW;infer_instance;infer_instance;apply zA;rfl;apply zA;rfl;apply zA;rfl;apply zA;rfl;exact zB;rfl;simp only [fillP,wrCells,Value.cells,qH,qI,qJ,qG,qL,qK,Nat.reduceAdd,qN];rfl;apply LW.v0;rfl;rfl;apply zW;infer_instance;infer_instance;apply zA;rfl;apply zA;rfl;apply zA;rfl;apply zA;rfl;exact zB;rfl;simp only [fillP,wrCells,Value.cells,qH,qI,qJ,qG,qL,qK,Nat.reduceAdd,qN];rfl;apply LW.v0;rfl;rfl;apply zW;infer_instance;infer_instance;apply zA;rfl;apply zA;rfl;apply zA;rfl;exact zB;rfl;simp only [fillP,wrCells,Value.cells,qH,qI,qJ,qG,qL,qK,Nat.reduceAdd,qN];rfl;apply LW.v0;rfl;rfl;apply zW;infer_instance;infer_instance;apply zA;rfl;apply zA;rfl;apply zA;rfl;apply zA;rfl;exact zB;rfl;simp only [fillP,wrCells,Value.cells,qH,qI,qJ,qG,qL,qK,Nat.reduceAdd,qN];rfl;apply LW.v0;rfl;rfl;apply zW;infer_instance;infer_instance;apply zA;rfl;apply zA;rfl;apply zA;rfl;exact zB;rfl;simp only [fillP,wrCells,Value.cells,qH,qI,qJ,qG,qL,qK,Nat.reduceAdd,qN];rfl;apply LW.v0;rfl;rfl;apply zW;infer_instance;infer_instance;apply zA;rfl;apply zA;rfl;apply zA;rfl;exact zB;rfl;simp only [fillP,wrCells,Value.cells,qH,qI,qJ,qG,qL,qK,Nat.reduceAdd,qN];rfl;apply LW.v0;rfl;rfl;apply zW;infer_instance;infer_instance;apply zA;rfl;apply zA;rfl;apply zA;rfl;exact zB;rfl;simp only [fillP,wrCells,Value.cells,qH,qI,qJ,qG,qL,qK,Nat.reduceAdd,qN];rfl;apply LW.v0;rfl;rfl;apply zW;infer_instance;infer_instance;apply zA;rfl;apply zA;rfl;apply zA;rfl;apply zA;rfl;exact zB;rfl;simp only [fillP,wrCells,Value.cells,qH,qI,qJ,qG,qL,qK,Nat.reduceAdd,qN];rfl;apply LW.v0;rfl;rfl;apply zW;infer_instance;infer_instance;apply zA;rfl;apply zA;rfl;apply zA;rfl;exact zB;rfl;simp only [fillP,wrCells,Value.cells,qH,qI,qJ,qG,qL,qK,Nat.reduceAdd,qN];rfl;apply LW.v0;rfl;rfl;apply zW;infer_instance;infer_instance;apply zA;rfl;apply zA;rfl;apply zA;rfl;exact zB;rfl;simp only [fillP,wrCells,Value.cells,qH,qI,qJ,qG,qL,qK,Nat.reduceAdd,qN];rfl;apply LW.v0;rfl;rfl;apply zW;infer_instance;infer_instance;apply zA;rfl;apply zA;rfl;apply zA;rfl;exact zB;rfl;simp only [fillP,wrCells,Value.cells,qH,qI,qJ,qG,qL,qK,Nat.reduceAdd,qN];rfl;apply LW.v0;rfl;rfl;apply zW;infer_instance;infer_instance;apply zA;rfl;apply zA;rfl;apply zA;rfl;exact zB;rfl;simp only [fillP,wrCells,Value.cells,qH,qI,qJ,qG,qL,qK,Nat.reduceAdd,qN];rfl;apply LW.v0;rfl;rfl;apply zW;infer_instance;infer_instance;apply zA;rfl;apply zA;rfl;apply zA;rfl;exact zB;rfl;simp only [fillP,wrCells,Value.cells,qH,qI,qJ,qG,qL,qK,Nat.reduceAdd,qN];rfl;apply LW.v0;rfl;rfl;apply zW;infer_instance;infer_instance;apply zA;rfl;apply zA;rfl;apply zA;rfl;exact zB;rfl;simp only [fillP,wrCells,Value.cells,qH,qI,qJ,qG,qL,qK,Nat.reduceAdd,qN];rfl;apply LW.v0;rfl;rfl;apply zW;infer_instance;infer_instance;apply zA;rfl;apply zA;rfl;apply zA;rfl;exact zB;rfl;simp only [fillP,wrCells,Value.cells,qH,qI,qJ,qG,qL,qK,Nat.reduceAdd,qN];rfl;apply LW.v0;rfl;rfl;apply zW;infer_instance;infer_instance;apply zA;rfl;apply zA;rfl;apply zA;rfl;exact zB;rfl;simp only [fillP,wrCells,Value.cells,qH,qI,qJ,qG,qL,qK,Nat.reduceAdd,qN];rfl;apply LW.v0;rfl;rfl;apply zW;infer_instance;infer_instance;apply zA;rfl;apply zA;rfl;apply zA;rfl;exact zB;rfl;simp only [fillP,wrCells,Value.cells,qH,qI,qJ,qG,qL,qK,Nat.reduceAdd,qN];rfl;apply LW.v0;rfl;rfl;apply zW;infer_instance;infer_instance;apply zA;rfl;apply zA;rfl;apply zA;rfl;apply zA;rfl;exact zB;rfl;simp only [fillP,wrCells,Value.cells,qH,qI,qJ,qG,qL,qK,Nat.reduceAdd,qN];rfl;apply LW.v0;rfl;rfl;apply zW;infer_instance;infer_instance;apply zA;rfl;apply zA;rfl;apply zA;rfl;exact zB;rfl;simp only [fillP,wrCells,Value.cells,qH,qI,qJ,qG,qL,qK,Nat.reduceAdd,qN];rfl;apply LW.v0;rfl;rfl;apply zW;infer_instance;infer_instance;apply zA;rfl;apply zA;rfl;apply zA;rfl;exact zB;rfl;simp only [fillP,wrCells,Value.cells,qH,qI,qJ,qG,qL,qK,Nat.reduceAdd,qN];rfl;apply LW.v0;rfl;rfl;apply zW;infer_instance;infer_instance;apply zA;rfl;apply zA;rfl;apply zA;rfl;apply zA;rfl;exact zB;rfl;simp only [fillP,wrCells,Value.cells,qH,qI,qJ,qG,qL,qK,Nat.reduceAdd,qN];rfl;apply LW.v0;rfl;rfl;apply zW;infer_instance;infer_instance;apply zA;rfl;apply zA;rfl;apply zA;rfl;exact zB;rfl;simp only [fillP,wrCells,Value.cells,qH,qI,qJ,qG,qL,qK,Nat.reduceAdd,qN];rfl;apply LW.v0;rfl;rfl;apply zW;infer_instance;infer_instance;apply zA;rfl;apply zA;rfl;apply zA;rfl;exact zB;rfl;simp only [fillP,wrCells,Value.cells,qH,qI,qJ,qG,qL,qK,Nat.reduceAdd,qN];rfl;apply LW.v0;rfl;rfl;apply zW;infer_instance;infer_instance;apply zA;rfl;apply zA;rfl;apply zA;rfl;exact zB;rfl;simp only [fillP,wrCells,Value.cells,qH,qI,qJ,qG,qL,qK,Nat.reduceAdd,qN];rfl;apply LW.v0;rfl;rfl;apply zW;infer_instance;infer_instance;apply zA;rfl;apply zA;rfl;apply zA;rfl;exact zB;rfl;simp only [fillP,wrCells,Value.cells,qH,qI,qJ,qG,qL,qK,Nat.reduceAdd,qN];rfl;apply LW.v0;rfl;rfl;apply zW;infer_instance;infer_instance;apply zA;rfl;apply zA;rfl;exact zB;rfl;simp only [fillP,wrCells,Value.cells,qH,qI,qJ,qG,qL,qK,Nat.reduceAdd,qN];rfl;apply LW.v0;rfl;rfl;apply zW;infer_instance;infer_instance;apply zA;rfl;apply zA;rfl;apply zA;rfl;apply zA;rfl;exact zB;rfl;simp only [fillP,wrCells,Value.cells,qH,qI,qJ,qG,qL,qK,Nat.reduceAdd,qN];rfl;apply LW.v0;rfl;rfl;apply zW;infer_instance;infer_instance;apply zA;rfl;apply zA;rfl;apply zA;rfl;exact zB;rfl;simp only [fillP,wrCells,Value.cells,qH,qI,qJ,qG,qL,qK,Nat.reduceAdd,qN];rfl;apply LW.v0;rfl;rfl;apply zW;infer_instance;infer_instance;apply zA;rfl;apply zA;rfl;apply zA;rfl;apply zA;rfl;exact zB;rfl;simp only [fillP,wrCells,Value.cells,qH,qI,qJ,qG,qL,qK,Nat.reduceAdd,qN];rfl;apply LW.v0;rfl;rfl;apply zW;infer_instance;infer_instance;apply zA;rfl;apply zA;rfl;apply zA;rfl;exact zB;rfl;simp only [fillP,wrCells,Value.cells,qH,qI,qJ,qG,qL,qK,Nat.reduceAdd,qN];rfl;apply LW.v0;rfl;rfl;apply zW;infer_instance;infer_instance;apply zA;rfl;apply zA;rfl;apply zA;rfl;apply zA;rfl;exact zB;rfl;simp only [fillP,wrCells,Value.cells,qH,qI,qJ,qG,qL,qK,Nat.reduceAdd,qN];rfl;apply LW.v0;rfl;rfl;apply zW;infer_instance;infer_instance;apply zA;rfl;apply zA;rfl;apply zA;rfl;apply zA;rfl;exact zB;rfl;simp only [fillP,wrCells,Value.cells,qH,qI,qJ,qG,qL,qK,Nat.reduceAdd,qN];rfl;apply LW.v0;rfl;rfl;apply zW;infer_instance;infer_instance;apply zA;rfl;apply zA;rfl;apply zA;rfl;apply zA;rfl;exact zB;rfl;simp only [fillP,wrCells,Value.cells,qH,qI,qJ,qG,qL,qK,Nat.reduceAdd,qN];rfl;apply LW.v0;rfl;rfl;apply zW;infer_instance;infer_instance;apply zA;rfl;apply zA;rfl;apply zA;rfl;exact zB;rfl;simp only [fillP,wrCells,Value.cells,qH,qI,qJ,qG,qL,qK,Nat.reduceAdd,qN];rfl;apply LW.v0;rfl;rfl;apply zW;infer_instance;infer_instance;apply zA;rfl;apply zA;rfl;exact zB;rfl;simp only [fillP,wrCells,Value.cells,qH,qI,qJ,qG,qL,qK,Nat.reduceAdd,qN];rfl)
 refine LW.n0 rfl rfl (NewP.buildSN (vs:=plainOps.zipIdx.map fun p=>(p.2,.agg (opc p.1))) (c:=(opcs plainOps).toArray) inferInstance inferInstance (by (apply zA;rfl;apply zA;rfl;apply zA;rfl;apply zA;rfl;apply zA;rfl;apply zA;rfl;apply zA;rfl;apply zA;rfl;apply zA;rfl;apply zA;rfl;apply zA;rfl;apply zA;rfl;apply zA;rfl;apply zA;rfl;apply zA;rfl;apply zA;rfl;apply zA;rfl;apply zA;rfl;apply zA;rfl;apply zA;rfl;apply zA;rfl;apply zA;rfl;apply zA;rfl;apply zA;rfl;apply zA;rfl;apply zA;rfl;apply zA;rfl;apply zA;rfl;apply zA;rfl;apply zA;rfl;apply zA;rfl;apply zA;rfl;apply zA;rfl;apply zA;rfl;apply zA;rfl;apply zA;rfl;apply zA;rfl;apply zA;rfl;apply zA;rfl;apply zA;rfl;apply zA;rfl;apply zA;rfl;apply zA;rfl;apply zA;rfl;apply zA;rfl;apply zA;rfl;apply zA;rfl;apply zA;rfl;apply zA;rfl;apply zA;rfl;exact zB)) rfl rfl (by kernel_rfl) (by kernel_rfl)) fun g=>?_
 (refine vAz<|nNz<|zK ?_)
 apply finM [(g,.cells (opcs plainOps).toArray 136 (0,0))];(exact .inl rfl);(exact Shut.nil);rfl;(apply zD;exact zG rfl;exact zF);exact qM _
 exact ⟨g,rfl,rfl⟩
theorem opOf_none {b:Nat} (hr:rowOp b=none) (h:∀ i (hi:i < plainOps.length),plainOps[i].c ≠ b):opOf b=none:=by
 unfold opOf
 rw [hr]
 refine List.find?_eq_none.2 fun x hx=>?_
 obtain ⟨i,hi,rfl⟩:=List.mem_iff_getElem.1 hx
 simpa using h i hi
theorem opOf_plain {b i:Nat} (hr:rowOp b=none) (hi:i < plainOps.length) (h:∀ j (hj:j < i),plainOps[j].c ≠ b) (he:plainOps[i].c=b):opOf b=some plainOps[i]:=by
 unfold opOf
 rw [hr]
 exact List.find?_eq_some_iff_getElem.2 ⟨by simpa using he,i,hi,rfl,fun j hj=>by simpa using h j hj⟩
theorem plain_rdc (i:Nat) (hi:i < plainOps.length) {E:TypeId} {fr:Nat × Nat}:Rd Tryz.prog 5 (.cells (opcs plainOps).toArray E fr) (0+i * 5+0) (.int .u8 (plainOps[i].c:Int)):=by
 refine Rd.one' ?_
 rw [nth_eq,qN]
 exact flat_get (g:=opl) (opl_len plainOps) (List.getElem?_eq_getElem hi) rfl
theorem rOf_calls (b:Nat) (hb:b < 256) (w:World):Calls Tryz.prog 119 #[.int .u8 (b:Int)] w (Ret w (tupOp (opOf b))):=by
 have hl:=itoa_len
 refine enter (args:=[_]) _ [] [] Tryz.func119 rfl Tryz.ntmps119 rfl (by simp) .nil ?_
 have hlow:∀ x,rowOp b=some x→opOf b=some x:=fun x h=>by unfold opOf;rw [h]
 rcases Nat.lt_or_ge b 96 with h1|h1
 ·have hr:rowOp b=none:=by unfold rowOp;rw [if_neg (by omega),if_neg (by omega),if_neg (by omega)]
  (refine sRz ?_;apply zU;rfl;intro _;refine vAz<|nSz<|vMz ?_;refine lvz (.convI rfl (by omega) (by omega)) ?_;refine vAz<|nNz<|zI<|sRz<|vMz ?_;refine lvz (.geqF rfl rfl (by omega)) ?_;refine vMz<|gFz<|gFz<|pFz<|nNz<|cFz<|zJ<|thenN<|zI<|sRz<|vMz ?_;refine lvz (.geqF rfl rfl (by omega)) ?_;refine vMz<|gFz<|gFz<|pFz<|nNz<|cFz<|zJ<|thenN<|zI<|sRz<|vMz ?_;refine lvz (.geqF rfl rfl (by omega)) ?_;refine vMz<|gFz<|gFz<|pFz<|nNz<|cFz<|zJ<|thenN<|sRz ?_)
  (apply LW.callR;rfl;rfl;infer_instance;exact ArgsOk.nil;intro w hs)
  exact rPlain_calls w
  intro vp gp hpl
  obtain ⟨bp,rfl,rfl⟩:=hpl
  rename_i bo
  (refine vAz<|nNz<|zI<|sRz<|vAz<|nNz<|zM ?_)
  refine CW.loop (fun i:Nat=>([(0,.int .u8 (b:Int)),(2,.pointer (some ⟨bo,0,none⟩)),(3,.bool false),(5,.slice (some ⟨bp,0,none⟩) 50 50),(6,.int .i64 (i:Int))],[(bp,.cells (opcs plainOps).toArray 136 (0,0)),(bo,.cells (opc zeroOp) 136 (0,0))]))
   (fun i=>i≤50∧∀ j (hj:j < plainOps.length),j < i→plainOps[j].c ≠ b) (fun i=>50 - i) 0 ⟨Nat.zero_le _,fun j hj h=>absurd h (Nat.not_lt_zero _)⟩ ⟨rfl,rfl,rfl,rfl,rfl,trivial⟩ (qM _) ?_
  rintro i ⟨hi,hall⟩
  dsimp only
  rcases Nat.lt_or_ge i 50 with hlt|hge
  ·have hlt':i < plainOps.length:=hlt
   have hrc:=plain_rdc i hlt' (E:=136) (fr:=(0,0))
   have hrd:=plain_rd i hlt' (E:=136) (fr:=(0,0))
   have hop:=fun he=>opOf_plain hr hlt' (fun j hj=>hall j (by omega) hj) he
   obtain ⟨y,hy⟩:∃ y,plainOps[i]=y:=⟨_,rfl⟩
   rw [hy] at hrc hrd hop
   by_cases he:y.c=b
   ·rw [hop he]
    (refine zI<|sRz<|vMz<|vMz<|lvz (.lenR rfl inferInstance rfl) ?_;refine lvz (.lssT rfl rfl (by omega)) ?_;refine nNz<|cTz<|zJ<|thenN<|zI<|zM<|sRz<|vMz<|vMz ?_;refine lvz (.indexAddrS rfl rfl rfl (by omega)) ?_;refine vFz ?_;refine ldz rfl .head (by assumption) ?_;refine vMz ?_;refine lvz (.eqT rfl rfl (by omega)) ?_;refine nNz<|cTz<|sRz<|vMz<|vMz ?_;refine lvz (.indexAddrS rfl rfl rfl (by omega)) ?_;refine ldz rfl .head (by assumption) ?_;apply zR;rfl;rfl;apply qB;apply qA;apply Wr.whole;kernel_rfl;kernel_rfl;kernel_rfl;refine vAz<|nNz<|zK<|blkR<|thenR<|thenR<|blkR<|thenR ?_)
    (apply finR;exact .inl rfl;rfl;rfl;rfl;apply zD;apply zH;rfl;apply qE;apply zX;apply zY;exact qF rfl;apply zD;exact zG rfl;exact zF)
    rfl
   ·(refine zI<|sRz<|vMz<|vMz<|lvz (.lenR rfl inferInstance rfl) ?_;refine lvz (.lssT rfl rfl (by omega)) ?_;refine nNz<|cTz<|zJ<|thenN<|zI<|zM<|sRz<|vMz<|vMz ?_;refine lvz (.indexAddrS rfl rfl rfl (by omega)) ?_;refine vFz ?_;refine ldz rfl .head (by assumption) ?_;refine vMz ?_;refine lvz (.eqF rfl rfl (by omega)) ?_;refine nNz<|cFz<|zJ<|blkN<|thenN<|zL<|vMz ?_;refine lvz (.addZL rfl rfl (by decide) (by omega)) ?_;refine vAz ?_;apply zV)
    apply thenX
    refine ⟨rfl,i+1,⟨hlt,fun j hj hji=>?_⟩,by omega,⟨rfl,rfl,rfl,rfl,rfl,trivial⟩,qM _⟩
    rcases Nat.lt_or_ge j i with h|h
    ·exact hall j hj h
    ·obtain rfl:j=i:=by omega
     rw [hy];exact he
  ·rw [opOf_none hr (fun j hj=>hall j hj (by have:plainOps.length=50:=rfl;omega))]
   (refine zI<|sRz<|vMz<|vMz<|lvz (.lenR rfl inferInstance rfl) ?_;refine lvz (.lssF rfl rfl (by omega)) ?_;refine nNz<|cFz<|CW.exit<|thenE<|thenE<|blkE rfl<|thenN<|sRz ?_;apply LW.v0;rfl;rfl;apply zW;infer_instance;infer_instance;exact zB;rfl;simp only [fillP,wrCells,Value.cells,qH,qI,qJ,qG,qL,qK,Nat.reduceAdd,qN];rfl;apply zR;rfl;rfl;apply qB;apply qA;apply Wr.whole;kernel_rfl;kernel_rfl;kernel_rfl;refine vAz<|nNz<|zK ?_)
   (apply finR;exact .inl rfl;rfl;rfl;rfl;apply zD;apply zH;rfl;apply qE;apply zX;apply zY;exact qF rfl;apply zD;exact zG rfl;exact zF)
   rfl
 rcases Nat.lt_or_ge b 128 with h2|h2
 ·rw [hlow ⟨b,[80,85,83,72]++itoa (b - 95),0,1,b - 95⟩ (by unfold rowOp;rw [if_pos (by omega)])]
  have hn:=number_calls (b - 95) (by omega)
  have hl1:=hl (b - 95)
  (refine sRz ?_;apply zU;rfl;intro _;refine vAz<|nSz<|vMz ?_;refine lvz (.convI rfl (by omega) (by omega)) ?_;refine vAz<|nNz<|zI<|sRz<|vMz ?_;refine lvz (.geqT rfl rfl (by omega)) ?_;refine vMz<|gTz<|vMz<|gTz ?_;refine lvz (.leqT rfl rfl (by omega)) ?_;refine pTz<|nNz<|cTz<|sRz<|vMz<|vMz ?_;refine lvz (.subZL rfl rfl (by decide) (by omega) (by omega)) ?_;apply zS;rfl;rfl;infer_instance;exact .cons rfl .nil;intro w _;exact hn w;apply LW.v0;rfl;rfl;apply ValP.addStr;rfl;rfl;simp;omega;refine vMz ?_;refine lvz (.subZL rfl rfl (by decide) (by omega) (by omega)) ?_;apply LW.v0;rfl;rfl;apply zW;infer_instance;infer_instance;apply zA;rfl;apply zA;rfl;apply zA;rfl;apply zA;rfl;exact zB;rfl;simp only [fillP,wrCells,Value.cells,qH,qI,qJ,qG,qL,qK,Nat.reduceAdd,qN];rfl;apply zR;rfl;rfl;apply qA;apply Wr.whole;kernel_rfl;kernel_rfl;kernel_rfl;refine vAz<|nNz<|zK<|thenR ?_)
  (apply finR;exact .inl rfl;rfl;rfl;rfl;apply zD;apply zH;rfl;apply qE;apply zY;exact qF rfl;apply zD;exact zG rfl;exact zF)
  rfl
 rcases Nat.lt_or_ge b 144 with h3|h3
 ·rw [hlow ⟨b,[68,85,80]++itoa (b - 127),b - 127,b - 126,0⟩ (by unfold rowOp;rw [if_neg (by omega),if_pos (by omega)])]
  have hn:=number_calls (b - 127) (by omega)
  have hl1:=hl (b - 127)
  (refine sRz ?_;apply zU;rfl;intro _;refine vAz<|nSz<|vMz ?_;refine lvz (.convI rfl (by omega) (by omega)) ?_;refine vAz<|nNz<|zI<|sRz<|vMz ?_;refine lvz (.geqT rfl rfl (by omega)) ?_;refine vMz<|gTz<|vMz<|gTz ?_;refine lvz (.leqF rfl rfl (by omega)) ?_;refine pTz<|nNz<|cFz<|zJ<|thenN<|zI<|sRz<|vMz ?_;refine lvz (.geqT rfl rfl (by omega)) ?_;refine vMz<|gTz<|vMz<|gTz ?_;refine lvz (.leqT rfl rfl (by omega)) ?_;refine pTz<|nNz<|cTz<|sRz<|vMz<|vMz ?_;refine lvz (.subZL rfl rfl (by decide) (by omega) (by omega)) ?_;apply zS;rfl;rfl;infer_instance;exact .cons rfl .nil;intro w _;exact hn w;apply LW.v0;rfl;rfl;apply ValP.addStr;rfl;rfl;simp;omega;refine vMz ?_;refine lvz (.subZL rfl rfl (by decide) (by omega) (by omega)) ?_;refine vMz ?_;refine lvz (.subZL rfl rfl (by decide) (by omega) (by omega)) ?_;apply LW.v0;rfl;rfl;apply zW;infer_instance;infer_instance;apply zA;rfl;apply zA;rfl;apply zA;rfl;apply zA;rfl;exact zB;rfl;simp only [fillP,wrCells,Value.cells,qH,qI,qJ,qG,qL,qK,Nat.reduceAdd,qN];rfl;apply zR;rfl;rfl;apply qA;apply Wr.whole;kernel_rfl;kernel_rfl;kernel_rfl;refine vAz<|nNz<|zK<|thenR ?_)
  (apply finR;exact .inl rfl;rfl;rfl;rfl;apply zD;apply zH;rfl;apply qE;apply zY;exact qF rfl;apply zD;exact zG rfl;exact zF)
  rfl
 rcases Nat.lt_or_ge b 160 with h4|h4
 ·rw [hlow ⟨b,[83,87,65,80]++itoa (b - 143),b - 142,b - 142,0⟩ (by unfold rowOp;rw [if_neg (by omega),if_neg (by omega),if_pos (by omega)])]
  have hn:=number_calls (b - 143) (by omega)
  have hl1:=hl (b - 143)
  (refine sRz ?_;apply zU;rfl;intro _;refine vAz<|nSz<|vMz ?_;refine lvz (.convI rfl (by omega) (by omega)) ?_;refine vAz<|nNz<|zI<|sRz<|vMz ?_;refine lvz (.geqT rfl rfl (by omega)) ?_;refine vMz<|gTz<|vMz<|gTz ?_;refine lvz (.leqF rfl rfl (by omega)) ?_;refine pTz<|nNz<|cFz<|zJ<|thenN<|zI<|sRz<|vMz ?_;refine lvz (.geqT rfl rfl (by omega)) ?_;refine vMz<|gTz<|vMz<|gTz ?_;refine lvz (.leqF rfl rfl (by omega)) ?_;refine pTz<|nNz<|cFz<|zJ<|thenN<|zI<|sRz<|vMz ?_;refine lvz (.geqT rfl rfl (by omega)) ?_;refine vMz<|gTz<|vMz<|gTz ?_;refine lvz (.leqT rfl rfl (by omega)) ?_;refine pTz<|nNz<|cTz<|sRz<|vMz<|vMz ?_;refine lvz (.subZL rfl rfl (by decide) (by omega) (by omega)) ?_;apply zS;rfl;rfl;infer_instance;exact .cons rfl .nil;intro w _;exact hn w;apply LW.v0;rfl;rfl;apply ValP.addStr;rfl;rfl;simp;omega;refine vMz ?_;refine lvz (.subZL rfl rfl (by decide) (by omega) (by omega)) ?_;refine vMz ?_;refine lvz (.subZL rfl rfl (by decide) (by omega) (by omega)) ?_;apply LW.v0;rfl;rfl;apply zW;infer_instance;infer_instance;apply zA;rfl;apply zA;rfl;apply zA;rfl;apply zA;rfl;exact zB;rfl;simp only [fillP,wrCells,Value.cells,qH,qI,qJ,qG,qL,qK,Nat.reduceAdd,qN];rfl;apply zR;rfl;rfl;apply qA;apply Wr.whole;kernel_rfl;kernel_rfl;kernel_rfl;refine vAz<|nNz<|zK<|thenR ?_)
  (apply finR;exact .inl rfl;rfl;rfl;rfl;apply zD;apply zH;rfl;apply qE;apply zY;exact qF rfl;apply zD;exact zG rfl;exact zF)
  rfl
 ·have hr:rowOp b=none:=by unfold rowOp;rw [if_neg (by omega),if_neg (by omega),if_neg (by omega)]
  (refine sRz ?_;apply zU;rfl;intro _;refine vAz<|nSz<|vMz ?_;refine lvz (.convI rfl (by omega) (by omega)) ?_;refine vAz<|nNz<|zI<|sRz<|vMz ?_;refine lvz (.geqT rfl rfl (by omega)) ?_;refine vMz<|gTz<|vMz<|gTz ?_;refine lvz (.leqF rfl rfl (by omega)) ?_;refine pTz<|nNz<|cFz<|zJ<|thenN<|zI<|sRz<|vMz ?_;refine lvz (.geqT rfl rfl (by omega)) ?_;refine vMz<|gTz<|vMz<|gTz ?_;refine lvz (.leqF rfl rfl (by omega)) ?_;refine pTz<|nNz<|cFz<|zJ<|thenN<|zI<|sRz<|vMz ?_;refine lvz (.geqT rfl rfl (by omega)) ?_;refine vMz<|gTz<|vMz<|gTz ?_;refine lvz (.leqF rfl rfl (by omega)) ?_;refine pTz<|nNz<|cFz<|zJ<|thenN<|sRz ?_)
  (apply LW.callR;rfl;rfl;infer_instance;exact ArgsOk.nil;intro w hs)
  exact rPlain_calls w
  intro vp gp hpl
  obtain ⟨bp,rfl,rfl⟩:=hpl
  rename_i bo
  (refine vAz<|nNz<|zI<|sRz<|vAz<|nNz<|zM ?_)
  refine CW.loop (fun i:Nat=>([(0,.int .u8 (b:Int)),(2,.pointer (some ⟨bo,0,none⟩)),(3,.bool false),(5,.slice (some ⟨bp,0,none⟩) 50 50),(6,.int .i64 (i:Int))],[(bp,.cells (opcs plainOps).toArray 136 (0,0)),(bo,.cells (opc zeroOp) 136 (0,0))]))
   (fun i=>i≤50∧∀ j (hj:j < plainOps.length),j < i→plainOps[j].c ≠ b) (fun i=>50 - i) 0 ⟨Nat.zero_le _,fun j hj h=>absurd h (Nat.not_lt_zero _)⟩ ⟨rfl,rfl,rfl,rfl,rfl,trivial⟩ (qM _) ?_
  rintro i ⟨hi,hall⟩
  dsimp only
  rcases Nat.lt_or_ge i 50 with hlt|hge
  ·have hlt':i < plainOps.length:=hlt
   have hrc:=plain_rdc i hlt' (E:=136) (fr:=(0,0))
   have hrd:=plain_rd i hlt' (E:=136) (fr:=(0,0))
   have hop:=fun he=>opOf_plain hr hlt' (fun j hj=>hall j (by omega) hj) he
   obtain ⟨y,hy⟩:∃ y,plainOps[i]=y:=⟨_,rfl⟩
   rw [hy] at hrc hrd hop
   by_cases he:y.c=b
   ·rw [hop he]
    (refine zI<|sRz<|vMz<|vMz<|lvz (.lenR rfl inferInstance rfl) ?_;refine lvz (.lssT rfl rfl (by omega)) ?_;refine nNz<|cTz<|zJ<|thenN<|zI<|zM<|sRz<|vMz<|vMz ?_;refine lvz (.indexAddrS rfl rfl rfl (by omega)) ?_;refine vFz ?_;refine ldz rfl .head (by assumption) ?_;refine vMz ?_;refine lvz (.eqT rfl rfl (by omega)) ?_;refine nNz<|cTz<|sRz<|vMz<|vMz ?_;refine lvz (.indexAddrS rfl rfl rfl (by omega)) ?_;refine ldz rfl .head (by assumption) ?_;apply zR;rfl;rfl;apply qB;apply qA;apply Wr.whole;kernel_rfl;kernel_rfl;kernel_rfl;refine vAz<|nNz<|zK<|blkR<|thenR<|thenR<|blkR<|thenR ?_)
    (apply finR;exact .inl rfl;rfl;rfl;rfl;apply zD;apply zH;rfl;apply qE;apply zX;apply zY;exact qF rfl;apply zD;exact zG rfl;exact zF)
    rfl
   ·(refine zI<|sRz<|vMz<|vMz<|lvz (.lenR rfl inferInstance rfl) ?_;refine lvz (.lssT rfl rfl (by omega)) ?_;refine nNz<|cTz<|zJ<|thenN<|zI<|zM<|sRz<|vMz<|vMz ?_;refine lvz (.indexAddrS rfl rfl rfl (by omega)) ?_;refine vFz ?_;refine ldz rfl .head (by assumption) ?_;refine vMz ?_;refine lvz (.eqF rfl rfl (by omega)) ?_;refine nNz<|cFz<|zJ<|blkN<|thenN<|zL<|vMz ?_;refine lvz (.addZL rfl rfl (by decide) (by omega)) ?_;refine vAz ?_;apply zV)
    apply thenX
    refine ⟨rfl,i+1,⟨hlt,fun j hj hji=>?_⟩,by omega,⟨rfl,rfl,rfl,rfl,rfl,trivial⟩,qM _⟩
    rcases Nat.lt_or_ge j i with h|h
    ·exact hall j hj h
    ·obtain rfl:j=i:=by omega
     rw [hy];exact he
  ·rw [opOf_none hr (fun j hj=>hall j hj (by have:plainOps.length=50:=rfl;omega))]
   (refine zI<|sRz<|vMz<|vMz<|lvz (.lenR rfl inferInstance rfl) ?_;refine lvz (.lssF rfl rfl (by omega)) ?_;refine nNz<|cFz<|CW.exit<|thenE<|thenE<|blkE rfl<|thenN<|sRz ?_;apply LW.v0;rfl;rfl;apply zW;infer_instance;infer_instance;exact zB;rfl;simp only [fillP,wrCells,Value.cells,qH,qI,qJ,qG,qL,qK,Nat.reduceAdd,qN];rfl;apply zR;rfl;rfl;apply qB;apply qA;apply Wr.whole;kernel_rfl;kernel_rfl;kernel_rfl;refine vAz<|nNz<|zK ?_)
   (apply finR;exact .inl rfl;rfl;rfl;rfl;apply zD;apply zH;rfl;apply qE;apply zX;apply zY;exact qF rfl;apply zD;exact zG rfl;exact zF)
   rfl
section
attribute [local irreducible] opOf
def szOf (b:Nat):Nat:=match opOf b with
 |some x=>x.dt
 |none=>0
attribute [local irreducible] szOf
theorem size_calls (b:Nat) (hb:b < 256) (w:World):Calls Tryz.prog 84 #[.int .u8 (b:Int)] w (Ret w (.int .i64 (szOf b:Int))):=by
 have hOf0:=rOf_calls b hb
 refine enter (args:=[_]) _ [] [] Tryz.func84 rfl Tryz.ntmps84 rfl (by simp) .nil ?_
 cases ho:opOf b with
 |none =>
  rw [ho] at hOf0
  have hOf:∀ w,Calls Tryz.prog 119 #[.int .u8 (b:Int)] w (Ret w (.tuple #[.agg (opc zeroOp),.bool false])):=hOf0
  rw [show szOf b=0 by unfold szOf;rw [ho]]
  (refine sRz<|vAz<|nSz<|vMz ?_;apply zS;rfl;rfl;infer_instance;exact .cons rfl .nil;intro w _;exact hOf w;refine vMz ?_;refine vEz ?_;refine vEz ?_;apply zU;rfl;intro _;apply zR;rfl;rfl;apply qA;apply Wr.whole;kernel_rfl;kernel_rfl;kernel_rfl;refine vAz<|nSz<|vFz<|ldz rfl .head (Rd.one' rfl)<|vAz<|nNz<|zK ?_)
  (apply finR;exact .inl rfl;rfl;rfl;rfl;apply zD;exact zG rfl;exact zF)
  rfl
 |some x =>
  rw [ho] at hOf0
  have hOf:∀ w,Calls Tryz.prog 119 #[.int .u8 (b:Int)] w (Ret w (.tuple #[.agg (opc x),.bool true])):=hOf0
  rw [show szOf b=x.dt by unfold szOf;rw [ho]]
  (refine sRz<|vAz<|nSz<|vMz ?_;apply zS;rfl;rfl;infer_instance;exact .cons rfl .nil;intro w _;exact hOf w;refine vMz ?_;refine vEz ?_;refine vEz ?_;apply zU;rfl;intro _;apply zR;rfl;rfl;apply qA;apply Wr.whole;kernel_rfl;kernel_rfl;kernel_rfl;refine vAz<|nSz<|vFz<|ldz rfl .head (Rd.one' rfl)<|vAz<|nNz<|zK ?_)
  (apply finR;exact .inl rfl;rfl;rfl;rfl;apply zD;exact zG rfl;exact zF)
  rfl
theorem Right_calls (v:Value) (n:Nat) (xs:List Value) (w:World) (hv:RowAt w 1 v n xs):Calls Tryz.prog 50 #[v] w (Ret w (.bool (decide (n≤200)))):=by
 obtain ⟨p,c,rfl,hc,hm⟩:=hv.form
 refine enter (args:=[_]) _ [] [] Tryz.func50 rfl Tryz.ntmps50 rfl (by simp) .nil ?_
 (refine sRz<|vAz<|nSz<|vMz<|lvz (.lenR rfl inferInstance rfl)<|lvz (.leq rfl rfl)<|vAz<|nNz<|zK ?_)
 (apply finR;exact .inl rfl;rfl;rfl;rfl;apply zD;exact zG rfl;exact zF)
 rw [show decide (n≤200)=decide (((n:Nat):Int)≤200) from decide_eq_decide.2 (by omega)]
 rfl
theorem CheckC_calls (v:Value) (n:Nat) (xs:List Value) (w:World) (hv:RowAt w 1 v n xs):Calls Tryz.prog 48 #[v] w (Ret w (.int .i64 (if n≤200 then 0 else 3))):=by
 obtain ⟨p,c,rfl,hc,hm⟩:=hv.form
 refine enter (args:=[_]) _ [] [] Tryz.func48 rfl Tryz.ntmps48 rfl (by simp) .nil ?_
 rcases Nat.lt_or_ge 200 n with h|h
 ·rw [if_neg (by omega)]
  (refine sRz<|vAz<|nNz<|zI<|sRz<|vMz<|lvz (.lenR rfl inferInstance rfl) ?_;refine lvz (.gtrT rfl rfl (by omega)) ?_;refine nNz<|cTz<|sRz<|vAz<|nNz<|zK<|thenR ?_)
  (apply finR;exact .inl rfl;rfl;rfl;rfl;apply zD;exact zG rfl;exact zF)
  rfl
 ·rw [if_pos h]
  (refine sRz<|vAz<|nNz<|zI<|sRz<|vMz<|lvz (.lenR rfl inferInstance rfl) ?_;refine lvz (.gtrF rfl rfl (by omega)) ?_;refine nNz<|cFz<|zJ<|thenN<|sRz<|vAz<|nNz<|zK ?_)
  (apply finR;exact .inl rfl;rfl;rfl;rfl;apply zD;exact zG rfl;exact zF)
  rfl
end
section
theorem row_dt {b:Nat} {x:OpV} (h:rowOp b=some x):x.dt≤32:=by
 unfold rowOp at h
 split at h
 ·cases h;dsimp only;omega
 ·split at h
  ·cases h;exact Nat.zero_le _
  ·split at h
   ·cases h;exact Nat.zero_le _
   ·cases h
theorem plain_dt:∀ x∈plainOps,x.dt=0:=by decide
theorem opOf_dt {b:Nat} {x:OpV} (h:opOf b=some x):x.dt≤32:=by
 unfold opOf at h
 cases hr:rowOp b with
 |some y=>rw [hr] at h;cases h;exact row_dt hr
 |none=>rw [hr] at h;rw [plain_dt x (List.mem_of_find?_eq_some h)];exact Nat.zero_le _
theorem szOf_le (b:Nat):szOf b≤32:=by
 unfold szOf
 cases h:opOf b with
 |none=>exact Nat.zero_le _
 |some x=>exact opOf_dt h
attribute [local irreducible] opOf
def segsAt (p:Nat) (bs:List UInt8):List (Nat × UInt8 × List UInt8):=match bs with
 |[]=>[]
 |b::r=>(p,b,r.take (szOf b.toNat))::segsAt (p+1+szOf b.toNat) (r.drop (szOf b.toNat))
termination_by bs.length
decreasing_by simp [List.length_drop];omega
theorem segsAt_nil (p:Nat):segsAt p []=[]:=by rw [segsAt]
theorem segsAt_cons (p:Nat) (b:UInt8) (r:List UInt8):segsAt p (b::r)=(p,b,r.take (szOf b.toNat))::segsAt (p+1+szOf b.toNat) (r.drop (szOf b.toNat)):=by rw [segsAt]
theorem segs_step (bs:List UInt8) (p:Nat) (h:p < bs.length):segsAt p (bs.drop p)=(p,bs.getD p 0,(bs.drop (p+1)).take (szOf (bs.getD p 0).toNat))::segsAt (p+szOf (bs.getD p 0).toNat+1) (bs.drop (p+szOf (bs.getD p 0).toNat+1)):=by
 rw [List.drop_eq_getElem_cons h,segsAt_cons,List.drop_drop,show bs[p]=bs.getD p 0 by simp [h],Nat.add_right_comm p 1]
theorem segs_end (bs:List UInt8) (p q:Nat) (h:bs.length≤p):segsAt q (bs.drop p)=[]:=by rw [List.drop_eq_nil_of_le h,segsAt_nil]
end
section
attribute [local irreducible] opOf
def readB (bs:List UInt8) (i:Int):Bool:=(segsAt 0 bs).any fun s=>decide ((s.1:Int)=i)
def readFrom (bs:List UInt8) (p:Nat) (i:Int):Bool:=(segsAt p (bs.drop p)).any fun s=>decide ((s.1:Int)=i)
theorem segsAt_ge (n:Nat):∀ (bs:List UInt8) (p:Nat),bs.length≤n→∀ s∈segsAt p bs,p≤s.1:=by
 induction n with
 |zero =>
  intro bs p h s hs
  rw [List.eq_nil_of_length_eq_zero (show bs.length=0 by omega),segsAt_nil] at hs
  cases hs
 |succ n ih =>
  intro bs p h s hs
  cases bs with
  |nil=>rw [segsAt_nil] at hs;cases hs
  |cons b r =>
   rw [segsAt_cons] at hs
   rcases List.mem_cons.1 hs with rfl|hs
   ·exact Nat.le_refl _
   ·have:=ih (r.drop (szOf b.toNat)) (p+1+szOf b.toNat) (by simp at h ⊢;omega) s hs
    omega
theorem readFrom_gt {bs:List UInt8} {p:Nat} {i:Int} (h:i < (p:Int)):readFrom bs p i=false:=by
 unfold readFrom
 refine List.any_eq_false.2 fun s hs=>?_
 have:=segsAt_ge _ _ p (Nat.le_refl _) s hs
 simp;omega
theorem readFrom_end {bs:List UInt8} {p:Nat} {i:Int} (h:bs.length≤p):readFrom bs p i=false:=by
 unfold readFrom;rw [segs_end bs p p h];rfl
theorem readFrom_hit {bs:List UInt8} {p:Nat} (h:p < bs.length):readFrom bs p (p:Int)=true:=by
 unfold readFrom;rw [segs_step bs p h,List.any_cons];simp
theorem readFrom_step {bs:List UInt8} {p:Nat} {i:Int} (h:p < bs.length) (hi:(p:Int) < i):readFrom bs (p+1+szOf (bs.getD p 0).toNat) i=readFrom bs p i:=by
 unfold readFrom
 rw [segs_step bs p h,List.any_cons,decide_eq_false (by dsimp only;omega),Bool.false_or,Nat.add_right_comm p 1]
theorem Read_calls (bs:List UInt8) (hb:bs.length≤1000) (i:Int) (v:Value) (w:World) (hv:RowAt w 1 v bs.length (ucs bs)):Calls Tryz.prog 52 #[v,.int .i64 i] w (Ret w (.bool (readB bs i))):=by
 obtain ⟨p0,c0,rfl,hc0,hm0⟩:=hv.form
 have h0:readFrom bs 0 i=readB bs i:=by unfold readFrom readB;rw [List.drop_zero]
 refine enter (args:=[_,_]) _ [] [] Tryz.func52 rfl Tryz.ntmps52 rfl (by simp) .nil ?_
 (refine sRz<|vAz<|nSz<|vAz<|nNz<|zI<|zM ?_)
 refine CW.loop (fun k:Nat=>([(0,.slice p0 bs.length c0),(1,.int .i64 i),(4,.bool false),(5,.int .i64 (k:Int))],[]))
  (fun k=>k≤2000∧readFrom bs k i=readB bs i) (fun k=>bs.length - k) 0 ⟨Nat.zero_le _,h0⟩ ⟨rfl,rfl,rfl,rfl,trivial⟩ (qM _) ?_
 rintro k ⟨hk,hr⟩
 dsimp only
 rcases Nat.lt_or_ge k bs.length with hlt|hge
 ·rcases Int.lt_or_le (k:Int) i with hki|hki
  ·obtain ⟨b,off,c',cs,E,fr,heq,hbk,hx⟩:=hv.pos (by omega)
   cases heq
   have hst:=readFrom_step hlt hki
   obtain ⟨u,hu⟩:∃ u,bs.getD k 0=u:=⟨_,rfl⟩
   rw [hu,hr] at hst
   have hrd:Rd Tryz.prog 5 (.cells cs E fr) (off+k * 1) (.int .u8 (u.toNat:Int)):=Rd.elem1 hx (ucs_one bs) (List.getElem?_eq_getElem hlt) (by rw [← hu];simp [hlt])
   have hSz:=size_calls u.toNat u.toNat_lt
   have hzl:=szOf_le u.toNat
   obtain ⟨z,hz⟩:∃ z,szOf u.toNat=z:=⟨_,rfl⟩
   rw [hz] at hSz hzl hst
   (refine zI<|sRz<|vMz<|vMz<|lvz (.lenR rfl inferInstance rfl) ?_;refine lvz (.lssT rfl rfl (by omega)) ?_;refine vMz<|gTz<|vMz<|gTz<|vMz<|gTz ?_;refine lvz (.lssT rfl rfl (by omega)) ?_;refine pTz<|nNz<|cTz<|zJ<|thenN<|zM<|zL<|vMz ?_;refine lvz (.addZL rfl rfl (by decide) (by omega)) ?_;refine vMz<|vMz ?_;refine lvz (.indexAddrS rfl rfl rfl (by omega)) ?_;apply LW.load;rfl;rfl;exact Known.ext (by assumption) (by simp);assumption;apply zS;rfl;rfl;infer_instance;exact .cons rfl .nil;intro w _;exact hSz w;refine lvz (.addZ rfl rfl (by omega)) ?_;refine vAz ?_;apply zV;refine blkN ?_)
   apply thenX
   exact ⟨rfl,k+1+z,⟨by omega,hst⟩,by omega,⟨rfl,rfl,rfl,rfl,trivial⟩,qM _⟩
  ·rcases Int.lt_or_eq_of_le hki with hlt'|heq
   ·rw [← hr,readFrom_gt hlt']
    have hne:¬ (k:Int)=i:=by omega
    (refine zI<|sRz<|vMz<|vMz<|lvz (.lenR rfl inferInstance rfl) ?_;refine lvz (.lssT rfl rfl (by omega)) ?_;refine vMz<|gTz<|vMz<|gTz<|vMz<|gTz ?_;refine lvz (.lssF rfl rfl (by omega)) ?_;refine pTz<|nNz<|cFz<|CW.exit<|thenE<|thenE<|blkE rfl<|thenN<|sRz<|vMz<|vMz ?_;refine lvz (.eqF rfl rfl (by omega)) ?_;refine vMz<|gFz<|gFz<|pFz<|vMz ?_;(iterate 4 refine gFz ?_);refine pFz<|vAz<|nNz<|zK ?_)
    (apply finR;exact .inl rfl;rfl;rfl;rfl;apply zD;exact zG rfl;exact zF)
    rfl
   ·subst heq
    rw [← hr,readFrom_hit hlt]
    (refine zI<|sRz<|vMz<|vMz<|lvz (.lenR rfl inferInstance rfl) ?_;refine lvz (.lssT rfl rfl (by omega)) ?_;refine vMz<|gTz<|vMz<|gTz<|vMz<|gTz ?_;refine lvz (.lssF rfl rfl (by omega)) ?_;refine pTz<|nNz<|cFz<|CW.exit<|thenE<|thenE<|blkE rfl<|thenN<|sRz<|vMz<|vMz ?_;refine lvz (.eqT rfl rfl (by omega)) ?_;refine vMz<|gTz<|vMz<|gTz ?_;refine lvz (.geqT rfl rfl (by omega)) ?_;refine pTz<|vMz<|gTz<|vMz<|gTz<|vMz<|gTz<|lvz (.lenR rfl inferInstance rfl)<|gTz ?_;refine lvz (.lssT rfl rfl (by omega)) ?_;refine pTz<|vAz<|nNz<|zK ?_)
    (apply finR;exact .inl rfl;rfl;rfl;rfl;apply zD;exact zG rfl;exact zF)
    rfl
 ·rw [← hr,readFrom_end hge]
  by_cases heq:(k:Int)=i
  ·subst heq
   (refine zI<|sRz<|vMz<|vMz<|lvz (.lenR rfl inferInstance rfl) ?_;refine lvz (.lssF rfl rfl (by omega)) ?_;refine vMz ?_;(iterate 3 refine gFz ?_);refine pFz<|nNz<|cFz<|CW.exit<|thenE<|thenE<|blkE rfl<|thenN<|sRz<|vMz<|vMz ?_;refine lvz (.eqT rfl rfl (by omega)) ?_;refine vMz<|gTz<|vMz<|gTz ?_;refine lvz (.geqT rfl rfl (by omega)) ?_;refine pTz<|vMz<|gTz<|vMz<|gTz<|vMz<|gTz<|lvz (.lenR rfl inferInstance rfl)<|gTz ?_;refine lvz (.lssF rfl rfl (by omega)) ?_;refine pTz<|vAz<|nNz<|zK ?_)
   (apply finR;exact .inl rfl;rfl;rfl;rfl;apply zD;exact zG rfl;exact zF)
   rfl
  ·(refine zI<|sRz<|vMz<|vMz<|lvz (.lenR rfl inferInstance rfl) ?_;refine lvz (.lssF rfl rfl (by omega)) ?_;refine vMz ?_;(iterate 3 refine gFz ?_);refine pFz<|nNz<|cFz<|CW.exit<|thenE<|thenE<|blkE rfl<|thenN<|sRz<|vMz<|vMz ?_;refine lvz (.eqF rfl rfl (by omega)) ?_;refine vMz<|gFz<|gFz<|pFz<|vMz ?_;(iterate 4 refine gFz ?_);refine pFz<|vAz<|nNz<|zK ?_)
   (apply finR;exact .inl rfl;rfl;rfl;rfl;apply zD;exact zG rfl;exact zF)
   rfl
end
end Go.Proofs.YtpgdnfgjbhdbpaaGreatDoor.CK
namespace Go.Proofs.YtpgdnfgjbhdbpaaGreatDoor
open Go Go.RowKit SL
set_option maxRecDepth 8000
set_option maxHeartbeats 4000000
set_option linter.unusedSimpArgs false
set_option linter.unusedVariables false
attribute [local irreducible] SL.CW SL.LW SL.DW Calls SL.Ret SL.RetG SL.beginQ SL.roundQ SL.rangeQ SL.RW SL.AnyW SL.thenQ SL.thenC SL.thenW SL.blkQ SL.finQ SL.ValP SL.NewP SL.SetP SL.CallP SL.Rd SL.Wr SL.Known
section
open CK (readB readFrom readFrom_step readFrom_hit readFrom_gt readFrom_end szOf szOf_le CheckC_calls)
attribute [local irreducible] opOf szOf
def opX (b:Nat):OpV:=(opOf b).getD zeroOp
theorem opX_dt (b:Nat):(opX b).dt=szOf b:=by
 unfold opX szOf
 cases opOf b<;>rfl
theorem OfX_calls (b:Nat) (hb:b < 256) (w:World):∃ e:Int,(∀ w,Calls Tryz.prog 102 #[.int .u8 (b:Int)] w (Ret w (.tuple #[.agg (opc (opX b)),.int .i64 e])))∧e=(if (opOf b).isSome then 0 else 4):=by
 cases ho:opOf b with
 |none=>exact ⟨4,fun w=>by have h:=Of_op_calls b hb w;rw [ho] at h;unfold opX;rw [ho];exact h,rfl⟩
 |some x=>exact ⟨0,fun w=>by have h:=Of_op_calls b hb w;rw [ho] at h;unfold opX;rw [ho];exact h,rfl⟩
attribute [local irreducible] opX
theorem fread_calls (bs:List UInt8) (hb:bs.length≤1000) (i:Int) (v:Value) (w:World) (hv:RowAt w 1 v bs.length (ucs bs)):Calls Tryz.prog 67 #[v,.int .i64 i] w (Ret w (.bool (readB bs i))):=by
 obtain ⟨p0,c0,rfl,hc0,hm0⟩:=hv.form
 have h0:readFrom bs 0 i=readB bs i:=by unfold readFrom readB;rw [List.drop_zero]
 refine enter (args:=[_,_]) _ [] [] Tryz.func67 rfl Tryz.ntmps67 rfl (by simp) .nil ?_
 (refine sRz<|vAz<|nSz<|vAz<|nNz<|zI<|zM ?_)
 refine CW.loop (fun k:Nat=>([(0,.slice p0 bs.length c0),(1,.int .i64 i),(4,.bool false),(5,.int .i64 (k:Int))],[]))
  (fun k=>k≤2000∧readFrom bs k i=readB bs i) (fun k=>bs.length - k) 0 ⟨Nat.zero_le _,h0⟩ ⟨rfl,rfl,rfl,rfl,trivial⟩ (qM _) ?_
 rintro k ⟨hk,hr⟩
 dsimp only
 rcases Nat.lt_or_ge k bs.length with hlt|hge
 ·rcases Int.lt_or_le (k:Int) i with hki|hki
  ·obtain ⟨b,off,c',cs,E,fr,heq,hbk,hx⟩:=hv.pos (by omega)
   cases heq
   have hst:=readFrom_step hlt hki
   obtain ⟨u,hu⟩:∃ u,bs.getD k 0=u:=⟨_,rfl⟩
   rw [hu,hr] at hst
   have hrd:Rd Tryz.prog 5 (.cells cs E fr) (off+k * 1) (.int .u8 (u.toNat:Int)):=Rd.elem1 hx (ucs_one bs) (List.getElem?_eq_getElem hlt) (by rw [← hu];simp [hlt])
   obtain ⟨e,hOf,_⟩:=OfX_calls u.toNat u.toNat_lt w
   have hzl:=szOf_le u.toNat
   rw [← opX_dt] at hst hzl
   rw [Nat.add_assoc] at hst
   (refine zI<|sRz<|vMz<|vMz ?_;refine lvz (.lssT rfl rfl (by omega)) ?_;refine vMz<|gTz<|vMz<|gTz<|vMz<|gTz<|lvz (.lenR rfl inferInstance rfl)<|gTz ?_;refine lvz (.lssT rfl rfl (by omega)) ?_;refine pTz<|nNz<|cTz<|zJ<|thenN<|zM<|sRz<|vMz<|vMz ?_;refine lvz (.indexAddrS rfl rfl rfl (by omega)) ?_;apply LW.load;rfl;rfl;exact Known.ext (by assumption) (by simp);assumption;apply zS;rfl;rfl;infer_instance;exact .cons rfl .nil;intro w _;exact hOf w;refine vMz ?_;refine vEz ?_;refine vEz ?_;apply zU;rfl;intro _;refine zR rfl rfl .head (.whole rfl rfl rfl)<|vAz<|nNz<|zL<|vMz<|vFz<|ldz rfl .head (Rd.one' rfl) ?_;refine lvz (.addZK rfl rfl (by decide) (by omega)) ?_;refine lvz (.addZ rfl rfl (by omega)) ?_;refine vAz ?_;apply zV;refine blkN ?_)
   apply thenX
   exact ⟨rfl,k+(1+(opX u.toNat).dt),⟨by omega,hst⟩,by omega,⟨rfl,rfl,rfl,rfl,trivial⟩,List.nil_sublist _⟩
  ·rcases Int.lt_or_eq_of_le hki with hlt'|heq
   ·rw [← hr,readFrom_gt hlt']
    have hne:¬ (k:Int)=i:=by omega
    (refine zI<|sRz<|vMz<|vMz ?_;refine lvz (.lssF rfl rfl (by omega)) ?_;refine vMz ?_;(iterate 4 refine gFz ?_);refine pFz<|nNz<|cFz<|CW.exit<|thenE<|thenE<|blkE rfl<|thenN<|sRz<|vMz<|vMz ?_;refine lvz (.eqF rfl rfl (by omega)) ?_;refine vMz ?_;(iterate 4 refine gFz ?_);refine pFz<|vAz<|nNz<|zK ?_)
    (apply finR;exact .inl rfl;rfl;rfl;rfl;apply zD;exact zG rfl;exact zF)
    rfl
   ·subst heq
    rw [← hr,readFrom_hit hlt]
    (refine zI<|sRz<|vMz<|vMz ?_;refine lvz (.lssF rfl rfl (by omega)) ?_;refine vMz ?_;(iterate 4 refine gFz ?_);refine pFz<|nNz<|cFz<|CW.exit<|thenE<|thenE<|blkE rfl<|thenN<|sRz<|vMz<|vMz ?_;refine lvz (.eqT rfl rfl (by omega)) ?_;refine vMz<|gTz<|vMz<|gTz<|vMz<|gTz<|lvz (.lenR rfl inferInstance rfl)<|gTz ?_;refine lvz (.lssT rfl rfl (by omega)) ?_;refine pTz<|vAz<|nNz<|zK ?_)
    (apply finR;exact .inl rfl;rfl;rfl;rfl;apply zD;exact zG rfl;exact zF)
    rfl
 ·rw [← hr,readFrom_end hge]
  rcases Int.lt_or_le (k:Int) i with hki|hki
  ·have hne:¬ (k:Int)=i:=by omega
   (refine zI<|sRz<|vMz<|vMz ?_;refine lvz (.lssT rfl rfl (by omega)) ?_;refine vMz<|gTz<|vMz<|gTz<|vMz<|gTz<|lvz (.lenR rfl inferInstance rfl)<|gTz ?_;refine lvz (.lssF rfl rfl (by omega)) ?_;refine pTz<|nNz<|cFz<|CW.exit<|thenE<|thenE<|blkE rfl<|thenN<|sRz<|vMz<|vMz ?_;refine lvz (.eqF rfl rfl (by omega)) ?_;refine vMz ?_;(iterate 4 refine gFz ?_);refine pFz<|vAz<|nNz<|zK ?_)
   (apply finR;exact .inl rfl;rfl;rfl;rfl;apply zD;exact zG rfl;exact zF)
   rfl
  ·by_cases heq:(k:Int)=i
   ·subst heq
    (refine zI<|sRz<|vMz<|vMz ?_;refine lvz (.lssF rfl rfl (by omega)) ?_;refine vMz ?_;(iterate 4 refine gFz ?_);refine pFz<|nNz<|cFz<|CW.exit<|thenE<|thenE<|blkE rfl<|thenN<|sRz<|vMz<|vMz ?_;refine lvz (.eqT rfl rfl (by omega)) ?_;refine vMz<|gTz<|vMz<|gTz<|vMz<|gTz<|lvz (.lenR rfl inferInstance rfl)<|gTz ?_;refine lvz (.lssF rfl rfl (by omega)) ?_;refine pTz<|vAz<|nNz<|zK ?_)
    (apply finR;exact .inl rfl;rfl;rfl;rfl;apply zD;exact zG rfl;exact zF)
    rfl
   ·(refine zI<|sRz<|vMz<|vMz ?_;refine lvz (.lssF rfl rfl (by omega)) ?_;refine vMz ?_;(iterate 4 refine gFz ?_);refine pFz<|nNz<|cFz<|CW.exit<|thenE<|thenE<|blkE rfl<|thenN<|sRz<|vMz<|vMz ?_;refine lvz (.eqF rfl rfl (by omega)) ?_;refine vMz ?_;(iterate 4 refine gFz ?_);refine pFz<|vAz<|nNz<|zK ?_)
    (apply finR;exact .inl rfl;rfl;rfl;rfl;apply zD;exact zG rfl;exact zF)
    rfl
structure FrL where
 cl:List UInt8
 ws:List Nat
 ms:List UInt8
 il:List UInt8
 bl:List UInt8
structure FrRows (w:World) (f:FrV) (L:FrL):Prop where
 c:RowAt w 1 f.code L.cl.length (ucs L.cl)
 s:RowAt w 4 f.stk L.ws.length (wcs L.ws)
 m:RowAt w 1 f.mem L.ms.length (ucs L.ms)
 i:RowAt w 1 f.inp L.il.length (ucs L.il)
 b:RowAt w 1 f.back L.bl.length (ucs L.bl)
theorem FrRows.st {w0 w:World} {f:FrV} {L:FrL} {fs:Fs} (h:FrRows w0 f L) (hs:St w0 [] fs w):FrRows w f L:=⟨h.c.st hs,h.s.st hs,h.m.st hs,h.i.st hs,h.b.st hs⟩
theorem FrRows.bel {w0 w:World} {f:FrV} {L:FrL} (h:FrRows w0 f L) (hb:Bel w0.heap.size [] w0 w):FrRows w f L:=⟨h.c.bel hb,h.s.bel hb,h.m.bel hb,h.i.bel hb,h.b.bel hb⟩
abbrev fra (f:FrV):Array Value:=(frc f).toArray
abbrev frv (f:FrV):Value:=.agg (fra f)
section rd
variable {P : Program} {T E : TypeId} {fr : Nat × Nat} {code stk mem inp back : Value} {pc : Int} {gas self frm val : Nat} {stat : Bool}
theorem fr_rd0 [AgI P T false]:Rd P T (.cells (fra ⟨code,pc,stk,mem,gas,self,frm,val,inp,back,stat⟩) E fr) 0 code:=Rd.one rfl
theorem fr_rd1 [AgI P T false]:Rd P T (.cells (fra ⟨code,pc,stk,mem,gas,self,frm,val,inp,back,stat⟩) E fr) 1 (.int .i64 pc):=Rd.one rfl
theorem fr_rd2 [AgI P T true] {z:Value} [InfoI P T 2 z]:Rd P T (.cells (fra ⟨code,pc,stk,mem,gas,self,frm,val,inp,back,stat⟩) E fr) 2 (.agg #[stk,mem]):=Rd.mid (cs:=[stk,mem]) rfl rfl
theorem fr_rd2s [AgI P T false]:Rd P T (.cells (fra ⟨code,pc,stk,mem,gas,self,frm,val,inp,back,stat⟩) E fr) 2 stk:=Rd.one rfl
theorem fr_rd3 [AgI P T false]:Rd P T (.cells (fra ⟨code,pc,stk,mem,gas,self,frm,val,inp,back,stat⟩) E fr) 3 mem:=Rd.one rfl
theorem fr_rd4 [AgI P T false]:Rd P T (.cells (fra ⟨code,pc,stk,mem,gas,self,frm,val,inp,back,stat⟩) E fr) 4 (.int .u64 (gas:Int)):=Rd.one rfl
theorem fr_rd5 [AgI P T false]:Rd P T (.cells (fra ⟨code,pc,stk,mem,gas,self,frm,val,inp,back,stat⟩) E fr) 5 (.int .u64 (self:Int)):=Rd.one rfl
theorem fr_rd6 [AgI P T false]:Rd P T (.cells (fra ⟨code,pc,stk,mem,gas,self,frm,val,inp,back,stat⟩) E fr) 6 (.int .u64 (frm:Int)):=Rd.one rfl
theorem fr_rd7 [AgI P T true] {z:Value} [InfoI P T 4 z]:Rd P T (.cells (fra ⟨code,pc,stk,mem,gas,self,frm,val,inp,back,stat⟩) E fr) 7 (wv val):=Rd.mid (cs:=(wc val).toList) rfl rfl
theorem fr_rd11 [AgI P T false]:Rd P T (.cells (fra ⟨code,pc,stk,mem,gas,self,frm,val,inp,back,stat⟩) E fr) 11 inp:=Rd.one rfl
theorem fr_rd12 [AgI P T false]:Rd P T (.cells (fra ⟨code,pc,stk,mem,gas,self,frm,val,inp,back,stat⟩) E fr) 12 back:=Rd.one rfl
theorem fr_rd13 [AgI P T false]:Rd P T (.cells (fra ⟨code,pc,stk,mem,gas,self,frm,val,inp,back,stat⟩) E fr) 13 (.bool stat):=Rd.one rfl
theorem fr_rdW {f:FrV} {z:Value} [AgI P T true] [InfoI P T 14 z]:Rd P T (.cells (fra f) E fr) 0 (frv f):=qF rfl
end rd
def okF (f:FrV) (L:FrL):Prop:=(L.il.length≤1024∧L.bl.length≤1024∧f.gas≤20000)∧¬ f.self=0∧L.cl.length≤200∧okSc L.ws.length L.ms.length∧(f.pc=(L.cl.length:Int)∨readB L.cl f.pc=true)
instance (f:FrV) (L:FrL):Decidable (okF f L):=by unfold okF;infer_instance
theorem fCheck_calls (f:FrV) (L:FrL) (w:World) (h:FrRows w f L):Calls Tryz.prog 31 #[frv f] w (Ret w (.int .i64 (if okF f L then 0 else 240))):=by
 obtain ⟨e,he⟩:∃ e:Int,e=if okF f L then 0 else 240:=⟨_,rfl⟩
 have hp:okF f L→e=0:=fun h=>by rw [he,if_pos h]
 have hn:¬ okF f L→e=240:=fun h=>by rw [he,if_neg h]
 rw [← he]
 clear he
 unfold okF at hp hn
 obtain ⟨code,pc,stk,mem,gas,self,frm,val,inp,back,stat⟩:=f
 obtain ⟨h0,h2,h3,h11,h12⟩:=h
 dsimp only at h0 h2 h3 h11 h12 hp hn
 obtain ⟨p0,c0,rfl,_,hm0⟩:=h0.form
 obtain ⟨p2,c2,rfl,_,hm2⟩:=h2.form
 obtain ⟨p3,c3,rfl,_,hm3⟩:=h3.form
 obtain ⟨p11,c11,rfl,_,hm11⟩:=h11.form
 obtain ⟨p12,c12,rfl,_,hm12⟩:=h12.form
 have hS0:=scCheck_calls p2 p3 L.ws.length c2 L.ms.length c3 (by omega) (by omega)
 have hC0:∀ w' {fs},St w [] fs w'→Calls Tryz.prog 48 #[.slice p0 L.cl.length c0] w' (Ret w' (.int .i64 (if L.cl.length≤200 then 0 else 3))):=fun w' fs hst=>CheckC_calls _ _ _ w' (h0.st hst)
 simp only [maxLen] at hm0 hm2 hm3 hm11 hm12
 refine enter (args:=[_]) _ [] [] Tryz.func31 rfl Tryz.ntmps31 rfl (by simp) .nil ?_
 by_cases hc:L.cl.length≤200
 ·have hRd0:∀ w' {fs},St w [] fs w'→Calls Tryz.prog 67 #[.slice p0 L.cl.length c0,.int .i64 pc] w' (Ret w' (.bool (readB L.cl pc))):=fun w' fs hst=>fread_calls _ (by omega) _ _ w' (h0.st hst)
  rw [if_pos hc] at hC0
  have hC:∀ w' {fs},St w [] fs w'→Calls Tryz.prog 48 #[.slice p0 L.cl.length c0] w' (Ret w' (.int .i64 0)):=hC0
  by_cases hs:okSc L.ws.length L.ms.length
  ·rw [if_pos hs] at hS0
   have hS:∀ w',Calls Tryz.prog 66 #[.agg #[.slice p2 L.ws.length c2,.slice p3 L.ms.length c3]] w' (Ret w' (.int .i64 0)):=hS0
   simp only [hs,true_and] at hp hn
   by_cases hpc:pc=(L.cl.length:Int)
   ·simp only [hpc,true_or,and_true] at hp hn
    subst hpc
    (refine sRz ?_;apply zT;rfl;rfl;intro _;refine vAz<|nSz<|vFz<|ldz rfl .head fr_rd11<|lvz (.lenR rfl inferInstance rfl)<|lvz (.gtr rfl rfl)<|vMz ?_)
    (refine LW.guardDF rfl rfl rfl (fun hsq hsp=>?_) (fun hsq hsp=>?_))
    (refine vFz<|gTaz<|ldz rfl .head fr_rd12<|gTaz<|lvz (.lenR rfl inferInstance rfl)<|gTaz<|lvz (.gtr rfl rfl)<|pFaz<|vMz ?_;refine LW.guardDF rfl rfl rfl (fun hsq hsp=>?_) (fun hsq hsp=>?_);refine vFz<|gTaz<|ldz rfl .head fr_rd4<|gTaz<|lvz (.gtr rfl rfl)<|pFaz<|vAz<|nNz<|zI<|sRz<|vMz<|vMz ?_;refine LW.guardDF rfl rfl rfl (fun hsq hsp=>?_) (fun hsq hsp=>?_);refine vFz<|gTaz<|ldz rfl .head fr_rd5<|gTaz<|lvz (.eq rfl rfl)<|pFaz<|vMz ?_;refine LW.guardDF rfl rfl rfl (fun hsq hsp=>?_) (fun hsq hsp=>?_);refine vFz<|gTaz<|ldz rfl .head fr_rd0<|gTaz ?_;apply zS;rfl;rfl;infer_instance;exact .cons rfl .nil;intro w _;exact hC w (by assumption);refine gTaz ?_;refine lvz (.neF rfl rfl (by omega)) ?_;refine pFaz<|vMz<|gTz<|vFz<|gTz<|ldz rfl .head fr_rd2<|gTz ?_;apply zS;rfl;rfl;infer_instance;exact .cons rfl .nil;intro w _;exact hS w;refine gTz ?_;refine lvz (.neF rfl rfl (by omega)) ?_;refine pFz<|nNz<|cFz<|zJ<|thenN<|zI<|sRz<|vFz<|ldz rfl .head fr_rd1<|vFz<|ldz rfl .head fr_rd0<|lvz (.lenR rfl inferInstance rfl) ?_;refine lvz (.neF rfl rfl (by omega)) ?_;refine vMz ?_;(iterate 6 refine gFz ?_);refine pFz<|nNz<|cFz<|zJ<|thenN<|sRz<|vAz<|nNz<|zK ?_;apply finR;exact .inl rfl;rfl;rfl;rfl;apply zD;exact zG rfl;exact zF;rw [hp (by omega)];rfl;(iterate 3 refine gFaz ?_);refine pTaz<|vMz ?_;(iterate 4 refine gFz ?_);refine pTz<|nNz<|cTz<|sRz<|vAz<|nNz<|zK ?_;refine thenR (finR (.inl rfl) rfl rfl rfl (.cons (.tmp rfl) .nil) ?_);rw [hn (by omega)];rfl;refine gFaz<|gFaz<|pTaz<|vMz ?_;(iterate 4 refine gFz ?_);refine pTz<|vMz ?_;(iterate 4 refine gFz ?_);refine pTz<|nNz<|cTz<|sRz<|vAz<|nNz<|zK ?_;refine thenR (finR (.inl rfl) rfl rfl rfl (.cons (.tmp rfl) .nil) ?_);rw [hn (by omega)];rfl;refine gFaz<|gFaz<|pTaz<|vAz<|nNz<|zI<|sRz<|vMz<|vMz ?_;(iterate 3 refine gFz ?_);refine pTz<|vMz ?_;(iterate 4 refine gFz ?_);refine pTz<|vMz ?_;(iterate 4 refine gFz ?_);refine pTz<|nNz<|cTz<|sRz<|vAz<|nNz<|zK ?_;refine thenR (finR (.inl rfl) rfl rfl rfl (.cons (.tmp rfl) .nil) ?_);rw [hn (by omega)];rfl;(iterate 3 refine gFaz ?_);refine pTaz<|vMz ?_;(iterate 3 refine gFz ?_);refine pTz<|vAz<|nNz<|zI<|sRz<|vMz<|vMz ?_;(iterate 3 refine gFz ?_);refine pTz<|vMz ?_;(iterate 4 refine gFz ?_);refine pTz<|vMz ?_;(iterate 4 refine gFz ?_);refine pTz<|nNz<|cTz<|sRz<|vAz<|nNz<|zK ?_;refine thenR (finR (.inl rfl) rfl rfl rfl (.cons (.tmp rfl) .nil) ?_);rw [hn (by omega)];rfl)
   ·cases hr:readB L.cl pc with
    |true =>
     rw [hr] at hRd0 hp hn
     have hRd:∀ w' {fs},St w [] fs w'→Calls Tryz.prog 67 #[.slice p0 L.cl.length c0,.int .i64 pc] w' (Ret w' (.bool true)):=hRd0
     simp only [or_true,and_true] at hp hn
     (refine sRz ?_;apply zT;rfl;rfl;intro _;refine vAz<|nSz<|vFz<|ldz rfl .head fr_rd11<|lvz (.lenR rfl inferInstance rfl)<|lvz (.gtr rfl rfl)<|vMz ?_)
     (refine LW.guardDF rfl rfl rfl (fun hsq hsp=>?_) (fun hsq hsp=>?_))
     (refine vFz<|gTaz<|ldz rfl .head fr_rd12<|gTaz<|lvz (.lenR rfl inferInstance rfl)<|gTaz<|lvz (.gtr rfl rfl)<|pFaz<|vMz ?_;refine LW.guardDF rfl rfl rfl (fun hsq hsp=>?_) (fun hsq hsp=>?_);refine vFz<|gTaz<|ldz rfl .head fr_rd4<|gTaz<|lvz (.gtr rfl rfl)<|pFaz<|vAz<|nNz<|zI<|sRz<|vMz<|vMz ?_;refine LW.guardDF rfl rfl rfl (fun hsq hsp=>?_) (fun hsq hsp=>?_);refine vFz<|gTaz<|ldz rfl .head fr_rd5<|gTaz<|lvz (.eq rfl rfl)<|pFaz<|vMz ?_;refine LW.guardDF rfl rfl rfl (fun hsq hsp=>?_) (fun hsq hsp=>?_);refine vFz<|gTaz<|ldz rfl .head fr_rd0<|gTaz ?_;apply zS;rfl;rfl;infer_instance;exact .cons rfl .nil;intro w _;exact hC w (by assumption);refine gTaz ?_;refine lvz (.neF rfl rfl (by omega)) ?_;refine pFaz<|vMz<|gTz<|vFz<|gTz<|ldz rfl .head fr_rd2<|gTz ?_;apply zS;rfl;rfl;infer_instance;exact .cons rfl .nil;intro w _;exact hS w;refine gTz ?_;refine lvz (.neF rfl rfl (by omega)) ?_;refine pFz<|nNz<|cFz<|zJ<|thenN<|zI<|sRz<|vFz<|ldz rfl .head fr_rd1<|vFz<|ldz rfl .head fr_rd0<|lvz (.lenR rfl inferInstance rfl) ?_;refine lvz (.neT rfl rfl (by omega)) ?_;refine vMz<|gTz<|vFz<|gTz<|ldz rfl .head fr_rd0<|gTz<|vFz<|gTz<|ldz rfl .head fr_rd1<|gTz ?_;apply zS;rfl;rfl;infer_instance;exact .cons rfl (.cons rfl .nil);intro w _;exact hRd w (by assumption);refine gTz ?_;refine lvz (.notT rfl (by with_reducible rfl)) ?_;refine pTz<|nNz<|cFz<|zJ<|thenN<|sRz<|vAz<|nNz<|zK ?_;apply finR;exact .inl rfl;rfl;rfl;rfl;apply zD;exact zG rfl;exact zF;rw [hp (by omega)];rfl;(iterate 3 refine gFaz ?_);refine pTaz<|vMz ?_;(iterate 4 refine gFz ?_);refine pTz<|nNz<|cTz<|sRz<|vAz<|nNz<|zK ?_;refine thenR (finR (.inl rfl) rfl rfl rfl (.cons (.tmp rfl) .nil) ?_);rw [hn (by omega)];rfl;refine gFaz<|gFaz<|pTaz<|vMz ?_;(iterate 4 refine gFz ?_);refine pTz<|vMz ?_;(iterate 4 refine gFz ?_);refine pTz<|nNz<|cTz<|sRz<|vAz<|nNz<|zK ?_;refine thenR (finR (.inl rfl) rfl rfl rfl (.cons (.tmp rfl) .nil) ?_);rw [hn (by omega)];rfl;refine gFaz<|gFaz<|pTaz<|vAz<|nNz<|zI<|sRz<|vMz<|vMz ?_;(iterate 3 refine gFz ?_);refine pTz<|vMz ?_;(iterate 4 refine gFz ?_);refine pTz<|vMz ?_;(iterate 4 refine gFz ?_);refine pTz<|nNz<|cTz<|sRz<|vAz<|nNz<|zK ?_;refine thenR (finR (.inl rfl) rfl rfl rfl (.cons (.tmp rfl) .nil) ?_);rw [hn (by omega)];rfl;(iterate 3 refine gFaz ?_);refine pTaz<|vMz ?_;(iterate 3 refine gFz ?_);refine pTz<|vAz<|nNz<|zI<|sRz<|vMz<|vMz ?_;(iterate 3 refine gFz ?_);refine pTz<|vMz ?_;(iterate 4 refine gFz ?_);refine pTz<|vMz ?_;(iterate 4 refine gFz ?_);refine pTz<|nNz<|cTz<|sRz<|vAz<|nNz<|zK ?_;refine thenR (finR (.inl rfl) rfl rfl rfl (.cons (.tmp rfl) .nil) ?_);rw [hn (by omega)];rfl)
    |false =>
     rw [hr] at hRd0 hp hn
     have hRd:∀ w' {fs},St w [] fs w'→Calls Tryz.prog 67 #[.slice p0 L.cl.length c0,.int .i64 pc] w' (Ret w' (.bool false)):=hRd0
     simp only [Bool.false_eq_true,or_false] at hp hn
     (refine sRz ?_;apply zT;rfl;rfl;intro _;refine vAz<|nSz<|vFz<|ldz rfl .head fr_rd11<|lvz (.lenR rfl inferInstance rfl)<|lvz (.gtr rfl rfl)<|vMz ?_)
     (refine LW.guardDF rfl rfl rfl (fun hsq hsp=>?_) (fun hsq hsp=>?_))
     (refine vFz<|gTaz<|ldz rfl .head fr_rd12<|gTaz<|lvz (.lenR rfl inferInstance rfl)<|gTaz<|lvz (.gtr rfl rfl)<|pFaz<|vMz ?_;refine LW.guardDF rfl rfl rfl (fun hsq hsp=>?_) (fun hsq hsp=>?_);refine vFz<|gTaz<|ldz rfl .head fr_rd4<|gTaz<|lvz (.gtr rfl rfl)<|pFaz<|vAz<|nNz<|zI<|sRz<|vMz<|vMz ?_;refine LW.guardDF rfl rfl rfl (fun hsq hsp=>?_) (fun hsq hsp=>?_);refine vFz<|gTaz<|ldz rfl .head fr_rd5<|gTaz<|lvz (.eq rfl rfl)<|pFaz<|vMz ?_;refine LW.guardDF rfl rfl rfl (fun hsq hsp=>?_) (fun hsq hsp=>?_);refine vFz<|gTaz<|ldz rfl .head fr_rd0<|gTaz ?_;apply zS;rfl;rfl;infer_instance;exact .cons rfl .nil;intro w _;exact hC w (by assumption);refine gTaz ?_;refine lvz (.neF rfl rfl (by omega)) ?_;refine pFaz<|vMz<|gTz<|vFz<|gTz<|ldz rfl .head fr_rd2<|gTz ?_;apply zS;rfl;rfl;infer_instance;exact .cons rfl .nil;intro w _;exact hS w;refine gTz ?_;refine lvz (.neF rfl rfl (by omega)) ?_;refine pFz<|nNz<|cFz<|zJ<|thenN<|zI<|sRz<|vFz<|ldz rfl .head fr_rd1<|vFz<|ldz rfl .head fr_rd0<|lvz (.lenR rfl inferInstance rfl) ?_;refine lvz (.neT rfl rfl (by omega)) ?_;refine vMz<|gTz<|vFz<|gTz<|ldz rfl .head fr_rd0<|gTz<|vFz<|gTz<|ldz rfl .head fr_rd1<|gTz ?_;apply zS;rfl;rfl;infer_instance;exact .cons rfl (.cons rfl .nil);intro w _;exact hRd w (by assumption);refine gTz ?_;refine lvz (.notF rfl (by with_reducible rfl)) ?_;refine pTz<|nNz<|cTz<|sRz<|vAz<|nNz<|zK ?_;refine thenR (finR (.inl rfl) rfl rfl rfl (.cons (.tmp rfl) .nil) ?_);rw [hn (by omega)];rfl;(iterate 3 refine gFaz ?_);refine pTaz<|vMz ?_;(iterate 4 refine gFz ?_);refine pTz<|nNz<|cTz<|sRz<|vAz<|nNz<|zK ?_;refine thenR (finR (.inl rfl) rfl rfl rfl (.cons (.tmp rfl) .nil) ?_);rw [hn (by omega)];rfl;refine gFaz<|gFaz<|pTaz<|vMz ?_;(iterate 4 refine gFz ?_);refine pTz<|vMz ?_;(iterate 4 refine gFz ?_);refine pTz<|nNz<|cTz<|sRz<|vAz<|nNz<|zK ?_;refine thenR (finR (.inl rfl) rfl rfl rfl (.cons (.tmp rfl) .nil) ?_);rw [hn (by omega)];rfl;refine gFaz<|gFaz<|pTaz<|vAz<|nNz<|zI<|sRz<|vMz<|vMz ?_;(iterate 3 refine gFz ?_);refine pTz<|vMz ?_;(iterate 4 refine gFz ?_);refine pTz<|vMz ?_;(iterate 4 refine gFz ?_);refine pTz<|nNz<|cTz<|sRz<|vAz<|nNz<|zK ?_;refine thenR (finR (.inl rfl) rfl rfl rfl (.cons (.tmp rfl) .nil) ?_);rw [hn (by omega)];rfl;(iterate 3 refine gFaz ?_);refine pTaz<|vMz ?_;(iterate 3 refine gFz ?_);refine pTz<|vAz<|nNz<|zI<|sRz<|vMz<|vMz ?_;(iterate 3 refine gFz ?_);refine pTz<|vMz ?_;(iterate 4 refine gFz ?_);refine pTz<|vMz ?_;(iterate 4 refine gFz ?_);refine pTz<|nNz<|cTz<|sRz<|vAz<|nNz<|zK ?_;refine thenR (finR (.inl rfl) rfl rfl rfl (.cons (.tmp rfl) .nil) ?_);rw [hn (by omega)];rfl)
  ·rw [if_neg hs] at hS0
   have hS:∀ w',Calls Tryz.prog 66 #[.agg #[.slice p2 L.ws.length c2,.slice p3 L.ms.length c3]] w' (Ret w' (.int .i64 230)):=hS0
   rw [hn (fun h=>hs h.2.2.2.1)] at *
   clear hp hn
   (refine sRz ?_;apply zT;rfl;rfl;intro _;refine vAz<|nSz<|vFz<|ldz rfl .head fr_rd11<|lvz (.lenR rfl inferInstance rfl)<|lvz (.gtr rfl rfl)<|vMz ?_)
   (refine LW.guardDF rfl rfl rfl (fun hsq hsp=>?_) (fun hsq hsp=>?_))
   (refine vFz<|gTaz<|ldz rfl .head fr_rd12<|gTaz<|lvz (.lenR rfl inferInstance rfl)<|gTaz<|lvz (.gtr rfl rfl)<|pFaz<|vMz ?_;refine LW.guardDF rfl rfl rfl (fun hsq hsp=>?_) (fun hsq hsp=>?_);refine vFz<|gTaz<|ldz rfl .head fr_rd4<|gTaz<|lvz (.gtr rfl rfl)<|pFaz<|vAz<|nNz<|zI<|sRz<|vMz<|vMz ?_;refine LW.guardDF rfl rfl rfl (fun hsq hsp=>?_) (fun hsq hsp=>?_);refine vFz<|gTaz<|ldz rfl .head fr_rd5<|gTaz<|lvz (.eq rfl rfl)<|pFaz<|vMz ?_;refine LW.guardDF rfl rfl rfl (fun hsq hsp=>?_) (fun hsq hsp=>?_);refine vFz<|gTaz<|ldz rfl .head fr_rd0<|gTaz ?_;apply zS;rfl;rfl;infer_instance;exact .cons rfl .nil;intro w _;exact hC w (by assumption);refine gTaz ?_;refine lvz (.neF rfl rfl (by omega)) ?_;refine pFaz<|vMz<|gTz<|vFz<|gTz<|ldz rfl .head fr_rd2<|gTz ?_;apply zS;rfl;rfl;infer_instance;exact .cons rfl .nil;intro w _;exact hS w;refine gTz ?_;refine lvz (.neT rfl rfl (by omega)) ?_;refine pFz<|nNz<|cTz<|sRz<|vAz<|nNz<|zK ?_;refine thenR (finR (.inl rfl) rfl rfl rfl (.cons (.tmp rfl) .nil) ?_);rfl;(iterate 3 refine gFaz ?_);refine pTaz<|vMz ?_;(iterate 4 refine gFz ?_);refine pTz<|nNz<|cTz<|sRz<|vAz<|nNz<|zK ?_;refine thenR (finR (.inl rfl) rfl rfl rfl (.cons (.tmp rfl) .nil) ?_);rfl;refine gFaz<|gFaz<|pTaz<|vMz ?_;(iterate 4 refine gFz ?_);refine pTz<|vMz ?_;(iterate 4 refine gFz ?_);refine pTz<|nNz<|cTz<|sRz<|vAz<|nNz<|zK ?_;refine thenR (finR (.inl rfl) rfl rfl rfl (.cons (.tmp rfl) .nil) ?_);rfl;refine gFaz<|gFaz<|pTaz<|vAz<|nNz<|zI<|sRz<|vMz<|vMz ?_;(iterate 3 refine gFz ?_);refine pTz<|vMz ?_;(iterate 4 refine gFz ?_);refine pTz<|vMz ?_;(iterate 4 refine gFz ?_);refine pTz<|nNz<|cTz<|sRz<|vAz<|nNz<|zK ?_;refine thenR (finR (.inl rfl) rfl rfl rfl (.cons (.tmp rfl) .nil) ?_);rfl;(iterate 3 refine gFaz ?_);refine pTaz<|vMz ?_;(iterate 3 refine gFz ?_);refine pTz<|vAz<|nNz<|zI<|sRz<|vMz<|vMz ?_;(iterate 3 refine gFz ?_);refine pTz<|vMz ?_;(iterate 4 refine gFz ?_);refine pTz<|vMz ?_;(iterate 4 refine gFz ?_);refine pTz<|nNz<|cTz<|sRz<|vAz<|nNz<|zK ?_;refine thenR (finR (.inl rfl) rfl rfl rfl (.cons (.tmp rfl) .nil) ?_);rfl)
 ·rw [if_neg hc] at hC0
  have hC:∀ w' {fs},St w [] fs w'→Calls Tryz.prog 48 #[.slice p0 L.cl.length c0] w' (Ret w' (.int .i64 3)):=hC0
  rw [hn (fun h=>hc h.2.2.1)] at *
  clear hp hn
  (refine sRz ?_;apply zT;rfl;rfl;intro _;refine vAz<|nSz<|vFz<|ldz rfl .head fr_rd11<|lvz (.lenR rfl inferInstance rfl)<|lvz (.gtr rfl rfl)<|vMz ?_)
  (refine LW.guardDF rfl rfl rfl (fun hsq hsp=>?_) (fun hsq hsp=>?_))
  (refine vFz<|gTaz<|ldz rfl .head fr_rd12<|gTaz<|lvz (.lenR rfl inferInstance rfl)<|gTaz<|lvz (.gtr rfl rfl)<|pFaz<|vMz ?_;refine LW.guardDF rfl rfl rfl (fun hsq hsp=>?_) (fun hsq hsp=>?_);refine vFz<|gTaz<|ldz rfl .head fr_rd4<|gTaz<|lvz (.gtr rfl rfl)<|pFaz<|vAz<|nNz<|zI<|sRz<|vMz<|vMz ?_;refine LW.guardDF rfl rfl rfl (fun hsq hsp=>?_) (fun hsq hsp=>?_);refine vFz<|gTaz<|ldz rfl .head fr_rd5<|gTaz<|lvz (.eq rfl rfl)<|pFaz<|vMz ?_;refine LW.guardDF rfl rfl rfl (fun hsq hsp=>?_) (fun hsq hsp=>?_);refine vFz<|gTaz<|ldz rfl .head fr_rd0<|gTaz ?_;apply zS;rfl;rfl;infer_instance;exact .cons rfl .nil;intro w _;exact hC w (by assumption);refine gTaz ?_;refine lvz (.neT rfl rfl (by omega)) ?_;refine pFaz<|vMz ?_;(iterate 4 refine gFz ?_);refine pTz<|nNz<|cTz<|sRz<|vAz<|nNz<|zK ?_;refine thenR (finR (.inl rfl) rfl rfl rfl (.cons (.tmp rfl) .nil) ?_);rfl;(iterate 3 refine gFaz ?_);refine pTaz<|vMz ?_;(iterate 4 refine gFz ?_);refine pTz<|nNz<|cTz<|sRz<|vAz<|nNz<|zK ?_;refine thenR (finR (.inl rfl) rfl rfl rfl (.cons (.tmp rfl) .nil) ?_);rfl;refine gFaz<|gFaz<|pTaz<|vMz ?_;(iterate 4 refine gFz ?_);refine pTz<|vMz ?_;(iterate 4 refine gFz ?_);refine pTz<|nNz<|cTz<|sRz<|vAz<|nNz<|zK ?_;refine thenR (finR (.inl rfl) rfl rfl rfl (.cons (.tmp rfl) .nil) ?_);rfl;refine gFaz<|gFaz<|pTaz<|vAz<|nNz<|zI<|sRz<|vMz<|vMz ?_;(iterate 3 refine gFz ?_);refine pTz<|vMz ?_;(iterate 4 refine gFz ?_);refine pTz<|vMz ?_;(iterate 4 refine gFz ?_);refine pTz<|nNz<|cTz<|sRz<|vAz<|nNz<|zK ?_;refine thenR (finR (.inl rfl) rfl rfl rfl (.cons (.tmp rfl) .nil) ?_);rfl;(iterate 3 refine gFaz ?_);refine pTaz<|vMz ?_;(iterate 3 refine gFz ?_);refine pTz<|vAz<|nNz<|zI<|sRz<|vMz<|vMz ?_;(iterate 3 refine gFz ?_);refine pTz<|vMz ?_;(iterate 4 refine gFz ?_);refine pTz<|vMz ?_;(iterate 4 refine gFz ?_);refine pTz<|nNz<|cTz<|sRz<|vAz<|nNz<|zK ?_;refine thenR (finR (.inl rfl) rfl rfl rfl (.cons (.tmp rfl) .nil) ?_);rfl)
end
section
def catI {α:Type} (env:List (List α)) (xs:List Nat) (tail:List α):List α:=xs.foldr (fun i acc=>env.getD i []++acc) tail
theorem perm_ix {α:Type} (env:List (List α)) {xs ys:List Nat} (tail:List α) (h:xs.isPerm ys=true):(catI env xs tail).Perm (catI env ys tail):=by
 have hp:xs.Perm ys:=List.isPerm_iff.1 h
 clear h
 unfold catI
 induction hp with
 |nil=>exact .refl _
 |cons x _ ih=>exact List.Perm.append_left _ ih
 |swap x y l =>
  simp only [List.foldr_cons,← List.append_assoc]
  exact List.Perm.append_right _ List.perm_append_comm
 |trans _ _ ih1 ih2=>exact ih1.trans ih2
def SubP {α:Type} (l l':List α):Prop:=∃ m,l.Sublist m∧m.Perm l'
theorem catI_tail {α:Type} (env:List (List α)) (zs:List Nat) (tail:List α):tail.Sublist (catI env zs tail):=by
 induction zs with
 |nil=>exact .refl _
 |cons z zs ih=>exact List.Sublist.trans ih (List.sublist_append_right _ _)
theorem catI_app {α:Type} (env:List (List α)) (xs zs:List Nat) (tail:List α):(catI env xs tail).Sublist (catI env (xs++zs) tail):=by
 induction xs with
 |nil=>exact catI_tail env zs tail
 |cons x xs ih=>exact List.Sublist.append_left ih _
theorem subp_ix {α:Type} (env:List (List α)) {xs ys:List Nat} (tail:List α) (h:(xs++ys.filter fun y=>!xs.contains y).isPerm ys=true):SubP (catI env xs tail) (catI env ys tail):=⟨_,catI_app env xs _ tail,perm_ix env tail h⟩
theorem SubP.st {w0 w:World} {S:List Nat} {fs gs:Fs} (h:SubP gs fs) (hs:St w0 S fs w):St w0 S gs w:=by
 obtain ⟨m,h1,h2⟩:=h
 exact st_sub (hs.perm h2) h1
theorem LW.subP {C:Cu} {ops:Array Oper} {Q:Post} {l:List Oper} {e:Env} {fs fs':Fs} (hp:SubP fs' fs) (h:LW C ops Q l e fs'):LW C ops Q l e fs:=by
 unfold LW at h ⊢
 exact fun a w hs=>h a w ⟨hs.env,hp.st hs.st⟩
def anyO (K:Out):Out:=fun x fs'=>∃ fs'',K x fs''∧SubP fs'' fs'
theorem calls_anyO {P:Program} {f:FuncId} {args:Array Value} {w0 w:World} {S:List Nat} {K:Out} (h:Calls P f args w (fun x w'=>∃ fs',anyO K x fs'∧St w0 S fs' w')):Calls P f args w (fun x w'=>∃ fs',K x fs'∧St w0 S fs' w') :=
 Calls.mono h fun x w' ⟨fs',⟨fs'',hk,hp⟩,hst⟩=>⟨fs'',hk,hp.st hst⟩
def FrO (f:FrV) (L:FrL) (gs:Fs):Prop:=∃ g1 g2 g3 g4 g5,(g1++(g2++(g3++(g4++g5)))).Perm gs∧bM L.cl f.code g1∧wM L.ws f.stk g2∧bM L.ms f.mem g3∧bM L.il f.inp g4∧bM L.bl f.back g5
theorem bM_at {l:List UInt8} {v:Value} {g:Fs} {w:World} (h:bM l v g) (hw:∀ p∈g,w.heap[p.1]?=some p.2):RowAt w 1 v l.length (ucs l):=IsRow.us h hw (qM _)
theorem wM_at {l:List Nat} {v:Value} {g:Fs} {w:World} (h:wM l v g) (hw:∀ p∈g,w.heap[p.1]?=some p.2):RowAt w 4 v l.length (wcs l):=IsRow.us h hw (qM _)
theorem FrO.rows {f:FrV} {L:FrL} {gs:Fs} {w:World} (h:FrO f L gs) (hw:∀ p∈gs,w.heap[p.1]?=some p.2):FrRows w f L:=by
 obtain ⟨g1,g2,g3,g4,g5,hp,h1,h2,h3,h4,h5⟩:=h
 replace hw:∀ p∈g1++(g2++(g3++(g4++g5))),w.heap[p.1]?=some p.2:=fun p h=>hw p (hp.subset h)
 exact ⟨bM_at h1 fun p hp=>hw p (by simp [hp]),wM_at h2 fun p hp=>hw p (by simp [hp]),bM_at h3 fun p hp=>hw p (by simp [hp]),bM_at h4 fun p hp=>hw p (by simp [hp]),bM_at h5 fun p hp=>hw p (by simp [hp])⟩
theorem FrO.st {f:FrV} {L:FrL} {gs fs:Fs} {w0 w:World} {S:List Nat} (h:FrO f L gs) (hs:St w0 S fs w) (hg:∀ p∈gs,p∈fs):FrRows w f L:=h.rows fun p hp=>(hs.own p (hg p hp)).2
attribute [local irreducible] SL.inP
def FrL.setM (L:FrL) (ms:List UInt8):FrL:={ L with ms:=ms }
theorem FrO.setSc {f:FrV} {L:FrL} {g1 g2 g3 g4 g5 s1 s2:Fs} {ms:List UInt8} {s k:Value} {g:Nat} (h:bM L.cl f.code g1∧wM L.ws f.stk g2∧bM L.ms f.mem g3∧bM L.il f.inp g4∧bM L.bl f.back g5) (h1:wM L.ws s s1) (h2:bM ms k s2) :
  FrO { f with gas:=g,stk:=s,mem:=k } (L.setM ms) (g1++(s1++(s2++(g4++g5)))):=⟨g1,s1,s2,g4,g5,.refl _,h.1,h1,h2,h.2.2.2.1,h.2.2.2.2⟩
theorem reach_ok (w0:World) (S:List Nat) (b:Nat) (m:MaV) (L:FrL) (gs:Fs) (a n:Nat) (ha:a < M256) (hn0:0 < n) (hn:n < M256) (hE2:endV a n≤1024) (hok:okSc L.ws.length L.ms.length) (hg:m.fr.gas < 18446744073709551616) (hfr:FrO m.fr L gs) (rest:Fs) (w:World) (hs:St w0 S ((b,maO m)::(gs++rest)) w)
  (hcost:memV L.ms.length (endV a n)≤m.fr.gas) :
  Calls Tryz.prog 146 #[.pointer (some ⟨b,0,none⟩),wv a,wv n] w (fun x w'=>∃ fs',(x=.returned (.tuple #[.int .u64 (a:Int),.int .u64 (n:Int)])∧∃ s k gs',FrO { m.fr with gas:=m.fr.gas - memV L.ms.length (endV a n),stk:=s,mem:=k } (L.setM (L.ms++List.replicate (upW (endV a n) - L.ms.length) 0)) gs'∧fs'=(b,maO ((m.setGas (m.fr.gas - memV L.ms.length (endV a n))).setSc s k))::(gs'++rest))∧St w0 S fs' w'):=by
 obtain ⟨g1,g2,g3,g4,g5,hp,hall⟩:=hfr
 replace hs:St w0 S ((b,maO m)::(g1++(g2++(g3++(g4++g5)))++rest)) w:=hs.perm (List.Perm.cons _ (hp.append_right rest))
 clear hp
 obtain ⟨_,_,hm3,_,_⟩:=id hall
 unfold bM at hm3
 obtain ⟨p2,c2,hmv⟩:=hm3.form
 have hk:L.ms.length≤1024:=hok.2.1
 have hmem:∀ {E fr},Rd Tryz.prog 22 (.cells (mca m) E fr) 3 (.slice p2 L.ms.length c2):=fun {E fr}=>by rw [← hmv];exact ma_rd3
 have hEnd0:=End_calls a n ha hn
 have hMem0:=Memory_calls L.ms.length (endV a n) (by omega) (by omega)
 have hEa:a+n≤endV a n:=by
  unfold endV at hE2 ⊢
  rw [if_neg (by omega)] at hE2 ⊢
  unfold NOG at hE2 ⊢
  omega
 have hSa0:=Small_calls a ha
 have hSn0:=Small_calls n hn
 obtain ⟨E,hE⟩:∃ E,E=endV a n:=⟨_,rfl⟩
 rw [← hE] at hEnd0 hMem0 hE2 hcost hEa ⊢
 clear hE
 obtain ⟨c,hc⟩:∃ c,c=memV L.ms.length E:=⟨_,rfl⟩
 rw [← hc] at hMem0 hcost ⊢
 clear hc
 rw [if_pos (by omega),decide_eq_true (by omega)] at hSa0 hSn0
 have hEnd:∀ w,Calls Tryz.prog 158 #[wv a,wv n] w (Ret w (.int .u64 (E:Int))):=hEnd0
 have hMem:∀ w,Calls Tryz.prog 159 #[.int .u64 (L.ms.length:Int),.int .u64 (E:Int)] w (Ret w (.int .u64 (c:Int))):=hMem0
 have hSa:∀ w,Calls Tryz.prog 121 #[wv a] w (Ret w (.tuple #[.int .u64 (a:Int),.bool true])):=hSa0
 have hSn:∀ w,Calls Tryz.prog 121 #[wv n] w (Ret w (.tuple #[.int .u64 (n:Int),.bool true])):=hSn0
 have hsp:spendM m [c]=some (m.setGas (m.fr.gas - c)):=by unfold spendM;rw [if_pos (by simp;omega)];simp
 refine calls_anyO (calls_inlineP (K:=anyO fun x fs'=>x=.returned (.tuple #[.int .u64 (a:Int),.int .u64 (n:Int)])∧∃ s k gs',FrO { m.fr with gas:=m.fr.gas - c,stk:=s,mem:=k } (L.setM (L.ms++List.replicate (upW E - L.ms.length) 0)) gs'∧fs'=(b,maO ((m.setGas (m.fr.gas - c)).setSc s k))::(gs'++rest)) (args:=[_,_,_]) Tryz.func146 rfl Tryz.ntmps146 rfl ?_ hs)
 (refine sRz ?_;apply zT;rfl;rfl;intro _;apply zT;rfl;rfl;intro _;refine vAz<|vAz<|nSz<|ldz rfl (.tail .head) (qF rfl)<|ldz rfl .head (qF rfl) ?_;apply zS;rfl;rfl;infer_instance;exact .cons rfl (.cons rfl .nil);intro w _;exact hEnd w;refine vAz<|nSz<|vMz<|vMz<|vNz<|vFz<|vFz<|vFz<|ldz rfl (.tail (.tail .head)) hmem<|lvz (.lenR rfl inferInstance rfl) ?_;refine lvz (.convN rfl (by omega) (by omega)) ?_;refine vMz ?_;apply zS;rfl;rfl;infer_instance;exact .cons rfl (.cons rfl .nil);intro w _;exact hMem w;apply LW.lay1;rfl;infer_instance;infer_instance;rfl;rfl;rfl;rfl;rfl;rfl;intro _)
 rename_i b4 b5 b29
 refine LW.perm (fs':=(b,maO m)::(b29,.cells #[.int .u64 (c:Int)] 26 (0,0))::(b5,.cells (wc n) 29 (0,0))::(b4,.cells (wc a) 29 (0,0))::(g1++(g2++(g3++(g4++g5)))++rest)) (by exact (List.perm_middle (l₁:=[_,_,_])).symm) ?_
 refine LW.callP (K:=MaK b m (spendM m [c]) _) rfl rfl inferInstance (by (exact .cons rfl (.cons rfl .nil))) rfl (fun fs h=>?_) (fun w' hst=>spend_calls w0 S b m [c] hg _ _ w' hst (fun w2 h2=>row_cells (h2.own (b29,_) (List.Mem.tail _ (List.Mem.head _))).2 rfl rfl (by simp [maxLen]))) ?_ ?_
 ·rw [hsp] at h;cases h.1
 ·rintro v fs' h
  rw [hsp] at h
  obtain ⟨h,rfl⟩:=h
  have hmem:∀ {E fr},Rd Tryz.prog 22 (.cells (mca (m.setGas (m.fr.gas - c))) E fr) 3 (.slice p2 L.ms.length c2):=fun {E fr}=>by rw [← hmv];exact ma_rd3 (m:=m.setGas (m.fr.gas - c))
  (refine nNz<|zI<|sRz<|vMz ?_;refine lvz (.eqF rfl rfl (by omega)) ?_;refine nNz<|cFz<|zJ<|thenN<|sRz<|vMz<|vNz<|vFz<|vFz<|ldz rfl .head ma_rd2<|vMz ?_)
  (apply LW.callR;rfl;rfl;infer_instance;exact .cons rfl (.cons rfl (.cons rfl .nil));intro w hs)
  exact grow_ok L.ws L.ms E _ _ w ((FrO.st (f:=m.fr) (L:=L) (gs:=g1++(g2++(g3++(g4++g5)))) ⟨g1,g2,g3,g4,g5,.refl _,hall⟩ hs (fun p hp=>qO _ (by simp only [List.mem_cons,List.mem_append] at hp ⊢;simp [hp]))).s) ((FrO.st (f:=m.fr) (L:=L) (gs:=g1++(g2++(g3++(g4++g5)))) ⟨g1,g2,g3,g4,g5,.refl _,hall⟩ hs (fun p hp=>qO _ (by simp only [List.mem_cons,List.mem_append] at hp ⊢;simp [hp]))).m) hok (by omega) hE2
  rintro vo gso ⟨o,rfl,s1,m1,gg1,gg2,rfl,rfl,hw1,hb1⟩
  have hw1':=hw1
  have hb1':=hb1
  unfold wM at hw1'
  unfold bM at hb1'
  obtain ⟨q1,k1,rfl⟩:=hw1'.form
  obtain ⟨q2,k2,rfl⟩:=hb1'.form
  (refine vMz ?_;refine vEz ?_;refine vEz ?_;apply zU;rfl;intro _;refine zR rfl rfl .head (.whole rfl rfl rfl)<|vAz<|nSz<|vMz ?_;refine lvz (.eqT rfl rfl (by omega)) ?_;apply zS;rfl;rfl;infer_instance;exact .cons rfl .nil;intro w _;exact need_true w;refine nSz<|vMz<|ldz rfl .head (qF rfl)<|vNz<|vFz<|vFz ?_;refine zR rfl rfl (.tail (.app .head)) (ma_wr2 rfl rfl rfl rfl)<|nSz<|ldz rfl (.tail (.app (.tail (.tail (.tail .head))))) (qF rfl) ?_;apply zS;rfl;rfl;infer_instance;exact .cons rfl .nil;intro w _;exact hSa w;refine vMz ?_;refine vEz ?_;refine vEz ?_;refine vAz<|vAz<|nSz<|ldz rfl (.tail (.app (.tail (.tail .head)))) (qF rfl) ?_;apply zS;rfl;rfl;infer_instance;exact .cons rfl .nil;intro w _;exact hSn w;refine vMz ?_;refine vEz ?_;refine vEz ?_;refine vAz<|vAz<|nSz<|vMz<|vMz<|vAz<|vAz<|nNz<|zK ?_)
  refine inPI (.inl rfl) .nil rfl (by (apply zD;exact zG rfl;apply zD;exact zG rfl;exact zF)) rfl ⟨_,⟨rfl,_,_,_,FrO.setSc hall hw1 hb1,rfl⟩,?_⟩
  simp only [List.append_assoc,List.cons_append,List.nil_append]
  exact subp_ix [[_],[_],gg2,gg1,[_],[_],[_],g1,g2,g3,g4,g5] (xs:=[4,7,3,2,10,11]) (ys:=[0,2,3,4,1,5,6,7,8,9,10,11]) rest rfl
 ·rintro ch fs' h
  rw [hsp] at h;cases h.1
def costR (L:FrL) (a n:Nat):Nat:=memV L.ms.length (endV a n)
def memR (L:FrL) (a n:Nat):FrL:=L.setM (L.ms++List.replicate (upW (endV a n) - L.ms.length) 0)
def frR (f:FrV) (L:FrL) (a n:Nat) (s k:Value):FrV:={ f with gas:=f.gas - costR L a n,stk:=s,mem:=k }
def MaV.setF (m:MaV) (f:FrV):MaV:={ m with fr:=f }
def ReachK (b:Nat) (m:MaV) (L:FrL) (gs:Fs) (a n:Nat) (rest:Fs):Out:=fun x fs' =>
 (m.fr.gas < costR L a n∧x=.panicked failC∧fs'=(b,maO m)::(gs++rest)) ∨
 (costR L a n≤m.fr.gas∧∃ s k gs',x=.returned (.tuple #[.int .u64 ((if n=0 then 0 else a:Nat):Int),.int .u64 (n:Int)])∧FrO (frR m.fr L a n s k) (memR L a n) gs'∧fs'=(b,maO (m.setF (frR m.fr L a n s k)))::(gs'++rest))
theorem memV_le {k E g:Nat} (hk:k≤1024) (hg:g≤20000) (h:memV k E≤g):E≤1024:=by
 unfold memV at h
 split at h
 ·omega
 ·split at h<;>omega
theorem endV_lt (a n:Nat):endV a n < 18446744073709551616:=by
 unfold endV NOG
 split<;>omega
theorem reach_calls (w0:World) (S:List Nat) (b:Nat) (m:MaV) (L:FrL) (gs:Fs) (a n:Nat) (ha:a < M256) (hn:n < M256) (hok:okSc L.ws.length L.ms.length) (hg:m.fr.gas≤20000) (hfr:FrO m.fr L gs) (rest:Fs) (w:World) (hs:St w0 S ((b,maO m)::(gs++rest)) w) :
  Calls Tryz.prog 146 #[.pointer (some ⟨b,0,none⟩),wv a,wv n] w (fun x w'=>∃ fs',ReachK b m L gs a n rest x fs'∧St w0 S fs' w'):=by
 have hk:L.ms.length≤1024:=hok.2.1
 have hm:∃ p2 c2,m.fr.mem=.slice p2 L.ms.length c2:=by
  obtain ⟨g1,g2,g3,g4,g5,_,h1,h2,h3,h4,h5⟩:=hfr
  unfold bM at h3
  exact h3.form
 obtain ⟨p2,c2,hm⟩:=hm
 rcases Nat.lt_or_ge m.fr.gas (costR L a n) with hlt|hge
 ·refine Calls.mono (reach_gas w0 S b m a n L.ms.length p2 c2 ha hn (endV_lt a n) hk (by omega) hm (gs++rest) w hs hlt) ?_
  rintro x w' ⟨fs',⟨rfl,ex,rfl⟩,hst⟩
  exact ⟨_,.inl ⟨hlt,rfl,rfl⟩,st_sub hst (List.Sublist.cons_cons _ (List.sublist_append_right _ _))⟩
 ·rcases Nat.eq_zero_or_pos n with rfl|hn0
  ·refine Calls.mono (reach_none w0 S b m a 0 L.ms.length rfl p2 c2 ha hk (by omega) hm (gs++rest) w hs) ?_
   rintro x w' ⟨fs',⟨rfl,ex,rfl⟩,hst⟩
   have he:endV a 0=0:=by simp [endV]
   have hc:costR L a 0=0:=by unfold costR;rw [he];simp [memV]
   have hmr:memR L a 0=L:=by unfold memR FrL.setM;rw [he];simp [upW]
   have hfr2:frR m.fr L a 0 m.fr.stk m.fr.mem=m.fr:=by unfold frR;rw [hc];rfl
   refine ⟨_,.inr ⟨hge,m.fr.stk,m.fr.mem,gs,rfl,?_,?_⟩,st_sub hst (List.Sublist.cons_cons _ (List.sublist_append_right ex _))⟩
   ·rw [hmr,hfr2];exact hfr
   ·rw [hfr2];rfl
  ·refine Calls.mono (reach_ok w0 S b m L gs a n ha hn0 hn (memV_le hk hg hge) hok (by omega) hfr rest w hs hge) ?_
   rintro x w' ⟨fs',⟨rfl,s,k,gs',h1,rfl⟩,hst⟩
   refine ⟨_,.inr ⟨hge,s,k,gs',?_,h1,rfl⟩,hst⟩
   rw [if_neg (by omega)]
end
section
def FrV.rows (f:FrV) (c s m i b:Value):FrV:=⟨c,f.pc,s,m,f.gas,f.self,f.frm,f.val,i,b,f.stat⟩
section wr
variable {P : Program} {T E : TypeId} {code stk mem inp back z : Value} {pc : Int} {gas self frm val n c : Nat} {stat : Bool} {p : Option Addr} {g : Nat}
theorem fr_wr0 [InfoI P T 1 z]:Wr P T (.cells (fra ⟨code,pc,stk,mem,gas,self,frm,val,inp,back,stat⟩) E (0,0)) (0+0) (.slice p n c) (.cells (fra ⟨.slice p n c,pc,stk,mem,gas,self,frm,val,inp,back,stat⟩) E (0,0)):=Wr.cells (n:=1) (z:=z) rfl rfl (by show 0+0+1≤14;omega) rfl
theorem fr_wr2 [InfoI P T 1 z]:Wr P T (.cells (fra ⟨code,pc,stk,mem,gas,self,frm,val,inp,back,stat⟩) E (0,0)) (0+2+0) (.slice p n c) (.cells (fra ⟨code,pc,.slice p n c,mem,gas,self,frm,val,inp,back,stat⟩) E (0,0)):=Wr.cells (n:=1) (z:=z) rfl rfl (by show 0+2+0+1≤14;omega) rfl
theorem fr_wr3 [InfoI P T 1 z]:Wr P T (.cells (fra ⟨code,pc,stk,mem,gas,self,frm,val,inp,back,stat⟩) E (0,0)) (0+2+1) (.slice p n c) (.cells (fra ⟨code,pc,stk,.slice p n c,gas,self,frm,val,inp,back,stat⟩) E (0,0)):=Wr.cells (n:=1) (z:=z) rfl rfl (by show 0+2+1+1≤14;omega) rfl
theorem fr_wr4 {x:Nat} [InfoI P T 1 z]:Wr P T (.cells (fra ⟨code,pc,stk,mem,gas,self,frm,val,inp,back,stat⟩) E (0,0)) (0+4) (.int .u64 (x:Int)) (.cells (fra ⟨code,pc,stk,mem,x,self,frm,val,inp,back,stat⟩) E (0,0)):=Wr.cells (n:=1) (z:=z) rfl rfl (by show 0+4+1≤14;omega) rfl
theorem fr_wr11 [InfoI P T 1 z]:Wr P T (.cells (fra ⟨code,pc,stk,mem,gas,self,frm,val,inp,back,stat⟩) E (0,0)) (0+11) (.slice p n c) (.cells (fra ⟨code,pc,stk,mem,gas,self,frm,val,.slice p n c,back,stat⟩) E (0,0)):=Wr.cells (n:=1) (z:=z) rfl rfl (by show 0+11+1≤14;omega) rfl
theorem fr_wr12 [InfoI P T 1 z]:Wr P T (.cells (fra ⟨code,pc,stk,mem,gas,self,frm,val,inp,back,stat⟩) E (0,0)) (0+12) (.slice p n c) (.cells (fra ⟨code,pc,stk,mem,gas,self,frm,val,inp,.slice p n c,stat⟩) E (0,0)):=Wr.cells (n:=1) (z:=z) rfl rfl (by show 0+12+1≤14;omega) rfl
end wr
structure FrSl (f:FrV):Prop where
 c:∃ p n c,f.code=.slice p n c
 s:∃ p n c,f.stk=.slice p n c
 m:∃ p n c,f.mem=.slice p n c
 i:∃ p n c,f.inp=.slice p n c
 b:∃ p n c,f.back=.slice p n c
theorem FrRows.sl {w:World} {f:FrV} {L:FrL} (h:FrRows w f L):FrSl f:=by
 obtain ⟨a,b,h1,_⟩:=h.c.form
 obtain ⟨a2,b2,h2,_⟩:=h.s.form
 obtain ⟨a3,b3,h3,_⟩:=h.m.form
 obtain ⟨a4,b4,h4,_⟩:=h.i.form
 obtain ⟨a5,b5,h5,_⟩:=h.b.form
 exact ⟨⟨_,_,_,h1⟩,⟨_,_,_,h2⟩,⟨_,_,_,h3⟩,⟨_,_,_,h4⟩,⟨_,_,_,h5⟩⟩
theorem fr_cells {f:FrV} (h:FrSl f):(fra f).toList.all Value.oneCell'=true:=by
 obtain ⟨⟨_,_,_,h1⟩,⟨_,_,_,h2⟩,⟨_,_,_,h3⟩,⟨_,_,_,h4⟩,⟨_,_,_,h5⟩⟩:=h
 simp only [fra,frc,wc,List.cons_append,List.nil_append,List.all_cons,List.all_nil,h1,h2,h3,h4,h5];rfl
theorem fr_wrW {P:Program} {T E:TypeId} {f:FrV} {z:Value} {cs:Array Value} [InfoI P T 14 z] (h:cs.size=14) (hf:FrSl f):Wr P T (.cells cs E (0,0)) 0 (frv f) (.cells (fra f) E (0,0)):=Wr.whole h rfl (fr_cells hf)
theorem perm5 {α:Type} (g1 g2 g3 g4 g5:List α):(g1++(g2++(g3++(g4++g5)))).Perm (g3++(g2++(g5++(g4++g1)))):=by
 have h:=perm_ix [g1,g2,g3,g4,g5] (xs:=[0,1,2,3,4]) (ys:=[2,1,4,3,0]) [] rfl
 simpa [catI] using h
def FrL.short (L:FrL):Prop:=L.cl.length≤100000∧L.ws.length≤100000∧L.ms.length≤100000∧L.il.length≤100000∧L.bl.length≤100000
def CopyR (f:FrV) (L:FrL) (v:Value) (gs:Fs):Prop:=∃ c s m i b,v=frv (f.rows c s m i b)∧FrO (f.rows c s m i b) L gs
theorem callCopied_calls (f:FrV) (L:FrL) (hl:L.short) (w:World) (h:FrRows w f L):Calls Tryz.prog 41 #[frv f] w (RetG w [] (CopyR f L)):=by
 obtain ⟨code,pc,stk,mem,gas,self,frm,val,inp,back,stat⟩:=f
 obtain ⟨h0,h2,h3,h11,h12⟩:=h
 dsimp only at h0 h2 h3 h11 h12
 obtain ⟨p0,c0,rfl,_,hm0⟩:=id h0.form
 obtain ⟨p2,c2,rfl,_,hm2⟩:=id h2.form
 obtain ⟨p3,c3,rfl,_,hm3⟩:=id h3.form
 obtain ⟨p11,c11,rfl,_,hm11⟩:=id h11.form
 obtain ⟨p12,c12,rfl,_,hm12⟩:=id h12.form
 refine enter (args:=[_]) _ [] [] Tryz.func41 rfl Tryz.ntmps41 rfl (by simp) .nil ?_
 (refine sRz ?_;apply zT;rfl;rfl;intro _;apply zU;rfl;intro _;refine nNz<|zI ?_)
 rename_i b1 b2
 apply CW.pre
 (refine AnyW.anyM [(2,bM L.cl),(5,bM L.il),(8,bM L.bl)] 10 mixed (by decide +kernel) ?_)
 ((try simp only [tsOf_cons,tsOf_nil,tsOf_app]);refine dvz (.fieldAddr rfl rfl) ?_;apply qD;rfl;rfl;rfl;exact zC;rfl;apply zO;apply zP;exact zN;exact fr_rd0)
 (apply DW.manyV;rfl;rfl;rfl;exact zC;rfl;infer_instance;exact .cons rfl .nil;apply RdV.ext;assumption;rfl;exact RdV.nil;intro w _ _)
 exact SK.Clone_calls _ _ w (h0.bel (by assumption)) hl.1
 intro v1 g1 h1
 ((try simp only [tsOf_cons,tsOf_nil,tsOf_app]);refine dvz (.fieldAddr rfl rfl) ?_;apply qD;rfl;rfl;rfl;exact zC;rfl;apply zQ;apply zO;apply zP;exact zN;exact fr_rd11)
 (apply DW.manyV;rfl;rfl;rfl;exact zC;rfl;infer_instance;exact .cons rfl .nil;apply RdV.ext;assumption;rfl;exact RdV.nil;intro w _ _)
 exact SK.Clone_calls _ _ w (h11.bel (by assumption)) hl.2.2.2.1
 intro v4 g4 h4
 ((try simp only [tsOf_cons,tsOf_nil,tsOf_app]);refine dvz (.fieldAddr rfl rfl) ?_;apply qD;rfl;rfl;rfl;exact zC;rfl;apply zQ;apply zQ;apply zO;apply zP;exact zN;exact fr_rd12)
 (apply DW.manyV;rfl;rfl;rfl;exact zC;rfl;infer_instance;exact .cons rfl .nil;apply RdV.ext;assumption;rfl;exact RdV.nil;intro w _ _)
 exact SK.Clone_calls _ _ w (h12.bel (by assumption)) hl.2.2.2.2
 intro v5 g5 h5
 have h1':=h1
 have h4':=h4
 have h5':=h5
 unfold bM at h1' h4' h5'
 obtain ⟨q1,k1,rfl⟩:=h1'.form
 obtain ⟨q4,k4,rfl⟩:=h4'.form
 obtain ⟨q5,k5,rfl⟩:=h5'.form
 ((try simp only [tsOf_cons,tsOf_nil,tsOf_app]);refine dvz (.fieldAddr rfl rfl) ?_;apply DW.nil;simp only [fsOf_cons,fsOf_nil,fsOf_app,fsOf_tsOf,fsOf_new,fsOf_tag])
 (refine zR rfl rfl (.app (.app (.app (.tail .head)))) fr_wr0<|vFz ?_;refine zR rfl rfl (.app (.app (.app (.tail .head)))) fr_wr11<|vFz ?_;refine zR rfl rfl (.app (.app (.app (.tail .head)))) fr_wr12<|nNz<|zI ?_)
 apply CW.pre
 (refine AnyW.anyM [(3,wM L.ws),(7,bM L.ms)] 10 mixed (by decide +kernel) ?_)
 ((try simp only [tsOf_cons,tsOf_nil,tsOf_app]);refine dvz (.fieldAddr rfl rfl)<|dvz (.fieldAddr rfl rfl) ?_;apply qD;rfl;rfl;rfl;exact zC;rfl;apply zQ;apply zQ;apply zQ;apply zO;apply zP;exact zN;exact fr_rd2s)
 (apply DW.manyV;rfl;rfl;rfl;exact zC;rfl;infer_instance;exact .cons rfl .nil;apply RdV.ext;assumption;rfl;exact RdV.nil;intro w _ _)
 exact CloneW_calls _ _ w (h2.bel (by assumption)) hl.2.1
 intro v2 g2 hh2
 ((try simp only [tsOf_cons,tsOf_nil,tsOf_app]);refine dvz (.fieldAddr rfl rfl)<|dvz (.fieldAddr rfl rfl) ?_;apply qD;rfl;rfl;rfl;exact zC;rfl;apply zQ;apply zQ;apply zQ;apply zQ;apply zO;apply zP;exact zN;exact fr_rd3)
 (apply DW.manyV;rfl;rfl;rfl;exact zC;rfl;infer_instance;exact .cons rfl .nil;apply RdV.ext;assumption;rfl;exact RdV.nil;intro w _ _)
 exact SK.Clone_calls _ _ w (h3.bel (by assumption)) hl.2.2.1
 intro v3 g3 hh3
 have h2':=hh2
 have h3':=hh3
 unfold wM at h2'
 unfold bM at h3'
 obtain ⟨q2,k2,rfl⟩:=h2'.form
 obtain ⟨q3,k3,rfl⟩:=h3'.form
 ((try simp only [tsOf_cons,tsOf_nil,tsOf_app]);refine dvz (.fieldAddr rfl rfl)<|dvz (.fieldAddr rfl rfl) ?_;apply DW.nil;simp only [fsOf_cons,fsOf_nil,fsOf_app,fsOf_tsOf,fsOf_new,fsOf_tag])
 have hsl:FrSl ⟨.slice q1 L.cl.length k1,pc,.slice q2 L.ws.length k2,.slice q3 L.ms.length k3,gas,self,frm,val,.slice q4 L.il.length k4,.slice q5 L.bl.length k5,stat⟩:=⟨⟨_,_,_,rfl⟩,⟨_,_,_,rfl⟩,⟨_,_,_,rfl⟩,⟨_,_,_,rfl⟩,⟨_,_,_,rfl⟩⟩
 (refine zR rfl rfl (.app (.app (.app (.app (.app (.tail .head)))))) fr_wr2<|vFz<|vFz ?_;refine zR rfl rfl (.app (.app (.app (.app (.app (.tail .head)))))) fr_wr3<|nSz<|ldz rfl (.app (.app (.app (.app (.app (.tail .head)))))) fr_rdW ?_;apply zR;rfl;rfl;apply qC;apply qC;apply qC;apply qC;apply qC;apply qA;apply fr_wrW;rfl;assumption;refine nNz<|zK ?_)
 refine fin (vs:=[frv ⟨.slice q1 L.cl.length k1,pc,.slice q2 L.ws.length k2,.slice q3 L.ms.length k3,gas,self,frm,val,.slice q4 L.il.length k4,.slice q5 L.bl.length k5,stat⟩]) (g3++(g2++(g5++(g4++g1)))) (.inl rfl) rfl rfl (by (apply zD;apply zH;rfl;apply qE;apply zZ;apply zZ;apply zZ;apply zZ;apply zZ;apply zY;exact fr_rdW;exact zF)) ?_ ⟨_,_,_,_,_,rfl,g1,g2,g3,g4,g5,?_,h1,hh2,hh3,h4,h5⟩
 ·exact List.Sublist.append_left (List.Sublist.append_left (List.Sublist.append_left (List.Sublist.append_left (qP _ _) _) _) _) _
 ·exact perm5 g1 g2 g3 g4 g5
def ma0 (f:FrV) (e0 e1 e2 e3:Nat):MaV:=⟨f,e0,e1,e2,e3,.slice none 0 0,0,0,.slice none 0 0,.slice none 0 0⟩
def OfR (f:FrV) (L:FrL) (e0 e1 e2 e3:Nat) (v:Value) (gs:Fs):Prop:=∃ bm c s m i b g,v=.pointer (some ⟨bm,0,none⟩)∧gs=(bm,maO (ma0 (f.rows c s m i b) e0 e1 e2 e3))::g∧FrO (f.rows c s m i b) L g
def enva (e0 e1 e2 e3:Nat):Array Value:=#[.int .u64 (e0:Int),.int .u64 (e1:Int),.int .u64 (e2:Int),.int .u64 (e3:Int)]
theorem fOf_calls (f:FrV) (L:FrL) (e0 e1 e2 e3:Nat) (hl:L.short) (w:World) (h:FrRows w f L):Calls Tryz.prog 113 #[frv f,.agg (enva e0 e1 e2 e3)] w (RetG w [] (OfR f L e0 e1 e2 e3)):=by
 obtain ⟨code,pc,stk,mem,gas,self,frm,val,inp,back,stat⟩:=f
 obtain ⟨h0,h2,h3,h11,h12⟩:=h
 dsimp only at h0 h2 h3 h11 h12
 obtain ⟨p0,c0,rfl,_,hm0⟩:=id h0.form
 obtain ⟨p2,c2,rfl,_,hm2⟩:=id h2.form
 obtain ⟨p3,c3,rfl,_,hm3⟩:=id h3.form
 obtain ⟨p11,c11,rfl,_,hm11⟩:=id h11.form
 obtain ⟨p12,c12,rfl,_,hm12⟩:=id h12.form
 refine enter (args:=[_,_]) _ [] [] Tryz.func113 rfl Tryz.ntmps113 rfl (by simp) .nil ?_
 (refine sRz ?_;apply zT;rfl;rfl;intro _;apply zT;rfl;rfl;intro _;refine vAz<|nNz<|zI ?_)
 rename_i b1 b2
 apply CW.pre
 (refine AnyW.anyM [(2,bM L.cl),(5,bM L.il),(8,bM L.bl)] 10 mixed (by decide +kernel) ?_)
 ((try simp only [tsOf_cons,tsOf_nil,tsOf_app]);refine dvz (.fieldAddr rfl rfl) ?_;apply qD;rfl;rfl;rfl;exact zC;rfl;apply zO;apply zP;exact zN;exact fr_rd0)
 (apply DW.manyV;rfl;rfl;rfl;exact zC;rfl;infer_instance;exact .cons rfl .nil;apply RdV.ext;assumption;rfl;exact RdV.nil;intro w _ _)
 exact SK.Clone_calls _ _ w (h0.bel (by assumption)) hl.1
 intro v1 g1 h1
 ((try simp only [tsOf_cons,tsOf_nil,tsOf_app]);refine dvz (.fieldAddr rfl rfl) ?_;apply qD;rfl;rfl;rfl;exact zC;rfl;apply zQ;apply zO;apply zP;exact zN;exact fr_rd11)
 (apply DW.manyV;rfl;rfl;rfl;exact zC;rfl;infer_instance;exact .cons rfl .nil;apply RdV.ext;assumption;rfl;exact RdV.nil;intro w _ _)
 exact SK.Clone_calls _ _ w (h11.bel (by assumption)) hl.2.2.2.1
 intro v4 g4 h4
 ((try simp only [tsOf_cons,tsOf_nil,tsOf_app]);refine dvz (.fieldAddr rfl rfl) ?_;apply qD;rfl;rfl;rfl;exact zC;rfl;apply zQ;apply zQ;apply zO;apply zP;exact zN;exact fr_rd12)
 (apply DW.manyV;rfl;rfl;rfl;exact zC;rfl;infer_instance;exact .cons rfl .nil;apply RdV.ext;assumption;rfl;exact RdV.nil;intro w _ _)
 exact SK.Clone_calls _ _ w (h12.bel (by assumption)) hl.2.2.2.2
 intro v5 g5 h5
 have h1':=h1
 have h4':=h4
 have h5':=h5
 unfold bM at h1' h4' h5'
 obtain ⟨q1,k1,rfl⟩:=h1'.form
 obtain ⟨q4,k4,rfl⟩:=h4'.form
 obtain ⟨q5,k5,rfl⟩:=h5'.form
 ((try simp only [tsOf_cons,tsOf_nil,tsOf_app]);refine dvz (.fieldAddr rfl rfl) ?_;apply DW.nil;simp only [fsOf_cons,fsOf_nil,fsOf_app,fsOf_tsOf,fsOf_new,fsOf_tag])
 (refine zR rfl rfl (.app (.app (.app (.tail .head)))) fr_wr0<|vFz ?_;refine zR rfl rfl (.app (.app (.app (.tail .head)))) fr_wr11<|vFz ?_;refine zR rfl rfl (.app (.app (.app (.tail .head)))) fr_wr12<|nNz<|zI ?_)
 apply CW.pre
 (refine AnyW.anyM [(3,wM L.ws),(7,bM L.ms)] 10 mixed (by decide +kernel) ?_)
 ((try simp only [tsOf_cons,tsOf_nil,tsOf_app]);refine dvz (.fieldAddr rfl rfl)<|dvz (.fieldAddr rfl rfl) ?_;apply qD;rfl;rfl;rfl;exact zC;rfl;apply zQ;apply zQ;apply zQ;apply zO;apply zP;exact zN;exact fr_rd2s)
 (apply DW.manyV;rfl;rfl;rfl;exact zC;rfl;infer_instance;exact .cons rfl .nil;apply RdV.ext;assumption;rfl;exact RdV.nil;intro w _ _)
 exact CloneW_calls _ _ w (h2.bel (by assumption)) hl.2.1
 intro v2 g2 hh2
 ((try simp only [tsOf_cons,tsOf_nil,tsOf_app]);refine dvz (.fieldAddr rfl rfl)<|dvz (.fieldAddr rfl rfl) ?_;apply qD;rfl;rfl;rfl;exact zC;rfl;apply zQ;apply zQ;apply zQ;apply zQ;apply zO;apply zP;exact zN;exact fr_rd3)
 (apply DW.manyV;rfl;rfl;rfl;exact zC;rfl;infer_instance;exact .cons rfl .nil;apply RdV.ext;assumption;rfl;exact RdV.nil;intro w _ _)
 exact SK.Clone_calls _ _ w (h3.bel (by assumption)) hl.2.2.1
 intro v3 g3 hh3
 have h2':=hh2
 have h3':=hh3
 unfold wM at h2'
 unfold bM at h3'
 obtain ⟨q2,k2,rfl⟩:=h2'.form
 obtain ⟨q3,k3,rfl⟩:=h3'.form
 ((try simp only [tsOf_cons,tsOf_nil,tsOf_app]);refine dvz (.fieldAddr rfl rfl)<|dvz (.fieldAddr rfl rfl) ?_;apply DW.nil;simp only [fsOf_cons,fsOf_nil,fsOf_app,fsOf_tsOf,fsOf_new,fsOf_tag])
 have hsl:FrSl ⟨.slice q1 L.cl.length k1,pc,.slice q2 L.ws.length k2,.slice q3 L.ms.length k3,gas,self,frm,val,.slice q4 L.il.length k4,.slice q5 L.bl.length k5,stat⟩:=⟨⟨_,_,_,rfl⟩,⟨_,_,_,rfl⟩,⟨_,_,_,rfl⟩,⟨_,_,_,rfl⟩,⟨_,_,_,rfl⟩⟩
 (refine zR rfl rfl (.app (.app (.app (.app (.app (.tail .head)))))) fr_wr2<|vFz<|vFz ?_;refine zR rfl rfl (.app (.app (.app (.app (.app (.tail .head)))))) fr_wr3<|nSz<|ldz rfl (.app (.app (.app (.app (.app (.tail .head)))))) fr_rdW<|ldz rfl (.app (.app (.app (.app (.app .head))))) (qF rfl) ?_;apply LW.v0;rfl;rfl;apply zW;infer_instance;infer_instance;apply zA;rfl;apply zA;rfl;exact zB;rfl;simp only [fillP,wrCells,fra,frc,enva,wc,Value.cells,qH,qI,qJ,qG,qL,qK,List.cons_append,List.nil_append,Nat.reduceAdd,qN];rfl;apply zT;rfl;rfl;intro _;refine vAz<|nNz<|zK ?_)
 rename_i bm
 refine fin (vs:=[.pointer (some ⟨bm,0,none⟩)]) ((bm,maO (ma0 ⟨.slice q1 L.cl.length k1,pc,.slice q2 L.ws.length k2,.slice q3 L.ms.length k3,gas,self,frm,val,.slice q4 L.il.length k4,.slice q5 L.bl.length k5,stat⟩ e0 e1 e2 e3))::(g3++(g2++(g5++(g4++g1))))) (.inl rfl) rfl rfl (by (apply zD;exact zG rfl;exact zF)) ?_ ⟨bm,_,_,_,_,_,_,rfl,rfl,g1,g2,g3,g4,g5,perm5 g1 g2 g3 g4 g5,h1,hh2,hh3,h4,h5⟩
 exact List.Sublist.cons_cons _ (List.Sublist.append_left (List.Sublist.append_left (List.Sublist.append_left (List.Sublist.append_left (qP _ _) _) _) _) _)
end
section
attribute [local irreducible] SL.inP
def FrV.setR (f:FrV) (g:Nat) (s k:Value):FrV:={ f with gas:=g,stk:=s,mem:=k }
def FrV.rowsG (f:FrV) (g:Nat) (c s m i b:Value):FrV:=⟨c,f.pc,s,m,g,f.self,f.frm,f.val,i,b,f.stat⟩
def FrL.setW (L:FrL) (ws:List Nat):FrL:={ L with ws:=ws }
theorem FrO.sl {f:FrV} {L:FrL} {gs:Fs} (h:FrO f L gs):FrSl f:=by
 obtain ⟨g1,g2,g3,g4,g5,_,h1,h2,h3,h4,h5⟩:=h
 unfold bM at h1 h3 h4 h5
 unfold wM at h2
 obtain ⟨_,_,h1⟩:=h1.form
 obtain ⟨_,_,h2⟩:=h2.form
 obtain ⟨_,_,h3⟩:=h3.form
 obtain ⟨_,_,h4⟩:=h4.form
 obtain ⟨_,_,h5⟩:=h5.form
 exact ⟨⟨_,_,_,h1⟩,⟨_,_,_,h2⟩,⟨_,_,_,h3⟩,⟨_,_,_,h4⟩,⟨_,_,_,h5⟩⟩
def LayK (b:Nat) (m:MaV) (L:FrL) (gs:Fs) (l:List Nat) (rest:Fs):Out:=fun x fs' =>
 (64 < L.ws.length+l.length∧x=.panicked failC∧fs'=(b,maO m)::(gs++rest)) ∨
 (L.ws.length+l.length≤64∧∃ s k gs',x=.returned (.tuple #[])∧FrO (m.fr.setR m.fr.gas s k) (L.setW (L.ws++l)) gs'∧fs'=(b,maO (m.setF (m.fr.setR m.fr.gas s k)))::(gs'++rest))
theorem lay_calls (w0:World) (S:List Nat) (b:Nat) (m:MaV) (L:FrL) (gs:Fs) (l:List Nat) (v:Value) (hok:okSc L.ws.length L.ms.length) (hll:l.length≤100000) (hfr:FrO m.fr L gs) (rest:Fs) (w:World)
  (hv:∀ w',St w0 S ((b,maO m)::(gs++rest)) w'→RowAt w' 4 v l.length (wcs l)) (hs:St w0 S ((b,maO m)::(gs++rest)) w) :
  Calls Tryz.prog 78 #[.pointer (some ⟨b,0,none⟩),v] w (fun x w'=>∃ fs',LayK b m L gs l rest x fs'∧St w0 S fs' w'):=by
 have h1:∀ w',St w0 S ((b,maO m)::(gs++rest)) w'→RowAt w' 4 m.fr.stk L.ws.length (wcs L.ws)∧RowAt w' 1 m.fr.mem L.ms.length (ucs L.ms)∧RowAt w' 4 v l.length (wcs l):=fun w' h=>by
  have hr:=hfr.st h fun p hp=>qO _ (List.mem_append_left _ hp)
  exact ⟨hr.s,hr.m,hv w' h⟩
 rcases Nat.lt_or_ge 64 (L.ws.length+l.length) with hlt|hge
 ·refine Calls.mono (lay_full w0 S b m L.ws L.ms l v (gs++rest) w hs h1 hok hll hlt) ?_
  rintro x w' ⟨fs',⟨rfl,c4,rfl⟩,hst⟩
  exact ⟨_,.inl ⟨hlt,rfl,rfl⟩,st_sub hst (qQ _ (qM _))⟩
 ·refine Calls.mono (lay_ok w0 S b m L.ws L.ms l v (gs++rest) w hs h1 hok hll hge) ?_
  rintro x w' ⟨fs',⟨rfl,s,k,gs2,c4,⟨s',k',gg1,gg2,he,rfl,hw1,hb1⟩,rfl⟩,hst⟩
  cases he
  obtain ⟨g1,g2,g3,g4,g5,hp,hall⟩:=hfr
  replace hst:=hst.perm (fs':=c4::((gg2++gg1)++(b,maO (m.setSc s k))::((g1++(g2++(g3++(g4++g5))))++rest))) (List.Perm.cons _ (List.Perm.append_left _ (List.Perm.cons _ (hp.append_right rest))))
  refine ⟨_,.inr ⟨hge,s,k,g1++(gg1++(gg2++(g4++g5))),rfl,⟨g1,gg1,gg2,g4,g5,.refl _,hall.1,hw1,hb1,hall.2.2.2.1,hall.2.2.2.2⟩,rfl⟩,SubP.st ?_ hst⟩
  simp only [List.append_assoc,List.cons_append,List.nil_append]
  exact subp_ix [[_],gg2,gg1,[_],g1,g2,g3,g4,g5] (xs:=[3,4,2,1,7,8]) (ys:=[0,1,2,3,4,5,6,7,8]) rest rfl
def DoK (b:Nat) (f:FrV) (R:Option (Nat × FrL)) (rest:Fs):Out:=fun x fs'=>match R with
 |none=>x=.panicked failC∧fs'=rest
 |some (g,L')=>∃ s k gs',x=.returned (.tuple #[])∧FrO (f.setR g s k) L' gs'∧fs'=(b,maO (ma0 (f.setR g s k) 0 0 0 0))::(gs'++rest)
def zeroF:FrV:=⟨.slice none 0 0,0,.slice none 0 0,.slice none 0 0,0,0,0,0,.slice none 0 0,.slice none 0 0,false⟩
def zeroL:FrL:=⟨[],[],[],[],[]⟩
theorem zero_frO:FrO zeroF zeroL []:=⟨[],[],[],[],[],.refl _,.nil,.nil,.nil,.nil,.nil⟩
def ToldK (f:FrV) (R:Option (Nat × FrL)) (fs:Fs):Out:=fun x fs'=>match R with
 |none=>x=.returned (.tuple #[frv zeroF,.bool false])∧fs'=fs
 |some (g,L')=>∃ c s m i b gs',x=.returned (.tuple #[frv (f.rowsG g c s m i b),.bool true])∧FrO (f.rowsG g c s m i b) L' gs'∧fs'=gs'++fs
def Does (w0:World) (S:List Nat) (f:FrV) (L:FrL) (fs:Fs) (fn:FuncId) (cap:Array Value) (R:Option (Nat × FrL)):Prop :=
 ∀ b c s m i b5 gs rest w',FrO (f.rows c s m i b5) L gs→(∀ p∈fs,p∈rest)→St w0 S ((b,maO (ma0 (f.rows c s m i b5) 0 0 0 0))::(gs++rest)) w' →
  Calls Tryz.prog fn (Value.pointer (some ⟨b,0,none⟩)::cap.toList).toArray w' (fun x w''=>∃ fs',DoK b (f.rows c s m i b5) R rest x fs'∧St w0 S fs' w'')
theorem told1_calls (w0:World) (S:List Nat) (f:FrV) (L:FrL) (fs:Fs) (fn:FuncId) (cap:Array Value) (R:Option (Nat × FrL)) (hF:FnI Tryz.prog fn) (hd:Does w0 S f L fs fn cap R) (b b3 b6:Nat) (c s m i b5:Value) (gs R0:Fs) (hfr:FrO (f.rows c s m i b5) L gs)
  (hsub:∀ p∈fs,p∈R0) (h3:(b3,Obj.cells #[.func (.func fn) #[] cap] 119 (0,0))∈R0) (h6:(b6,Obj.cells #[.pointer (some ⟨b,0,none⟩)] 116 (0,0))∈R0) (w:World) (hs:St w0 S ((b,maO (ma0 (f.rows c s m i b5) 0 0 0 0))::(gs++R0)) w) :
  Calls Tryz.prog 115 #[.pointer (some ⟨b3,0,none⟩),.pointer (some ⟨b6,0,none⟩)] w (fun x w'=>∃ fs',DoK b (f.rows c s m i b5) R R0 x fs'∧St w0 S fs' w'):=by
 have k3:(b3,Obj.cells #[.func (.func fn) #[] cap] 119 (0,0))∈(b,maO (ma0 (f.rows c s m i b5) 0 0 0 0))::(gs++R0):=qO _ (List.mem_append_right _ h3)
 have k6:(b6,Obj.cells #[.pointer (some ⟨b,0,none⟩)] 116 (0,0))∈(b,maO (ma0 (f.rows c s m i b5) 0 0 0 0))::(gs++R0):=qO _ (List.mem_append_right _ h6)
 refine calls_inlineP (K:=DoK b (f.rows c s m i b5) R R0) (args:=[_,_]) Tryz.func115 rfl Tryz.ntmps115 rfl ?_ hs
 (refine zL ?_;apply LW.load;rfl;rfl;exact Known.own k3;exact Rd.one' rfl;apply LW.load;rfl;rfl;exact Known.own k6;exact Rd.one' rfl)
 refine LW.callP (K:=DoK b (f.rows c s m i b5) R R0) (aas:=.pointer (some ⟨b,0,none⟩)::cap.toList) rfl rfl hF (by (exact .cons rfl .nil)) rfl (fun fs h=>?_) (fun w' hst=>hd b c s m i b5 gs R0 w' hfr hsub hst) ?_ ?_
 ·unfold DoK at h
  cases R with
  |none=>cases h.1
  |some x=>obtain ⟨_,_,_,h,_⟩:=h;cases h
 ·intro v fs' h
  cases R with
  |none=>cases h.1
  |some x =>
   obtain ⟨s',k',gs',h1,h2,h3⟩:=h
   cases h1
   (apply zV)
   exact inPI (.inr rfl) .nil rfl .nil rfl ⟨s',k',gs',rfl,h2,h3⟩
 ·intro ch fs' h
  cases R with
  |none =>
   obtain ⟨h1,h2⟩:=h
   cases h1
   exact inPP .nil ⟨rfl,h2⟩
  |some x=>obtain ⟨_,_,_,h,_⟩:=h;cases h
theorem DoK.try {b:Nat} {f:FrV} {R:Option (Nat × FrL)} {fs:Fs}:TryK (DoK b f R fs):=fun x fs' h=>by
 cases R with
 |none=>exact .inr h.1
 |some x=>obtain ⟨_,_,_,h,_⟩:=h;exact .inl h
theorem DoK.app {b:Nat} {f:FrV} {R:Option (Nat × FrL)} {R0 rest:Fs} {x:Ending} {fs':Fs} (h:DoK b f R (R0++rest) x fs'):∃ own',DoK b f R R0 x own'∧fs'=own'++rest:=by
 cases R with
 |none =>
  obtain ⟨h1,rfl⟩:=h
  exact ⟨R0,⟨h1,rfl⟩,rfl⟩
 |some x =>
  obtain ⟨s,k,gs',h1,h2,rfl⟩:=h
  exact ⟨_,⟨s,k,gs',h1,h2,rfl⟩,by simp⟩
section rd
variable {P : Program} {T E : TypeId} {fr : Nat × Nat} {m : MaV}
theorem ma_rdF [AgI P T true] {z:Value} [InfoI P T 14 z]:Rd P T (.cells (mca m) E fr) 0 (frv m.fr):=Rd.mid (cs:=frc m.fr) rfl rfl
end rd
theorem told_calls (w0:World) (S:List Nat) (f:FrV) (L:FrL) (fs:Fs) (fn:FuncId) (cap:Array Value) (R:Option (Nat × FrL)) (hl:L.short) (hF:FnI Tryz.prog fn) (hd:Does w0 S f L fs fn cap R) (hok:okF f L) (w:World) (hs:St w0 S fs w) (hf:∀ w',Bel w0.heap.size S w0 w'→FrRows w' f L) :
  Calls Tryz.prog 75 #[frv f,.func (.func fn) #[] cap] w (fun x w'=>∃ fs',ToldK f R fs x fs'∧St w0 S fs' w'):=by
 refine calls_anyO (calls_inlineP (K:=anyO (ToldK f R fs)) (args:=[_,_]) Tryz.func75 rfl Tryz.ntmps75 rfl ?_ hs)
 (refine sRz ?_;apply zT;rfl;rfl;intro _;apply LW.box1;rfl;rfl;rfl;intro _;apply zU;rfl;intro _;refine vAz<|nNz<|zI<|sRz<|ldz rfl (.tail (.tail .head)) (qF rfl) ?_)
 (apply zS;rfl;rfl;infer_instance;exact .cons rfl .nil;intro w _)
 rename_i hst
 have h0:=fCheck_calls f L w (hf w hst.bel)
 rw [if_pos hok] at h0
 exact h0
 (refine lvz (.neF rfl rfl (by omega)) ?_;refine nNz<|cFz<|zJ<|thenN<|sRz<|ldz rfl (.tail (.tail .head)) (qF rfl) ?_;apply LW.v0;rfl;rfl;apply zW;infer_instance;infer_instance;exact zB;rfl;simp only [fillP,wrCells,Value.cells,qH,qI,qJ,qG,qL,qK,Nat.reduceAdd,qN];rfl)
 (apply LW.callR;rfl;rfl;infer_instance;exact .cons rfl (.cons rfl .nil);intro w hs)
 exact fOf_calls f L 0 0 0 0 hl w (hf w hs.bel)
 rintro v gso ⟨bm,c,s,m,i,b5,g,rfl,rfl,hfr⟩
 rename_i b2 b3 b4
 (apply LW.alloc1;rfl;rfl;intro _;apply zR;rfl;rfl;apply qA;apply Wr.cells;rfl;rfl;simp only [wc,List.size_toArray,List.length_cons,List.length_nil];omega;simp only [fillC,wc,wrCells,Value.cells,qJ,qG,qL,qK,Nat.reduceAdd,Nat.reduceMul,qN,Nat.mul_one];rfl;refine nNz<|zI<|sRz ?_;apply LW.v0;rfl;rfl;apply ValP.makeFunc;exact ArgsOk.nil;exact .cons rfl (.cons rfl .nil))
 rename_i b6
 refine LW.perm (fs':=(bm,maO (ma0 (f.rows c s m i b5) 0 0 0 0))::(g++((b6,.cells #[.pointer (some ⟨bm,0,none⟩)] 116 (0,0))::(b4,.cells #[.slice none 0 0,.int .i64 0,.slice none 0 0,.slice none 0 0,.int .u64 0,.int .u64 0,.int .u64 0,.int .u64 0,.int .u64 0,.int .u64 0,.int .u64 0,.slice none 0 0,.slice none 0 0,.bool false] 31 (0,0))::(b3,.cells #[.func (.func fn) #[] cap] 119 (0,0))::(b2,.cells (fra f) 31 (0,0))::fs))) ?_ ?_
 ·simp only [List.cons_append]
  exact perm_ix [[_],[_],g,[_],[_],[_]] (xs:=[1,2,0,3,4,5]) (ys:=[0,1,2,3,4,5]) fs rfl
 generalize hR0:((b6,Obj.cells #[.pointer (some ⟨bm,0,none⟩)] 116 (0,0))::(b4,Obj.cells #[.slice none 0 0,.int .i64 0,.slice none 0 0,.slice none 0 0,.int .u64 0,.int .u64 0,.int .u64 0,.int .u64 0,.int .u64 0,.int .u64 0,.int .u64 0,.slice none 0 0,.slice none 0 0,.bool false] 31 (0,0))::(b3,Obj.cells #[.func (.func fn) #[] cap] 119 (0,0))::(b2,Obj.cells (fra f) 31 (0,0))::fs)=R0
 refine LW.callP (K:=fun x fs'=>∃ ok own',x=.returned (.bool ok)∧DoK bm (f.rows c s m i b5) R R0 (match ok with|true=>.returned (.tuple #[])|false=>.panicked failC) own'∧fs'=own'++[]) rfl rfl inferInstance (by (exact .cons rfl .nil)) rfl (fun fs h=>by obtain ⟨_,_,h,_⟩:=h;cases h)
  (fun w' hst=>tries_calls w0 S 115 #[.pointer (some ⟨b3,0,none⟩),.pointer (some ⟨b6,0,none⟩)] (DoK bm (f.rows c s m i b5) R R0) DoK.try inferInstance ((bm,maO (ma0 (f.rows c s m i b5) 0 0 0 0))::(g++R0)) [] w' (fun rest w2 h2=>?_) (by rw [List.append_nil];exact hst)) ?_ ?_
 ·rw [List.cons_append,List.append_assoc] at h2
  refine Calls.mono (told1_calls w0 S f L fs fn cap R hF hd bm b3 b6 c s m i b5 g (R0++rest) hfr ?_ ?_ ?_ w2 h2) ?_
  ·intro p hp;rw [← hR0];simp [hp]
  ·rw [← hR0];simp
  ·rw [← hR0];simp
  ·rintro x w3 ⟨fs',hk,h3⟩
   obtain ⟨own',h4,rfl⟩:=hk.app
   exact ⟨_,⟨own',h4,rfl⟩,h3⟩
 ·rintro v fs' ⟨ok,own',h1,h2,rfl⟩
  cases h1
  rw [List.append_nil]
  cases R with
  |none =>
   obtain ⟨h3,rfl⟩:=h2
   cases ok with
   |true=>cases h3
   |false =>
    subst hR0
    (refine lvz (.notF rfl (by with_reducible rfl)) ?_;refine nNz<|cTz<|sRz ?_;apply LW.v0;rfl;rfl;apply zW;infer_instance;infer_instance;exact zB;rfl;simp only [fillP,wrCells,Value.cells,qH,qI,qJ,qG,qL,qK,Nat.reduceAdd,qN];rfl;refine zR rfl rfl (.tail .head) (.whole rfl rfl rfl)<|vAz<|nNz<|zK<|thenR ?_)
    refine inPI (.inl rfl) .nil rfl (by (apply zD;apply zH;rfl;apply qE;apply zX;apply zY;exact qF rfl;apply zD;exact zG rfl;exact zF)) rfl ⟨fs,⟨rfl,rfl⟩,subp_ix [[_],[_],[_],[_]] (xs:=[]) (ys:=[0,1,2,3]) fs rfl⟩
  |some x =>
   obtain ⟨gg,L'⟩:=x
   obtain ⟨s',k',gs',h3,h4,rfl⟩:=h2
   cases ok with
   |false=>cases h3
   |true =>
    subst hR0
    have hsl:FrSl (ma0 ((f.rows c s m i b5).setR gg s' k') 0 0 0 0).fr:=h4.sl
    (refine lvz (.notT rfl (by with_reducible rfl)) ?_;refine nNz<|cFz<|zJ<|thenN<|sRz<|ldz rfl (.tail (.app .head)) (Rd.one' rfl)<|vNz<|vFz<|ldz rfl .head ma_rdF ?_;apply zR;rfl;rfl;apply qB;apply qC;apply qB;apply qA;apply fr_wrW;rfl;assumption;refine vAz<|nNz<|zK ?_)
    refine inPI (.inl rfl) .nil rfl (by (apply zD;apply zH;rfl;apply qE;apply zX;apply zZ;apply zX;apply zY;exact qF rfl;apply zD;exact zG rfl;exact zF)) rfl ⟨gs'++fs,⟨c,s',k',i,b5,gs',rfl,h4,rfl⟩,subp_ix [[_],gs',[_],[_],[_],[_]] (xs:=[1]) (ys:=[0,1,2,3,4,5]) fs rfl⟩
 ·rintro ch fs' ⟨_,_,h,_⟩
  cases h
end
section
attribute [local irreducible] SL.inP
def ToldR (f:FrV) (R:Option (Nat × FrL)) (v:Value) (gs:Fs):Prop:=match R with
 |none=>v=.tuple #[frv zeroF,.bool false]∧gs=[]
 |some (g,L')=>∃ c s m i b,v=.tuple #[frv (f.rowsG g c s m i b),.bool true]∧FrO (f.rowsG g c s m i b) L' gs
def reachR (f:FrV) (L:FrL) (a n:Nat):Option (Nat × FrL):=if costR L a n≤f.gas then some (f.gas - costR L a n,memR L a n) else none
def tellR (f:FrV) (L:FrL) (cost:Nat) (l:List Nat):Option (Nat × FrL):=if cost≤f.gas∧L.ws.length+l.length≤64 then some (f.gas - cost,L.setW (L.ws++l)) else none
theorem okF.short {f:FrV} {L:FrL} (h:okF f L):L.short:=by
 obtain ⟨⟨h1,h2,_⟩,_,h4,⟨h5,h6,_⟩,_⟩:=h
 exact ⟨by omega,by omega,by omega,by omega,by omega⟩
theorem told_bad (w0:World) (S:List Nat) (f:FrV) (L:FrL) (fs:Fs) (fn:FuncId) (cap:Array Value) (hok:¬ okF f L) (w:World) (hs:St w0 S fs w) (hf:∀ w',Bel w0.heap.size S w0 w'→FrRows w' f L) :
  Calls Tryz.prog 75 #[frv f,.func (.func fn) #[] cap] w (fun x w'=>∃ fs',ToldK f none fs x fs'∧St w0 S fs' w'):=by
 have hC:∀ w' {fs},St w0 S fs w'→Calls Tryz.prog 31 #[frv f] w' (Ret w' (.int .i64 240)):=fun w' fs hst=>by
  have h0:=fCheck_calls f L w' (hf w' hst.bel)
  rw [if_neg hok] at h0
  exact h0
 refine calls_anyO (calls_inlineP (K:=anyO (ToldK f none fs)) (args:=[_,_]) Tryz.func75 rfl Tryz.ntmps75 rfl ?_ hs)
 (refine sRz ?_;apply zT;rfl;rfl;intro _;apply LW.box1;rfl;rfl;rfl;intro _;apply zU;rfl;intro _;refine vAz<|nNz<|zI<|sRz<|ldz rfl (.tail (.tail .head)) (qF rfl) ?_;apply zS;rfl;rfl;infer_instance;exact .cons rfl .nil;intro w _;exact hC w (by assumption);refine lvz (.neT rfl rfl (by omega)) ?_;refine nNz<|cTz<|sRz ?_;apply LW.v0;rfl;rfl;apply zW;infer_instance;infer_instance;exact zB;rfl;simp only [fillP,wrCells,Value.cells,qH,qI,qJ,qG,qL,qK,Nat.reduceAdd,qN];rfl;refine zR rfl rfl .head (.whole rfl rfl rfl)<|vAz<|nNz<|zK<|thenR ?_)
 refine inPI (.inl rfl) .nil rfl (by (apply zD;apply zH;rfl;apply qE;apply zY;exact qF rfl;apply zD;exact zG rfl;exact zF)) rfl ⟨fs,⟨rfl,rfl⟩,subp_ix [[_],[_],[_]] (xs:=[]) (ys:=[0,1,2]) fs rfl⟩
theorem reach1_does (w0:World) (S:List Nat) (f:FrV) (L:FrL) (a n:Nat) (ha:a < M256) (hn:n < M256) (hok:okF f L) (fs:Fs) (b4 b5:Nat) (k4:(b4,Obj.cells (wc a) 29 (0,0))∈fs) (k5:(b5,Obj.cells (wc n) 29 (0,0))∈fs) :
  Does w0 S f L fs 145 #[.pointer (some ⟨b4,0,none⟩),.pointer (some ⟨b5,0,none⟩)] (reachR f L a n):=by
 intro b c s m i b0 gs rest w hfr hsub hs
 have k4:=qO (b,maO (ma0 (f.rows c s m i b0) 0 0 0 0)) (List.mem_append_right gs (hsub _ k4))
 have k5:=qO (b,maO (ma0 (f.rows c s m i b0) 0 0 0 0)) (List.mem_append_right gs (hsub _ k5))
 refine calls_anyO (calls_inlineP (K:=anyO (DoK b (f.rows c s m i b0) (reachR f L a n) rest)) (args:=[_,_,_]) Tryz.func145 rfl Tryz.ntmps145 rfl ?_ hs)
 (refine zL<|vMz ?_;apply LW.load;rfl;rfl;exact Known.own k4;exact qF rfl;apply LW.load;rfl;rfl;exact Known.own k5;exact qF rfl)
 refine LW.callP (K:=ReachK b (ma0 (f.rows c s m i b0) 0 0 0 0) L gs a n rest) rfl rfl inferInstance (by (exact .cons rfl (.cons rfl (.cons rfl .nil)))) rfl (fun fs h=>by rcases h with ⟨_,h,_⟩|⟨_,_,_,_,h,_⟩<;>cases h) (fun w' hst=>reach_calls w0 S b _ L gs a n ha hn hok.2.2.2.1 hok.1.2.2 hfr rest w' hst) ?_ ?_
 ·rintro v fs' (⟨_,h,_⟩|⟨hc,s',k',gs',h,hfr',rfl⟩)
  ·cases h
  ·have hR:reachR f L a n=some (f.gas - costR L a n,memR L a n):=by unfold reachR;exact if_pos hc
   rw [hR]
   cases h
   (apply zV)
   exact inPI (.inr rfl) .nil rfl .nil rfl ⟨_,⟨s',k',gs',rfl,hfr',rfl⟩,_,.refl _,.refl _⟩
 ·rintro ch fs' (⟨hc,h,rfl⟩|⟨_,_,_,_,h,_⟩)
  ·have hR:reachR f L a n=none:=by unfold reachR;exact if_neg (Nat.not_le.2 hc)
   rw [hR]
   cases h
   exact inPP .nil ⟨rest,⟨rfl,rfl⟩,_,qQ _ (List.sublist_append_right _ _),.refl _⟩
  ·cases h
theorem zero_sl:FrSl zeroF:=zero_frO.sl
theorem ToldK.ret {f:FrV} {R:Option (Nat × FrL)} {fs fs':Fs} {x:Ending} (h:ToldK f R fs x fs'):∃ v,x=.returned v:=by
 cases R with
 |none=>exact ⟨_,h.1⟩
 |some x=>obtain ⟨_,_,_,_,_,_,h,_⟩:=h;exact ⟨_,h⟩
theorem Reach_calls (f:FrV) (L:FrL) (a n:Nat) (ha:a < M256) (hn:n < M256) (w:World) (h:FrRows w f L):Calls Tryz.prog 123 #[frv f,wv a,wv n] w (RetG w [] (ToldR f (if okF f L then reachR f L a n else none))):=by
 refine enter (args:=[_,_,_]) _ [] [] Tryz.func123 rfl Tryz.ntmps123 rfl (by simp) .nil ?_
 have hzs:=zero_sl
 (refine sRz ?_;apply zT;rfl;rfl;intro _;apply zT;rfl;rfl;intro _;apply zT;rfl;rfl;intro _;apply zU;rfl;intro _;refine vAz<|nSz<|ldz rfl (.tail (.tail (.tail .head))) (qF rfl) ?_;apply LW.v0;rfl;rfl;apply ValP.makeFunc;exact ArgsOk.nil;exact .cons rfl (.cons rfl .nil))
 rename_i b3 b4 b5 b6
 refine LW.callP (K:=ToldK f (if okF f L then reachR f L a n else none) ((b6,Obj.cells (fra zeroF) 31 (0,0))::(b5,Obj.cells (wc n) 29 (0,0))::(b4,Obj.cells (wc a) 29 (0,0))::(b3,Obj.cells (fra f) 31 (0,0))::[])) rfl rfl inferInstance (by (exact .cons rfl (.cons rfl .nil))) rfl (fun fs h=>?_) (fun w' hst=>?_) ?_ ?_
 ·obtain ⟨_,h⟩:=h.ret;cases h
 ·by_cases hok:okF f L
  ·rw [if_pos hok]
   exact told_calls w [] f L _ _ _ _ hok.short inferInstance (reach1_does w [] f L a n ha hn hok _ b4 b5 (by simp) (by simp)) hok w' hst fun w2 hb=>h.bel hb
  ·rw [if_neg hok]
   exact told_bad w [] f L _ _ _ hok w' hst fun w2 hb=>h.bel hb
 ·intro v fs' hk
  cases hR:(if okF f L then reachR f L a n else none) with
  |none =>
   rw [hR] at hk
   obtain ⟨h1,rfl⟩:=hk
   cases h1
   (refine vEz ?_;refine vEz ?_;refine zR rfl rfl .head (.whole rfl rfl rfl)<|vAz<|nNz<|zK ?_)
   exact fin (vs:=[frv zeroF,.bool false]) [] (.inl rfl) rfl rfl (by (apply zD;apply zH;rfl;apply qE;apply zY;exact qF rfl;apply zD;exact zG rfl;exact zF)) (List.nil_sublist _) ⟨rfl,rfl⟩
  |some x =>
   rw [hR] at hk
   obtain ⟨g,L'⟩:=x
   obtain ⟨c,s,m,i,b,gs',h1,hfr,rfl⟩:=hk
   cases h1
   have hsl:=hfr.sl
   (refine vEz ?_;refine vEz ?_;apply zR;rfl;rfl;apply qC;apply qA;apply fr_wrW;rfl;assumption;refine vAz<|nNz<|zK ?_)
   exact fin (vs:=[frv (f.rowsG g c s m i b),.bool true]) gs' (.inl rfl) rfl rfl (by (apply zD;apply zH;rfl;apply qE;apply zZ;apply zY;exact qF rfl;apply zD;exact zG rfl;exact zF)) (qP _ _) ⟨c,s,m,i,b,rfl,hfr⟩
 ·intro ch fs' h
  obtain ⟨_,h⟩:=h.ret
  cases h
theorem tell1_does (w0:World) (S:List Nat) (f:FrV) (L:FrL) (cost:Nat) (l:List Nat) (v:Value) (hll:l.length≤100000) (hv:∀ w',Bel w0.heap.size S w0 w'→RowAt w' 4 v l.length (wcs l)) (hok:okF f L) (fs:Fs) (b4 b5:Nat) (k4:(b4,Obj.cells #[.int .u64 (cost:Int)] 26 (0,0))∈fs) (k5:(b5,Obj.cells #[v] 23 (0,0))∈fs) :
  Does w0 S f L fs 76 #[.pointer (some ⟨b4,0,none⟩),.pointer (some ⟨b5,0,none⟩)] (tellR f L cost l):=by
 intro b c s m i b0 gs rest w hfr hsub hs
 have k4:=qO (b,maO (ma0 (f.rows c s m i b0) 0 0 0 0)) (List.mem_append_right gs (hsub _ k4))
 have k50:=qO (b,maO (ma0 (f.rows c s m i b0) 0 0 0 0)) (List.mem_append_right gs (hsub _ k5))
 refine calls_anyO (calls_inlineP (K:=anyO (DoK b (f.rows c s m i b0) (tellR f L cost l) rest)) (args:=[_,_,_]) Tryz.func76 rfl Tryz.ntmps76 rfl ?_ hs)
 (refine sRz<|vMz ?_;apply LW.load;rfl;rfl;exact Known.own k4;exact Rd.one' rfl;apply LW.lay1;rfl;infer_instance;infer_instance;rfl;rfl;rfl;rfl;rfl;rfl;intro _)
 rename_i b6
 refine LW.perm (fs':=(b,maO (ma0 (f.rows c s m i b0) 0 0 0 0))::(gs++((b6,.cells #[.int .u64 (cost:Int)] 26 (0,0))::rest))) ?_ ?_
 ·exact perm_ix [[_],[_],gs] (xs:=[1,2,0]) (ys:=[0,1,2]) rest rfl
 refine LW.callP (K:=MaK b (ma0 (f.rows c s m i b0) 0 0 0 0) (spendM (ma0 (f.rows c s m i b0) 0 0 0 0) [cost]) (gs++((b6,.cells #[.int .u64 (cost:Int)] 26 (0,0))::rest))) rfl rfl inferInstance (by (exact .cons rfl (.cons rfl .nil))) rfl (fun fs h=>?_) (fun w' hst=>spend_calls w0 S b _ [cost] (Nat.lt_of_le_of_lt hok.1.2.2 (by decide)) _ _ w' hst (fun w2 h2=>row_cells (h2.own (b6,_) (qO _ (List.mem_append_right _ List.mem_cons_self))).2 rfl rfl (by simp [maxLen]))) ?_ ?_
 ·unfold MaK at h
  split at h<;>cases h.1
 ·rcases Nat.lt_or_ge f.gas cost with hlt|hge
  ·have hsp:spendM (ma0 (f.rows c s m i b0) 0 0 0 0) [cost]=none:=by unfold spendM;rw [if_neg (by simp;exact hlt)]
   rw [hsp]
   rintro v fs' ⟨h,_⟩
   cases h
  ·have hsp:spendM (ma0 (f.rows c s m i b0) 0 0 0 0) [cost]=some (ma0 ((f.rows c s m i b0).setR (f.gas - cost) s m) 0 0 0 0):=by unfold spendM;rw [if_pos (by simp;exact hge)];simp;rfl
   rw [hsp]
   rintro v fs' ⟨h,rfl⟩
   cases h
   have k5:(b5,Obj.cells #[v] 23 (0,0))∈(b,maO (ma0 ((f.rows c s m i b0).setR (f.gas - cost) s m) 0 0 0 0))::(gs++(b6,Obj.cells #[.int .u64 (cost:Int)] 26 (0,0))::rest):=qO _ (List.mem_append_right _ (qO _ (hsub _ k5)))
   (refine nNz<|zL<|vMz ?_;apply LW.load;rfl;rfl;exact Known.own k5;exact Rd.one' rfl)
   have hfr1:FrO ((f.rows c s m i b0).setR (f.gas - cost) s m) L gs:=hfr
   refine LW.callP (K:=LayK b (ma0 ((f.rows c s m i b0).setR (f.gas - cost) s m) 0 0 0 0) L gs l ((b6,Obj.cells #[.int .u64 (cost:Int)] 26 (0,0))::rest)) rfl rfl inferInstance (by (exact .cons rfl (.cons rfl .nil))) rfl (fun fs h=>by rcases h with ⟨_,h,_⟩|⟨_,_,_,_,h,_⟩<;>cases h) (fun w' hst=>lay_calls w0 S b _ L gs l v hok.2.2.2.1 hll hfr1 _ w' (fun w2 h2=>hv w2 h2.bel) hst) ?_ ?_
   ·rintro v fs' (⟨_,h,_⟩|⟨hc,s',k',gs',h,hfr',rfl⟩)
    ·cases h
    ·have hR:tellR f L cost l=some (f.gas - cost,L.setW (L.ws++l)):=by unfold tellR;exact if_pos ⟨hge,hc⟩
     rw [hR]
     cases h
     (apply zV)
     exact inPI (.inr rfl) .nil rfl .nil rfl ⟨_,⟨s',k',gs',rfl,hfr',rfl⟩,_,List.Sublist.cons_cons _ (List.Sublist.append_left (List.sublist_cons_self _ _) _),.refl _⟩
   ·rintro ch fs' (⟨hc,h,rfl⟩|⟨_,_,_,_,h,_⟩)
    ·have hR:tellR f L cost l=none:=by unfold tellR;exact if_neg (fun h=>by omega)
     rw [hR]
     cases h
     exact inPP .nil ⟨rest,⟨rfl,rfl⟩,_,qQ _ (List.Sublist.trans (List.sublist_cons_self _ _) (List.sublist_append_right _ _)),.refl _⟩
    ·cases h
 ·rcases Nat.lt_or_ge f.gas cost with hlt|hge
  ·have hsp:spendM (ma0 (f.rows c s m i b0) 0 0 0 0) [cost]=none:=by unfold spendM;rw [if_neg (by simp;exact hlt)]
   rw [hsp]
   rintro ch fs' ⟨h,rfl⟩
   have hR:tellR f L cost l=none:=by unfold tellR;exact if_neg (fun h=>by omega)
   rw [hR]
   cases h
   refine thenP ?_
   exact inPP .nil ⟨rest,⟨rfl,rfl⟩,_,qQ _ (List.Sublist.trans (List.sublist_cons_self _ _) (List.sublist_append_right _ _)),.refl _⟩
  ·have hsp:spendM (ma0 (f.rows c s m i b0) 0 0 0 0) [cost]=some (ma0 ((f.rows c s m i b0).setR (f.gas - cost) s m) 0 0 0 0):=by unfold spendM;rw [if_pos (by simp;exact hge)];simp;rfl
   rw [hsp]
   rintro ch fs' ⟨h,_⟩
   cases h
theorem Tell_calls (f:FrV) (L:FrL) (cost:Nat) (l:List Nat) (v:Value) (hll:l.length≤100000) (w:World) (hv:RowAt w 4 v l.length (wcs l)) (h:FrRows w f L):Calls Tryz.prog 39 #[frv f,.int .u64 (cost:Int),v] w (RetG w [] (ToldR f (if okF f L then tellR f L cost l else none))):=by
 obtain ⟨p,cc,rfl,_,_⟩:=id hv.form
 refine enter (args:=[_,_,_]) _ [] [] Tryz.func39 rfl Tryz.ntmps39 rfl (by simp) .nil ?_
 have hzs:=zero_sl
 (refine sRz ?_;apply zT;rfl;rfl;intro _;apply LW.box1;rfl;rfl;rfl;intro _;apply LW.box1;rfl;rfl;rfl;intro _;apply zU;rfl;intro _;refine vAz<|nSz<|ldz rfl (.tail (.tail (.tail .head))) (qF rfl) ?_;apply LW.v0;rfl;rfl;apply ValP.makeFunc;exact ArgsOk.nil;exact .cons rfl (.cons rfl .nil))
 rename_i b3 b4 b5 b6
 refine LW.callP (K:=ToldK f (if okF f L then tellR f L cost l else none) ((b6,Obj.cells (fra zeroF) 31 (0,0))::(b5,Obj.cells #[.slice p l.length cc] 23 (0,0))::(b4,Obj.cells #[.int .u64 (cost:Int)] 26 (0,0))::(b3,Obj.cells (fra f) 31 (0,0))::[])) rfl rfl inferInstance (by (exact .cons rfl (.cons rfl .nil))) rfl (fun fs h=>?_) (fun w' hst=>?_) ?_ ?_
 ·obtain ⟨_,h⟩:=h.ret;cases h
 ·by_cases hok:okF f L
  ·rw [if_pos hok]
   exact told_calls w [] f L _ _ _ _ hok.short inferInstance (tell1_does w [] f L cost l _ hll (fun w2 hb=>hv.bel hb) hok _ b4 b5 (by simp) (by simp)) hok w' hst fun w2 hb=>h.bel hb
  ·rw [if_neg hok]
   exact told_bad w [] f L _ _ _ hok w' hst fun w2 hb=>h.bel hb
 ·intro v fs' hk
  cases hR:(if okF f L then tellR f L cost l else none) with
  |none =>
   rw [hR] at hk
   obtain ⟨h1,rfl⟩:=hk
   cases h1
   (refine vEz ?_;refine vEz ?_;refine zR rfl rfl .head (.whole rfl rfl rfl)<|vAz<|nNz<|zK ?_)
   exact fin (vs:=[frv zeroF,.bool false]) [] (.inl rfl) rfl rfl (by (apply zD;apply zH;rfl;apply qE;apply zY;exact qF rfl;apply zD;exact zG rfl;exact zF)) (List.nil_sublist _) ⟨rfl,rfl⟩
  |some x =>
   rw [hR] at hk
   obtain ⟨g,L'⟩:=x
   obtain ⟨c,s,m,i,b,gs',h1,hfr,rfl⟩:=hk
   cases h1
   have hsl:=hfr.sl
   (refine vEz ?_;refine vEz ?_;apply zR;rfl;rfl;apply qC;apply qA;apply fr_wrW;rfl;assumption;refine vAz<|nNz<|zK ?_)
   exact fin (vs:=[frv (f.rowsG g c s m i b),.bool true]) gs' (.inl rfl) rfl rfl (by (apply zD;apply zH;rfl;apply qE;apply zZ;apply zY;exact qF rfl;apply zD;exact zG rfl;exact zF)) (qP _ _) ⟨c,s,m,i,b,rfl,hfr⟩
 ·intro ch fs' h
  obtain ⟨_,h⟩:=h.ret
  cases h
end
section
open CK (CheckC_calls)
theorem aOf_calls (a:Nat) (w:World):Calls Tryz.prog 65 #[wv a] w (Ret w (.int .u64 ((a % 18446744073709551616:Nat):Int))):=by
 refine enter (args:=[_]) _ [] [] Tryz.func65 rfl Tryz.ntmps65 rfl (by simp) .nil ?_
 (refine sRz ?_;apply zT;rfl;rfl;intro _;refine vAz<|nSz<|lvz (.indexAddrL rfl rfl rfl)<|ldz rfl .head (Rd.one' rfl)<|vAz<|nNz<|zK ?_)
 (apply finR;exact .inl rfl;rfl;rfl;rfl;apply zD;exact zG rfl;exact zF)
 rfl
theorem aWord_calls (a:Nat) (ha:a < 18446744073709551616) (w:World):Calls Tryz.prog 79 #[.int .u64 (a:Int)] w (Ret w (wv a)):=by
 refine enter (args:=[_]) _ [] [] Tryz.func79 rfl Tryz.ntmps79 rfl (by simp) .nil ?_
 (refine sRz ?_;apply LW.allocW;rfl;intro _;refine nSz<|vMz ?_;apply zS;rfl;rfl;infer_instance;exact .cons rfl .nil;intro w _;exact Of_calls a ha w;refine zR rfl rfl .head (.whole rfl rfl rfl)<|nNz<|zK ?_)
 (apply finR;exact .inl rfl;rfl;rfl;rfl;apply zD;apply zH;rfl;apply qE;apply zY;exact qF rfl;exact zF)
 rfl
def shq (op:Nat):Int × Int × Int × Int × Int × Bool:=if op=241 then (7,1,2,3,5,true) else if op=244∨op=250 then (6,1,-1,2,4,true) else if op=245 then (4,-1,0,1,-1,true) else (0,0,0,0,0,false)
def shc (op:Nat):List Value:=[.int .i64 (shq op).1,.int .i64 (shq op).2.1,.int .i64 (shq op).2.2.1,.int .i64 (shq op).2.2.2.1,.int .i64 (shq op).2.2.2.2.1]
theorem shaped_calls (op:Nat) (w:World):Calls Tryz.prog 47 #[.int .u8 (op:Int)] w (Ret w (.tuple #[.agg (shc op).toArray,.bool (shq op).2.2.2.2.2])):=by
 refine enter (args:=[_]) _ [] [] Tryz.func47 rfl Tryz.ntmps47 rfl (by simp) .nil ?_
 by_cases h1:op=241
 ·have hs:shq op=(7,1,2,3,5,true):=if_pos h1
  unfold shc
  rw [hs]
  (refine sRz ?_;apply zU;rfl;intro _;refine vAz<|nNz<|zI<|sRz<|vMz<|nNz<|zM<|sRz ?_;refine lvz (.eqT rfl rfl (by omega)) ?_;refine vAz<|nNz<|cTz<|sRz ?_;apply LW.v0;rfl;rfl;apply zW;infer_instance;infer_instance;apply zA;rfl;apply zA;rfl;apply zA;rfl;apply zA;rfl;apply zA;rfl;exact zB;rfl;simp only [fillP,wrCells,Value.cells,qH,qI,qJ,qG,qL,qK,Nat.reduceAdd,qN];rfl;refine zR rfl rfl .head (.whole rfl rfl rfl)<|vAz<|nNz<|zK<|blkR<|thenR ?_)
  (apply finR;exact .inl rfl;rfl;rfl;rfl;apply zD;apply zH;rfl;apply qE;apply zY;exact qF rfl;apply zD;exact zG rfl;exact zF)
  rfl
 ·by_cases h2:op=244∨op=250
  ·have hs:shq op=(6,1,-1,2,4,true):=by unfold shq;rw [if_neg h1,if_pos h2]
   unfold shc
   rw [hs]
   rcases h2 with h2|h2
   ·(refine sRz ?_;apply zU;rfl;intro _;refine vAz<|nNz<|zI<|sRz<|vMz<|nNz<|zM<|sRz ?_;refine lvz (.eqF rfl rfl (by omega)) ?_;refine vAz<|nNz<|cFz<|zI<|sRz ?_;refine lvz (.eqT rfl rfl (by omega)) ?_;refine vAz<|nNz<|cTz<|zJ<|thenN<|cTz<|sRz ?_;apply LW.v0;rfl;rfl;apply zW;infer_instance;infer_instance;apply zA;rfl;apply zA;rfl;apply zA;rfl;apply zA;rfl;apply zA;rfl;exact zB;rfl;simp only [fillP,wrCells,Value.cells,qH,qI,qJ,qG,qL,qK,Nat.reduceAdd,qN];rfl;refine zR rfl rfl .head (.whole rfl rfl rfl)<|vAz<|nNz<|zK<|blkR<|thenR ?_)
    (apply finR;exact .inl rfl;rfl;rfl;rfl;apply zD;apply zH;rfl;apply qE;apply zY;exact qF rfl;apply zD;exact zG rfl;exact zF)
    rfl
   ·(refine sRz ?_;apply zU;rfl;intro _;refine vAz<|nNz<|zI<|sRz<|vMz<|nNz<|zM<|sRz ?_;refine lvz (.eqF rfl rfl (by omega)) ?_;refine vAz<|nNz<|cFz<|zI<|sRz ?_;refine lvz (.eqF rfl rfl (by omega)) ?_;refine vAz<|nNz<|cFz<|zL ?_;refine lvz (.eqT rfl rfl (by omega)) ?_;refine vAz<|nNz<|cTz<|sRz ?_;apply LW.v0;rfl;rfl;apply zW;infer_instance;infer_instance;apply zA;rfl;apply zA;rfl;apply zA;rfl;apply zA;rfl;apply zA;rfl;exact zB;rfl;simp only [fillP,wrCells,Value.cells,qH,qI,qJ,qG,qL,qK,Nat.reduceAdd,qN];rfl;refine zR rfl rfl .head (.whole rfl rfl rfl)<|vAz<|nNz<|zK<|blkR<|thenR ?_)
    (apply finR;exact .inl rfl;rfl;rfl;rfl;apply zD;apply zH;rfl;apply qE;apply zY;exact qF rfl;apply zD;exact zG rfl;exact zF)
    rfl
  ·by_cases h3:op=245
   ·have hs:shq op=(4,-1,0,1,-1,true):=by unfold shq;rw [if_neg h1,if_neg h2,if_pos h3]
    unfold shc
    rw [hs]
    (refine sRz ?_;apply zU;rfl;intro _;refine vAz<|nNz<|zI<|sRz<|vMz<|nNz<|zM<|sRz ?_;refine lvz (.eqF rfl rfl (by omega)) ?_;refine vAz<|nNz<|cFz<|zI<|sRz ?_;refine lvz (.eqF rfl rfl (by omega)) ?_;refine vAz<|nNz<|cFz<|zL ?_;refine lvz (.eqF rfl rfl (by omega)) ?_;refine vAz<|nNz<|cFz<|sRz ?_;refine lvz (.eqT rfl rfl (by omega)) ?_;refine vAz<|nNz<|cTz<|sRz ?_;apply LW.v0;rfl;rfl;apply zW;infer_instance;infer_instance;apply zA;rfl;apply zA;rfl;apply zA;rfl;apply zA;rfl;apply zA;rfl;exact zB;rfl;simp only [fillP,wrCells,Value.cells,qH,qI,qJ,qG,qL,qK,Nat.reduceAdd,qN];rfl;refine zR rfl rfl .head (.whole rfl rfl rfl)<|vAz<|nNz<|zK<|blkR<|thenR ?_)
    (apply finR;exact .inl rfl;rfl;rfl;rfl;apply zD;apply zH;rfl;apply qE;apply zY;exact qF rfl;apply zD;exact zG rfl;exact zF)
    rfl
   ·have hs:shq op=(0,0,0,0,0,false):=by unfold shq;rw [if_neg h1,if_neg h2,if_neg h3]
    unfold shc
    rw [hs]
    (refine sRz ?_;apply zU;rfl;intro _;refine vAz<|nNz<|zI<|sRz<|vMz<|nNz<|zM<|sRz ?_;refine lvz (.eqF rfl rfl (by omega)) ?_;refine vAz<|nNz<|cFz<|zI<|sRz ?_;refine lvz (.eqF rfl rfl (by omega)) ?_;refine vAz<|nNz<|cFz<|zL ?_;refine lvz (.eqF rfl rfl (by omega)) ?_;refine vAz<|nNz<|cFz<|sRz ?_;refine lvz (.eqF rfl rfl (by omega)) ?_;refine vAz<|nNz<|cFz<|zJ<|blkN<|thenN<|sRz ?_;apply LW.v0;rfl;rfl;apply zW;infer_instance;infer_instance;exact zB;rfl;simp only [fillP,wrCells,Value.cells,qH,qI,qJ,qG,qL,qK,Nat.reduceAdd,qN];rfl;refine zR rfl rfl .head (.whole rfl rfl rfl)<|vAz<|nNz<|zK ?_)
    (apply finR;exact .inl rfl;rfl;rfl;rfl;apply zD;apply zH;rfl;apply qE;apply zY;exact qF rfl;apply zD;exact zG rfl;exact zF)
    rfl
def aska (kind:Int) (op:Nat) (ws dt:Value):Array Value:=#[.int .i64 kind,.int .u8 (op:Int),ws,dt]
def askB (kind:Int) (op n:Nat):Bool:=(shq op).2.2.2.2.2 && (decide (kind=2) && decide ((n:Int)=(shq op).1))
section rd
variable {P : Program} {T E : TypeId} {fr : Nat × Nat} {kind : Int} {op : Nat} {ws dt : Value}
theorem ask_rd0 [AgI P T false]:Rd P T (.cells (aska kind op ws dt) E fr) 0 (.int .i64 kind):=Rd.one rfl
theorem ask_rd1 [AgI P T false]:Rd P T (.cells (aska kind op ws dt) E fr) 1 (.int .u8 (op:Int)):=Rd.one rfl
theorem ask_rd2 [AgI P T false]:Rd P T (.cells (aska kind op ws dt) E fr) 2 ws:=Rd.one rfl
theorem ask_rdW {z:Value} [AgI P T true] [InfoI P T 4 z]:Rd P T (.cells (aska kind op ws dt) E fr) 0 (.agg (aska kind op ws dt)):=qF rfl
theorem sh_rd0 [AgI P T false]:Rd P T (.cells (shc op).toArray E fr) 0 (.int .i64 (shq op).1):=Rd.one rfl
theorem sh_rdW {z:Value} [AgI P T true] [InfoI P T 5 z]:Rd P T (.cells (shc op).toArray E fr) 0 (.agg (shc op).toArray):=qF rfl
end rd
attribute [local irreducible] shq
theorem shapeOf_calls (kind:Int) (op n c:Nat) (p:Option Addr) (q:Option Addr) (d e:Nat) (w:World):Calls Tryz.prog 53 #[.agg (aska kind op (.slice p n c) (.slice q d e))] w (Ret w (.tuple #[.agg (shc op).toArray,.bool (askB kind op n)])):=by
 have hSh0:=shaped_calls op
 unfold askB
 refine enter (args:=[_]) _ [] [] Tryz.func53 rfl Tryz.ntmps53 rfl (by simp) .nil ?_
 cases hb:(shq op).2.2.2.2.2 with
 |false =>
  rw [hb] at hSh0
  have hSh:∀ w,Calls Tryz.prog 47 #[.int .u8 (op:Int)] w (Ret w (.tuple #[.agg (shc op).toArray,.bool false])):=hSh0
  (refine sRz ?_;apply zT;rfl;rfl;intro _;apply zU;rfl;intro _;refine vAz<|nSz<|vFz<|ldz rfl (.tail .head) ask_rd1 ?_;apply zS;rfl;rfl;infer_instance;exact .cons rfl .nil;intro w _;exact hSh w;refine vMz ?_;refine vEz ?_;refine vEz ?_;apply zU;rfl;intro _;refine zR rfl rfl .head (.whole rfl rfl rfl)<|vAz<|nNz<|zI ?_;apply CW.pre;refine AnyW.any 16 mixed (by decide +kernel) ?_;(try simp only [tsOf_cons,tsOf_nil,tsOf_app]);apply qD;rfl;rfl;rfl;exact zC;rfl;apply zP;exact zN;exact sh_rdW;refine dvz (.move rfl)<|dvz (.move rfl) ?_;(iterate 3 refine dSz ?_);refine dvz (.pickF' rfl (by with_reducible rfl) rfl) ?_;refine dvz (.move rfl) ?_;(iterate 6 refine dSz ?_);refine dvz (.pickF' rfl (by with_reducible rfl) rfl) ?_;apply DW.store;rfl;rfl;exact zC;rfl;rfl;apply TSet.tail;apply TSet.head;exact zN;exact zN;apply Wr.whole;rfl;rfl;rfl;apply DW.nil;simp only [fsOf_cons,fsOf_nil,fsOf_app,fsOf_tsOf,fsOf_new];refine vAz<|nNz<|zK ?_)
  (apply finR;exact .inl rfl;rfl;rfl;rfl;apply zD;apply zH;rfl;apply qE;apply zX;apply zY;exact sh_rdW;apply zD;exact zG rfl;exact zF)
  rfl
 |true =>
  rw [hb] at hSh0
  have hSh:∀ w,Calls Tryz.prog 47 #[.int .u8 (op:Int)] w (Ret w (.tuple #[.agg (shc op).toArray,.bool true])):=hSh0
  by_cases hk:kind=2
  ·subst hk
   by_cases hn:(n:Int)=(shq op).1
   ·rw [decide_eq_true hn]
    (refine sRz ?_;apply zT;rfl;rfl;intro _;apply zU;rfl;intro _;refine vAz<|nSz<|vFz<|ldz rfl (.tail .head) ask_rd1 ?_;apply zS;rfl;rfl;infer_instance;exact .cons rfl .nil;intro w _;exact hSh w;refine vMz ?_;refine vEz ?_;refine vEz ?_;apply zU;rfl;intro _;refine zR rfl rfl .head (.whole rfl rfl rfl)<|vAz<|nNz<|zI ?_;apply CW.pre;refine AnyW.any 16 mixed (by decide +kernel) ?_;(try simp only [tsOf_cons,tsOf_nil,tsOf_app]);apply qD;rfl;rfl;rfl;exact zC;rfl;apply zP;exact zN;exact sh_rdW;refine dvz (.move rfl)<|dvz (.move rfl)<|dwz (.fieldAddr rfl rfl) ?_;apply qD;rfl;rfl;rfl;apply wantYes;rfl;rfl;(with_reducible rfl);rfl;apply zO;apply zO;apply zP;exact zN;exact ask_rd0;refine dwz (.eqT rfl rfl (by omega)) ?_;refine dvz (.pickT' rfl (by with_reducible rfl) rfl) ?_;refine dvz (.move rfl)<|dwz (.fieldAddr rfl rfl) ?_;apply qD;rfl;rfl;rfl;apply wantYes;rfl;rfl;(with_reducible rfl);rfl;apply zO;apply zO;apply zP;exact zN;exact ask_rd2;refine dwz (.lenR rfl inferInstance rfl)<|dwz (.fieldAddr rfl rfl) ?_;apply qD;rfl;rfl;rfl;apply wantYes;rfl;rfl;(with_reducible rfl);rfl;apply zP;exact zN;exact sh_rd0;refine dwz (.eqT rfl rfl (by omega)) ?_;refine dvz (.pickT' rfl (by with_reducible rfl) rfl) ?_;apply DW.store;rfl;rfl;exact zC;rfl;rfl;apply TSet.tail;apply TSet.head;exact zN;exact zN;apply Wr.whole;rfl;rfl;rfl;apply DW.nil;simp only [fsOf_cons,fsOf_nil,fsOf_app,fsOf_tsOf,fsOf_new];refine vAz<|nNz<|zK ?_)
    (apply finR;exact .inl rfl;rfl;rfl;rfl;apply zD;apply zH;rfl;apply qE;apply zX;apply zY;exact sh_rdW;apply zD;exact zG rfl;exact zF)
    rfl
   ·rw [decide_eq_false hn]
    (refine sRz ?_;apply zT;rfl;rfl;intro _;apply zU;rfl;intro _;refine vAz<|nSz<|vFz<|ldz rfl (.tail .head) ask_rd1 ?_;apply zS;rfl;rfl;infer_instance;exact .cons rfl .nil;intro w _;exact hSh w;refine vMz ?_;refine vEz ?_;refine vEz ?_;apply zU;rfl;intro _;refine zR rfl rfl .head (.whole rfl rfl rfl)<|vAz<|nNz<|zI ?_;apply CW.pre;refine AnyW.any 16 mixed (by decide +kernel) ?_;(try simp only [tsOf_cons,tsOf_nil,tsOf_app]);apply qD;rfl;rfl;rfl;exact zC;rfl;apply zP;exact zN;exact sh_rdW;refine dvz (.move rfl)<|dvz (.move rfl)<|dwz (.fieldAddr rfl rfl) ?_;apply qD;rfl;rfl;rfl;apply wantYes;rfl;rfl;(with_reducible rfl);rfl;apply zO;apply zO;apply zP;exact zN;exact ask_rd0;refine dwz (.eqT rfl rfl (by omega)) ?_;refine dvz (.pickT' rfl (by with_reducible rfl) rfl) ?_;refine dvz (.move rfl)<|dwz (.fieldAddr rfl rfl) ?_;apply qD;rfl;rfl;rfl;apply wantYes;rfl;rfl;(with_reducible rfl);rfl;apply zO;apply zO;apply zP;exact zN;exact ask_rd2;refine dwz (.lenR rfl inferInstance rfl)<|dwz (.fieldAddr rfl rfl) ?_;apply qD;rfl;rfl;rfl;apply wantYes;rfl;rfl;(with_reducible rfl);rfl;apply zP;exact zN;exact sh_rd0;refine dwz (.eqF rfl rfl (by omega)) ?_;refine dvz (.pickT' rfl (by with_reducible rfl) rfl) ?_;apply DW.store;rfl;rfl;exact zC;rfl;rfl;apply TSet.tail;apply TSet.head;exact zN;exact zN;apply Wr.whole;rfl;rfl;rfl;apply DW.nil;simp only [fsOf_cons,fsOf_nil,fsOf_app,fsOf_tsOf,fsOf_new];refine vAz<|nNz<|zK ?_)
    (apply finR;exact .inl rfl;rfl;rfl;rfl;apply zD;apply zH;rfl;apply qE;apply zX;apply zY;exact sh_rdW;apply zD;exact zG rfl;exact zF)
    rfl
  ·rw [decide_eq_false hk]
   (refine sRz ?_;apply zT;rfl;rfl;intro _;apply zU;rfl;intro _;refine vAz<|nSz<|vFz<|ldz rfl (.tail .head) ask_rd1 ?_;apply zS;rfl;rfl;infer_instance;exact .cons rfl .nil;intro w _;exact hSh w;refine vMz ?_;refine vEz ?_;refine vEz ?_;apply zU;rfl;intro _;refine zR rfl rfl .head (.whole rfl rfl rfl)<|vAz<|nNz<|zI ?_;apply CW.pre;refine AnyW.any 16 mixed (by decide +kernel) ?_;(try simp only [tsOf_cons,tsOf_nil,tsOf_app]);apply qD;rfl;rfl;rfl;exact zC;rfl;apply zP;exact zN;exact sh_rdW;refine dvz (.move rfl)<|dvz (.move rfl)<|dwz (.fieldAddr rfl rfl) ?_;apply qD;rfl;rfl;rfl;apply wantYes;rfl;rfl;(with_reducible rfl);rfl;apply zO;apply zO;apply zP;exact zN;exact ask_rd0;refine dwz (.eqF rfl rfl (by omega)) ?_;refine dvz (.pickT' rfl (by with_reducible rfl) rfl) ?_;refine dvz (.move rfl) ?_;(iterate 6 refine dSz ?_);refine dvz (.pickF' rfl (by with_reducible rfl) rfl) ?_;apply DW.store;rfl;rfl;exact zC;rfl;rfl;apply TSet.tail;apply TSet.head;exact zN;exact zN;apply Wr.whole;rfl;rfl;rfl;apply DW.nil;simp only [fsOf_cons,fsOf_nil,fsOf_app,fsOf_tsOf,fsOf_new];refine vAz<|nNz<|zK ?_)
   (apply finR;exact .inl rfl;rfl;rfl;rfl;apply zD;apply zH;rfl;apply qE;apply zX;apply zY;exact sh_rdW;apply zD;exact zG rfl;exact zF)
   rfl
theorem word_rd {P:Program} {T E:TypeId} {fr:Nat × Nat} {cs:Array Value} {off m:Nat} {l:List Nat} [AgI P T true] {z:Value} [InfoI P T 4 z] (hx:(cs.toList.drop off).take m=wcs l) (i:Nat) (hi:i < l.length):Rd P T (.cells cs E fr) (off+i * 4) (wv (l.getD i 0)):=by
 have h:=Rd.elemA (P:=P) (T:=T) (E:=E) (fr:=fr) (g:=fun a=>(wc a).toList) (l:=l) (a:=l[i]) hx (wcs_len l) (List.getElem?_eq_getElem hi)
 rw [List.getD_eq_getElem?_getD,List.getElem?_eq_getElem hi]
 exact h
theorem shq_ok {op:Nat} (h:(shq op).2.2.2.2.2=true):(op=241∧shq op=(7,1,2,3,5,true))∨((op=244∨op=250)∧shq op=(6,1,-1,2,4,true))∨(op=245∧shq op=(4,-1,0,1,-1,true)):=by
 unfold shq at h ⊢
 by_cases h1:op=241
 ·rw [if_pos h1] at h ⊢;exact .inl ⟨h1,rfl⟩
 ·rw [if_neg h1] at h ⊢
  by_cases h2:op=244∨op=250
  ·rw [if_pos h2] at h ⊢;exact .inr (.inl ⟨h2,rfl⟩)
  ·rw [if_neg h2] at h ⊢
   by_cases h3:op=245
   ·rw [if_pos h3] at h ⊢;exact .inr (.inr ⟨h3,rfl⟩)
   ·rw [if_neg h3] at h;cases h
def targetB (kind:Int) (op n:Nat):Bool:=askB kind op n && decide (op ≠ 245)
def targetN (kind:Int) (op:Nat) (ws:List Nat):Nat:=if targetB kind op ws.length then ws.getD 1 0 % 18446744073709551616 else 0
theorem Target_calls (kind:Int) (op:Nat) (ws:List Nat) (v:Value) (q:Option Addr) (d e:Nat) (w:World) (hv:RowAt w 4 v ws.length (wcs ws)):Calls Tryz.prog 28 #[.agg (aska kind op v (.slice q d e))] w (Ret w (.tuple #[.int .u64 (targetN kind op ws:Int),.bool (targetB kind op ws.length)])):=by
 obtain ⟨p,c,rfl,_,_⟩:=id hv.form
 have hSh0:=shapeOf_calls kind op ws.length c p q d e
 unfold targetN targetB
 refine enter (args:=[_]) _ [] [] Tryz.func28 rfl Tryz.ntmps28 rfl (by simp) .nil ?_
 cases hb:askB kind op ws.length with
 |false =>
  rw [hb] at hSh0
  have hSh:∀ w,Calls Tryz.prog 53 #[.agg (aska kind op (.slice p ws.length c) (.slice q d e))] w (Ret w (.tuple #[.agg (shc op).toArray,.bool false])):=hSh0
  (refine sRz ?_;apply zT;rfl;rfl;intro _;refine vAz<|vAz<|nSz<|ldz rfl .head ask_rdW ?_;apply zS;rfl;rfl;infer_instance;exact .cons rfl .nil;intro w _;exact hSh w;refine vMz ?_;refine vEz ?_;refine vEz ?_;apply zU;rfl;intro _;refine zR rfl rfl .head (.whole rfl rfl rfl)<|vAz<|nNz<|zI<|sRz<|vMz ?_;refine lvz (.notF rfl (by with_reducible rfl)) ?_;refine vMz ?_;(iterate 3 refine gFz ?_);refine pTz<|nNz<|cTz<|sRz<|vAz<|vAz<|nNz<|zK<|thenR ?_)
  (apply finR;exact .inl rfl;rfl;rfl;rfl;apply zD;exact zG rfl;apply zD;exact zG rfl;exact zF)
  rfl
 |true =>
  rw [hb] at hSh0
  have hk:=hb
  unfold askB at hk
  rw [Bool.and_eq_true,Bool.and_eq_true,decide_eq_true_eq,decide_eq_true_eq] at hk
  obtain ⟨h1,h2,h3⟩:=hk
  have hlt:3 < ws.length:=by rcases shq_ok h1 with ⟨_,h⟩|⟨_,h⟩|⟨_,h⟩<;>rw [h] at h3<;>dsimp only at h3<;>omega
  obtain ⟨b,off,c',cs,E,fr,heq,hbk,hx⟩:=hv.pos (by omega)
  cases heq
  have hrd:=word_rd (P:=Tryz.prog) (T:=29) (E:=E) (fr:=fr) hx 1 (by omega)
  obtain ⟨x,hx1⟩:∃ x,ws.getD 1 0=x:=⟨_,rfl⟩
  rw [hx1] at hrd ⊢
  unfold shc at hSh0
  rcases shq_ok h1 with ⟨ho,hs⟩|⟨ho,hs⟩|⟨ho,hs⟩
  ·rw [hs] at hSh0
   have hSh:∀ w,Calls Tryz.prog 53 #[.agg (aska kind op (.slice (some ⟨b,off,none⟩) ws.length c) (.slice q d e))] w (Ret w (.tuple #[.agg #[.int .i64 7,.int .i64 1,.int .i64 2,.int .i64 3,.int .i64 5],.bool true])):=hSh0
   rw [decide_eq_true (show op ≠ 245 by omega)]
   (refine sRz ?_;apply zT;rfl;rfl;intro _;refine vAz<|vAz<|nSz<|ldz rfl .head ask_rdW ?_;apply zS;rfl;rfl;infer_instance;exact .cons rfl .nil;intro w _;exact hSh w;refine vMz ?_;refine vEz ?_;refine vEz ?_;apply zU;rfl;intro _;refine zR rfl rfl .head (.whole rfl rfl rfl)<|vAz<|nNz<|zI<|sRz<|vMz ?_;refine lvz (.notT rfl (by with_reducible rfl)) ?_;refine vMz<|gTz<|vFz<|gTz<|ldz rfl .head (Rd.one' rfl)<|gTz ?_;refine lvz (.lssF rfl rfl (by omega)) ?_;refine pFz<|nNz<|cFz<|zJ<|thenN<|sRz<|vFz<|ldz rfl (.tail .head) ask_rd2<|vFz<|ldz rfl .head (Rd.one' rfl) ?_;refine lvz (.indexAddrSL rfl rfl (by decide) (by omega)) ?_;apply LW.load;rfl;rfl;exact Known.ext (by assumption) (by simp);assumption;apply zS;rfl;rfl;infer_instance;exact .cons rfl .nil;intro w _;exact aOf_calls _ w;refine vAz<|vAz<|nNz<|zK ?_)
   (apply finR;exact .inl rfl;rfl;rfl;rfl;apply zD;exact zG rfl;apply zD;exact zG rfl;exact zF)
   rfl
  ·rw [hs] at hSh0
   have hSh:∀ w,Calls Tryz.prog 53 #[.agg (aska kind op (.slice (some ⟨b,off,none⟩) ws.length c) (.slice q d e))] w (Ret w (.tuple #[.agg #[.int .i64 6,.int .i64 1,.int .i64 (-1),.int .i64 2,.int .i64 4],.bool true])):=hSh0
   rw [decide_eq_true (show op ≠ 245 by omega)]
   (refine sRz ?_;apply zT;rfl;rfl;intro _;refine vAz<|vAz<|nSz<|ldz rfl .head ask_rdW ?_;apply zS;rfl;rfl;infer_instance;exact .cons rfl .nil;intro w _;exact hSh w;refine vMz ?_;refine vEz ?_;refine vEz ?_;apply zU;rfl;intro _;refine zR rfl rfl .head (.whole rfl rfl rfl)<|vAz<|nNz<|zI<|sRz<|vMz ?_;refine lvz (.notT rfl (by with_reducible rfl)) ?_;refine vMz<|gTz<|vFz<|gTz<|ldz rfl .head (Rd.one' rfl)<|gTz ?_;refine lvz (.lssF rfl rfl (by omega)) ?_;refine pFz<|nNz<|cFz<|zJ<|thenN<|sRz<|vFz<|ldz rfl (.tail .head) ask_rd2<|vFz<|ldz rfl .head (Rd.one' rfl) ?_;refine lvz (.indexAddrSL rfl rfl (by decide) (by omega)) ?_;apply LW.load;rfl;rfl;exact Known.ext (by assumption) (by simp);assumption;apply zS;rfl;rfl;infer_instance;exact .cons rfl .nil;intro w _;exact aOf_calls _ w;refine vAz<|vAz<|nNz<|zK ?_)
   (apply finR;exact .inl rfl;rfl;rfl;rfl;apply zD;exact zG rfl;apply zD;exact zG rfl;exact zF)
   rfl
  ·rw [hs] at hSh0
   have hSh:∀ w,Calls Tryz.prog 53 #[.agg (aska kind op (.slice (some ⟨b,off,none⟩) ws.length c) (.slice q d e))] w (Ret w (.tuple #[.agg #[.int .i64 4,.int .i64 (-1),.int .i64 0,.int .i64 1,.int .i64 (-1)],.bool true])):=hSh0
   rw [decide_eq_false (show ¬ op ≠ 245 by omega)]
   (refine sRz ?_;apply zT;rfl;rfl;intro _;refine vAz<|vAz<|nSz<|ldz rfl .head ask_rdW ?_;apply zS;rfl;rfl;infer_instance;exact .cons rfl .nil;intro w _;exact hSh w;refine vMz ?_;refine vEz ?_;refine vEz ?_;apply zU;rfl;intro _;refine zR rfl rfl .head (.whole rfl rfl rfl)<|vAz<|nNz<|zI<|sRz<|vMz ?_;refine lvz (.notT rfl (by with_reducible rfl)) ?_;refine vMz<|gTz<|vFz<|gTz<|ldz rfl .head (Rd.one' rfl)<|gTz ?_;refine lvz (.lssT rfl rfl (by omega)) ?_;refine pFz<|nNz<|cTz<|sRz<|vAz<|vAz<|nNz<|zK<|thenR ?_)
   (apply finR;exact .inl rfl;rfl;rfl;rfl;apply zD;exact zG rfl;apply zD;exact zG rfl;exact zF)
   rfl
end
section
open CK (CheckC_calls)
structure ClV where
 op:Nat
 dst:Nat
 self:Nat
 frm:Nat
 val:Nat
 mv:Bool
 gas:Nat
 inp:Value
 code:Value
 pl:Nat
 n:Nat
 stat:Bool
def clc (c:ClV):List Value:=.int .u8 (c.op:Int)::.int .u64 (c.dst:Int)::.int .u64 (c.self:Int)::.int .u64 (c.frm:Int)::((wc c.val).toList++[.bool c.mv,.int .u64 (c.gas:Int),c.inp,c.code,.int .u64 (c.pl:Int),.int .u64 (c.n:Int),.bool c.stat])
abbrev cla (c:ClV):Array Value:=(clc c).toArray
abbrev clv (c:ClV):Value:=.agg (cla c)
structure ClL where
 il:List UInt8
 cl:List UInt8
structure ClRows (w:World) (c:ClV) (L:ClL):Prop where
 i:RowAt w 1 c.inp L.il.length (ucs L.il)
 c:RowAt w 1 c.code L.cl.length (ucs L.cl)
theorem ClRows.st {w0 w:World} {f:ClV} {L:ClL} {fs:Fs} (h:ClRows w0 f L) (hs:St w0 [] fs w):ClRows w f L:=⟨h.i.st hs,h.c.st hs⟩
section rd
variable {P : Program} {T E : TypeId} {fr : Nat × Nat} {op dst self frm val gas pl n : Nat} {inp code : Value} {mv stat : Bool}
theorem cl_rd0 [AgI P T false]:Rd P T (.cells (cla ⟨op,dst,self,frm,val,mv,gas,inp,code,pl,n,stat⟩) E fr) 0 (.int .u8 (op:Int)):=Rd.one rfl
theorem cl_rd1 [AgI P T false]:Rd P T (.cells (cla ⟨op,dst,self,frm,val,mv,gas,inp,code,pl,n,stat⟩) E fr) 1 (.int .u64 (dst:Int)):=Rd.one rfl
theorem cl_rd2 [AgI P T false]:Rd P T (.cells (cla ⟨op,dst,self,frm,val,mv,gas,inp,code,pl,n,stat⟩) E fr) 2 (.int .u64 (self:Int)):=Rd.one rfl
theorem cl_rd3 [AgI P T false]:Rd P T (.cells (cla ⟨op,dst,self,frm,val,mv,gas,inp,code,pl,n,stat⟩) E fr) 3 (.int .u64 (frm:Int)):=Rd.one rfl
theorem cl_rd4 [AgI P T true] {z:Value} [InfoI P T 4 z]:Rd P T (.cells (cla ⟨op,dst,self,frm,val,mv,gas,inp,code,pl,n,stat⟩) E fr) 4 (wv val):=Rd.mid (cs:=(wc val).toList) rfl rfl
theorem cl_rd8 [AgI P T false]:Rd P T (.cells (cla ⟨op,dst,self,frm,val,mv,gas,inp,code,pl,n,stat⟩) E fr) 8 (.bool mv):=Rd.one rfl
theorem cl_rd9 [AgI P T false]:Rd P T (.cells (cla ⟨op,dst,self,frm,val,mv,gas,inp,code,pl,n,stat⟩) E fr) 9 (.int .u64 (gas:Int)):=Rd.one rfl
theorem cl_rd10 [AgI P T false]:Rd P T (.cells (cla ⟨op,dst,self,frm,val,mv,gas,inp,code,pl,n,stat⟩) E fr) 10 inp:=Rd.one rfl
theorem cl_rd11 [AgI P T false]:Rd P T (.cells (cla ⟨op,dst,self,frm,val,mv,gas,inp,code,pl,n,stat⟩) E fr) 11 code:=Rd.one rfl
theorem cl_rd12 [AgI P T false]:Rd P T (.cells (cla ⟨op,dst,self,frm,val,mv,gas,inp,code,pl,n,stat⟩) E fr) 12 (.int .u64 (pl:Int)):=Rd.one rfl
theorem cl_rd13 [AgI P T false]:Rd P T (.cells (cla ⟨op,dst,self,frm,val,mv,gas,inp,code,pl,n,stat⟩) E fr) 13 (.int .u64 (n:Int)):=Rd.one rfl
theorem cl_rd14 [AgI P T false]:Rd P T (.cells (cla ⟨op,dst,self,frm,val,mv,gas,inp,code,pl,n,stat⟩) E fr) 14 (.bool stat):=Rd.one rfl
theorem cl_rdW {c:ClV} {z:Value} [AgI P T true] [InfoI P T 15 z]:Rd P T (.cells (cla c) E fr) 0 (clv c):=qF rfl
end rd
def okC (c:ClV) (L:ClL):Prop:=(c.op=241∨c.op=244∨c.op=245∨c.op=250)∧(c.gas≤20000∧L.il.length≤1024∧L.cl.length≤200)∧(c.n≤1024∧c.pl+c.n≤1024∧(0 < c.n∨c.pl=0))∧(c.op=245→L.il.length=0∧c.n=0)∧(¬ c.op=245→L.cl.length=0)
instance (c:ClV) (L:ClL):Decidable (okC c L):=by unfold okC;infer_instance
attribute [local irreducible] shq
theorem callCheck_calls (c:ClV) (L:ClL) (w:World) (h:ClRows w c L):Calls Tryz.prog 19 #[clv c] w (Ret w (.int .i64 (if okC c L then 0 else 250))):=by
 obtain ⟨e,he⟩:∃ e:Int,e=if okC c L then 0 else 250:=⟨_,rfl⟩
 have hp:okC c L→e=0:=fun h=>by rw [he,if_pos h]
 have hn:¬ okC c L→e=250:=fun h=>by rw [he,if_neg h]
 rw [← he]
 clear he
 unfold okC at hp hn
 obtain ⟨op,dst,self,frm,val,mv,gas,inp,code,pl,n,stat⟩:=c
 obtain ⟨h10,h11⟩:=h
 dsimp only at h10 h11 hp hn
 obtain ⟨p10,c10,rfl,_,hm10⟩:=h10.form
 obtain ⟨p11,c11,rfl,_,hm11⟩:=h11.form
 have hCk0:∀ w' {fs},St w [] fs w'→Calls Tryz.prog 48 #[.slice p11 L.cl.length c11] w' (Ret w' (.int .i64 (if L.cl.length≤200 then 0 else 3))):=fun w' fs hst=>CheckC_calls _ _ _ w' (h11.st hst)
 simp only [maxLen] at hm10 hm11
 have hSh0:=shaped_calls op
 refine enter (args:=[_]) _ [] [] Tryz.func19 rfl Tryz.ntmps19 rfl (by simp) .nil ?_
 by_cases hop:op=241∨op=244∨op=245∨op=250
 ·have hb:(shq op).2.2.2.2.2=true:=by unfold shq;rcases hop with h|h|h|h<;>subst h<;>rfl
  rw [hb] at hSh0
  have hSh:∀ w,Calls Tryz.prog 47 #[.int .u8 (op:Int)] w (Ret w (.tuple #[.agg (shc op).toArray,.bool true])):=hSh0
  by_cases hc:L.cl.length≤200
  ·rw [if_pos hc] at hCk0
   have hCk:∀ w' {fs},St w [] fs w'→Calls Tryz.prog 48 #[.slice p11 L.cl.length c11] w' (Ret w' (.int .i64 0)):=hCk0
   by_cases h245:op=245
   ·(refine sRz ?_;apply zT;rfl;rfl;intro _;refine vAz<|nSz<|vFz<|ldz rfl .head cl_rd0 ?_;apply zS;rfl;rfl;infer_instance;exact .cons rfl .nil;intro w _;exact hSh w;refine vMz ?_;refine vEz ?_;refine vEz ?_;apply zU;rfl;intro _;refine zR rfl rfl .head (.whole rfl rfl rfl)<|vAz<|nSz<|vMz<|vMz<|gTz<|vFz<|gTz<|ldz rfl (.tail .head) cl_rd9<|gTz<|lvz (.leq rfl rfl)<|pTz<|vMz ?_)
    (refine LW.guardDT rfl rfl rfl (fun hsq hsp=>?_) (fun hsq hsp=>?_))
    (refine vFz<|gTaz<|ldz rfl (.tail .head) cl_rd10<|gTaz<|lvz (.lenR rfl inferInstance rfl)<|gTaz<|lvz (.leq rfl rfl)<|pTaz<|vMz ?_;refine LW.guardDT rfl rfl rfl (fun hsq hsp=>?_) (fun hsq hsp=>?_);refine vFz<|gTaz<|ldz rfl (.tail .head) cl_rd11<|gTaz ?_;apply zS;rfl;rfl;infer_instance;exact .cons rfl .nil;intro w _;exact hCk w (by assumption);refine gTaz ?_;refine lvz (.eqT rfl rfl (by omega)) ?_;refine pTaz<|vAz<|nSz<|vMz<|vMz<|gTz<|vFz<|gTz<|ldz rfl (.tail .head) cl_rd13<|gTz<|lvz (.leq rfl rfl)<|pTz<|vMz ?_;refine LW.guardDT rfl rfl rfl (fun hsq hsp=>?_) (fun hsq hsp=>?_);refine vFz<|gTaz<|ldz rfl (.tail .head) cl_rd12<|gTaz<|vFz<|gTaz<|ldz rfl (.tail .head) cl_rd13<|gTaz ?_;refine lvz (.subNK rfl rfl (by decide) (by omega) (by omega)) ?_;refine gTaz<|lvz (.leq rfl rfl)<|pTaz<|vMz ?_;refine LW.guardDT rfl rfl rfl (fun hsq hsp=>?_) (fun hsq hsp=>?_);refine vFz<|gTaz<|ldz rfl (.tail .head) cl_rd13<|gTaz<|lvz (.gtr rfl rfl)<|gTaz<|vMz ?_;refine LW.guardDF rfl rfl rfl (fun hsq hsp=>?_) (fun hsq hsp=>?_);refine vFz<|gTaz<|ldz rfl (.tail .head) cl_rd12<|gTaz<|lvz (.eq rfl rfl)<|gTaz<|pFaz<|pTaz<|vAz<|nNz<|zI<|sRz<|vFz<|ldz rfl (.tail .head) cl_rd0 ?_;refine lvz (.eqT rfl rfl (by omega)) ?_;refine nNz<|cTz<|zL<|vMz<|vMz ?_;refine LW.guardDT rfl rfl rfl (fun hsq hsp=>?_) (fun hsq hsp=>?_);refine vFz<|gTaz<|ldz rfl (.tail .head) cl_rd10<|gTaz<|lvz (.lenR rfl inferInstance rfl)<|gTaz<|lvz (.eq rfl rfl)<|pTaz<|vMz ?_;refine LW.guardDT rfl rfl rfl (fun hsq hsp=>?_) (fun hsq hsp=>?_);refine vFz<|gTaz<|ldz rfl (.tail .head) cl_rd13<|gTaz ?_;refine lvz (.eqT rfl rfl (by omega)) ?_;refine pTaz<|vAz<|nNz<|zI<|sRz<|vMz ?_;refine lvz (.notT rfl (by with_reducible rfl)) ?_;refine nNz<|cFz<|zJ<|thenN<|sRz<|vAz<|nNz<|zK ?_;apply finR;exact .inl rfl;rfl;rfl;rfl;apply zD;exact zG rfl;exact zF;rw [hp (by omega)];rfl;refine gFaz<|gFaz<|pFaz<|vAz<|nNz<|zI<|sRz<|vMz ?_;refine lvz (.notF rfl (by with_reducible rfl)) ?_;refine nNz<|cTz<|sRz<|vAz<|nNz<|zK ?_;refine thenR (finR (.inl rfl) rfl rfl rfl (.cons (.tmp rfl) .nil) ?_);rw [hn (by omega)];rfl;(iterate 3 refine gFaz ?_);refine pFaz<|vMz ?_;(iterate 3 refine gFz ?_);refine pFz<|vAz<|nNz<|zI<|sRz<|vMz ?_;refine lvz (.notF rfl (by with_reducible rfl)) ?_;refine nNz<|cTz<|sRz<|vAz<|nNz<|zK ?_;refine thenR (finR (.inl rfl) rfl rfl rfl (.cons (.tmp rfl) .nil) ?_);rw [hn (by omega)];rfl;refine gFaz<|gFaz<|gTaz<|pTaz<|pTaz<|vAz<|nNz<|zI<|sRz<|vFz<|ldz rfl (.tail .head) cl_rd0 ?_;refine lvz (.eqT rfl rfl (by omega)) ?_;refine nNz<|cTz<|zL<|vMz<|vMz<|gTz<|vFz<|gTz<|ldz rfl (.tail .head) cl_rd10<|gTz<|lvz (.lenR rfl inferInstance rfl)<|gTz<|lvz (.eq rfl rfl)<|pTz ?_;refine vMz ?_;refine LW.guardDT rfl rfl rfl (fun hsq hsp=>?_) (fun hsq hsp=>?_);refine vFz<|gTaz<|ldz rfl (.tail .head) cl_rd13<|gTaz ?_;refine lvz (.eqF rfl rfl (by omega)) ?_;refine pTaz<|vAz<|nNz<|zI<|sRz<|vMz ?_;refine lvz (.notF rfl (by with_reducible rfl)) ?_;refine nNz<|cTz<|sRz<|vAz<|nNz<|zK ?_;refine thenR (finR (.inl rfl) rfl rfl rfl (.cons (.tmp rfl) .nil) ?_);rw [hn (by omega)];rfl;refine gFaz<|gFaz<|pFaz<|vAz<|nNz<|zI<|sRz<|vMz ?_;refine lvz (.notF rfl (by with_reducible rfl)) ?_;refine nNz<|cTz<|sRz<|vAz<|nNz<|zK ?_;refine thenR (finR (.inl rfl) rfl rfl rfl (.cons (.tmp rfl) .nil) ?_);rw [hn (by omega)];rfl;(iterate 3 refine gFaz ?_);(iterate 3 refine gUz ?_);refine gFaz<|pFaz<|vAz<|nNz<|zI<|sRz<|vFz<|ldz rfl (.tail .head) cl_rd0 ?_;refine lvz (.eqT rfl rfl (by omega)) ?_;refine nNz<|cTz<|zL<|vMz<|vMz ?_;(iterate 4 refine gFz ?_);refine pFz<|vMz ?_;(iterate 3 refine gFz ?_);refine pFz<|vAz<|nNz<|zI<|sRz<|vMz ?_;refine lvz (.notF rfl (by with_reducible rfl)) ?_;refine nNz<|cTz<|sRz<|vAz<|nNz<|zK ?_;refine thenR (finR (.inl rfl) rfl rfl rfl (.cons (.tmp rfl) .nil) ?_);rw [hn (by omega)];rfl;(iterate 5 refine gFaz ?_);refine pFaz<|vMz ?_;(iterate 4 refine gFz ?_);(iterate 3 refine gUz ?_);refine gFz<|pFz<|vAz<|nNz<|zI<|sRz<|vFz<|ldz rfl (.tail .head) cl_rd0 ?_;refine lvz (.eqT rfl rfl (by omega)) ?_;refine nNz<|cTz<|zL<|vMz<|vMz ?_;(iterate 4 refine gFz ?_);refine pFz<|vMz ?_;(iterate 3 refine gFz ?_);refine pFz<|vAz<|nNz<|zI<|sRz<|vMz ?_;refine lvz (.notF rfl (by with_reducible rfl)) ?_;refine nNz<|cTz<|sRz<|vAz<|nNz<|zK ?_;refine thenR (finR (.inl rfl) rfl rfl rfl (.cons (.tmp rfl) .nil) ?_);rw [hn (by omega)];rfl;(iterate 3 refine gFaz ?_);refine pFaz<|vAz<|nSz<|vMz<|vMz ?_;(iterate 3 refine gFz ?_);refine pFz<|vMz ?_;(iterate 6 refine gFz ?_);refine pFz<|vMz ?_;(iterate 4 refine gFz ?_);(iterate 3 refine gUz ?_);refine gFz<|pFz<|vAz<|nNz<|zI<|sRz<|vFz<|ldz rfl (.tail .head) cl_rd0 ?_;refine lvz (.eqT rfl rfl (by omega)) ?_;refine nNz<|cTz<|zL<|vMz<|vMz ?_;(iterate 4 refine gFz ?_);refine pFz<|vMz ?_;(iterate 3 refine gFz ?_);refine pFz<|vAz<|nNz<|zI<|sRz<|vMz ?_;refine lvz (.notF rfl (by with_reducible rfl)) ?_;refine nNz<|cTz<|sRz<|vAz<|nNz<|zK ?_;refine thenR (finR (.inl rfl) rfl rfl rfl (.cons (.tmp rfl) .nil) ?_);rw [hn (by omega)];rfl;(iterate 3 refine gFaz ?_);refine pFaz<|vMz ?_;(iterate 4 refine gFz ?_);refine pFz<|vAz<|nSz<|vMz<|vMz ?_;(iterate 3 refine gFz ?_);refine pFz<|vMz ?_;(iterate 6 refine gFz ?_);refine pFz<|vMz ?_;(iterate 4 refine gFz ?_);(iterate 3 refine gUz ?_);refine gFz<|pFz<|vAz<|nNz<|zI<|sRz<|vFz<|ldz rfl (.tail .head) cl_rd0 ?_;refine lvz (.eqT rfl rfl (by omega)) ?_;refine nNz<|cTz<|zL<|vMz<|vMz ?_;(iterate 4 refine gFz ?_);refine pFz<|vMz ?_;(iterate 3 refine gFz ?_);refine pFz<|vAz<|nNz<|zI<|sRz<|vMz ?_;refine lvz (.notF rfl (by with_reducible rfl)) ?_;refine nNz<|cTz<|sRz<|vAz<|nNz<|zK ?_;refine thenR (finR (.inl rfl) rfl rfl rfl (.cons (.tmp rfl) .nil) ?_);rw [hn (by omega)];rfl)
   ·(refine sRz ?_;apply zT;rfl;rfl;intro _;refine vAz<|nSz<|vFz<|ldz rfl .head cl_rd0 ?_;apply zS;rfl;rfl;infer_instance;exact .cons rfl .nil;intro w _;exact hSh w;refine vMz ?_;refine vEz ?_;refine vEz ?_;apply zU;rfl;intro _;refine zR rfl rfl .head (.whole rfl rfl rfl)<|vAz<|nSz<|vMz<|vMz<|gTz<|vFz<|gTz<|ldz rfl (.tail .head) cl_rd9<|gTz<|lvz (.leq rfl rfl)<|pTz<|vMz ?_)
    (refine LW.guardDT rfl rfl rfl (fun hsq hsp=>?_) (fun hsq hsp=>?_))
    (refine vFz<|gTaz<|ldz rfl (.tail .head) cl_rd10<|gTaz<|lvz (.lenR rfl inferInstance rfl)<|gTaz<|lvz (.leq rfl rfl)<|pTaz<|vMz ?_;refine LW.guardDT rfl rfl rfl (fun hsq hsp=>?_) (fun hsq hsp=>?_);refine vFz<|gTaz<|ldz rfl (.tail .head) cl_rd11<|gTaz ?_;apply zS;rfl;rfl;infer_instance;exact .cons rfl .nil;intro w _;exact hCk w (by assumption);refine gTaz ?_;refine lvz (.eqT rfl rfl (by omega)) ?_;refine pTaz<|vAz<|nSz<|vMz<|vMz<|gTz<|vFz<|gTz<|ldz rfl (.tail .head) cl_rd13<|gTz<|lvz (.leq rfl rfl)<|pTz<|vMz ?_;refine LW.guardDT rfl rfl rfl (fun hsq hsp=>?_) (fun hsq hsp=>?_);refine vFz<|gTaz<|ldz rfl (.tail .head) cl_rd12<|gTaz<|vFz<|gTaz<|ldz rfl (.tail .head) cl_rd13<|gTaz ?_;refine lvz (.subNK rfl rfl (by decide) (by omega) (by omega)) ?_;refine gTaz<|lvz (.leq rfl rfl)<|pTaz<|vMz ?_;refine LW.guardDT rfl rfl rfl (fun hsq hsp=>?_) (fun hsq hsp=>?_);refine vFz<|gTaz<|ldz rfl (.tail .head) cl_rd13<|gTaz<|lvz (.gtr rfl rfl)<|gTaz<|vMz ?_;refine LW.guardDF rfl rfl rfl (fun hsq hsp=>?_) (fun hsq hsp=>?_);refine vFz<|gTaz<|ldz rfl (.tail .head) cl_rd12<|gTaz<|lvz (.eq rfl rfl)<|gTaz<|pFaz<|pTaz<|vAz<|nNz<|zI<|sRz<|vFz<|ldz rfl (.tail .head) cl_rd0 ?_;refine lvz (.eqF rfl rfl (by omega)) ?_;refine nNz<|cFz<|zL<|vMz<|vMz ?_;refine LW.guardDT rfl rfl rfl (fun hsq hsp=>?_) (fun hsq hsp=>?_);refine vFz<|gTaz<|ldz rfl (.tail .head) cl_rd11<|gTaz<|lvz (.lenR rfl inferInstance rfl)<|gTaz<|lvz (.eq rfl rfl)<|pTaz<|vAz<|nNz<|zI<|sRz<|vMz<|lvz (.notB rfl) ?_;refine nNz ?_;refine CW.condN rfl (fun hsq hsp=>?_) (fun hsq hsp=>?_);refine sRz<|vAz<|nNz<|zK ?_;refine thenR (finR (.inl rfl) rfl rfl rfl (.cons (.tmp rfl) .nil) ?_);rw [hn (by omega)];rfl;refine zJ<|thenN<|sRz<|vAz<|nNz<|zK ?_;apply finR;exact .inl rfl;rfl;rfl;rfl;apply zD;exact zG rfl;exact zF;rw [hp (by omega)];rfl;(iterate 3 refine gFaz ?_);refine pFaz<|vAz<|nNz<|zI<|sRz<|vMz ?_;refine lvz (.notF rfl (by with_reducible rfl)) ?_;refine nNz<|cTz<|sRz<|vAz<|nNz<|zK ?_;refine thenR (finR (.inl rfl) rfl rfl rfl (.cons (.tmp rfl) .nil) ?_);rw [hn (by omega)];rfl;refine gFaz<|gFaz<|gTaz<|pTaz<|pTaz<|vAz<|nNz<|zI<|sRz<|vFz<|ldz rfl (.tail .head) cl_rd0 ?_;refine lvz (.eqF rfl rfl (by omega)) ?_;refine nNz<|cFz<|zL<|vMz<|vMz<|gTz<|vFz<|gTz<|ldz rfl (.tail .head) cl_rd11<|gTz<|lvz (.lenR rfl inferInstance rfl)<|gTz<|lvz (.eq rfl rfl)<|pTz ?_;refine vAz<|nNz<|zI<|sRz<|vMz<|lvz (.notB rfl)<|nNz ?_;refine CW.condN rfl (fun hsq hsp=>?_) (fun hsq hsp=>?_);refine sRz<|vAz<|nNz<|zK ?_;refine thenR (finR (.inl rfl) rfl rfl rfl (.cons (.tmp rfl) .nil) ?_);rw [hn (by omega)];rfl;refine zJ<|thenN<|sRz<|vAz<|nNz<|zK ?_;apply finR;exact .inl rfl;rfl;rfl;rfl;apply zD;exact zG rfl;exact zF;rw [hp (by omega)];rfl;(iterate 3 refine gFaz ?_);(iterate 3 refine gUz ?_);refine gFaz<|pFaz<|vAz<|nNz<|zI<|sRz<|vFz<|ldz rfl (.tail .head) cl_rd0 ?_;refine lvz (.eqF rfl rfl (by omega)) ?_;refine nNz<|cFz<|zL<|vMz<|vMz ?_;(iterate 4 refine gFz ?_);refine pFz<|vAz<|nNz<|zI<|sRz<|vMz ?_;refine lvz (.notF rfl (by with_reducible rfl)) ?_;refine nNz<|cTz<|sRz<|vAz<|nNz<|zK ?_;refine thenR (finR (.inl rfl) rfl rfl rfl (.cons (.tmp rfl) .nil) ?_);rw [hn (by omega)];rfl;(iterate 5 refine gFaz ?_);refine pFaz<|vMz ?_;(iterate 4 refine gFz ?_);(iterate 3 refine gUz ?_);refine gFz<|pFz<|vAz<|nNz<|zI<|sRz<|vFz<|ldz rfl (.tail .head) cl_rd0 ?_;refine lvz (.eqF rfl rfl (by omega)) ?_;refine nNz<|cFz<|zL<|vMz<|vMz ?_;(iterate 4 refine gFz ?_);refine pFz<|vAz<|nNz<|zI<|sRz<|vMz ?_;refine lvz (.notF rfl (by with_reducible rfl)) ?_;refine nNz<|cTz<|sRz<|vAz<|nNz<|zK ?_;refine thenR (finR (.inl rfl) rfl rfl rfl (.cons (.tmp rfl) .nil) ?_);rw [hn (by omega)];rfl;(iterate 3 refine gFaz ?_);refine pFaz<|vAz<|nSz<|vMz<|vMz ?_;(iterate 3 refine gFz ?_);refine pFz<|vMz ?_;(iterate 6 refine gFz ?_);refine pFz<|vMz ?_;(iterate 4 refine gFz ?_);(iterate 3 refine gUz ?_);refine gFz<|pFz<|vAz<|nNz<|zI<|sRz<|vFz<|ldz rfl (.tail .head) cl_rd0 ?_;refine lvz (.eqF rfl rfl (by omega)) ?_;refine nNz<|cFz<|zL<|vMz<|vMz ?_;(iterate 4 refine gFz ?_);refine pFz<|vAz<|nNz<|zI<|sRz<|vMz ?_;refine lvz (.notF rfl (by with_reducible rfl)) ?_;refine nNz<|cTz<|sRz<|vAz<|nNz<|zK ?_;refine thenR (finR (.inl rfl) rfl rfl rfl (.cons (.tmp rfl) .nil) ?_);rw [hn (by omega)];rfl;(iterate 3 refine gFaz ?_);refine pFaz<|vMz ?_;(iterate 4 refine gFz ?_);refine pFz<|vAz<|nSz<|vMz<|vMz ?_;(iterate 3 refine gFz ?_);refine pFz<|vMz ?_;(iterate 6 refine gFz ?_);refine pFz<|vMz ?_;(iterate 4 refine gFz ?_);(iterate 3 refine gUz ?_);refine gFz<|pFz<|vAz<|nNz<|zI<|sRz<|vFz<|ldz rfl (.tail .head) cl_rd0 ?_;refine lvz (.eqF rfl rfl (by omega)) ?_;refine nNz<|cFz<|zL<|vMz<|vMz ?_;(iterate 4 refine gFz ?_);refine pFz<|vAz<|nNz<|zI<|sRz<|vMz ?_;refine lvz (.notF rfl (by with_reducible rfl)) ?_;refine nNz<|cTz<|sRz<|vAz<|nNz<|zK ?_;refine thenR (finR (.inl rfl) rfl rfl rfl (.cons (.tmp rfl) .nil) ?_);rw [hn (by omega)];rfl)
  ·rw [if_neg hc] at hCk0
   have hCk:∀ w' {fs},St w [] fs w'→Calls Tryz.prog 48 #[.slice p11 L.cl.length c11] w' (Ret w' (.int .i64 3)):=hCk0
   rw [hn (fun h=>hc h.2.1.2.2)] at *
   clear hp hn
   by_cases h245:op=245
   ·(refine sRz ?_;apply zT;rfl;rfl;intro _;refine vAz<|nSz<|vFz<|ldz rfl .head cl_rd0 ?_;apply zS;rfl;rfl;infer_instance;exact .cons rfl .nil;intro w _;exact hSh w;refine vMz ?_;refine vEz ?_;refine vEz ?_;apply zU;rfl;intro _;refine zR rfl rfl .head (.whole rfl rfl rfl)<|vAz<|nSz<|vMz<|vMz<|gTz<|vFz<|gTz<|ldz rfl (.tail .head) cl_rd9<|gTz<|lvz (.leq rfl rfl)<|pTz<|vMz ?_)
    (refine LW.guardDT rfl rfl rfl (fun hsq hsp=>?_) (fun hsq hsp=>?_))
    (refine vFz<|gTaz<|ldz rfl (.tail .head) cl_rd10<|gTaz<|lvz (.lenR rfl inferInstance rfl)<|gTaz<|lvz (.leq rfl rfl)<|pTaz<|vMz ?_;refine LW.guardDT rfl rfl rfl (fun hsq hsp=>?_) (fun hsq hsp=>?_);refine vFz<|gTaz<|ldz rfl (.tail .head) cl_rd11<|gTaz ?_;apply zS;rfl;rfl;infer_instance;exact .cons rfl .nil;intro w _;exact hCk w (by assumption);refine gTaz ?_;refine lvz (.eqF rfl rfl (by omega)) ?_;refine pTaz<|vAz<|nSz<|vMz<|vMz ?_;(iterate 3 refine gFz ?_);refine pFz<|vMz ?_;(iterate 6 refine gFz ?_);refine pFz<|vMz ?_;(iterate 4 refine gFz ?_);(iterate 3 refine gUz ?_);refine gFz<|pFz<|vAz<|nNz<|zI<|sRz<|vFz<|ldz rfl (.tail .head) cl_rd0 ?_;refine lvz (.eqT rfl rfl (by omega)) ?_;refine nNz<|cTz<|zL<|vMz<|vMz ?_;(iterate 4 refine gFz ?_);refine pFz<|vMz ?_;(iterate 3 refine gFz ?_);refine pFz<|vAz<|nNz<|zI<|sRz<|vMz ?_;refine lvz (.notF rfl (by with_reducible rfl)) ?_;refine nNz<|cTz<|sRz<|vAz<|nNz<|zK ?_;refine thenR (finR (.inl rfl) rfl rfl rfl (.cons (.tmp rfl) .nil) ?_);rfl;(iterate 3 refine gFaz ?_);refine pFaz<|vAz<|nSz<|vMz<|vMz ?_;(iterate 3 refine gFz ?_);refine pFz<|vMz ?_;(iterate 6 refine gFz ?_);refine pFz<|vMz ?_;(iterate 4 refine gFz ?_);(iterate 3 refine gUz ?_);refine gFz<|pFz<|vAz<|nNz<|zI<|sRz<|vFz<|ldz rfl (.tail .head) cl_rd0 ?_;refine lvz (.eqT rfl rfl (by omega)) ?_;refine nNz<|cTz<|zL<|vMz<|vMz ?_;(iterate 4 refine gFz ?_);refine pFz<|vMz ?_;(iterate 3 refine gFz ?_);refine pFz<|vAz<|nNz<|zI<|sRz<|vMz ?_;refine lvz (.notF rfl (by with_reducible rfl)) ?_;refine nNz<|cTz<|sRz<|vAz<|nNz<|zK ?_;refine thenR (finR (.inl rfl) rfl rfl rfl (.cons (.tmp rfl) .nil) ?_);rfl;(iterate 3 refine gFaz ?_);refine pFaz<|vMz ?_;(iterate 4 refine gFz ?_);refine pFz<|vAz<|nSz<|vMz<|vMz ?_;(iterate 3 refine gFz ?_);refine pFz<|vMz ?_;(iterate 6 refine gFz ?_);refine pFz<|vMz ?_;(iterate 4 refine gFz ?_);(iterate 3 refine gUz ?_);refine gFz<|pFz<|vAz<|nNz<|zI<|sRz<|vFz<|ldz rfl (.tail .head) cl_rd0 ?_;refine lvz (.eqT rfl rfl (by omega)) ?_;refine nNz<|cTz<|zL<|vMz<|vMz ?_;(iterate 4 refine gFz ?_);refine pFz<|vMz ?_;(iterate 3 refine gFz ?_);refine pFz<|vAz<|nNz<|zI<|sRz<|vMz ?_;refine lvz (.notF rfl (by with_reducible rfl)) ?_;refine nNz<|cTz<|sRz<|vAz<|nNz<|zK ?_;refine thenR (finR (.inl rfl) rfl rfl rfl (.cons (.tmp rfl) .nil) ?_);rfl)
   ·(refine sRz ?_;apply zT;rfl;rfl;intro _;refine vAz<|nSz<|vFz<|ldz rfl .head cl_rd0 ?_;apply zS;rfl;rfl;infer_instance;exact .cons rfl .nil;intro w _;exact hSh w;refine vMz ?_;refine vEz ?_;refine vEz ?_;apply zU;rfl;intro _;refine zR rfl rfl .head (.whole rfl rfl rfl)<|vAz<|nSz<|vMz<|vMz<|gTz<|vFz<|gTz<|ldz rfl (.tail .head) cl_rd9<|gTz<|lvz (.leq rfl rfl)<|pTz<|vMz ?_)
    (refine LW.guardDT rfl rfl rfl (fun hsq hsp=>?_) (fun hsq hsp=>?_))
    (refine vFz<|gTaz<|ldz rfl (.tail .head) cl_rd10<|gTaz<|lvz (.lenR rfl inferInstance rfl)<|gTaz<|lvz (.leq rfl rfl)<|pTaz<|vMz ?_;refine LW.guardDT rfl rfl rfl (fun hsq hsp=>?_) (fun hsq hsp=>?_);refine vFz<|gTaz<|ldz rfl (.tail .head) cl_rd11<|gTaz ?_;apply zS;rfl;rfl;infer_instance;exact .cons rfl .nil;intro w _;exact hCk w (by assumption);refine gTaz ?_;refine lvz (.eqF rfl rfl (by omega)) ?_;refine pTaz<|vAz<|nSz<|vMz<|vMz ?_;(iterate 3 refine gFz ?_);refine pFz<|vMz ?_;(iterate 6 refine gFz ?_);refine pFz<|vMz ?_;(iterate 4 refine gFz ?_);(iterate 3 refine gUz ?_);refine gFz<|pFz<|vAz<|nNz<|zI<|sRz<|vFz<|ldz rfl (.tail .head) cl_rd0 ?_;refine lvz (.eqF rfl rfl (by omega)) ?_;refine nNz<|cFz<|zL<|vMz<|vMz ?_;(iterate 4 refine gFz ?_);refine pFz<|vAz<|nNz<|zI<|sRz<|vMz ?_;refine lvz (.notF rfl (by with_reducible rfl)) ?_;refine nNz<|cTz<|sRz<|vAz<|nNz<|zK ?_;refine thenR (finR (.inl rfl) rfl rfl rfl (.cons (.tmp rfl) .nil) ?_);rfl;(iterate 3 refine gFaz ?_);refine pFaz<|vAz<|nSz<|vMz<|vMz ?_;(iterate 3 refine gFz ?_);refine pFz<|vMz ?_;(iterate 6 refine gFz ?_);refine pFz<|vMz ?_;(iterate 4 refine gFz ?_);(iterate 3 refine gUz ?_);refine gFz<|pFz<|vAz<|nNz<|zI<|sRz<|vFz<|ldz rfl (.tail .head) cl_rd0 ?_;refine lvz (.eqF rfl rfl (by omega)) ?_;refine nNz<|cFz<|zL<|vMz<|vMz ?_;(iterate 4 refine gFz ?_);refine pFz<|vAz<|nNz<|zI<|sRz<|vMz ?_;refine lvz (.notF rfl (by with_reducible rfl)) ?_;refine nNz<|cTz<|sRz<|vAz<|nNz<|zK ?_;refine thenR (finR (.inl rfl) rfl rfl rfl (.cons (.tmp rfl) .nil) ?_);rfl;(iterate 3 refine gFaz ?_);refine pFaz<|vMz ?_;(iterate 4 refine gFz ?_);refine pFz<|vAz<|nSz<|vMz<|vMz ?_;(iterate 3 refine gFz ?_);refine pFz<|vMz ?_;(iterate 6 refine gFz ?_);refine pFz<|vMz ?_;(iterate 4 refine gFz ?_);(iterate 3 refine gUz ?_);refine gFz<|pFz<|vAz<|nNz<|zI<|sRz<|vFz<|ldz rfl (.tail .head) cl_rd0 ?_;refine lvz (.eqF rfl rfl (by omega)) ?_;refine nNz<|cFz<|zL<|vMz<|vMz ?_;(iterate 4 refine gFz ?_);refine pFz<|vAz<|nNz<|zI<|sRz<|vMz ?_;refine lvz (.notF rfl (by with_reducible rfl)) ?_;refine nNz<|cTz<|sRz<|vAz<|nNz<|zK ?_;refine thenR (finR (.inl rfl) rfl rfl rfl (.cons (.tmp rfl) .nil) ?_);rfl)
 ·have hb:(shq op).2.2.2.2.2=false:=by unfold shq;rw [if_neg (by omega),if_neg (by omega),if_neg (by omega)]
  rw [hb] at hSh0
  have hSh:∀ w,Calls Tryz.prog 47 #[.int .u8 (op:Int)] w (Ret w (.tuple #[.agg (shc op).toArray,.bool false])):=hSh0
  rw [hn (fun h=>hop h.1)]
  clear hp hn
  have h245:¬ op=245:=by omega
  (refine sRz ?_;apply zT;rfl;rfl;intro _;refine vAz<|nSz<|vFz<|ldz rfl .head cl_rd0 ?_;apply zS;rfl;rfl;infer_instance;exact .cons rfl .nil;intro w _;exact hSh w;refine vMz ?_;refine vEz ?_;refine vEz ?_;apply zU;rfl;intro _;refine zR rfl rfl .head (.whole rfl rfl rfl)<|vAz<|nSz<|vMz<|vMz ?_;(iterate 3 refine gFz ?_);refine pFz<|vMz ?_;(iterate 4 refine gFz ?_);refine pFz<|vMz ?_;(iterate 4 refine gFz ?_);refine pFz<|vAz<|nSz<|vMz<|vMz ?_;(iterate 3 refine gFz ?_);refine pFz<|vMz ?_;(iterate 6 refine gFz ?_);refine pFz<|vMz ?_;(iterate 4 refine gFz ?_);(iterate 3 refine gUz ?_);refine gFz<|pFz<|vAz<|nNz<|zI<|sRz<|vFz<|ldz rfl (.tail .head) cl_rd0 ?_;refine lvz (.eqF rfl rfl (by omega)) ?_;refine nNz<|cFz<|zL<|vMz<|vMz ?_;(iterate 4 refine gFz ?_);refine pFz<|vAz<|nNz<|zI<|sRz<|vMz ?_;refine lvz (.notF rfl (by with_reducible rfl)) ?_;refine nNz<|cTz<|sRz<|vAz<|nNz<|zK<|thenR ?_)
  (apply finR;exact .inl rfl;rfl;rfl;rfl;apply zD;exact zG rfl;exact zF)
  rfl
end
theorem sEqW_calls (a b:List Nat) (hwa:∀ x∈a,x < M256) (hwb:∀ x∈b,x < M256) (va vb:Value) (w:World) (ha:RowAt w 4 va a.length (wcs a)) (hb:RowAt w 4 vb b.length (wcs b)):Calls Tryz.prog 30 #[va,vb] w (Ret w (.bool (decide (a=b)))):=by
 obtain ⟨p0,c0,rfl,hc0,hm0⟩:=ha.form
 obtain ⟨p1,c1,rfl,hc1,hm1⟩:=hb.form
 simp only [maxLen] at hm0 hm1
 refine enter (args:=[_,_]) _ [] [] Tryz.func30 rfl Tryz.ntmps30 rfl (by simp) .nil ?_
 by_cases hl:a.length=b.length
 ·(refine sRz<|vAz<|nNz<|zI<|sRz<|vMz<|lvz (.lenR rfl inferInstance rfl)<|vMz<|lvz (.lenR rfl inferInstance rfl) ?_;refine lvz (.neF rfl rfl (by omega)) ?_;refine nNz<|cFz<|zJ<|thenN<|zI<|sRz<|vMz<|lvz (.lenR rfl inferInstance rfl)<|vMz<|nNz<|zM ?_)
  refine CW.loop (fun k:Nat=>([(0,.slice p0 a.length c0),(1,.slice p1 b.length c1),(12,.int .i64 (a.length:Int)),(13,.int .i64 (k:Int))],[]))
   (fun k=>k≤a.length∧∀ j,j < k→a[j]?=b[j]?) (fun k=>a.length - k) 0 ⟨Nat.zero_le _,fun j h=>absurd h (Nat.not_lt_zero _)⟩ ⟨rfl,rfl,rfl,rfl,trivial⟩ (qM _) ?_
  rintro k ⟨hk,hall⟩
  dsimp only
  rcases Nat.lt_or_ge k a.length with hlt|hge
  ·obtain ⟨b1,off1,c',cs1,E1,fr1,heq,hbk1,hx1⟩:=ha.pos (by omega)
   cases heq
   obtain ⟨b2,off2,c',cs2,E2,fr2,heq,hbk2,hx2⟩:=hb.pos (by omega)
   cases heq
   have hlt2:k < b.length:=by omega
   obtain ⟨x,hx⟩:∃ x,a[k]=x:=⟨_,rfl⟩
   obtain ⟨y,hy⟩:∃ y,b[k]=y:=⟨_,rfl⟩
   have hxl:x < M256:=by rw [← hx];exact hwa _ (List.getElem_mem hlt)
   have hyl:y < M256:=by rw [← hy];exact hwb _ (List.getElem_mem hlt2)
   have hrd1:Rd Tryz.prog 29 (.cells cs1 E1 fr1) (off1+k * 4) (wv x):=by have h:=word_rd (P:=Tryz.prog) (T:=29) (E:=E1) (fr:=fr1) hx1 k hlt;rwa [List.getD_eq_getElem?_getD,List.getElem?_eq_getElem hlt,Option.getD_some,hx] at h
   have hrd2:Rd Tryz.prog 29 (.cells cs2 E2 fr2) (off2+k * 4) (wv y):=by have h:=word_rd (P:=Tryz.prog) (T:=29) (E:=E2) (fr:=fr2) hx2 k hlt2;rwa [List.getD_eq_getElem?_getD,List.getElem?_eq_getElem hlt2,Option.getD_some,hy] at h
   by_cases he:x=y
   ·subst he
    (refine sRz ?_;refine lvz (.lssT rfl rfl (by omega)) ?_;refine nNz<|zI<|cTz<|zJ<|thenN<|zI<|zM<|sRz<|vMz<|vAz<|nNz<|zI ?_;refine CW.quiet rfl mixed (by decide +kernel) ?_;apply QW.v0;rfl;exact zC;apply ValP.move;rfl;apply QW.v0;rfl;exact zC;apply ValP.move;rfl;apply QW.v0;rfl;exact zC;apply ValP.indexAddrS;rfl;rfl;rfl;omega;apply QW.load;rfl;exact zC;rfl;exact Known.ext (by assumption) (by simp);assumption;apply QW.v0;rfl;exact zC;apply ValP.move;rfl;apply QW.v0;rfl;exact zC;apply ValP.move;rfl;apply QW.v0;rfl;exact zC;apply ValP.indexAddrS;rfl;rfl;rfl;omega;apply QW.load;rfl;exact zC;rfl;exact Known.ext (by assumption) (by simp);assumption;apply QW.v0;rfl;exact zC;apply ValP.neWF;rfl;rfl;(with_reducible rfl);refine QW.nil<|thenN<|cFz<|zJ<|blkN<|thenN<|zL ?_;refine lvz (.addZL rfl rfl (by decide) (by omega)) ?_;refine vMz ?_;apply zV)
    apply thenX
    refine ⟨rfl,k+1,⟨hlt,fun j hj=>?_⟩,by omega,⟨rfl,rfl,rfl,rfl,trivial⟩,qM _⟩
    rcases Nat.lt_or_ge j k with h|h
    ·exact hall j h
    ·obtain rfl:j=k:=by omega
     rw [List.getElem?_eq_getElem hlt,List.getElem?_eq_getElem hlt2,hx,hy]
   ·have hne:=he
    rw [decide_eq_false (fun h:a=b=>he (by rw [← hx,← hy];subst h;rfl))]
    (refine sRz ?_;refine lvz (.lssT rfl rfl (by omega)) ?_;refine nNz<|zI<|cTz<|zJ<|thenN<|zI<|zM<|sRz<|vMz<|vAz<|nNz<|zI ?_;refine CW.quiet rfl mixed (by decide +kernel) ?_;apply QW.v0;rfl;exact zC;apply ValP.move;rfl;apply QW.v0;rfl;exact zC;apply ValP.move;rfl;apply QW.v0;rfl;exact zC;apply ValP.indexAddrS;rfl;rfl;rfl;omega;apply QW.load;rfl;exact zC;rfl;exact Known.ext (by assumption) (by simp);assumption;apply QW.v0;rfl;exact zC;apply ValP.move;rfl;apply QW.v0;rfl;exact zC;apply ValP.move;rfl;apply QW.v0;rfl;exact zC;apply ValP.indexAddrS;rfl;rfl;rfl;omega;apply QW.load;rfl;exact zC;rfl;exact Known.ext (by assumption) (by simp);assumption;apply QW.v0;rfl;exact zC;apply ValP.neWT;rfl;rfl;assumption;assumption;assumption;refine QW.nil<|thenN<|cTz<|sRz<|vAz<|nNz<|zK<|blkR<|thenR<|thenR<|blkR<|thenR ?_)
    (apply finR;exact .inl rfl;rfl;rfl;rfl;apply zD;exact zG rfl;exact zF)
    rfl
  ·rw [decide_eq_true (List.ext_getElem? fun j=>by
    rcases Nat.lt_or_ge j k with h|h
    ·exact hall j h
    ·rw [List.getElem?_eq_none (by omega),List.getElem?_eq_none (by omega)])]
   (refine sRz ?_;refine lvz (.lssF rfl rfl (by omega)) ?_;refine nNz<|zI<|cFz<|CW.exit<|thenE<|thenE<|blkE rfl<|thenN<|sRz<|vAz<|nNz<|zK ?_)
   (apply finR;exact .inl rfl;rfl;rfl;rfl;apply zD;exact zG rfl;exact zF)
   rfl
 ·rw [decide_eq_false (fun h:a=b=>hl (by rw [h]))]
  (refine sRz<|vAz<|nNz<|zI<|sRz<|vMz<|lvz (.lenR rfl inferInstance rfl)<|vMz<|lvz (.lenR rfl inferInstance rfl) ?_;refine lvz (.neT rfl rfl (by omega)) ?_;refine nNz<|cTz<|sRz<|vAz<|nNz<|zK<|thenR ?_)
  (apply finR;exact .inl rfl;rfl;rfl;rfl;apply zD;exact zG rfl;exact zF)
  rfl
theorem rSame1_calls (a b:List UInt8) (va vb:Value) (w:World) (ha:RowAt w 1 va a.length (ucs a)) (hb:RowAt w 1 vb b.length (ucs b)):Calls Tryz.prog 45 #[va,vb] w (Ret w (.bool (decide (a=b)))):=by
 obtain ⟨p0,c0,rfl,hc0,hm0⟩:=ha.form
 obtain ⟨p1,c1,rfl,hc1,hm1⟩:=hb.form
 simp only [maxLen] at hm0 hm1
 refine enter (args:=[_,_]) _ [] [] Tryz.func45 rfl Tryz.ntmps45 rfl (by simp) .nil ?_
 by_cases hl:a.length=b.length
 ·(refine sRz<|vAz<|nNz<|zI<|sRz<|vMz<|lvz (.lenR rfl inferInstance rfl)<|vMz<|lvz (.lenR rfl inferInstance rfl) ?_;refine lvz (.neF rfl rfl (by omega)) ?_;refine nNz<|cFz<|zJ<|thenN<|zI<|sRz<|vMz<|lvz (.lenR rfl inferInstance rfl)<|vMz<|nNz<|zM ?_)
  refine CW.loop (fun k:Nat=>([(0,.slice p0 a.length c0),(1,.slice p1 b.length c1),(12,.int .i64 (a.length:Int)),(13,.int .i64 (k:Int))],[]))
   (fun k=>k≤a.length∧∀ j,j < k→a[j]?=b[j]?) (fun k=>a.length - k) 0 ⟨Nat.zero_le _,fun j h=>absurd h (Nat.not_lt_zero _)⟩ ⟨rfl,rfl,rfl,rfl,trivial⟩ (qM _) ?_
  rintro k ⟨hk,hall⟩
  dsimp only
  rcases Nat.lt_or_ge k a.length with hlt|hge
  ·obtain ⟨b1,off1,c',cs1,E1,fr1,heq,hbk1,hx1⟩:=ha.pos (by omega)
   cases heq
   obtain ⟨b2,off2,c',cs2,E2,fr2,heq,hbk2,hx2⟩:=hb.pos (by omega)
   cases heq
   have hlt2:k < b.length:=by omega
   obtain ⟨x,hx⟩:∃ x,a[k]=x:=⟨_,rfl⟩
   obtain ⟨y,hy⟩:∃ y,b[k]=y:=⟨_,rfl⟩
   have hrd1:Rd Tryz.prog 5 (.cells cs1 E1 fr1) (off1+k * 1) (.int .u8 (x.toNat:Int)):=Rd.elem1 hx1 (ucs_one a) (List.getElem?_eq_getElem hlt) (by rw [hx])
   have hrd2:Rd Tryz.prog 5 (.cells cs2 E2 fr2) (off2+k * 1) (.int .u8 (y.toNat:Int)):=Rd.elem1 hx2 (ucs_one b) (List.getElem?_eq_getElem hlt2) (by rw [hy])
   by_cases he:x=y
   ·subst he
    (refine sRz ?_;refine lvz (.lssT rfl rfl (by omega)) ?_;refine nNz<|zI<|cTz<|zJ<|thenN<|zI<|zM<|sRz<|vMz<|vAz<|nNz<|zI ?_;refine CW.quiet rfl mixed (by decide +kernel) ?_;apply QW.v0;rfl;exact zC;apply ValP.move;rfl;apply QW.v0;rfl;exact zC;apply ValP.move;rfl;apply QW.v0;rfl;exact zC;apply ValP.indexAddrS;rfl;rfl;rfl;omega;apply QW.load;rfl;exact zC;rfl;exact Known.ext (by assumption) (by simp);assumption;apply QW.v0;rfl;exact zC;apply ValP.move;rfl;apply QW.v0;rfl;exact zC;apply ValP.move;rfl;apply QW.v0;rfl;exact zC;apply ValP.indexAddrS;rfl;rfl;rfl;omega;apply QW.load;rfl;exact zC;rfl;exact Known.ext (by assumption) (by simp);assumption;apply QW.v0;rfl;exact zC;apply ValP.neF;rfl;rfl;omega;refine QW.nil<|thenN<|cFz<|zJ<|blkN<|thenN<|zL ?_;refine lvz (.addZL rfl rfl (by decide) (by omega)) ?_;refine vMz ?_;apply zV)
    apply thenX
    refine ⟨rfl,k+1,⟨hlt,fun j hj=>?_⟩,by omega,⟨rfl,rfl,rfl,rfl,trivial⟩,qM _⟩
    rcases Nat.lt_or_ge j k with h|h
    ·exact hall j h
    ·obtain rfl:j=k:=by omega
     rw [List.getElem?_eq_getElem hlt,List.getElem?_eq_getElem hlt2,hx,hy]
   ·have hne:¬ (x.toNat:Int)=(y.toNat:Int):=fun h=>he (UInt8.toNat_inj.1 (by omega))
    rw [decide_eq_false (fun h:a=b=>he (by rw [← hx,← hy];subst h;rfl))]
    (refine sRz ?_;refine lvz (.lssT rfl rfl (by omega)) ?_;refine nNz<|zI<|cTz<|zJ<|thenN<|zI<|zM<|sRz<|vMz<|vAz<|nNz<|zI ?_;refine CW.quiet rfl mixed (by decide +kernel) ?_;apply QW.v0;rfl;exact zC;apply ValP.move;rfl;apply QW.v0;rfl;exact zC;apply ValP.move;rfl;apply QW.v0;rfl;exact zC;apply ValP.indexAddrS;rfl;rfl;rfl;omega;apply QW.load;rfl;exact zC;rfl;exact Known.ext (by assumption) (by simp);assumption;apply QW.v0;rfl;exact zC;apply ValP.move;rfl;apply QW.v0;rfl;exact zC;apply ValP.move;rfl;apply QW.v0;rfl;exact zC;apply ValP.indexAddrS;rfl;rfl;rfl;omega;apply QW.load;rfl;exact zC;rfl;exact Known.ext (by assumption) (by simp);assumption;apply QW.v0;rfl;exact zC;apply ValP.neT;rfl;rfl;omega;refine QW.nil<|thenN<|cTz<|sRz<|vAz<|nNz<|zK<|blkR<|thenR<|thenR<|blkR<|thenR ?_)
    (apply finR;exact .inl rfl;rfl;rfl;rfl;apply zD;exact zG rfl;exact zF)
    rfl
  ·rw [decide_eq_true (List.ext_getElem? fun j=>by
    rcases Nat.lt_or_ge j k with h|h
    ·exact hall j h
    ·rw [List.getElem?_eq_none (by omega),List.getElem?_eq_none (by omega)])]
   (refine sRz ?_;refine lvz (.lssF rfl rfl (by omega)) ?_;refine nNz<|zI<|cFz<|CW.exit<|thenE<|thenE<|blkE rfl<|thenN<|sRz<|vAz<|nNz<|zK ?_)
   (apply finR;exact .inl rfl;rfl;rfl;rfl;apply zD;exact zG rfl;exact zF)
   rfl
 ·rw [decide_eq_false (fun h:a=b=>hl (by rw [h]))]
  (refine sRz<|vAz<|nNz<|zI<|sRz<|vMz<|lvz (.lenR rfl inferInstance rfl)<|vMz<|lvz (.lenR rfl inferInstance rfl) ?_;refine lvz (.neT rfl rfl (by omega)) ?_;refine nNz<|cTz<|sRz<|vAz<|nNz<|zK<|thenR ?_)
  (apply finR;exact .inl rfl;rfl;rfl;rfl;apply zD;exact zG rfl;exact zF)
  rfl
theorem rSameB_calls (a b:List UInt8) (va vb:Value) (w:World) (ha:RowAt w 1 va a.length (ucs a)) (hb:RowAt w 1 vb b.length (ucs b)):Calls Tryz.prog 83 #[va,vb] w (Ret w (.bool (decide (a=b)))):=by
 obtain ⟨p0,c0,rfl,hc0,hm0⟩:=ha.form
 obtain ⟨p1,c1,rfl,hc1,hm1⟩:=hb.form
 simp only [maxLen] at hm0 hm1
 refine enter (args:=[_,_]) _ [] [] Tryz.func83 rfl Tryz.ntmps83 rfl (by simp) .nil ?_
 by_cases hl:a.length=b.length
 ·(refine sRz<|vAz<|nNz<|zI<|sRz<|vMz<|lvz (.lenR rfl inferInstance rfl)<|vMz<|lvz (.lenR rfl inferInstance rfl) ?_;refine lvz (.neF rfl rfl (by omega)) ?_;refine nNz<|cFz<|zJ<|thenN<|zI<|sRz<|vAz<|nNz<|zM ?_)
  refine CW.loop (fun k:Nat=>([(0,.slice p0 a.length c0),(1,.slice p1 b.length c1),(4,.bool false),(5,.int .i64 (k:Int))],[]))
   (fun k=>k≤a.length∧∀ j,j < k→a[j]?=b[j]?) (fun k=>a.length - k) 0 ⟨Nat.zero_le _,fun j h=>absurd h (Nat.not_lt_zero _)⟩ ⟨rfl,rfl,rfl,rfl,trivial⟩ (qM _) ?_
  rintro k ⟨hk,hall⟩
  dsimp only
  rcases Nat.lt_or_ge k a.length with hlt|hge
  ·obtain ⟨b1,off1,c',cs1,E1,fr1,heq,hbk1,hx1⟩:=ha.pos (by omega)
   cases heq
   obtain ⟨b2,off2,c',cs2,E2,fr2,heq,hbk2,hx2⟩:=hb.pos (by omega)
   cases heq
   have hlt2:k < b.length:=by omega
   obtain ⟨x,hx⟩:∃ x,a[k]=x:=⟨_,rfl⟩
   obtain ⟨y,hy⟩:∃ y,b[k]=y:=⟨_,rfl⟩
   have hrd1:Rd Tryz.prog 5 (.cells cs1 E1 fr1) (off1+k * 1) (.int .u8 (x.toNat:Int)):=Rd.elem1 hx1 (ucs_one a) (List.getElem?_eq_getElem hlt) (by rw [hx])
   have hrd2:Rd Tryz.prog 5 (.cells cs2 E2 fr2) (off2+k * 1) (.int .u8 (y.toNat:Int)):=Rd.elem1 hx2 (ucs_one b) (List.getElem?_eq_getElem hlt2) (by rw [hy])
   by_cases he:x=y
   ·subst he
    (refine zI<|sRz<|vMz<|vMz<|lvz (.lenR rfl inferInstance rfl) ?_;refine lvz (.lssT rfl rfl (by omega)) ?_;refine nNz<|cTz<|zJ<|thenN<|zI<|zM<|zI ?_;refine CW.quiet rfl mixed (by decide +kernel) ?_;apply QW.v0;rfl;exact zC;apply ValP.move;rfl;apply QW.v0;rfl;exact zC;apply ValP.move;rfl;apply QW.v0;rfl;exact zC;apply ValP.indexAddrS;rfl;rfl;rfl;omega;apply QW.load;rfl;exact zC;rfl;exact Known.ext (by assumption) (by simp);assumption;apply QW.v0;rfl;exact zC;apply ValP.move;rfl;apply QW.v0;rfl;exact zC;apply ValP.move;rfl;apply QW.v0;rfl;exact zC;apply ValP.indexAddrS;rfl;rfl;rfl;omega;apply QW.load;rfl;exact zC;rfl;exact Known.ext (by assumption) (by simp);assumption;apply QW.v0;rfl;exact zC;apply ValP.neF;rfl;rfl;omega;refine QW.nil<|thenN<|cFz<|zJ<|blkN<|thenN<|zL<|vMz ?_;refine lvz (.addZL rfl rfl (by decide) (by omega)) ?_;refine vAz ?_;apply zV)
    apply thenX
    refine ⟨rfl,k+1,⟨hlt,fun j hj=>?_⟩,by omega,⟨rfl,rfl,rfl,rfl,trivial⟩,qM _⟩
    rcases Nat.lt_or_ge j k with h|h
    ·exact hall j h
    ·obtain rfl:j=k:=by omega
     rw [List.getElem?_eq_getElem hlt,List.getElem?_eq_getElem hlt2,hx,hy]
   ·have hne:¬ (x.toNat:Int)=(y.toNat:Int):=fun h=>he (UInt8.toNat_inj.1 (by omega))
    rw [decide_eq_false (fun h:a=b=>he (by rw [← hx,← hy];subst h;rfl))]
    (refine zI<|sRz<|vMz<|vMz<|lvz (.lenR rfl inferInstance rfl) ?_;refine lvz (.lssT rfl rfl (by omega)) ?_;refine nNz<|cTz<|zJ<|thenN<|zI<|zM<|zI ?_;refine CW.quiet rfl mixed (by decide +kernel) ?_;apply QW.v0;rfl;exact zC;apply ValP.move;rfl;apply QW.v0;rfl;exact zC;apply ValP.move;rfl;apply QW.v0;rfl;exact zC;apply ValP.indexAddrS;rfl;rfl;rfl;omega;apply QW.load;rfl;exact zC;rfl;exact Known.ext (by assumption) (by simp);assumption;apply QW.v0;rfl;exact zC;apply ValP.move;rfl;apply QW.v0;rfl;exact zC;apply ValP.move;rfl;apply QW.v0;rfl;exact zC;apply ValP.indexAddrS;rfl;rfl;rfl;omega;apply QW.load;rfl;exact zC;rfl;exact Known.ext (by assumption) (by simp);assumption;apply QW.v0;rfl;exact zC;apply ValP.neT;rfl;rfl;omega;refine QW.nil<|thenN<|cTz<|sRz<|vAz<|nNz<|zK<|blkR<|thenR<|thenR<|blkR<|thenR ?_)
    (apply finR;exact .inl rfl;rfl;rfl;rfl;apply zD;exact zG rfl;exact zF)
    rfl
  ·rw [decide_eq_true (List.ext_getElem? fun j=>by
    rcases Nat.lt_or_ge j k with h|h
    ·exact hall j h
    ·rw [List.getElem?_eq_none (by omega),List.getElem?_eq_none (by omega)])]
   (refine zI<|sRz<|vMz<|vMz<|lvz (.lenR rfl inferInstance rfl) ?_;refine lvz (.lssF rfl rfl (by omega)) ?_;refine nNz<|cFz<|CW.exit<|thenE<|thenE<|blkE rfl<|thenN<|sRz<|vAz<|nNz<|zK ?_)
   (apply finR;exact .inl rfl;rfl;rfl;rfl;apply zD;exact zG rfl;exact zF)
   rfl
 ·rw [decide_eq_false (fun h:a=b=>hl (by rw [h]))]
  (refine sRz<|vAz<|nNz<|zI<|sRz<|vMz<|lvz (.lenR rfl inferInstance rfl)<|vMz<|lvz (.lenR rfl inferInstance rfl) ?_;refine lvz (.neT rfl rfl (by omega)) ?_;refine nNz<|cTz<|sRz<|vAz<|nNz<|zK<|thenR ?_)
  (apply finR;exact .inl rfl;rfl;rfl;rfl;apply zD;exact zG rfl;exact zF)
  rfl
theorem rSameW_calls (a b:List Nat) (hwa:∀ x∈a,x < M256) (hwb:∀ x∈b,x < M256) (va vb:Value) (w:World) (ha:RowAt w 4 va a.length (wcs a)) (hb:RowAt w 4 vb b.length (wcs b)):Calls Tryz.prog 82 #[va,vb] w (Ret w (.bool (decide (a=b)))):=by
 obtain ⟨p0,c0,rfl,hc0,hm0⟩:=ha.form
 obtain ⟨p1,c1,rfl,hc1,hm1⟩:=hb.form
 simp only [maxLen] at hm0 hm1
 refine enter (args:=[_,_]) _ [] [] Tryz.func82 rfl Tryz.ntmps82 rfl (by simp) .nil ?_
 by_cases hl:a.length=b.length
 ·(refine sRz<|vAz<|nNz<|zI<|sRz<|vMz<|lvz (.lenR rfl inferInstance rfl)<|vMz<|lvz (.lenR rfl inferInstance rfl) ?_;refine lvz (.neF rfl rfl (by omega)) ?_;refine nNz<|cFz<|zJ<|thenN<|zI<|sRz<|vAz<|nNz<|zM ?_)
  refine CW.loop (fun k:Nat=>([(0,.slice p0 a.length c0),(1,.slice p1 b.length c1),(4,.bool false),(5,.int .i64 (k:Int))],[]))
   (fun k=>k≤a.length∧∀ j,j < k→a[j]?=b[j]?) (fun k=>a.length - k) 0 ⟨Nat.zero_le _,fun j h=>absurd h (Nat.not_lt_zero _)⟩ ⟨rfl,rfl,rfl,rfl,trivial⟩ (qM _) ?_
  rintro k ⟨hk,hall⟩
  dsimp only
  rcases Nat.lt_or_ge k a.length with hlt|hge
  ·obtain ⟨b1,off1,c',cs1,E1,fr1,heq,hbk1,hx1⟩:=ha.pos (by omega)
   cases heq
   obtain ⟨b2,off2,c',cs2,E2,fr2,heq,hbk2,hx2⟩:=hb.pos (by omega)
   cases heq
   have hlt2:k < b.length:=by omega
   obtain ⟨x,hx⟩:∃ x,a[k]=x:=⟨_,rfl⟩
   obtain ⟨y,hy⟩:∃ y,b[k]=y:=⟨_,rfl⟩
   have hxl:x < M256:=by rw [← hx];exact hwa _ (List.getElem_mem hlt)
   have hyl:y < M256:=by rw [← hy];exact hwb _ (List.getElem_mem hlt2)
   have hrd1:Rd Tryz.prog 29 (.cells cs1 E1 fr1) (off1+k * 4) (wv x):=by have h:=word_rd (P:=Tryz.prog) (T:=29) (E:=E1) (fr:=fr1) hx1 k hlt;rwa [List.getD_eq_getElem?_getD,List.getElem?_eq_getElem hlt,Option.getD_some,hx] at h
   have hrd2:Rd Tryz.prog 29 (.cells cs2 E2 fr2) (off2+k * 4) (wv y):=by have h:=word_rd (P:=Tryz.prog) (T:=29) (E:=E2) (fr:=fr2) hx2 k hlt2;rwa [List.getD_eq_getElem?_getD,List.getElem?_eq_getElem hlt2,Option.getD_some,hy] at h
   by_cases he:x=y
   ·subst he
    (refine zI<|sRz<|vMz<|vMz<|lvz (.lenR rfl inferInstance rfl) ?_;refine lvz (.lssT rfl rfl (by omega)) ?_;refine nNz<|cTz<|zJ<|thenN<|zI<|zM<|zI ?_;refine CW.quiet rfl mixed (by decide +kernel) ?_;apply QW.v0;rfl;exact zC;apply ValP.move;rfl;apply QW.v0;rfl;exact zC;apply ValP.move;rfl;apply QW.v0;rfl;exact zC;apply ValP.indexAddrS;rfl;rfl;rfl;omega;apply QW.load;rfl;exact zC;rfl;exact Known.ext (by assumption) (by simp);assumption;apply QW.v0;rfl;exact zC;apply ValP.move;rfl;apply QW.v0;rfl;exact zC;apply ValP.move;rfl;apply QW.v0;rfl;exact zC;apply ValP.indexAddrS;rfl;rfl;rfl;omega;apply QW.load;rfl;exact zC;rfl;exact Known.ext (by assumption) (by simp);assumption;apply QW.v0;rfl;exact zC;apply ValP.neWF;rfl;rfl;(with_reducible rfl);refine QW.nil<|thenN<|cFz<|zJ<|blkN<|thenN<|zL<|vMz ?_;refine lvz (.addZL rfl rfl (by decide) (by omega)) ?_;refine vAz ?_;apply zV)
    apply thenX
    refine ⟨rfl,k+1,⟨hlt,fun j hj=>?_⟩,by omega,⟨rfl,rfl,rfl,rfl,trivial⟩,qM _⟩
    rcases Nat.lt_or_ge j k with h|h
    ·exact hall j h
    ·obtain rfl:j=k:=by omega
     rw [List.getElem?_eq_getElem hlt,List.getElem?_eq_getElem hlt2,hx,hy]
   ·have hne:=he
    rw [decide_eq_false (fun h:a=b=>he (by rw [← hx,← hy];subst h;rfl))]
    (refine zI<|sRz<|vMz<|vMz<|lvz (.lenR rfl inferInstance rfl) ?_;refine lvz (.lssT rfl rfl (by omega)) ?_;refine nNz<|cTz<|zJ<|thenN<|zI<|zM<|zI ?_;refine CW.quiet rfl mixed (by decide +kernel) ?_;apply QW.v0;rfl;exact zC;apply ValP.move;rfl;apply QW.v0;rfl;exact zC;apply ValP.move;rfl;apply QW.v0;rfl;exact zC;apply ValP.indexAddrS;rfl;rfl;rfl;omega;apply QW.load;rfl;exact zC;rfl;exact Known.ext (by assumption) (by simp);assumption;apply QW.v0;rfl;exact zC;apply ValP.move;rfl;apply QW.v0;rfl;exact zC;apply ValP.move;rfl;apply QW.v0;rfl;exact zC;apply ValP.indexAddrS;rfl;rfl;rfl;omega;apply QW.load;rfl;exact zC;rfl;exact Known.ext (by assumption) (by simp);assumption;apply QW.v0;rfl;exact zC;apply ValP.neWT;rfl;rfl;assumption;assumption;assumption;refine QW.nil<|thenN<|cTz<|sRz<|vAz<|nNz<|zK<|blkR<|thenR<|thenR<|blkR<|thenR ?_)
    (apply finR;exact .inl rfl;rfl;rfl;rfl;apply zD;exact zG rfl;exact zF)
    rfl
  ·rw [decide_eq_true (List.ext_getElem? fun j=>by
    rcases Nat.lt_or_ge j k with h|h
    ·exact hall j h
    ·rw [List.getElem?_eq_none (by omega),List.getElem?_eq_none (by omega)])]
   (refine zI<|sRz<|vMz<|vMz<|lvz (.lenR rfl inferInstance rfl) ?_;refine lvz (.lssF rfl rfl (by omega)) ?_;refine nNz<|cFz<|CW.exit<|thenE<|thenE<|blkE rfl<|thenN<|sRz<|vAz<|nNz<|zK ?_)
   (apply finR;exact .inl rfl;rfl;rfl;rfl;apply zD;exact zG rfl;exact zF)
   rfl
 ·rw [decide_eq_false (fun h:a=b=>hl (by rw [h]))]
  (refine sRz<|vAz<|nNz<|zI<|sRz<|vMz<|lvz (.lenR rfl inferInstance rfl)<|vMz<|lvz (.lenR rfl inferInstance rfl) ?_;refine lvz (.neT rfl rfl (by omega)) ?_;refine nNz<|cTz<|sRz<|vAz<|nNz<|zK<|thenR ?_)
  (apply finR;exact .inl rfl;rfl;rfl;rfl;apply zD;exact zG rfl;exact zF)
  rfl
end Go.Proofs.YtpgdnfgjbhdbpaaGreatDoor
namespace Go.Proofs.YtpgdnfgjbhdbpaaGreatDoor.SL
set_option linter.unusedVariables false
set_option linter.unusedSimpArgs false
open Go Go.RowKit
theorem row_append0 {P:Program} {T E ty:TypeId} {i:TypeInfo} {z:Value} {size:Nat} (ht:P.underlying T=some (.slice E)) (hi:P.info? E=some i) (hz:i.zero=some z) (hsz:i.size=size) (hzs:z.cells.size=size)
  {a0:Addr} {w0:World} {S:List Nat} {w:World} (hs:St w0 S [] w)
  (a:Addr) (m c:Nat) (news:List Value) (hl:news.length=m * size) (hnews:∀ j u,news[j]?=some u→w.cell? (a.add j)=some u) (hm:0 < m) (h63:m≤maxLen) (hbytes:m * i.bytes≤140737488355328) :
  ∃ v' seg' w',(Builtin.append_ #[T,T] ty #[.slice (some a0) 0 0,.slice (some a) m c]).run P w=.ok v' w'∧IsRow E size v' m news seg'∧St w0 S seg' w'∧w.heap.size≤w'.heap.size ∧
   (∀ b,b < w.heap.size→b ∉ seg'.map (·.1)→w'.heap[b]?=w.heap[b]?)∧(∀ q∈seg',w.heap.size≤q.1∨q.1∈([]:Fs).map (·.1)):=by
 subst hsz
 have h63':m≤9223372036854775807:=by simp only [maxLen] at h63;omega
 have hge:=grownCap_ge w m 0 E
 have hr:=run_append_grow (P:=P) w T ty E i z ht hi hz a0 0 0 [] (by simp) (fun j u hu=>by simp at hu) a m c news hl hnews (by omega) (by omega) (growslice_fits (by omega) (by simpa using hbytes))
 simp only [qN] at hr
 have hsize:((#[]:Array Value)++news.toArray++Builtin.zeroCells z.cells (grownCap w m 0 E - m)).size=grownCap w m 0 E * i.size:=by
  simp only [Array.size_append,List.size_toArray,size_zeroCells,hzs,hl,List.length_nil,qN,← Nat.add_mul]
  congr 1
  omega
 have htake:((#[]:Array Value)++news.toArray++Builtin.zeroCells z.cells (grownCap w m 0 E - m)).toList.take (m * i.size)=news:=by
  simp only [Array.toList_append,List.append_assoc,List.nil_append]
  rw [← hl]
  exact List.take_left
 refine ⟨_,[(w.heap.size,.cells (#[]++news.toArray++Builtin.zeroCells z.cells (grownCap w m 0 E - m)) E (0,0))],_,hr,.own hge (grownCap_le_maxLen w m 0 E h63) hsize htake hl,?_,?_,fun b hb _=>Below.heap_alloc w.drew _ b hb,fun q hq=>?_⟩
 ·exact St.lay (pre:=[]) (post:=[]) (w:=w) hs ((hs.bel.drew).alloc (by have:=hs.bel.size;simpa [World.drew] using this) _) (World.alloc_heap_new w.drew _) (Nat.le_refl _) (fun k hk=>Below.heap_alloc w.drew _ k hk)
 ·rw [World.size_alloc];exact Nat.le_succ _
 ·obtain rfl:q=_:=by simpa using hq
  exact .inl (Nat.le_refl _)
section dw
variable {C : Cu} {ops : Array Oper} {μ : Mu} {Q : Post} {tl rest : List Oper} {k d : Nat} {e : Env} {ts : Ts} {t : TypeId} {pos : String} {af : Array Edge} {g : Option (Nat × Bool)}
theorem DW.appendE {s x:Operand} {tys:Array TypeId} {T E size bytes m:Nat} {z vx:Value} {a0:Addr} {news:List Value} {M:Rel1}
  (hk:ops[k]?=some ⟨some d,.call { callee:=.builtin .append,args:=#[s,x],argTypes:=tys },t,pos,af,g⟩) (hm:μ k=some (cst M,(false:Fl))) (hd:Nat.blt d C.N=true) (hg:WantT ops e g)
  (hT:tys=#[T,T]) (hU:UnI C.P T (.slice E)) (hI:InfoI C.P E size z) (hB:BytI C.P E bytes) (hz:z.cells.size=size) (hs:e.ev s=some (.slice (some a0) 0 0)) (hx:e.ev x=some vx)
  (hat:RowAt C.w0 size vx m news) (hS:C.S=[]) (hm0:0 < m) (h63:m≤maxLen) (hb:m * bytes≤140737488355328) (hM:∀ v gs,IsRow E size v m news gs→M v gs)
  (kk:∀ v' seg',M v' seg'→DW C ops μ Q tl rest (k+1) ((d,v')::e) (tsTag (k::[]) (k::[]) seg'++ts)) :
  DW C ops μ Q tl (⟨some d,.call { callee:=.builtin .append,args:=#[s,x],argTypes:=tys },t,pos,af,g⟩::rest) k e ts:=by
 subst hT
 refine DW.appendX (us:=[]) (us3:=[]) (seg:=[]) hk hm hd hg hs hx ⟨rfl,rfl⟩ .nil (RdV.ext hat hS .nil) (fun p hp=>by cases hp) (fun w hst _=>?_) (fun ψ v' seg' _ hR=>kk v' seg' hR)
 obtain ⟨i,q1,q2,q3,q4⟩:=info_all (P:=C.P) (T:=E)
 have hA:RowAt w size vx m news:=hat.bel (by have:=hst.bel;rwa [hS] at this)
 obtain ⟨b,off,c,cs,E',fr,rfl,hb1,hx1⟩:=hA.pos hm0
 obtain ⟨v',seg',w',hr,hrow',hst',g1,g2,g3⟩:=row_append0 (P:=C.P) (ty:=t) (a0:=a0) hU.un q1 q3 q2 hz hst ⟨b,off,none⟩ m c news hA.len (fun j u hj=>by
  rw [addr_add,cell_of hb1];exact cut_get hx1 hj) hm0 h63 (by rw [q4];exact hb)
 exact ⟨v',seg',w',hr,fun ψ _=>hM _ _ hrow',hst',g1,g2,g3⟩
def sameR:Rel2:=fun vs _ v gs=>vs.head?=some v∧gs=[]
theorem DW.appendN {s x:Operand} {tys:Array TypeId} {T E size:TypeId} {q:Option Addr} {c':Nat} {z:Value} {a0:Addr}
  (hk:ops[k]?=some ⟨some d,.call { callee:=.builtin .append,args:=#[s,x],argTypes:=tys },t,pos,af,g⟩) (hm:μ k=some (sameR,(false:Fl))) (hd:Nat.blt d C.N=true) (hg:WantT ops e g)
  (hT:tys=#[T,T]) (hU:UnI C.P T (.slice E)) (hI:InfoI C.P E size z) (hs:e.ev s=some (.slice (some a0) 0 0)) (hx:e.ev x=some (.slice q 0 c'))
  (hat:RowAt C.w0 size (.slice q 0 c') 0 []) (hS:C.S=[])
  (kk:DW C ops μ Q tl rest (k+1) ((d,.slice (some a0) 0 0)::e) (tsTag (k::[]) (k::[]) []++ts)) :
  DW C ops μ Q tl (⟨some d,.call { callee:=.builtin .append,args:=#[s,x],argTypes:=tys },t,pos,af,g⟩::rest) k e ts:=by
 subst hT
 refine DW.appendX (us:=[]) (us3:=[]) (seg:=[]) hk hm hd hg hs hx ⟨rfl,rfl⟩ .nil (RdV.ext hat hS .nil) (fun p hp=>by cases hp) (fun w hst _=>?_) (fun ψ v' seg' _ hR=>?_)
 ·obtain ⟨i,h1,h2,_⟩:=info_of (P:=C.P) (T:=E)
  have hsrc:Src C.P i.size T (.slice q 0 c') 0 [] w:=by
   cases q with
   |none=>exact Src.ofNil w hU.un c'
   |some a=>exact Src.ofSlice w hU.un a 0 c' [] (by simp) (fun j u h=>by simp at h) (fun u h=>by cases h)
  have hr:=run_append_nothing (P:=C.P) w T T t E i hU.un h1 (some a0) 0 0 (Nat.le_refl 0) _ hsrc
  exact ⟨_,[],w,hr,fun ψ _=>⟨rfl,rfl⟩,hst,Nat.le_refl _,fun b _ _=>rfl,fun q hq=>by cases hq⟩
 ·obtain ⟨h1,rfl⟩:=hR
  cases h1
  exact kk
theorem DW.lay0 {T E sz:TypeId} {z:Value} (hk:ops[k]?=some ⟨some d,.buildSlice T 0 #[],t,pos,af,g⟩) (hm:μ k=none) (hd:Nat.blt d C.N=true) (hg:WantT ops e g) (hU:UnI C.P T (.slice E)) (hI:InfoI C.P E sz z)
  (kk:∀ b,DW C ops μ Q tl rest (k+1) ((d,.slice (some ⟨b,0,none⟩) 0 0)::e) ((b,.cells #[] E (0,0),[k],[])::ts)):DW C ops μ Q tl (⟨some d,.buildSlice T 0 #[],t,pos,af,g⟩::rest) k e ts :=
 DW.new hk hm hd hg rfl (NewP.build0 hU hI) kk
end dw
end Go.Proofs.YtpgdnfgjbhdbpaaGreatDoor.SL
namespace Go.Proofs.YtpgdnfgjbhdbpaaGreatDoor.SL
set_option linter.unusedVariables false
set_option linter.unusedSimpArgs false
open Go Go.RowKit
theorem upon_join {F:Fence} {n:Nat} {P:Program} {o:Oper} {a:Act} {w:World} {K K':Act→World→Prop} {Q Q':Exit→Act→World→Prop} (h:∀ a w,K a w→K' a w) (hp:∀ ch a w,Q (.panic ch) a w→Q' (.panic ch) a w) (hl:LetsOut Q→LetsOut Q')
  (hh:o.wpIn F n P a w K Q):o.wpIn F n P a w K' Q':=by
 unfold Oper.wpIn at *
 refine ⟨hh.1,?_⟩
 have hh:=hh.2
 generalize (o.semAt F.round a.eval).run P w=r at *
 cases r with
 |ok x w' =>
  cases x<;>simp only [Oper.uponIn] at hh ⊢ <;>
   first
    |exact h _ _ hh
    |exact ⟨hh.1,CallsIn.mono hh.2 (fun e w'' he=>by cases e<;>first|exact h _ _ he|exact hp _ _ _ he|exact hl he)⟩
    |exact ⟨hh.1,RowsIn.mono hh.2 (fun _ _ he=>h _ _ he)⟩
    |exact ⟨hh.1,RoundIn.mono hh.2 (fun e w'' he=>by cases e<;>first|exact h _ _ he|exact hp _ _ _ he|exact hl he)⟩
 |halt x w'=>cases x<;>simp only [Oper.uponIn] at hh ⊢<;>first|exact hp _ _ _ hh|exact hh
theorem list_join {F:Fence} {n:Nat} {P:Program} {ops:Array Oper} {Qm Q:Exit→Act→World→Prop} {l2:List Oper} (hn:∀ a w,Qm .normal a w→wpListIn F n P ops Q l2 a w) (hp:∀ ch a w,Qm (.panic ch) a w→Q (.panic ch) a w) (hl:LetsOut Qm→LetsOut Q) :
  ∀ (l1:List Oper) (a:Act) (w:World),wpListIn F n P ops Qm l1 a w→wpListIn F n P ops Q (l1++l2) a w
 |[],a,w,h=>hn a w h
 |o::r,a,w,h=>by
  rw [List.cons_append]
  unfold wpListIn at h ⊢
  split
  ·rename_i hw
   rw [if_pos hw] at h
   exact upon_join (fun a w h=>list_join hn hp hl r a w h) hp hl h
  ·rename_i hw
   rw [if_neg hw] at h
   exact ⟨h.1,list_join hn hp hl r _ _ h.2⟩
def joinQ (C:Cu) (e1:Env) (fs1:Fs) (Q:Post):Post:=fun x ds e fs=>match x with
 |.normal=>ds=C.ds∧e.le e1∧List.Sublist fs1 fs
 |x=>Q x ds e fs
theorem LW.join {C:Cu} {ops:Array Oper} {Q:Post} {l:List Oper} {e:Env} {fs:Fs} (k:Nat) (e1:Env) (fs1:Fs) (h2:LW C ops Q (l.drop k) e1 fs1) (h1:LW C ops (joinQ C e1 fs1 Q) (l.take k) e fs):LW C ops Q l e fs:=fun a w hs=>by
 have h:=h1 a w hs
 rw [← List.take_append_drop k l]
 refine list_join (fun a w hq=>?_) (fun ch a w hq=>?_) (fun hq=>?_) _ _ _ h
 ·obtain ⟨ds,e',fs',⟨rfl,h4,h5⟩,s⟩:=hq
  exact h2 a w (fs_sub s h4 h5)
 ·obtain ⟨ds,e',fs',hq,s⟩:=hq
  exact ⟨ds,e',fs',hq,s⟩
 ·obtain ⟨a,w,ds,e',fs',hq,s⟩:=hq
  exact ⟨a,w,ds,e',fs',hq,s⟩
theorem joinI {C:Cu} {e1 e:Env} {fs1 fs:Fs} {Q:Post} (h1:e.le e1) (h2:List.Sublist fs1 fs):joinQ C e1 fs1 Q .normal C.ds e fs:=⟨rfl,h1,h2⟩
section hm
variable {P : Program} {e : Env} {T : TypeId} {x : Operand} {n : Nat}
theorem run_slice_hm {w:World} {a:Option Addr} {len cap:Nat} (ht:P.underlying T=some (.slice (P.elem T))) (kh km:IntKind) (h m:Int) (h0:0≤h) (h2:h≤m) (h3:m≤cap) :
  (Instr.slice T (.slice a len cap) none (some (.int kh h)) (some (.int km m))).run P w=((sizeOf (P.elem T)).run P w).andThen fun s w=>.ok (sliced a 0 h.toNat m.toNat s) w:=by
 have eh:(h.toNat:Int)=h:=Int.toNat_of_nonneg (by omega)
 have em:(m.toNat:Int)=m:=Int.toNat_of_nonneg (by omega)
 simp [Instr.slice,run_underlying ht,Instr.sliceBounds,run_sliceBound,sliced, *,eh,em,(by omega:0≤h),(by omega:0≤m)]
theorem ValP.cutMax {ik im:IntKind} {E j k c sz:Nat} {z:Value} {p:Option Addr} {hi mx:Operand} (hU:UnI P T (.slice E)) (hI:InfoI P E sz z) (hx:e.ev x=some (.slice p n c)) (hh:e.ev hi=some (.int ik (j:Int))) (hm:e.ev mx=some (.int im (k:Int))) (h2:j≤k) (h3:k≤c) :
  ValP P e [] (.slice T x none (some hi) (some mx)) (.slice p j k):=fun ρ w hρ _ d t pos af g=>by
 have hu:P.underlying T=some (.slice E):=hU.un
 have h1:=run_slice_hm (P:=P) (T:=T) (w:=w) (a:=p) (len:=n) (cap:=c) (elem_un hu) ik im (j:Int) (k:Int) (by omega) (by omega) (by omega)
 rw [elem_eq hu,run_size] at h1
 have h2:(Instr.sliceAt T (.slice p n c) none (some (.int ik (j:Int))) (some (.int im (k:Int)))).run P w=.ok (.slice p j k) w:=by
  rw [run_sliceAt_slice (w:=w) T _ _ _ _ (elem_un hu),h1]
  simp only [Result.andThen_ok,sliced,Int.toNat_natCast,Nat.sub_zero,Nat.zero_mul]
  cases p with
  |none=>simp
  |some a=>cases a with|mk b o s=>simp [addr_add,Addr.add]
 simp [execOp,hρ x _ hx,hρ hi _ hh,hρ mx _ hm,h2]
end hm
theorem LW.copyNone {C:Cu} {ops:Array Oper} {Q:Post} {rest:List Oper} {e:Env} {fs:Fs} {d:Nat} {t:TypeId} {pos:String} {af:Array Edge} {x y:Operand} {tys:Array TypeId} {T E bytes:TypeId} {z:Value} {p q:Option Addr} {n c m c':Nat} (hd:Nat.blt d C.N=true) (hT:tys=#[T,T]) (hU:UnI C.P T (.slice E)) (hI:InfoI C.P E 1 z) (hB:BytI C.P E bytes)
  (hx:e.ev x=some (.slice p n c)) (hy:e.ev y=some (.slice q m c')) (h0:Nat.min m n=0) (k:LW C ops Q rest ((d,.int .i64 0)::e) fs) :
  LW C ops Q (⟨some d,.call { callee:=.builtin .copy,args:=#[x,y],argTypes:=tys },t,pos,af,none⟩::rest) e fs:=by
 subst hT
 have hsz:(C.P.info? E).map (·.size)=some 1:=by
  obtain ⟨i,i1,i2,i3,i4⟩:=info_all (P:=C.P) (T:=E);rw [i1];simp [i2]
 refine LW.v0 hd rfl (fun ρ w hρ _ d t pos af g=>?_) k
 have hrun:=run_copy_none (P:=C.P) w T T t E p q n c m c' hU.un hsz h0
 simp [execOp,resolve,invoke,builtin,hρ x _ hx,hρ y _ hy,hrun,goInt]
section dv
variable {C : Cu} {ops : Array Oper} {Q : Post} {tl rest : List Oper} {e : Env} {ts : Ts} {μ : Mu} {k d : Nat} {t : TypeId} {pos : String} {af : Array Edge} {g : Option (Nat × Bool)} {fo : Operand} {args : Array Operand} {tys : Array TypeId} {f : FuncId} {vs vs' : List Value} {us : Fs} {ts' : Ts}
theorem DW.callW {v:Value} (hk:ops[k]?=some ⟨some d,.call { callee:=.value fo,args:=args,argTypes:=tys },t,pos,af,g⟩) (hm:μ k=none)
  (hd:Nat.blt d C.N=true) (hg:WantT ops e g) (hf:e.ev fo=some (.func (.func f) #[] #[])) (hF:FnI C.P f) (ha:ArgsOk e args.toList vs) (hbl:vs.flatMap (blocksN 4)=vs'.flatMap (blocksN 4)) (hr:RdV C ops k vs' ts us ts')
  (hc:∀ w,Bel C.w0.heap.size C.S C.w0 w→(∀ p∈us,w.heap[p.1]?=some p.2)→Calls C.P f vs.toArray w (Ret w v)) (kk:DW C ops μ Q tl rest (k+1) ((d,v)::e) ts') :
  DW C ops μ Q tl (⟨some d,.call { callee:=.value fo,args:=args,argTypes:=tys },t,pos,af,g⟩::rest) k e ts:=by
 obtain ⟨us2,h1,h2⟩:=hr.all
 rw [← hbl] at h1
 exact DW.callE hk hm hd hg hf hF ha (show _=vs.flatMap (blocksN 4) from rfl) h1 (fun w hb hu=>hc w hb fun p hp=>hu p (h2 p hp)) kk
theorem DW.manyW {M:Rel1} (hk:ops[k]?=some ⟨some d,.call { callee:=.value fo,args:=args,argTypes:=tys },t,pos,af,g⟩) (hm:μ k=some (cst M,(false:Fl)))
  (hd:Nat.blt d C.N=true) (hg:WantT ops e g) (hf:e.ev fo=some (.func (.func f) #[] #[])) (hF:FnI C.P f) (ha:ArgsOk e args.toList vs) (hbl:vs.flatMap (blocksN 4)=vs'.flatMap (blocksN 4)) (hr:RdV C ops k vs' ts us ts')
  (hc:∀ w,Bel C.w0.heap.size C.S C.w0 w→(∀ p∈us,w.heap[p.1]?=some p.2)→Calls C.P f vs.toArray w (RetG w [] M)) (kk:∀ v gs,M v gs→DW C ops μ Q tl rest (k+1) ((d,v)::e) (tsNew k gs++ts')) :
  DW C ops μ Q tl (⟨some d,.call { callee:=.value fo,args:=args,argTypes:=tys },t,pos,af,g⟩::rest) k e ts:=by
 obtain ⟨us2,h1,h2⟩:=hr.all
 rw [← hbl] at h1
 exact DW.manyE hk hm hd hg hf hF ha (show _=vs.flatMap (blocksN 4) from rfl) h1 (fun w hb hu=>hc w hb fun p hp=>hu p (h2 p hp)) kk
theorem blocks_sl {x:Value} (h:∃ p n c,x=.slice p n c):blocksN 3 x=blocksN 4 x:=by
 obtain ⟨p,n,c,rfl⟩:=h
 cases p<;>rfl
end dv
section de
variable {C : Cu} {ops : Array Oper} {μ : Mu} {Q : Post} {tl rest : List Oper} {k d : Nat} {e : Env} {ts : Ts} {t : TypeId} {pos : String} {af : Array Edge} {g : Option (Nat × Bool)}
end de
end Go.Proofs.YtpgdnfgjbhdbpaaGreatDoor.SL
namespace Go.Proofs.YtpgdnfgjbhdbpaaGreatDoor
open Go Go.RowKit SL
set_option maxRecDepth 8000
set_option maxHeartbeats 4000000
set_option linter.unusedSimpArgs false
set_option linter.unusedVariables false
attribute [local irreducible] SL.CW SL.LW SL.DW Calls SL.Ret SL.RetG SL.beginQ SL.roundQ SL.rangeQ SL.RW SL.AnyW SL.thenQ SL.thenC SL.thenW SL.blkQ SL.finQ SL.ValP SL.NewP SL.SetP SL.CallP SL.Rd SL.Wr SL.Known
structure FrNum (f:FrV) (L:FrL):Prop where
 gas:f.gas < 18446744073709551616
 self:f.self < 18446744073709551616
 frm:f.frm < 18446744073709551616
 val:f.val < M256
 ws:∀ x∈L.ws,x < M256
def sameF (f:FrV) (L:FrL) (g:FrV) (M:FrL):Prop:=f.pc=g.pc∧f.gas=g.gas∧f.self=g.self∧f.frm=g.frm∧f.val=g.val∧f.stat=g.stat∧L.cl=M.cl∧L.il=M.il∧L.bl=M.bl∧(L.ws=M.ws∧L.ms=M.ms)
instance (f:FrV) (L:FrL) (g:FrV) (M:FrL):Decidable (sameF f L g M):=by unfold sameF;infer_instance
def sameC (f:ClV) (L:ClL) (g:ClV) (M:ClL):Prop:=f.op=g.op∧f.dst=g.dst∧f.self=g.self∧f.frm=g.frm∧f.val=g.val∧f.mv=g.mv∧f.gas=g.gas∧f.pl=g.pl∧f.n=g.n∧f.stat=g.stat∧L.il=M.il∧L.cl=M.cl
instance (f:ClV) (L:ClL) (g:ClV) (M:ClL):Decidable (sameC f L g M):=by unfold sameC;infer_instance
theorem SL.LW.joinF {C:Cu} {ops:Array Oper} {Q:Post} {l:List Oper} {e:Env} {fs:Fs} (k:Nat) (e1:Env) (h2:LW C ops Q (l.drop k) e1 fs) (h1:LW C ops (joinQ C e1 fs Q) (l.take k) e fs):LW C ops Q l e fs:=LW.join k e1 fs h2 h1
theorem rScSame_calls (a b:List Nat) (x y:List UInt8) (hwa:∀ x∈a,x < M256) (hwb:∀ x∈b,x < M256) (va vb vx vy:Value) (w:World) (ha:RowAt w 4 va a.length (wcs a)) (hb:RowAt w 4 vb b.length (wcs b)) (hx:RowAt w 1 vx x.length (ucs x)) (hy:RowAt w 1 vy y.length (ucs y)) :
  Calls Tryz.prog 46 #[.agg #[va,vx],.agg #[vb,vy]] w (Ret w (.bool (decide (a=b∧x=y)))):=by
 obtain ⟨p0,c0,rfl,_,_⟩:=id ha.form
 obtain ⟨p1,c1,rfl,_,_⟩:=id hb.form
 obtain ⟨p2,c2,rfl,_,_⟩:=id hx.form
 obtain ⟨p3,c3,rfl,_,_⟩:=id hy.form
 have hW0:=fun w' {fs:Fs} (hst:St w [] fs w')=>rSameW_calls a b hwa hwb _ _ w' (ha.st hst) (hb.st hst)
 have hB0:=fun w' {fs:Fs} (hst:St w [] fs w')=>rSameB_calls x y _ _ w' (hx.st hst) (hy.st hst)
 refine enter (args:=[_,_]) _ [] [] Tryz.func46 rfl Tryz.ntmps46 rfl (by simp) .nil ?_
 by_cases e:a=b
 ·have hW:∀ w' {fs:Fs},St w [] fs w'→Calls Tryz.prog 82 #[.slice p0 a.length c0,.slice p1 b.length c1] w' (Ret w' (.bool true)):=fun w' fs hst=>by have h:=hW0 w' hst;rwa [decide_eq_true e] at h
  by_cases e2:x=y
  ·have hB:∀ w' {fs:Fs},St w [] fs w'→Calls Tryz.prog 83 #[.slice p2 x.length c2,.slice p3 y.length c3] w' (Ret w' (.bool true)):=fun w' fs hst=>by have h:=hB0 w' hst;rwa [decide_eq_true e2] at h
   rw [decide_eq_true ⟨e,e2⟩]
   (refine sRz ?_;apply zT;rfl;rfl;intro _;apply zT;rfl;rfl;intro _;refine vAz<|nSz<|vFz<|ldz rfl (.tail .head) sc_rd0<|vFz<|ldz rfl .head sc_rd0 ?_;apply zS;rfl;rfl;infer_instance;exact .cons rfl (.cons rfl .nil);intro w _;exact hW w (by assumption);refine vMz<|gTz<|vFz<|gTz<|ldz rfl (.tail .head) sc_rd1<|gTz<|vFz<|gTz<|ldz rfl .head sc_rd1<|gTz ?_;apply zS;rfl;rfl;infer_instance;exact .cons rfl (.cons rfl .nil);intro w _;exact hB w (by assumption);refine pTz<|vAz<|nNz<|zK ?_)
   (apply finR;exact .inl rfl;rfl;rfl;rfl;apply zD;exact zG rfl;exact zF)
   rfl
  ·have hB:∀ w' {fs:Fs},St w [] fs w'→Calls Tryz.prog 83 #[.slice p2 x.length c2,.slice p3 y.length c3] w' (Ret w' (.bool false)):=fun w' fs hst=>by have h:=hB0 w' hst;rwa [decide_eq_false e2] at h
   rw [decide_eq_false (fun h=>e2 h.2)]
   (refine sRz ?_;apply zT;rfl;rfl;intro _;apply zT;rfl;rfl;intro _;refine vAz<|nSz<|vFz<|ldz rfl (.tail .head) sc_rd0<|vFz<|ldz rfl .head sc_rd0 ?_;apply zS;rfl;rfl;infer_instance;exact .cons rfl (.cons rfl .nil);intro w _;exact hW w (by assumption);refine vMz<|gTz<|vFz<|gTz<|ldz rfl (.tail .head) sc_rd1<|gTz<|vFz<|gTz<|ldz rfl .head sc_rd1<|gTz ?_;apply zS;rfl;rfl;infer_instance;exact .cons rfl (.cons rfl .nil);intro w _;exact hB w (by assumption);refine pTz<|vAz<|nNz<|zK ?_)
   (apply finR;exact .inl rfl;rfl;rfl;rfl;apply zD;exact zG rfl;exact zF)
   rfl
 ·have hW:∀ w' {fs:Fs},St w [] fs w'→Calls Tryz.prog 82 #[.slice p0 a.length c0,.slice p1 b.length c1] w' (Ret w' (.bool false)):=fun w' fs hst=>by have h:=hW0 w' hst;rwa [decide_eq_false e] at h
  rw [decide_eq_false (fun h=>e h.1)]
  (refine sRz ?_;apply zT;rfl;rfl;intro _;apply zT;rfl;rfl;intro _;refine vAz<|nSz<|vFz<|ldz rfl (.tail .head) sc_rd0<|vFz<|ldz rfl .head sc_rd0 ?_;apply zS;rfl;rfl;infer_instance;exact .cons rfl (.cons rfl .nil);intro w _;exact hW w (by assumption);refine vMz ?_;(iterate 5 refine gFz ?_);refine pFz<|vAz<|nNz<|zK ?_)
  (apply finR;exact .inl rfl;rfl;rfl;rfl;apply zD;exact zG rfl;exact zF)
  rfl
theorem rfSame_calls (f g:FrV) (L M:FrL) (hf:FrNum f L) (hg:FrNum g M) (w:World) (h:FrRows w f L) (h':FrRows w g M):Calls Tryz.prog 15 #[frv f,frv g] w (Ret w (.bool (decide (sameF f L g M)))):=by
 have hww:=hf.ws
 have hwm:=hg.ws
 have hv1:=hf.val
 have hv2:=hg.val
 obtain ⟨code,pc,stk,mem,gas,self,frm,val,inp,back,stat⟩:=f
 obtain ⟨code',pc',stk',mem',gas',self',frm',val',inp',back',stat'⟩:=g
 obtain ⟨h0,h2,h3,h11,h12⟩:=h
 obtain ⟨k0,k2,k3,k11,k12⟩:=h'
 dsimp only at h0 h2 h3 h11 h12 k0 k2 k3 k11 k12 hv1 hv2
 obtain ⟨p0,c0,rfl,_,_⟩:=id h0.form
 obtain ⟨p2,c2,rfl,_,_⟩:=id h2.form
 obtain ⟨p3,c3,rfl,_,_⟩:=id h3.form
 obtain ⟨p11,c11,rfl,_,_⟩:=id h11.form
 obtain ⟨p12,c12,rfl,_,_⟩:=id h12.form
 obtain ⟨r0,d0,rfl,_,_⟩:=id k0.form
 obtain ⟨r2,d2,rfl,_,_⟩:=id k2.form
 obtain ⟨r3,d3,rfl,_,_⟩:=id k3.form
 obtain ⟨r11,d11,rfl,_,_⟩:=id k11.form
 obtain ⟨r12,d12,rfl,_,_⟩:=id k12.form
 have hq6:=fun w' {fs:Fs} (hst:St w [] fs w')=>rSame1_calls L.cl M.cl _ _ w' (h0.st hst) (k0.st hst)
 have hq7:=fun w' {fs:Fs} (hst:St w [] fs w')=>rSame1_calls L.il M.il _ _ w' (h11.st hst) (k11.st hst)
 have hq8:=fun w' {fs:Fs} (hst:St w [] fs w')=>rSame1_calls L.bl M.bl _ _ w' (h12.st hst) (k12.st hst)
 have hq9:=fun w' {fs:Fs} (hst:St w [] fs w')=>rScSame_calls L.ws M.ws L.ms M.ms hww hwm _ _ _ _ w' (h2.st hst) (k2.st hst) (h3.st hst) (k3.st hst)
 refine enter (args:=[_,_]) _ [] [] Tryz.func15 rfl Tryz.ntmps15 rfl (by simp) .nil ?_
 (refine sRz ?_;apply zT;rfl;rfl;intro _;apply zT;rfl;rfl;intro _;refine vAz<|nNz<|zI<|sRz<|vFz<|ldz rfl (.tail .head) fr_rd1<|vFz<|ldz rfl .head fr_rd1<|lvz (.ne rfl rfl)<|vMz ?_)
 rename_i b2 b3
 obtain ⟨y0,hy0⟩:∃ c:Bool,c=decide (pc=pc'):=⟨_,rfl⟩
 refine LW.joinF 0 ((10,.bool (!y0))::[(2,.pointer (some ⟨b2,0,none⟩)),(3,.pointer (some ⟨b3,0,none⟩))]) ?_ ?_
 rotate_left
 ·rw [hy0]
  (apply zV)
  exact joinI ⟨getB rfl (by (rfl)),rfl,rfl,trivial⟩ (qM _)
 obtain ⟨y1,hy1⟩:∃ c:Bool,c=(y0 && decide (gas=gas')):=⟨_,rfl⟩
 refine LW.joinF 7 ((17,.bool (!y1))::[(2,.pointer (some ⟨b2,0,none⟩)),(3,.pointer (some ⟨b3,0,none⟩))]) ?_ ?_
 rotate_left
 ·rw [hy1]
  clear hy1 hy0
  cases y0
  ·((iterate 5 refine gFrz ?_);apply LW.v0;rfl;rfl;apply ValP.pickT';rfl;simp only [Bool.not_true,Bool.not_false];rfl;refine vMz ?_;apply zV)
   exact joinI ⟨getB rfl (by (rfl)),rfl,rfl,trivial⟩ (qM _)
  ·(refine gTsz<|vFz<|gTsz<|ldz rfl (.tail .head) fr_rd4<|gTsz<|vFz<|gTsz<|ldz rfl .head fr_rd4<|gTsz<|lvz (.ne rfl rfl) ?_;apply LW.v0;rfl;rfl;apply ValP.pickF';rfl;simp only [Bool.not_true,Bool.not_false];rfl;refine vMz ?_;apply zV)
   exact joinI ⟨getB rfl (by (exact congrArg not (decide_eq_decide.2 Int.ofNat_inj))),rfl,rfl,trivial⟩ (qM _)
 obtain ⟨y2,hy2⟩:∃ c:Bool,c=(y1 && decide (self=self')):=⟨_,rfl⟩
 refine LW.joinF 7 ((24,.bool (!y2))::[(2,.pointer (some ⟨b2,0,none⟩)),(3,.pointer (some ⟨b3,0,none⟩))]) ?_ ?_
 rotate_left
 ·rw [hy2]
  clear hy2 hy1 hy0
  cases y1
  ·((iterate 5 refine gFrz ?_);apply LW.v0;rfl;rfl;apply ValP.pickT';rfl;simp only [Bool.not_true,Bool.not_false];rfl;refine vMz ?_;apply zV)
   exact joinI ⟨getB rfl (by (rfl)),rfl,rfl,trivial⟩ (qM _)
  ·(refine gTsz<|vFz<|gTsz<|ldz rfl (.tail .head) fr_rd5<|gTsz<|vFz<|gTsz<|ldz rfl .head fr_rd5<|gTsz<|lvz (.ne rfl rfl) ?_;apply LW.v0;rfl;rfl;apply ValP.pickF';rfl;simp only [Bool.not_true,Bool.not_false];rfl;refine vMz ?_;apply zV)
   exact joinI ⟨getB rfl (by (exact congrArg not (decide_eq_decide.2 Int.ofNat_inj))),rfl,rfl,trivial⟩ (qM _)
 obtain ⟨y3,hy3⟩:∃ c:Bool,c=(y2 && decide (frm=frm')):=⟨_,rfl⟩
 refine LW.joinF 7 ((31,.bool (!y3))::[(2,.pointer (some ⟨b2,0,none⟩)),(3,.pointer (some ⟨b3,0,none⟩))]) ?_ ?_
 rotate_left
 ·rw [hy3]
  clear hy3 hy2 hy1 hy0
  cases y2
  ·((iterate 5 refine gFrz ?_);apply LW.v0;rfl;rfl;apply ValP.pickT';rfl;simp only [Bool.not_true,Bool.not_false];rfl;refine vMz ?_;apply zV)
   exact joinI ⟨getB rfl (by (rfl)),rfl,rfl,trivial⟩ (qM _)
  ·(refine gTsz<|vFz<|gTsz<|ldz rfl (.tail .head) fr_rd6<|gTsz<|vFz<|gTsz<|ldz rfl .head fr_rd6<|gTsz<|lvz (.ne rfl rfl) ?_;apply LW.v0;rfl;rfl;apply ValP.pickF';rfl;simp only [Bool.not_true,Bool.not_false];rfl;refine vMz ?_;apply zV)
   exact joinI ⟨getB rfl (by (exact congrArg not (decide_eq_decide.2 Int.ofNat_inj))),rfl,rfl,trivial⟩ (qM _)
 obtain ⟨y4,hy4⟩:∃ c:Bool,c=(y3 && decide (val=val')):=⟨_,rfl⟩
 refine LW.joinF 7 ((38,.bool (!y4))::[(2,.pointer (some ⟨b2,0,none⟩)),(3,.pointer (some ⟨b3,0,none⟩))]) ?_ ?_
 rotate_left
 ·rw [hy4]
  clear hy4 hy3 hy2 hy1 hy0
  cases y3
  ·((iterate 5 refine gFrz ?_);apply LW.v0;rfl;rfl;apply ValP.pickT';rfl;simp only [Bool.not_true,Bool.not_false];rfl;refine vMz ?_;apply zV)
   exact joinI ⟨getB rfl (by (rfl)),rfl,rfl,trivial⟩ (qM _)
  ·(refine gTsz<|vFz<|gTsz<|ldz rfl (.tail .head) fr_rd7<|gTsz<|vFz<|gTsz<|ldz rfl .head fr_rd7<|gTsz ?_;refine lvz (.neW rfl rfl (by assumption) (by assumption)) ?_;apply LW.v0;rfl;rfl;apply ValP.pickF';rfl;simp only [Bool.not_true,Bool.not_false];rfl;refine vMz ?_;apply zV)
   exact joinI ⟨getB rfl (by (rfl)),rfl,rfl,trivial⟩ (qM _)
 obtain ⟨y5,hy5⟩:∃ c:Bool,c=(y4 && decide (stat=stat')):=⟨_,rfl⟩
 refine LW.joinF 6 ((44,.bool (!y5))::[(2,.pointer (some ⟨b2,0,none⟩)),(3,.pointer (some ⟨b3,0,none⟩))]) ?_ ?_
 rotate_left
 ·rw [hy5]
  clear hy5 hy4 hy3 hy2 hy1 hy0
  cases y4
  ·((iterate 5 refine gFrz ?_);apply LW.v0;rfl;rfl;apply ValP.pickT';rfl;simp only [Bool.not_true,Bool.not_false];rfl;apply zV)
   exact joinI ⟨getB rfl (by (rfl)),rfl,rfl,trivial⟩ (qM _)
  ·(refine gTsz<|vFz<|gTsz<|ldz rfl (.tail .head) fr_rd13<|gTsz<|vFz<|gTsz<|ldz rfl .head fr_rd13<|gTsz<|lvz (.boolNe rfl rfl) ?_;apply LW.v0;rfl;rfl;apply ValP.pickF';rfl;simp only [Bool.not_true,Bool.not_false];rfl;apply zV)
   exact joinI ⟨getB rfl (by (rfl)),rfl,rfl,trivial⟩ (qM _)
 cases hyy:y5
 ·rw [show decide (sameF ⟨.slice p0 L.cl.length c0,pc,.slice p2 L.ws.length c2,.slice p3 L.ms.length c3,gas,self,frm,val,.slice p11 L.il.length c11,.slice p12 L.bl.length c12,stat⟩ L ⟨.slice r0 M.cl.length d0,pc',.slice r2 M.ws.length d2,.slice r3 M.ms.length d3,gas',self',frm',val',.slice r11 M.il.length d11,.slice r12 M.bl.length d12,stat'⟩ M)=false from decide_eq_false fun h=>by unfold sameF at h;dsimp only at h;obtain ⟨e0,e1,e2,e3,e4,e5,e6,e7,e8,e9⟩:=h;simp [hy5,hy4,hy3,hy2,hy1,hy0,e0,e1,e2,e3,e4,e5] at hyy]
  (refine nNz ?_;apply CW.condT;rfl;simp only [Bool.not_true,Bool.not_false];refine sRz<|vAz<|nNz<|zK<|thenR ?_)
  (apply finR;exact .inl rfl;rfl;rfl;rfl;apply zD;exact zG rfl;exact zF)
  rfl
 simp only [hy5,hy4,hy3,hy2,hy1,hy0,Bool.and_eq_true,decide_eq_true_eq] at hyy
 obtain ⟨⟨⟨⟨⟨e0,e1⟩,e2⟩,e3⟩,e4⟩,e5⟩:=hyy
 (refine nNz ?_;apply CW.condF;rfl;simp only [Bool.not_true,Bool.not_false];refine zJ<|thenN<|sRz<|vFz<|ldz rfl (.tail .head) fr_rd0<|vFz<|ldz rfl .head fr_rd0 ?_;apply zS;rfl;rfl;infer_instance;exact .cons rfl (.cons rfl .nil);intro w _;exact hq6 w (by assumption);refine vMz ?_)
 obtain ⟨y6,hy6⟩:∃ c:Bool,c=decide (L.cl=M.cl):=⟨_,rfl⟩
 refine LW.joinF 0 ((50,.bool (y6))::[(2,.pointer (some ⟨b2,0,none⟩)),(3,.pointer (some ⟨b3,0,none⟩))]) ?_ ?_
 rotate_left
 ·rw [hy6]
  (apply zV)
  exact joinI ⟨getB rfl (by (rfl)),rfl,rfl,trivial⟩ (qM _)
 obtain ⟨y7,hy7⟩:∃ c:Bool,c=(y6 && decide (L.il=M.il)):=⟨_,rfl⟩
 refine LW.joinF 7 ((57,.bool (y7))::[(2,.pointer (some ⟨b2,0,none⟩)),(3,.pointer (some ⟨b3,0,none⟩))]) ?_ ?_
 rotate_left
 ·rw [hy7]
  clear hy7 hy6 hy5 hy4 hy3 hy2 hy1 hy0
  cases y6
  ·((iterate 5 refine gFz ?_);refine pFz<|vMz ?_;apply zV)
   exact joinI ⟨getB rfl (by (rfl)),rfl,rfl,trivial⟩ (qM _)
  ·(refine gTz<|vFz<|gTz<|ldz rfl (.tail .head) fr_rd11<|gTz<|vFz<|gTz<|ldz rfl .head fr_rd11<|gTz ?_;apply zS;rfl;rfl;infer_instance;exact .cons rfl (.cons rfl .nil);intro w _;exact hq7 w (by assumption);refine pTz<|vMz ?_;apply zV)
   exact joinI ⟨getB rfl (by (rfl)),rfl,rfl,trivial⟩ (qM _)
 obtain ⟨y8,hy8⟩:∃ c:Bool,c=(y7 && decide (L.bl=M.bl)):=⟨_,rfl⟩
 refine LW.joinF 7 ((64,.bool (y8))::[(2,.pointer (some ⟨b2,0,none⟩)),(3,.pointer (some ⟨b3,0,none⟩))]) ?_ ?_
 rotate_left
 ·rw [hy8]
  clear hy8 hy7 hy6 hy5 hy4 hy3 hy2 hy1 hy0
  cases y7
  ·((iterate 5 refine gFz ?_);refine pFz<|vMz ?_;apply zV)
   exact joinI ⟨getB rfl (by (rfl)),rfl,rfl,trivial⟩ (qM _)
  ·(refine gTz<|vFz<|gTz<|ldz rfl (.tail .head) fr_rd12<|gTz<|vFz<|gTz<|ldz rfl .head fr_rd12<|gTz ?_;apply zS;rfl;rfl;infer_instance;exact .cons rfl (.cons rfl .nil);intro w _;exact hq8 w (by assumption);refine pTz<|vMz ?_;apply zV)
   exact joinI ⟨getB rfl (by (rfl)),rfl,rfl,trivial⟩ (qM _)
 obtain ⟨y9,hy9⟩:∃ c:Bool,c=(y8 && decide (L.ws=M.ws∧L.ms=M.ms)):=⟨_,rfl⟩
 refine LW.joinF 7 ((4,.bool (y9))::[(2,.pointer (some ⟨b2,0,none⟩)),(3,.pointer (some ⟨b3,0,none⟩))]) ?_ ?_
 rotate_left
 ·rw [hy9]
  clear hy9 hy8 hy7 hy6 hy5 hy4 hy3 hy2 hy1 hy0
  cases y8
  ·((iterate 5 refine gFz ?_);refine pFz<|vAz ?_;apply zV)
   exact joinI ⟨getB rfl (by (rfl)),rfl,rfl,trivial⟩ (qM _)
  ·(refine gTz<|vFz<|gTz<|ldz rfl (.tail .head) fr_rd2<|gTz<|vFz<|gTz<|ldz rfl .head fr_rd2<|gTz ?_;apply zS;rfl;rfl;infer_instance;exact .cons rfl (.cons rfl .nil);intro w _;exact hq9 w (by assumption);refine pTz<|vAz ?_;apply zV)
   exact joinI ⟨getB rfl (by (rfl)),rfl,rfl,trivial⟩ (qM _)
 have hfin:y9=decide (sameF ⟨.slice p0 L.cl.length c0,pc,.slice p2 L.ws.length c2,.slice p3 L.ms.length c3,gas,self,frm,val,.slice p11 L.il.length c11,.slice p12 L.bl.length c12,stat⟩ L ⟨.slice r0 M.cl.length d0,pc',.slice r2 M.ws.length d2,.slice r3 M.ms.length d3,gas',self',frm',val',.slice r11 M.il.length d11,.slice r12 M.bl.length d12,stat'⟩ M):=by
  rw [Bool.eq_iff_iff]
  simp only [hy9,hy8,hy7,hy6,Bool.and_eq_true,decide_eq_true_eq]
  unfold sameF
  dsimp only
  exact ⟨fun ⟨⟨⟨e6,e7⟩,e8⟩,e9⟩=>⟨e0,e1,e2,e3,e4,e5,e6,e7,e8,e9⟩,fun ⟨e0,e1,e2,e3,e4,e5,e6,e7,e8,e9⟩=>⟨⟨⟨e6,e7⟩,e8⟩,e9⟩⟩
 rw [← hfin]
 (refine nNz<|zK ?_)
 (apply finR;exact .inl rfl;rfl;rfl;rfl;apply zD;exact zG rfl;exact zF)
 rfl
theorem rcSame_calls (f g:ClV) (L M:ClL) (hv1:f.val < M256) (hv2:g.val < M256) (w:World) (h:ClRows w f L) (h':ClRows w g M):Calls Tryz.prog 17 #[clv f,clv g] w (Ret w (.bool (decide (sameC f L g M)))):=by
 obtain ⟨op,dst,self,frm,val,mv,gas,inp,code,pl,n,stat⟩:=f
 obtain ⟨op',dst',self',frm',val',mv',gas',inp',code',pl',n',stat'⟩:=g
 obtain ⟨h0,h1⟩:=h
 obtain ⟨k0,k1⟩:=h'
 dsimp only at h0 h1 k0 k1 hv1 hv2
 obtain ⟨p0,c0,rfl,_,_⟩:=id h0.form
 obtain ⟨p1,c1,rfl,_,_⟩:=id h1.form
 obtain ⟨r0,d0,rfl,_,_⟩:=id k0.form
 obtain ⟨r1,d1,rfl,_,_⟩:=id k1.form
 have hq10:=fun w' {fs:Fs} (hst:St w [] fs w')=>rSame1_calls L.il M.il _ _ w' (h0.st hst) (k0.st hst)
 have hq11:=fun w' {fs:Fs} (hst:St w [] fs w')=>rSame1_calls L.cl M.cl _ _ w' (h1.st hst) (k1.st hst)
 refine enter (args:=[_,_]) _ [] [] Tryz.func17 rfl Tryz.ntmps17 rfl (by simp) .nil ?_
 (refine sRz ?_;apply zT;rfl;rfl;intro _;apply zT;rfl;rfl;intro _;refine vAz<|nNz<|zI<|sRz<|vFz<|ldz rfl (.tail .head) cl_rd0<|vFz<|ldz rfl .head cl_rd0<|lvz (.ne rfl rfl)<|vMz ?_)
 rename_i b2 b3
 obtain ⟨y0,hy0⟩:∃ c:Bool,c=decide (op=op'):=⟨_,rfl⟩
 refine LW.joinF 0 ((10,.bool (!y0))::[(2,.pointer (some ⟨b2,0,none⟩)),(3,.pointer (some ⟨b3,0,none⟩))]) ?_ ?_
 rotate_left
 ·rw [hy0]
  (apply zV)
  exact joinI ⟨getB rfl (by (exact congrArg not (decide_eq_decide.2 Int.ofNat_inj))),rfl,rfl,trivial⟩ (qM _)
 obtain ⟨y1,hy1⟩:∃ c:Bool,c=(y0 && decide (dst=dst')):=⟨_,rfl⟩
 refine LW.joinF 7 ((17,.bool (!y1))::[(2,.pointer (some ⟨b2,0,none⟩)),(3,.pointer (some ⟨b3,0,none⟩))]) ?_ ?_
 rotate_left
 ·rw [hy1]
  clear hy1 hy0
  cases y0
  ·((iterate 5 refine gFrz ?_);apply LW.v0;rfl;rfl;apply ValP.pickT';rfl;simp only [Bool.not_true,Bool.not_false];rfl;refine vMz ?_;apply zV)
   exact joinI ⟨getB rfl (by (rfl)),rfl,rfl,trivial⟩ (qM _)
  ·(refine gTsz<|vFz<|gTsz<|ldz rfl (.tail .head) cl_rd1<|gTsz<|vFz<|gTsz<|ldz rfl .head cl_rd1<|gTsz<|lvz (.ne rfl rfl) ?_;apply LW.v0;rfl;rfl;apply ValP.pickF';rfl;simp only [Bool.not_true,Bool.not_false];rfl;refine vMz ?_;apply zV)
   exact joinI ⟨getB rfl (by (exact congrArg not (decide_eq_decide.2 Int.ofNat_inj))),rfl,rfl,trivial⟩ (qM _)
 obtain ⟨y2,hy2⟩:∃ c:Bool,c=(y1 && decide (self=self')):=⟨_,rfl⟩
 refine LW.joinF 7 ((24,.bool (!y2))::[(2,.pointer (some ⟨b2,0,none⟩)),(3,.pointer (some ⟨b3,0,none⟩))]) ?_ ?_
 rotate_left
 ·rw [hy2]
  clear hy2 hy1 hy0
  cases y1
  ·((iterate 5 refine gFrz ?_);apply LW.v0;rfl;rfl;apply ValP.pickT';rfl;simp only [Bool.not_true,Bool.not_false];rfl;refine vMz ?_;apply zV)
   exact joinI ⟨getB rfl (by (rfl)),rfl,rfl,trivial⟩ (qM _)
  ·(refine gTsz<|vFz<|gTsz<|ldz rfl (.tail .head) cl_rd2<|gTsz<|vFz<|gTsz<|ldz rfl .head cl_rd2<|gTsz<|lvz (.ne rfl rfl) ?_;apply LW.v0;rfl;rfl;apply ValP.pickF';rfl;simp only [Bool.not_true,Bool.not_false];rfl;refine vMz ?_;apply zV)
   exact joinI ⟨getB rfl (by (exact congrArg not (decide_eq_decide.2 Int.ofNat_inj))),rfl,rfl,trivial⟩ (qM _)
 obtain ⟨y3,hy3⟩:∃ c:Bool,c=(y2 && decide (frm=frm')):=⟨_,rfl⟩
 refine LW.joinF 7 ((31,.bool (!y3))::[(2,.pointer (some ⟨b2,0,none⟩)),(3,.pointer (some ⟨b3,0,none⟩))]) ?_ ?_
 rotate_left
 ·rw [hy3]
  clear hy3 hy2 hy1 hy0
  cases y2
  ·((iterate 5 refine gFrz ?_);apply LW.v0;rfl;rfl;apply ValP.pickT';rfl;simp only [Bool.not_true,Bool.not_false];rfl;refine vMz ?_;apply zV)
   exact joinI ⟨getB rfl (by (rfl)),rfl,rfl,trivial⟩ (qM _)
  ·(refine gTsz<|vFz<|gTsz<|ldz rfl (.tail .head) cl_rd3<|gTsz<|vFz<|gTsz<|ldz rfl .head cl_rd3<|gTsz<|lvz (.ne rfl rfl) ?_;apply LW.v0;rfl;rfl;apply ValP.pickF';rfl;simp only [Bool.not_true,Bool.not_false];rfl;refine vMz ?_;apply zV)
   exact joinI ⟨getB rfl (by (exact congrArg not (decide_eq_decide.2 Int.ofNat_inj))),rfl,rfl,trivial⟩ (qM _)
 obtain ⟨y4,hy4⟩:∃ c:Bool,c=(y3 && decide (val=val')):=⟨_,rfl⟩
 refine LW.joinF 7 ((38,.bool (!y4))::[(2,.pointer (some ⟨b2,0,none⟩)),(3,.pointer (some ⟨b3,0,none⟩))]) ?_ ?_
 rotate_left
 ·rw [hy4]
  clear hy4 hy3 hy2 hy1 hy0
  cases y3
  ·((iterate 5 refine gFrz ?_);apply LW.v0;rfl;rfl;apply ValP.pickT';rfl;simp only [Bool.not_true,Bool.not_false];rfl;refine vMz ?_;apply zV)
   exact joinI ⟨getB rfl (by (rfl)),rfl,rfl,trivial⟩ (qM _)
  ·(refine gTsz<|vFz<|gTsz<|ldz rfl (.tail .head) cl_rd4<|gTsz<|vFz<|gTsz<|ldz rfl .head cl_rd4<|gTsz ?_;refine lvz (.neW rfl rfl (by assumption) (by assumption)) ?_;apply LW.v0;rfl;rfl;apply ValP.pickF';rfl;simp only [Bool.not_true,Bool.not_false];rfl;refine vMz ?_;apply zV)
   exact joinI ⟨getB rfl (by (rfl)),rfl,rfl,trivial⟩ (qM _)
 obtain ⟨y5,hy5⟩:∃ c:Bool,c=(y4 && decide (mv=mv')):=⟨_,rfl⟩
 refine LW.joinF 7 ((45,.bool (!y5))::[(2,.pointer (some ⟨b2,0,none⟩)),(3,.pointer (some ⟨b3,0,none⟩))]) ?_ ?_
 rotate_left
 ·rw [hy5]
  clear hy5 hy4 hy3 hy2 hy1 hy0
  cases y4
  ·((iterate 5 refine gFrz ?_);apply LW.v0;rfl;rfl;apply ValP.pickT';rfl;simp only [Bool.not_true,Bool.not_false];rfl;refine vMz ?_;apply zV)
   exact joinI ⟨getB rfl (by (rfl)),rfl,rfl,trivial⟩ (qM _)
  ·(refine gTsz<|vFz<|gTsz<|ldz rfl (.tail .head) cl_rd8<|gTsz<|vFz<|gTsz<|ldz rfl .head cl_rd8<|gTsz<|lvz (.boolNe rfl rfl) ?_;apply LW.v0;rfl;rfl;apply ValP.pickF';rfl;simp only [Bool.not_true,Bool.not_false];rfl;refine vMz ?_;apply zV)
   exact joinI ⟨getB rfl (by (rfl)),rfl,rfl,trivial⟩ (qM _)
 obtain ⟨y6,hy6⟩:∃ c:Bool,c=(y5 && decide (gas=gas')):=⟨_,rfl⟩
 refine LW.joinF 6 ((51,.bool (!y6))::[(2,.pointer (some ⟨b2,0,none⟩)),(3,.pointer (some ⟨b3,0,none⟩))]) ?_ ?_
 rotate_left
 ·rw [hy6]
  clear hy6 hy5 hy4 hy3 hy2 hy1 hy0
  cases y5
  ·((iterate 5 refine gFrz ?_);apply LW.v0;rfl;rfl;apply ValP.pickT';rfl;simp only [Bool.not_true,Bool.not_false];rfl;apply zV)
   exact joinI ⟨getB rfl (by (rfl)),rfl,rfl,trivial⟩ (qM _)
  ·(refine gTsz<|vFz<|gTsz<|ldz rfl (.tail .head) cl_rd9<|gTsz<|vFz<|gTsz<|ldz rfl .head cl_rd9<|gTsz<|lvz (.ne rfl rfl) ?_;apply LW.v0;rfl;rfl;apply ValP.pickF';rfl;simp only [Bool.not_true,Bool.not_false];rfl;apply zV)
   exact joinI ⟨getB rfl (by (exact congrArg not (decide_eq_decide.2 Int.ofNat_inj))),rfl,rfl,trivial⟩ (qM _)
 cases hyy:y6
 ·rw [show decide (sameC ⟨op,dst,self,frm,val,mv,gas,.slice p0 L.il.length c0,.slice p1 L.cl.length c1,pl,n,stat⟩ L ⟨op',dst',self',frm',val',mv',gas',.slice r0 M.il.length d0,.slice r1 M.cl.length d1,pl',n',stat'⟩ M)=false from decide_eq_false fun h=>by unfold sameC at h;dsimp only at h;obtain ⟨e0,e1,e2,e3,e4,e5,e6,e7,e8,e9,e10,e11⟩:=h;simp [hy6,hy5,hy4,hy3,hy2,hy1,hy0,e0,e1,e2,e3,e4,e5,e6] at hyy]
  (refine nNz ?_;apply CW.condT;rfl;simp only [Bool.not_true,Bool.not_false];refine sRz<|vAz<|nNz<|zK<|thenR ?_)
  (apply finR;exact .inl rfl;rfl;rfl;rfl;apply zD;exact zG rfl;exact zF)
  rfl
 simp only [hy6,hy5,hy4,hy3,hy2,hy1,hy0,Bool.and_eq_true,decide_eq_true_eq] at hyy
 obtain ⟨⟨⟨⟨⟨⟨e0,e1⟩,e2⟩,e3⟩,e4⟩,e5⟩,e6⟩:=hyy
 (refine nNz ?_;apply CW.condF;rfl;simp only [Bool.not_true,Bool.not_false];refine zJ<|thenN<|sRz<|vFz<|ldz rfl (.tail .head) cl_rd12<|vFz<|ldz rfl .head cl_rd12<|lvz (.eq rfl rfl)<|vMz ?_)
 obtain ⟨y7,hy7⟩:∃ c:Bool,c=decide (pl=pl'):=⟨_,rfl⟩
 refine LW.joinF 0 ((57,.bool (y7))::[(2,.pointer (some ⟨b2,0,none⟩)),(3,.pointer (some ⟨b3,0,none⟩))]) ?_ ?_
 rotate_left
 ·rw [hy7]
  (apply zV)
  exact joinI ⟨getB rfl (by (exact decide_eq_decide.2 Int.ofNat_inj)),rfl,rfl,trivial⟩ (qM _)
 obtain ⟨y8,hy8⟩:∃ c:Bool,c=(y7 && decide (n=n')):=⟨_,rfl⟩
 refine LW.joinF 7 ((64,.bool (y8))::[(2,.pointer (some ⟨b2,0,none⟩)),(3,.pointer (some ⟨b3,0,none⟩))]) ?_ ?_
 rotate_left
 ·rw [hy8]
  clear hy8 hy7 hy6 hy5 hy4 hy3 hy2 hy1 hy0
  cases y7
  ·((iterate 5 refine gFz ?_);refine pFz<|vMz ?_;apply zV)
   exact joinI ⟨getB rfl (by (rfl)),rfl,rfl,trivial⟩ (qM _)
  ·(refine gTz<|vFz<|gTz<|ldz rfl (.tail .head) cl_rd13<|gTz<|vFz<|gTz<|ldz rfl .head cl_rd13<|gTz<|lvz (.eq rfl rfl)<|pTz<|vMz ?_;apply zV)
   exact joinI ⟨getB rfl (by (exact decide_eq_decide.2 Int.ofNat_inj)),rfl,rfl,trivial⟩ (qM _)
 obtain ⟨y9,hy9⟩:∃ c:Bool,c=(y8 && decide (stat=stat')):=⟨_,rfl⟩
 refine LW.joinF 7 ((71,.bool (y9))::[(2,.pointer (some ⟨b2,0,none⟩)),(3,.pointer (some ⟨b3,0,none⟩))]) ?_ ?_
 rotate_left
 ·rw [hy9]
  clear hy9 hy8 hy7 hy6 hy5 hy4 hy3 hy2 hy1 hy0
  cases y8
  ·((iterate 5 refine gFz ?_);refine pFz<|vMz ?_;apply zV)
   exact joinI ⟨getB rfl (by (rfl)),rfl,rfl,trivial⟩ (qM _)
  ·(refine gTz<|vFz<|gTz<|ldz rfl (.tail .head) cl_rd14<|gTz<|vFz<|gTz<|ldz rfl .head cl_rd14<|gTz<|lvz (.boolEq rfl rfl)<|pTz<|vMz ?_;apply zV)
   exact joinI ⟨getB rfl (by (rfl)),rfl,rfl,trivial⟩ (qM _)
 obtain ⟨y10,hy10⟩:∃ c:Bool,c=(y9 && decide (L.il=M.il)):=⟨_,rfl⟩
 refine LW.joinF 7 ((78,.bool (y10))::[(2,.pointer (some ⟨b2,0,none⟩)),(3,.pointer (some ⟨b3,0,none⟩))]) ?_ ?_
 rotate_left
 ·rw [hy10]
  clear hy10 hy9 hy8 hy7 hy6 hy5 hy4 hy3 hy2 hy1 hy0
  cases y9
  ·((iterate 5 refine gFz ?_);refine pFz<|vMz ?_;apply zV)
   exact joinI ⟨getB rfl (by (rfl)),rfl,rfl,trivial⟩ (qM _)
  ·(refine gTz<|vFz<|gTz<|ldz rfl (.tail .head) cl_rd10<|gTz<|vFz<|gTz<|ldz rfl .head cl_rd10<|gTz ?_;apply zS;rfl;rfl;infer_instance;exact .cons rfl (.cons rfl .nil);intro w _;exact hq10 w (by assumption);refine pTz<|vMz ?_;apply zV)
   exact joinI ⟨getB rfl (by (rfl)),rfl,rfl,trivial⟩ (qM _)
 obtain ⟨y11,hy11⟩:∃ c:Bool,c=(y10 && decide (L.cl=M.cl)):=⟨_,rfl⟩
 refine LW.joinF 7 ((4,.bool (y11))::[(2,.pointer (some ⟨b2,0,none⟩)),(3,.pointer (some ⟨b3,0,none⟩))]) ?_ ?_
 rotate_left
 ·rw [hy11]
  clear hy11 hy10 hy9 hy8 hy7 hy6 hy5 hy4 hy3 hy2 hy1 hy0
  cases y10
  ·((iterate 5 refine gFz ?_);refine pFz<|vAz ?_;apply zV)
   exact joinI ⟨getB rfl (by (rfl)),rfl,rfl,trivial⟩ (qM _)
  ·(refine gTz<|vFz<|gTz<|ldz rfl (.tail .head) cl_rd11<|gTz<|vFz<|gTz<|ldz rfl .head cl_rd11<|gTz ?_;apply zS;rfl;rfl;infer_instance;exact .cons rfl (.cons rfl .nil);intro w _;exact hq11 w (by assumption);refine pTz<|vAz ?_;apply zV)
   exact joinI ⟨getB rfl (by (rfl)),rfl,rfl,trivial⟩ (qM _)
 have hfin:y11=decide (sameC ⟨op,dst,self,frm,val,mv,gas,.slice p0 L.il.length c0,.slice p1 L.cl.length c1,pl,n,stat⟩ L ⟨op',dst',self',frm',val',mv',gas',.slice r0 M.il.length d0,.slice r1 M.cl.length d1,pl',n',stat'⟩ M):=by
  rw [Bool.eq_iff_iff]
  simp only [hy11,hy10,hy9,hy8,hy7,Bool.and_eq_true,decide_eq_true_eq]
  unfold sameC
  dsimp only
  exact ⟨fun ⟨⟨⟨⟨e7,e8⟩,e9⟩,e10⟩,e11⟩=>⟨e0,e1,e2,e3,e4,e5,e6,e7,e8,e9,e10,e11⟩,fun ⟨e0,e1,e2,e3,e4,e5,e6,e7,e8,e9,e10,e11⟩=>⟨⟨⟨⟨e7,e8⟩,e9⟩,e10⟩,e11⟩⟩
 rw [← hfin]
 (refine nNz<|zK ?_)
 (apply finR;exact .inl rfl;rfl;rfl;rfl;apply zD;exact zG rfl;exact zF)
 rfl
section
open CK (readB)
theorem rScRight_calls (p q:Option Addr) (n c k d:Nat) (hn1:n≤maxLen) (hk1:k≤maxLen) (w:World):Calls Tryz.prog 51 #[.agg #[.slice p n c,.slice q k d]] w (Ret w (.bool (decide (okSc n k)))):=by
 obtain ⟨e,he⟩:∃ e:Bool,e=decide (okSc n k):=⟨_,rfl⟩
 have hp:okSc n k→e=true:=fun h=>by rw [he,decide_eq_true h]
 have hn:¬ okSc n k→e=false:=fun h=>by rw [he,decide_eq_false h]
 rw [← he]
 clear he
 unfold okSc at hp hn
 refine enter (args:=[_]) _ [] [] Tryz.func51 rfl Tryz.ntmps51 rfl (by simp) .nil ?_
 by_cases hz:k % 32=0
 ·(refine sRz ?_;apply zT;rfl;rfl;intro _;refine vAz<|nSz<|vFz<|ldz rfl .head sc_rd0<|lvz (.lenR rfl inferInstance rfl)<|lvz (.leq rfl rfl)<|vMz ?_)
  (refine LW.guardDT rfl rfl rfl (fun hsq hsp=>?_) (fun hsq hsp=>?_))
  (refine vFz<|gTaz<|ldz rfl .head sc_rd1<|gTaz<|lvz (.lenR rfl inferInstance rfl)<|gTaz<|lvz (.leq rfl rfl)<|pTaz<|vMz ?_;refine LW.guardDT rfl rfl rfl (fun hsq hsp=>?_) (fun hsq hsp=>?_);refine vFz<|gTaz<|ldz rfl .head sc_rd1<|gTaz<|lvz (.lenR rfl inferInstance rfl)<|gTaz ?_;refine lvz (.remZL rfl rfl (by decide) (by omega)) ?_;refine gTaz ?_;refine lvz (.eqT rfl rfl (by omega)) ?_;refine pTaz<|vAz<|nNz<|zK ?_;apply finR;exact .inl rfl;rfl;rfl;rfl;apply zD;exact zG rfl;exact zF;rw [hp (by omega)];rfl;(iterate 4 refine gFaz ?_);refine pFaz<|vAz<|nNz<|zK ?_;apply finR;exact .inl rfl;rfl;rfl;rfl;apply zD;exact zG rfl;exact zF;rw [hn (by omega)];rfl;(iterate 3 refine gFaz ?_);refine pFaz<|vMz ?_;(iterate 5 refine gFz ?_);refine pFz<|vAz<|nNz<|zK ?_;apply finR;exact .inl rfl;rfl;rfl;rfl;apply zD;exact zG rfl;exact zF;rw [hn (by omega)];rfl)
 ·(refine sRz ?_;apply zT;rfl;rfl;intro _;refine vAz<|nSz<|vFz<|ldz rfl .head sc_rd0<|lvz (.lenR rfl inferInstance rfl)<|lvz (.leq rfl rfl)<|vMz ?_)
  (refine LW.guardDT rfl rfl rfl (fun hsq hsp=>?_) (fun hsq hsp=>?_))
  (refine vFz<|gTaz<|ldz rfl .head sc_rd1<|gTaz<|lvz (.lenR rfl inferInstance rfl)<|gTaz<|lvz (.leq rfl rfl)<|pTaz<|vMz ?_;refine LW.guardDT rfl rfl rfl (fun hsq hsp=>?_) (fun hsq hsp=>?_);refine vFz<|gTaz<|ldz rfl .head sc_rd1<|gTaz<|lvz (.lenR rfl inferInstance rfl)<|gTaz ?_;refine lvz (.remZL rfl rfl (by decide) (by omega)) ?_;refine gTaz ?_;refine lvz (.eqF rfl rfl (by omega)) ?_;refine pTaz<|vAz<|nNz<|zK ?_;apply finR;exact .inl rfl;rfl;rfl;rfl;apply zD;exact zG rfl;exact zF;rw [hn (by omega)];rfl;(iterate 4 refine gFaz ?_);refine pFaz<|vAz<|nNz<|zK ?_;apply finR;exact .inl rfl;rfl;rfl;rfl;apply zD;exact zG rfl;exact zF;rw [hn (by omega)];rfl;(iterate 3 refine gFaz ?_);refine pFaz<|vMz ?_;(iterate 5 refine gFz ?_);refine pFz<|vAz<|nNz<|zK ?_;apply finR;exact .inl rfl;rfl;rfl;rfl;apply zD;exact zG rfl;exact zF;rw [hn (by omega)];rfl)
theorem rfRight_calls (f:FrV) (L:FrL) (w:World) (h:FrRows w f L):Calls Tryz.prog 24 #[frv f] w (Ret w (.bool (decide (okF f L)))):=by
 obtain ⟨e,he⟩:∃ e:Bool,e=decide (okF f L):=⟨_,rfl⟩
 have hp:okF f L→e=true:=fun h=>by rw [he,decide_eq_true h]
 have hn:¬ okF f L→e=false:=fun h=>by rw [he,decide_eq_false h]
 rw [← he]
 clear he
 unfold okF at hp hn
 obtain ⟨code,pc,stk,mem,gas,self,frm,val,inp,back,stat⟩:=f
 obtain ⟨h0,h2,h3,h11,h12⟩:=h
 dsimp only at h0 h2 h3 h11 h12 hp hn
 obtain ⟨p0,c0,rfl,_,hm0⟩:=h0.form
 obtain ⟨p2,c2,rfl,_,hm2⟩:=h2.form
 obtain ⟨p3,c3,rfl,_,hm3⟩:=h3.form
 obtain ⟨p11,c11,rfl,_,hm11⟩:=h11.form
 obtain ⟨p12,c12,rfl,_,hm12⟩:=h12.form
 have hS0:=rScRight_calls p2 p3 L.ws.length c2 L.ms.length c3 (by omega) (by omega)
 have hC0:∀ w' {fs},St w [] fs w'→Calls Tryz.prog 50 #[.slice p0 L.cl.length c0] w' (Ret w' (.bool (decide (L.cl.length≤200)))):=fun w' fs hst=>CK.Right_calls _ _ _ w' (h0.st hst)
 simp only [maxLen] at hm0 hm2 hm3 hm11 hm12
 refine enter (args:=[_]) _ [] [] Tryz.func24 rfl Tryz.ntmps24 rfl (by simp) .nil ?_
 by_cases hc:L.cl.length≤200
 ·have hRd0:∀ w' {fs},St w [] fs w'→Calls Tryz.prog 52 #[.slice p0 L.cl.length c0,.int .i64 pc] w' (Ret w' (.bool (readB L.cl pc))):=fun w' fs hst=>CK.Read_calls _ (by omega) _ _ w' (h0.st hst)
  rw [decide_eq_true hc] at hC0
  have hC:∀ w' {fs},St w [] fs w'→Calls Tryz.prog 50 #[.slice p0 L.cl.length c0] w' (Ret w' (.bool true)):=hC0
  by_cases hs:okSc L.ws.length L.ms.length
  ·rw [decide_eq_true hs] at hS0
   have hS:∀ w',Calls Tryz.prog 51 #[.agg #[.slice p2 L.ws.length c2,.slice p3 L.ms.length c3]] w' (Ret w' (.bool true)):=hS0
   simp only [hs,true_and] at hp hn
   by_cases hpc:pc=(L.cl.length:Int)
   ·simp only [hpc,true_or,and_true] at hp hn
    subst hpc
    (refine sRz ?_;apply zT;rfl;rfl;intro _;refine vAz<|nNz<|zI<|sRz<|vFz<|ldz rfl .head fr_rd0 ?_;apply zS;rfl;rfl;infer_instance;exact .cons rfl .nil;intro w _;exact hC w (by assumption);refine lvz (.notT rfl (by with_reducible rfl)) ?_;refine vMz<|gTz<|vFz<|gTz<|ldz rfl .head fr_rd2<|gTz ?_;apply zS;rfl;rfl;infer_instance;exact .cons rfl .nil;intro w _;exact hS w;refine gTz ?_;refine lvz (.notT rfl (by with_reducible rfl)) ?_;refine pFz<|vMz<|gTz<|vFz<|gTz<|ldz rfl .head fr_rd4<|gTz<|lvz (.gtr rfl rfl)<|pFz<|vMz ?_)
    (refine LW.guardDF rfl rfl rfl (fun hsq hsp=>?_) (fun hsq hsp=>?_))
    (refine vFz<|gTaz<|ldz rfl .head fr_rd5<|gTaz<|lvz (.eq rfl rfl)<|pFaz<|nNz ?_;refine CW.condD rfl (fun hsq hsp=>?_) (fun hsq hsp=>?_);refine sRz<|vAz<|nNz<|zK ?_;refine thenR (finR (.inl rfl) rfl rfl rfl (.cons (.tmp rfl) .nil) ?_);rw [hn (by omega)];rfl;refine zJ<|thenN<|zI<|sRz<|vFz<|ldz rfl .head fr_rd11<|lvz (.lenR rfl inferInstance rfl)<|lvz (.gtr rfl rfl)<|vMz ?_;refine LW.guardDF rfl rfl rfl (fun hsq hsp=>?_) (fun hsq hsp=>?_);refine vFz<|gTaz<|ldz rfl .head fr_rd12<|gTaz<|lvz (.lenR rfl inferInstance rfl)<|gTaz<|lvz (.gtr rfl rfl)<|pFaz<|nNz ?_;refine CW.condD rfl (fun hsq hsp=>?_) (fun hsq hsp=>?_);refine sRz<|vAz<|nNz<|zK ?_;refine thenR (finR (.inl rfl) rfl rfl rfl (.cons (.tmp rfl) .nil) ?_);rw [hn (by omega)];rfl;refine zJ<|thenN<|sRz<|vFz<|ldz rfl .head fr_rd1<|vFz<|ldz rfl .head fr_rd0<|lvz (.lenR rfl inferInstance rfl) ?_;refine lvz (.eqT rfl rfl (by omega)) ?_;refine vMz ?_;(iterate 5 refine gFz ?_);refine pTz<|vAz<|nNz<|zK ?_;apply finR;exact .inl rfl;rfl;rfl;rfl;apply zD;exact zG rfl;exact zF;rw [hp (by omega)];rfl;(iterate 3 refine gFaz ?_);refine pTaz<|nNz<|cTz<|sRz<|vAz<|nNz<|zK ?_;refine thenR (finR (.inl rfl) rfl rfl rfl (.cons (.tmp rfl) .nil) ?_);rw [hn (by omega)];rfl;refine gFaz<|gFaz<|pTaz<|nNz<|cTz<|sRz<|vAz<|nNz<|zK ?_;refine thenR (finR (.inl rfl) rfl rfl rfl (.cons (.tmp rfl) .nil) ?_);rw [hn (by omega)];rfl)
   ·cases hr:readB L.cl pc with
    |true =>
     rw [hr] at hRd0 hp hn
     have hRd:∀ w' {fs},St w [] fs w'→Calls Tryz.prog 52 #[.slice p0 L.cl.length c0,.int .i64 pc] w' (Ret w' (.bool true)):=hRd0
     simp only [or_true,and_true] at hp hn
     (refine sRz ?_;apply zT;rfl;rfl;intro _;refine vAz<|nNz<|zI<|sRz<|vFz<|ldz rfl .head fr_rd0 ?_;apply zS;rfl;rfl;infer_instance;exact .cons rfl .nil;intro w _;exact hC w (by assumption);refine lvz (.notT rfl (by with_reducible rfl)) ?_;refine vMz<|gTz<|vFz<|gTz<|ldz rfl .head fr_rd2<|gTz ?_;apply zS;rfl;rfl;infer_instance;exact .cons rfl .nil;intro w _;exact hS w;refine gTz ?_;refine lvz (.notT rfl (by with_reducible rfl)) ?_;refine pFz<|vMz<|gTz<|vFz<|gTz<|ldz rfl .head fr_rd4<|gTz<|lvz (.gtr rfl rfl)<|pFz<|vMz ?_)
     (refine LW.guardDF rfl rfl rfl (fun hsq hsp=>?_) (fun hsq hsp=>?_))
     (refine vFz<|gTaz<|ldz rfl .head fr_rd5<|gTaz<|lvz (.eq rfl rfl)<|pFaz<|nNz ?_;refine CW.condD rfl (fun hsq hsp=>?_) (fun hsq hsp=>?_);refine sRz<|vAz<|nNz<|zK ?_;refine thenR (finR (.inl rfl) rfl rfl rfl (.cons (.tmp rfl) .nil) ?_);rw [hn (by omega)];rfl;refine zJ<|thenN<|zI<|sRz<|vFz<|ldz rfl .head fr_rd11<|lvz (.lenR rfl inferInstance rfl)<|lvz (.gtr rfl rfl)<|vMz ?_;refine LW.guardDF rfl rfl rfl (fun hsq hsp=>?_) (fun hsq hsp=>?_);refine vFz<|gTaz<|ldz rfl .head fr_rd12<|gTaz<|lvz (.lenR rfl inferInstance rfl)<|gTaz<|lvz (.gtr rfl rfl)<|pFaz<|nNz ?_;refine CW.condD rfl (fun hsq hsp=>?_) (fun hsq hsp=>?_);refine sRz<|vAz<|nNz<|zK ?_;refine thenR (finR (.inl rfl) rfl rfl rfl (.cons (.tmp rfl) .nil) ?_);rw [hn (by omega)];rfl;refine zJ<|thenN<|sRz<|vFz<|ldz rfl .head fr_rd1<|vFz<|ldz rfl .head fr_rd0<|lvz (.lenR rfl inferInstance rfl) ?_;refine lvz (.eqF rfl rfl (by omega)) ?_;refine vMz<|gTz<|vFz<|gTz<|ldz rfl .head fr_rd0<|gTz<|vFz<|gTz<|ldz rfl .head fr_rd1<|gTz ?_;apply zS;rfl;rfl;infer_instance;exact .cons rfl (.cons rfl .nil);intro w _;exact hRd w (by assumption);refine pFz<|vAz<|nNz<|zK ?_;apply finR;exact .inl rfl;rfl;rfl;rfl;apply zD;exact zG rfl;exact zF;rw [hp (by omega)];rfl;(iterate 3 refine gFaz ?_);refine pTaz<|nNz<|cTz<|sRz<|vAz<|nNz<|zK ?_;refine thenR (finR (.inl rfl) rfl rfl rfl (.cons (.tmp rfl) .nil) ?_);rw [hn (by omega)];rfl;refine gFaz<|gFaz<|pTaz<|nNz<|cTz<|sRz<|vAz<|nNz<|zK ?_;refine thenR (finR (.inl rfl) rfl rfl rfl (.cons (.tmp rfl) .nil) ?_);rw [hn (by omega)];rfl)
    |false =>
     rw [hr] at hRd0 hp hn
     have hRd:∀ w' {fs},St w [] fs w'→Calls Tryz.prog 52 #[.slice p0 L.cl.length c0,.int .i64 pc] w' (Ret w' (.bool false)):=hRd0
     simp only [Bool.false_eq_true,or_false] at hp hn
     (refine sRz ?_;apply zT;rfl;rfl;intro _;refine vAz<|nNz<|zI<|sRz<|vFz<|ldz rfl .head fr_rd0 ?_;apply zS;rfl;rfl;infer_instance;exact .cons rfl .nil;intro w _;exact hC w (by assumption);refine lvz (.notT rfl (by with_reducible rfl)) ?_;refine vMz<|gTz<|vFz<|gTz<|ldz rfl .head fr_rd2<|gTz ?_;apply zS;rfl;rfl;infer_instance;exact .cons rfl .nil;intro w _;exact hS w;refine gTz ?_;refine lvz (.notT rfl (by with_reducible rfl)) ?_;refine pFz<|vMz<|gTz<|vFz<|gTz<|ldz rfl .head fr_rd4<|gTz<|lvz (.gtr rfl rfl)<|pFz<|vMz ?_)
     (refine LW.guardDF rfl rfl rfl (fun hsq hsp=>?_) (fun hsq hsp=>?_))
     (refine vFz<|gTaz<|ldz rfl .head fr_rd5<|gTaz<|lvz (.eq rfl rfl)<|pFaz<|nNz ?_;refine CW.condD rfl (fun hsq hsp=>?_) (fun hsq hsp=>?_);refine sRz<|vAz<|nNz<|zK ?_;refine thenR (finR (.inl rfl) rfl rfl rfl (.cons (.tmp rfl) .nil) ?_);rw [hn (by omega)];rfl;refine zJ<|thenN<|zI<|sRz<|vFz<|ldz rfl .head fr_rd11<|lvz (.lenR rfl inferInstance rfl)<|lvz (.gtr rfl rfl)<|vMz ?_;refine LW.guardDF rfl rfl rfl (fun hsq hsp=>?_) (fun hsq hsp=>?_);refine vFz<|gTaz<|ldz rfl .head fr_rd12<|gTaz<|lvz (.lenR rfl inferInstance rfl)<|gTaz<|lvz (.gtr rfl rfl)<|pFaz<|nNz ?_;refine CW.condD rfl (fun hsq hsp=>?_) (fun hsq hsp=>?_);refine sRz<|vAz<|nNz<|zK ?_;refine thenR (finR (.inl rfl) rfl rfl rfl (.cons (.tmp rfl) .nil) ?_);rw [hn (by omega)];rfl;refine zJ<|thenN<|sRz<|vFz<|ldz rfl .head fr_rd1<|vFz<|ldz rfl .head fr_rd0<|lvz (.lenR rfl inferInstance rfl) ?_;refine lvz (.eqF rfl rfl (by omega)) ?_;refine vMz<|gTz<|vFz<|gTz<|ldz rfl .head fr_rd0<|gTz<|vFz<|gTz<|ldz rfl .head fr_rd1<|gTz ?_;apply zS;rfl;rfl;infer_instance;exact .cons rfl (.cons rfl .nil);intro w _;exact hRd w (by assumption);refine pFz<|vAz<|nNz<|zK ?_;apply finR;exact .inl rfl;rfl;rfl;rfl;apply zD;exact zG rfl;exact zF;rw [hn (by omega)];rfl;(iterate 3 refine gFaz ?_);refine pTaz<|nNz<|cTz<|sRz<|vAz<|nNz<|zK ?_;refine thenR (finR (.inl rfl) rfl rfl rfl (.cons (.tmp rfl) .nil) ?_);rw [hn (by omega)];rfl;refine gFaz<|gFaz<|pTaz<|nNz<|cTz<|sRz<|vAz<|nNz<|zK ?_;refine thenR (finR (.inl rfl) rfl rfl rfl (.cons (.tmp rfl) .nil) ?_);rw [hn (by omega)];rfl)
  ·rw [decide_eq_false hs] at hS0
   have hS:∀ w',Calls Tryz.prog 51 #[.agg #[.slice p2 L.ws.length c2,.slice p3 L.ms.length c3]] w' (Ret w' (.bool false)):=hS0
   rw [hn (fun h=>hs h.2.2.2.1)] at *
   clear hp hn
   (refine sRz ?_;apply zT;rfl;rfl;intro _;refine vAz<|nNz<|zI<|sRz<|vFz<|ldz rfl .head fr_rd0 ?_;apply zS;rfl;rfl;infer_instance;exact .cons rfl .nil;intro w _;exact hC w (by assumption);refine lvz (.notT rfl (by with_reducible rfl)) ?_;refine vMz<|gTz<|vFz<|gTz<|ldz rfl .head fr_rd2<|gTz ?_;apply zS;rfl;rfl;infer_instance;exact .cons rfl .nil;intro w _;exact hS w;refine gTz ?_;refine lvz (.notF rfl (by with_reducible rfl)) ?_;refine pFz<|vMz ?_;(iterate 3 refine gFz ?_);refine pTz<|vMz ?_;(iterate 3 refine gFz ?_);refine pTz<|nNz<|cTz<|sRz<|vAz<|nNz<|zK<|thenR ?_)
   (apply finR;exact .inl rfl;rfl;rfl;rfl;apply zD;exact zG rfl;exact zF)
   rfl
 ·rw [decide_eq_false hc] at hC0
  have hC:∀ w' {fs},St w [] fs w'→Calls Tryz.prog 50 #[.slice p0 L.cl.length c0] w' (Ret w' (.bool false)):=hC0
  rw [hn (fun h=>hc h.2.2.1)] at *
  clear hp hn
  (refine sRz ?_;apply zT;rfl;rfl;intro _;refine vAz<|nNz<|zI<|sRz<|vFz<|ldz rfl .head fr_rd0 ?_;apply zS;rfl;rfl;infer_instance;exact .cons rfl .nil;intro w _;exact hC w (by assumption);refine lvz (.notF rfl (by with_reducible rfl)) ?_;refine vMz ?_;(iterate 4 refine gFz ?_);refine pTz<|vMz ?_;(iterate 3 refine gFz ?_);refine pTz<|vMz ?_;(iterate 3 refine gFz ?_);refine pTz<|nNz<|cTz<|sRz<|vAz<|nNz<|zK<|thenR ?_)
  (apply finR;exact .inl rfl;rfl;rfl;rfl;apply zD;exact zG rfl;exact zF)
  rfl
theorem IsRow.le {E:TypeId} {sz n n' c:Nat} {p:Option Addr} {xs:List Value} {seg:Fs} (h:IsRow E sz (.slice p n' c) n xs seg):n'≤c:=by
 cases h with
 |nil=>exact Nat.le_refl _
 |own hn _ _ _ _=>exact hn
theorem rBoth_calls (l:List UInt8) (v:Value) (w:World) (hv:RowAt w 1 v l.length (ucs l)) (hl:l.length≤100000):Calls Tryz.prog 43 #[v,.slice none 0 0] w (RetG w [] (bM l)):=by
 obtain ⟨p,c,rfl,_,_⟩:=id hv.form
 refine enter (args:=[_,_]) _ [] [] Tryz.func43 rfl Tryz.ntmps43 rfl (by simp) .nil ?_
 (refine sRz<|vAz<|nSz<|vMz<|lvz (.lenR rfl inferInstance rfl)<|vMz<|lvz (.lenR rfl inferInstance rfl) ?_;refine lvz (.addZ rfl rfl (by omega)) ?_)
 refine LW.n0 rfl rfl (NewP.make0 (c:=l.length+0) inferInstance inferInstance inferInstance rfl rfl (by omega) (by omega)) fun g=>?_
 simp only [Sh.val]
 (refine vAz<|nSz<|vMz<|vMz ?_)
 have hrow0:IsRow 5 1 (.slice (some ⟨g,0,none⟩) 0 (l.length+0)) 0 [] [(g,.cells (madeCells (Value.int .u8 0).cells ((l.length+0) * 1)) 5 (0,0))]:=.own (by omega) (by simp only [maxLen];omega) (by rw [← Array.length_toList,made_one rfl,List.length_replicate,Nat.mul_one]) rfl rfl
 (apply LW.appendAny;(case hrow=>exact hrow0);rfl;rfl;infer_instance;infer_instance;infer_instance;rfl;rfl;rfl;exact AtSeg.head (seg:=[_]) (post:=[]))
 ·exact fun w hs=>hv.st hs
 ·exact ucs_cells _
 ·simp only [maxLen];omega
 ·omega
 intro v1 seg1 hrow1
 refine ⟨_,AtSeg.head (post:=[]),?_⟩
 simp only [List.nil_append,qN] at hrow1
 obtain ⟨q1,k1,rfl⟩:=hrow1.form
 have hle1:l.length≤k1:=IsRow.le hrow1
 (refine vMz ?_;apply LW.v0;rfl;rfl;apply ValP.append0;rfl;infer_instance;infer_instance;rfl;rfl;assumption;refine vAz<|nNz<|zK ?_)
 exact fin (vs:=[.slice q1 l.length k1]) seg1 (.inl rfl) rfl rfl (by (apply zD;exact zG rfl;exact zF)) (qP _ _) hrow1
theorem rScCopy_calls (ws:List Nat) (ms:List UInt8) (s m:Value) (w:World) (hs:RowAt w 4 s ws.length (wcs ws)) (hm:RowAt w 1 m ms.length (ucs ms)) (hl:ws.length≤100000) (hl2:ms.length≤100000) :
  Calls Tryz.prog 81 #[.agg #[s,m]] w (RetG w [] (fun v gs=>∃ s m g1 g2,v=.agg #[s,m]∧gs=g2++g1∧wM ws s g1∧bM ms m g2∧(ws.length=0→∃ p,s=.slice p 0 0))):=by
 obtain ⟨p,c,rfl,_,_⟩:=id hs.form
 obtain ⟨p2,c2,rfl,_,_⟩:=id hm.form
 refine enter (args:=[_]) _ [] [] Tryz.func81 rfl Tryz.ntmps81 rfl (by simp) .nil ?_
 (refine sRz ?_;apply zT;rfl;rfl;intro _;apply zU;rfl;intro _;refine nNz<|zI ?_)
 apply CW.pre
 rcases Nat.eq_zero_or_pos ws.length with h0|h0
 ·have hw:ws=[]:=List.length_eq_zero_iff.1 h0
  subst hw
  (refine AnyW.anyS [(3,sameR)] 7 mixed (by decide +kernel) ?_)
  ((try simp only [tsOf_cons,tsOf_nil,tsOf_app]);apply DW.lay0;rfl;rfl;rfl;exact zC;infer_instance;infer_instance;intro _;refine dvz (.fieldAddr rfl rfl) ?_;apply qD;rfl;rfl;rfl;exact zC;rfl;apply zO;apply zO;apply zP;exact zN;exact sc_rd0)
  refine DW.appendN rfl rfl rfl (by (exact zC)) rfl inferInstance inferInstance rfl rfl hs rfl ?_
  ((try simp only [tsOf_cons,tsOf_nil,tsOf_app]);apply DW.lay0;rfl;rfl;rfl;exact zC;infer_instance;infer_instance;intro _;refine dvz (.fieldAddr rfl rfl) ?_;apply qD;rfl;rfl;rfl;exact zC;rfl;apply zO;apply zO;apply zO;apply zP;exact zN;exact sc_rd1;apply DW.nil;simp only [fsOf_cons,fsOf_nil,fsOf_app,fsOf_tsOf,fsOf_new])
  rename_i ba bb bc bd
  have hrow0:IsRow 5 1 (.slice (some ⟨bd,0,none⟩) 0 0) 0 [] [(bd,.cells #[] 5 (0,0))]:=.own (Nat.le_refl 0) (by simp [maxLen]) rfl rfl rfl
  (apply LW.appendAny;(case hrow=>exact hrow0);rfl;rfl;infer_instance;infer_instance;infer_instance;rfl;rfl;rfl;exact AtSeg.head (seg:=[_]) (post:=_::_))
  ·exact fun w hs=>hm.st hs
  ·exact ucs_cells _
  ·simp only [maxLen];omega
  ·omega
  intro v2 g2 h2
  simp only [List.nil_append,qN] at h2
  refine ⟨_,AtSeg.head,?_⟩
  obtain ⟨q2,k2,rfl⟩:=id h2.form
  (apply LW.v0;rfl;rfl;apply zW;infer_instance;infer_instance;apply zA;rfl;apply zA;rfl;exact zB;rfl;simp only [fillP,wrCells,Value.cells,qH,qI,qJ,qG,qL,qK,Nat.reduceAdd,qN];rfl;refine zR rfl rfl (.app (.tail .head)) (.whole rfl rfl rfl)<|nNz<|zK ?_)
  refine fin (vs:=[.agg #[.slice (some ⟨bc,0,none⟩) 0 0,.slice q2 ms.length k2]]) (g2++[(bc,.cells #[] 29 (0,0))]) (.inl rfl) rfl rfl (by (apply zD;apply zH;rfl;apply qE;apply zZ;apply zX;apply zY;exact qF rfl;exact zF)) ?_ ⟨_,_,[(bc,.cells #[] 29 (0,0))],g2,rfl,rfl,.own (Nat.le_refl 0) (by simp [maxLen]) rfl rfl rfl,h2,fun _=>⟨_,rfl⟩⟩
  (apply List.Sublist.append_left;apply List.Sublist.cons_cons;apply qQ;apply qQ;exact qM _)
 ·(refine AnyW.anyS [(3,cst (wM ws))] 7 mixed (by decide +kernel) ?_)
  ((try simp only [tsOf_cons,tsOf_nil,tsOf_app]);apply DW.lay0;rfl;rfl;rfl;exact zC;infer_instance;infer_instance;intro _;refine dvz (.fieldAddr rfl rfl) ?_;apply qD;rfl;rfl;rfl;exact zC;rfl;apply zO;apply zO;apply zP;exact zN;exact sc_rd0)
  refine DW.appendE rfl rfl rfl (by (exact zC)) rfl inferInstance inferInstance inferInstance rfl rfl rfl hs rfl h0 (by simp only [maxLen];omega) (by omega) (fun v gs h=>h) ?_
  intro v1 g1 h1
  have h1':=h1
  unfold wM at h1'
  obtain ⟨q1,k1,rfl⟩:=h1'.form
  ((try simp only [tsOf_cons,tsOf_nil,tsOf_app]);apply DW.lay0;rfl;rfl;rfl;exact zC;infer_instance;infer_instance;intro _;refine dvz (.fieldAddr rfl rfl) ?_;apply qD;rfl;rfl;rfl;exact zC;rfl;apply zO;apply zQ;apply zO;apply zO;apply zP;exact zN;exact sc_rd1;apply DW.nil;simp only [fsOf_cons,fsOf_nil,fsOf_app,fsOf_tsOf,fsOf_new])
  simp only [fsOf_tag]
  rename_i ba bb bc bd
  have hrow0:IsRow 5 1 (.slice (some ⟨bd,0,none⟩) 0 0) 0 [] [(bd,.cells #[] 5 (0,0))]:=.own (Nat.le_refl 0) (by simp [maxLen]) rfl rfl rfl
  (apply LW.appendAny;(case hrow=>exact hrow0);rfl;rfl;infer_instance;infer_instance;infer_instance;rfl;rfl;rfl;exact AtSeg.head (seg:=[_]) (post:=g1++_))
  ·exact fun w hs=>hm.st hs
  ·exact ucs_cells _
  ·simp only [maxLen];omega
  ·omega
  intro v2 g2 h2
  simp only [List.nil_append,qN] at h2
  refine ⟨_,AtSeg.head,?_⟩
  obtain ⟨q2,k2,rfl⟩:=id h2.form
  (apply LW.v0;rfl;rfl;apply zW;infer_instance;infer_instance;apply zA;rfl;apply zA;rfl;exact zB;rfl;simp only [fillP,wrCells,Value.cells,qH,qI,qJ,qG,qL,qK,Nat.reduceAdd,qN];rfl;refine zR rfl rfl (.app (.app (.tail .head))) (.whole rfl rfl rfl)<|nNz<|zK ?_)
  refine fin (vs:=[.agg #[.slice q1 ws.length k1,.slice q2 ms.length k2]]) (g2++g1) (.inl rfl) rfl rfl (by (apply zD;apply zH;rfl;apply qE;apply zZ;apply zZ;apply zX;apply zY;exact qF rfl;exact zF)) ?_ ⟨_,_,g1,g2,rfl,rfl,h1,h2,fun h=>absurd h0 (by omega)⟩
  exact List.Sublist.append_left (qP _ _) _
end
end Go.Proofs.YtpgdnfgjbhdbpaaGreatDoor
