/-
  Texts that were built apart, put behind one another (3 of 6).
  Conditions: none.
-/
import Derived.Test.YtdeggbkbblfpoaaGreatDoorZ2
import Derived.Laws.Externs
import Derived.Lib.BytesEntry
import Derived.Lib.Bytealg
open Go.Proofs.Tryz
namespace Go.Proofs.YtdeggbkbblfpoaaGreatDoor
open Go Go.RowKit SL
set_option maxRecDepth 8000
set_option maxHeartbeats 4000000
set_option linter.unusedSimpArgs false
set_option linter.unusedVariables false
attribute [local irreducible] SL.CW SL.LW SL.DW Calls SL.Ret SL.RetG SL.beginQ SL.roundQ SL.rangeQ SL.inQ SL.RW SL.AnyW SL.thenQ SL.thenC SL.thenW SL.blkQ SL.finQ SL.ValP SL.NewP SL.SetP SL.CallP SL.Rd SL.Wr SL.Known
theorem dTBTSr {P:Prop} (h:P:=by
 (refine goZ ?_;intro _)
 (refine fiz ?_)
 rfl):P:=h
theorem limb_top (N i:Nat):N / 2 ^ (64 * i) * 2 ^ (64 * i)=N / 2 ^ (64 * (i+1)) * 2 ^ (64 * (i+1))+limb N i * 2 ^ (64 * i):=by
 unfold limb
 rw [Nat.mul_add,yE,yV,← yO]
 have h:=Nat.div_add_mod (N / 2 ^ (64 * i)) 18446744073709551616
 generalize N / 2 ^ (64 * i)=M at *
 generalize 2 ^ (64 * i)=P at *
 rw [show (2:Nat) ^ 64=18446744073709551616 from rfl]
 conv=>lhs;rw [← h]
 rw [Nat.add_mul,yZ 18446744073709551616 (M / _),Nat.mul_assoc,yZ P]
theorem limb_shift (a r j:Nat) (hr:r < 64):limb (a * 2 ^ r) (j+1)=limb a (j+1) * 2 ^ r % 18446744073709551616+limb a j / 2 ^ (64 - r)∧limb a j / 2 ^ (64 - r) < 2 ^ r:=by
 have hB:2 ^ (64 - r) * 2 ^ r=18446744073709551616:=by rw [← yV,show 64 - r+r=64 by omega]
 have hK:0 < 2 ^ (64 - r):=Nat.pow_pos (by decide)
 have hR:0 < 2 ^ r:=Nat.pow_pos (by decide)
 unfold limb
 rw [Nat.mul_add,yE,yV,← yO a,show (2:Nat) ^ 64=18446744073709551616 from rfl]
 have h1:a * 2 ^ r / (2 ^ (64 * j) * 18446744073709551616)=a / 2 ^ (64 * j) / 2 ^ (64 - r):=by
  rw [← hB,← Nat.mul_assoc,Nat.mul_div_mul_right _ _ hR,yO]
 rw [h1]
 generalize a / 2 ^ (64 * j)=A
 generalize 2 ^ (64 - r)=K at *
 generalize 2 ^ r=R at *
 have h2:=Nat.div_add_mod A 18446744073709551616
 have hm:A % 18446744073709551616 < 18446744073709551616:=yS _ (by decide)
 have ht:A % 18446744073709551616 / K < R:=Nat.div_lt_of_lt_mul (by rw [hB];exact hm)
 refine ⟨?_,ht⟩
 have h3:A / K=A / 18446744073709551616 * R+A % 18446744073709551616 / K:=by
  conv=>lhs;rw [← h2,← hB,Nat.mul_assoc,Nat.mul_add_div hK]
  rw [hB,yZ R]
 rw [h3,Nat.mod_mul_mod]
 have h4:A / 18446744073709551616 * R % 18446744073709551616=A / 18446744073709551616 % K * R:=by rw [← hB,Nat.mul_mod_mul_right]
 have h5:A / 18446744073709551616 % K * R+A % 18446744073709551616 / K < 18446744073709551616:=by
  have h6:A / 18446744073709551616 % K < K:=yS _ hK
  have h7:(A / 18446744073709551616 % K+1) * R≤K * R:=Nat.mul_le_mul_right _ h6
  rw [Nat.succ_mul,hB] at h7
  omega
 rw [Nat.add_mod,h4,jY (show A % 18446744073709551616 / K < 18446744073709551616 by omega),jY h5]
theorem limb_shift0 (a r:Nat):limb (a * 2 ^ r) 0=limb a 0 * 2 ^ r % 18446744073709551616:=by
 unfold limb;simp [Nat.mod_mul_mod]
theorem limb_down (a r j:Nat) (hr:r < 64):limb (a / 2 ^ r) j=limb a j / 2 ^ r+limb a (j+1) * 2 ^ (64 - r) % 18446744073709551616∧limb a j / 2 ^ r < 2 ^ (64 - r):=by
 have hB:2 ^ r * 2 ^ (64 - r)=18446744073709551616:=by rw [← yV,show r+(64 - r)=64 by omega]
 have hK:0 < 2 ^ (64 - r):=Nat.pow_pos (by decide)
 have hR:0 < 2 ^ r:=Nat.pow_pos (by decide)
 unfold limb
 rw [Nat.mul_add,yE,yV,← yO a,show (2:Nat) ^ 64=18446744073709551616 from rfl,yO a,yZ (2 ^ r) (2 ^ (64 * j)),← yO a]
 generalize a / 2 ^ (64 * j)=A
 generalize 2 ^ (64 - r)=K at *
 generalize 2 ^ r=R at *
 have h2:=Nat.div_add_mod A 18446744073709551616
 have hm:A % 18446744073709551616 < 18446744073709551616:=yS _ (by decide)
 have ht:A % 18446744073709551616 / R < K:=Nat.div_lt_of_lt_mul (by rw [hB];exact hm)
 refine ⟨?_,ht⟩
 have h3:A / R=A / 18446744073709551616 * K+A % 18446744073709551616 / R:=by
  conv=>lhs;rw [← h2,← hB,Nat.mul_assoc,Nat.mul_add_div hR]
  rw [hB,yZ K]
 rw [h3,Nat.mod_mul_mod]
 have h4:A / 18446744073709551616 * K % 18446744073709551616=A / 18446744073709551616 % R * K:=by rw [← hB,Nat.mul_mod_mul_right]
 have h5:A / 18446744073709551616 % R * K+A % 18446744073709551616 / R < 18446744073709551616:=by
  have h6:A / 18446744073709551616 % R < R:=yS _ hR
  have h7:(A / 18446744073709551616 % R+1) * K≤R * K:=Nat.mul_le_mul_right _ h6
  rw [Nat.succ_mul,hB] at h7
  omega
 rw [Nat.add_mod,h4,jY (show A % 18446744073709551616 / R < 18446744073709551616 by omega),jY h5,Nat.add_comm]
theorem or_low {R A t:Nat} {r:Nat} (hR:R=2 ^ r) (hA:R ∣ A) (ht:t < R):A |||t=A+t:=by
 obtain ⟨q,rfl⟩:=hA
 subst hR
 rw [yZ,← Nat.shiftLeft_eq,Nat.shiftLeft_add_eq_or_of_lt ht]
theorem limb_mod (N j:Nat) (hj:j < 4):limb (N % M256) j=limb N j:=by
 unfold limb
 rcases (show j=0∨j=1∨j=2∨j=3 by omega) with rfl|rfl|rfl|rfl<;>simp only [Nat.mul_zero,Nat.pow_zero,Nat.div_one,yE,Nat.reduceMul,Nat.reducePow,M256]<;>omega
theorem limb_mul (Y q j:Nat):limb (Y * 2 ^ (64 * q)) (q+j)=limb Y j:=by
 unfold limb
 rw [Nat.mul_add,yV,yZ (2 ^ (64 * q)),Nat.mul_div_mul_right _ _ (pow_pos2 _)]
theorem wc_setlimb (X i v1 v2:Nat) (hi:i < 4) (hX:X+18446744073709551615 * 2 ^ (64 * i) < M256) (h1:v1 < 18446744073709551616) (h2:v2 < 18446744073709551616) (hz:limb X i=0) :
  ((wc (X+v1 * 2 ^ (64 * i))).toList.set i (.int .u64 ((v2:Nat):Int))).toArray=wc (X+v2 * 2 ^ (64 * i)):=by
 unfold limb at hz
 rcases (show i=0∨i=1∨i=2∨i=3 by omega) with rfl|rfl|rfl|rfl<;>simp only [wc,jE,jF,Nat.mul_zero,Nat.pow_zero,Nat.div_one,yE,Nat.reduceMul,Nat.reducePow,M256] at hz hX ⊢
 ·exact dTBkGD
 ·exact dTBkGD
 ·exact dTBkGD
 ·exact dTBkGD
theorem rMoves_calls (n:Nat) (hn:n < M256) (w:World):Calls prog 189 #[wv n] w (Ret w (.int .i64 ((min n 256:Nat):Int))):=by
 simp only [M256] at hn
 refine enter (args:=[_]) _ [] [] func189 rfl ntmps189 rfl (by simp) .nil ?_
 rcases yB (n / 18446744073709551616 % 18446744073709551616) with h1|h1
 ·rcases yB (n / 340282366920938463463374607431768211456 % 18446744073709551616) with h2|h2
  ·rcases yB (n / 6277101735386680763835789423207666416102355444464034512896 % 18446744073709551616) with h3|h3
   ·have hs:n % 18446744073709551616=n:=by omega
    rcases jM 256 n with h0|h0
    ·have hm:min n 256=256:=by omega
     rw [hm]
     have h4:256 < n % 18446744073709551616:=by omega
     (refine goZ ?_;intro _)
     (refine fiz ?_)
     rfl
    ·have hm:min n 256=n:=by omega
     rw [hm]
     have h4:n % 18446744073709551616≤256:=by omega
     (refine goZ ?_;intro _)
     (refine fiz ?_)
     rw [hs];rfl
   ·have hm:min n 256=256:=by omega
    rw [hm]
    (refine goZ ?_;intro _)
    (refine fiz ?_)
    rfl
  ·have hm:min n 256=256:=by omega
   rw [hm]
   (refine goZ ?_;intro _)
   (refine fiz ?_)
   rfl
 ·have hm:min n 256=256:=by omega
  rw [hm]
  exact dTBTSr
theorem bl_drop (x m k:Nat) (h:k≤m):(bl x m).drop k=bl (x / 2 ^ k) (m - k):=by
 apply List.ext_getElem?
 intro i
 rw [List.getElem?_drop]
 rcases jM i (m - k) with hi|hi
 ·rw [bl_get _ _ _ (by omega),bl_get _ _ _ hi,yO,← yV]
 ·rw [yN (by rw [bl_len];omega),yN (by rw [bl_len];exact hi)]
theorem rShr_calls (a n:Nat) (ha:a < M256) (hn:n≤256) (w:World):Calls prog 190 #[wv a,.int .i64 (n:Int)] w (Ret w (wv (a / 2 ^ n))):=by
 have hlow:a / 2 ^ n < 2 ^ (256 - n):=Nat.div_lt_of_lt_mul (by rw [← yV,show n+(256 - n)=256 by omega];exact ha)
 refine enter (args:=[_,_]) _ [] [] func190 rfl ntmps190 rfl (by simp) .nil ?_
 (refine goZ ?_;intro _ _)
 (refine crz (c:=fun w hs=>by exact bits_calls _ _ (by assumption) (by decide) w) (k:=?_))
 intro vo go hro
 replace hro:IsRow 3 1 vo 256 (ics (bl a 256)) go:=hro
 obtain ⟨po,co,rfl⟩:=hro.form
 (refine goZ ?_;refine lvz (.cutFrom vF vF rfl rfl (by omega)) ?_)
 apply zS
 rfl
 rfl
 exact vF
 (exact .cons rfl .nil)
 ·intro w hs
  have h1:=(hro.atSeg (fs:=go++_) .head hs).drop hn
  rw [ics_drop,bl_drop _ _ _ hn] at h1
  have h2:=of_calls (a / 2 ^ n) (256 - n) (by omega) _ w h1
  rw [Nat.min_eq_left (by omega),jY hlow] at h2
  exact h2
 exact dTBJyT
theorem rShl_calls (a n:Nat) (ha:a < M256) (hn:n≤256) (w:World):Calls prog 188 #[wv a,.int .i64 (n:Int)] w (Ret w (wv (a * 2 ^ n % M256))):=by
 refine enter (args:=[_,_]) _ [] [] func188 rfl ntmps188 rfl (by simp) .nil ?_
 (refine goZ ?_;intro _ _)
 apply CW.pre
 refine qY [(3,fun v gs=>IsRow 3 1 v 256 (ics (bl a 256)) gs)] 4 mixed (by decide +kernel) ?_
 (refine tsZ ?_)
 refine DW.new (s:=.sl n n) rfl rfl rfl .none rfl (NewP.makeSlice (ik:=.i64) vF vF vF rfl (by omega) (by omega)) ?_
 intro g
 (refine tsZ ?_)
 (apply DW.manyE;rfl;rfl;rfl;exact zC;rfl;exact vF;exact .cons rfl (.cons rfl .nil);rfl;exact qS;intro w _ _)
 exact bits_calls _ _ (by assumption) (by decide) w
 intro vo go hro
 replace hro:IsRow 3 1 vo 256 (ics (bl a 256)) go:=hro
 obtain ⟨po,co,rfl⟩:=hro.form
 (refine tsZ ?_)
 simp only [Sh.val,List.drop_succ_cons,yW]
 have hg:IsRow 3 1 (.slice (some ⟨g,0,none⟩) n n) n (ics (List.replicate n 0)) [(g,.cells (madeCells (Value.int .i64 0).cells (n * 1)) 3 (0,0))] :=
  .own (yD _) (by simp only [maxLen];omega) (by simp [madeCells]) (by rw [made_one rfl,ics_zero,yI (by rw [← ics_zero];simp)]) (by rw [← ics_zero];simp)
 refine LW.appendAt rfl rfl vF vF vF rfl rfl rfl (.app .one) hg (fun w hs=>hro.atSeg (by (exact qJ)) hs) (ics_cells _) (by decide) (by simp only [maxLen];omega) (by omega) ?_
 intro v2 g2 hr2
 rw [← ics_app,bl_shift] at hr2
 obtain ⟨p2,c2,rfl⟩:=hr2.form
 refine ⟨_,(.app .head),?_⟩
 try simp only [jQ]
 apply zS
 rfl
 rfl
 exact vF
 (exact .cons rfl .nil)
 ·intro w hs
  have h2:=of_calls (a * 2 ^ n) (n+256) (by omega) _ w (hr2.atSeg (by (apply qL;exact qJ)) hs)
  rw [Nat.min_eq_right (by omega)] at h2
  exact h2
 exact dTBJyT
theorem limb_rd (a j:Nat) (h:j < 4) {E:TypeId} {fr:Nat × Nat}:Rd prog 26 (.cells (wc a) E fr) (0+j * 1) (.int .u64 ((limb a j:Nat):Int)) :=
 Rd.one (by rw [jH,yE];have:=nth_limb a j h;rw [nth_eq] at this;simpa using this)
theorem limb_wr (X i v1 v2:Nat) (hi:i < 4) (hX:X+18446744073709551615 * 2 ^ (64 * i) < M256) (h1:v1 < 18446744073709551616) (h2:v2 < 18446744073709551616) (hz:limb X i=0) {E:TypeId} :
  Wr prog 26 (.cells (wc (X+v1 * 2 ^ (64 * i))) E (0,0)) (0+i * 1) (.int .u64 ((v2:Nat):Int)) (.cells (wc (X+v2 * 2 ^ (64 * i))) E (0,0)) :=
 qU rfl rfl (by show 0+i * 1+1≤4;omega) (by
  rw [jH,yE,← wc_setlimb X i v1 v2 hi hX h1 h2 hz]
  apply Array.toList_inj.1
  simp [wrCells,Value.cells])
theorem limb_zero (Y k:Nat):limb (Y * 2 ^ (64 * (k+1))) k=0:=by
 unfold limb
 rw [Nat.mul_add,yE,yV,← Nat.mul_assoc,Nat.mul_right_comm,Nat.mul_div_cancel _ (pow_pos2 _),show (2:Nat) ^ 64=18446744073709551616 from rfl,Nat.mul_mod_left]
theorem limb_put (X k v:Nat) (hz:limb X k=0) (hv:v < 18446744073709551616):limb (X+v * 2 ^ (64 * k)) k=v:=by
 unfold limb at *
 rw [Nat.add_mul_div_right _ _ (pow_pos2 _),Nat.add_mod,hz,jH,Nat.mod_mod,jY hv]
theorem top_lt (N k:Nat) (hk:k < 4) (hN:N < M256):N / 2 ^ (64 * (k+1)) * 2 ^ (64 * (k+1))+18446744073709551615 * 2 ^ (64 * k) < M256:=by
 simp only [M256] at *
 rcases (show k=0∨k=1∨k=2∨k=3 by omega) with rfl|rfl|rfl|rfl<;>simp only [Nat.reduceAdd,Nat.reduceMul,Nat.reducePow,Nat.mul_zero,Nat.pow_zero]<;>omega
theorem dvd_low (L r:Nat) (hr:r < 64):2 ^ r ∣ L * 2 ^ r % 18446744073709551616:=by
 rw [← show 2 ^ (64 - r) * 2 ^ r=18446744073709551616 by rw [← yV,show 64 - r+r=64 by omega],Nat.mul_mod_mul_right]
 exact ⟨_,yZ _ _⟩
theorem Shl_calls (a n:Nat) (ha:a < M256) (hn:n < M256) (w:World):Calls prog 24 #[wv a,wv n] w (Ret w (wv (a * 2 ^ min n 256 % M256))):=by
 refine enter (args:=[_,_]) _ [] [] func24 rfl ntmps24 rfl (by simp) .nil ?_
 (refine goZ ?_;intro _ _ _ _;refine anz 7 ?_;apply DW.callE;rfl;rfl;rfl;exact zC;rfl;exact vF;exact .cons rfl .nil;rfl;exact qS;intro w _ _;refine moves_calls _ ?_ w;assumption;refine goZ ?_;apply DW.callE;rfl;rfl;rfl;exact zC;rfl;exact vF;exact .cons rfl .nil;rfl;exact qS;intro w _ _;refine moves_calls _ ?_ w;assumption;refine goZ ?_)
 rename_i ba b3 b4 b5
 obtain ⟨s,hs⟩:∃ s,s=min n 256:=⟨_,rfl⟩
 rw [← hs]
 have hs256:s≤256:=by omega
 obtain ⟨q,hq⟩:∃ q,q=s / 64:=⟨_,rfl⟩
 obtain ⟨r,hr⟩:∃ r,r=s % 64:=⟨_,rfl⟩
 rw [← hq,← hr]
 have hr64:r < 64:=by omega
 have hs2:s=r+64 * q:=by omega
 obtain ⟨N,hN⟩:∃ N,N=a * 2 ^ s % M256:=⟨_,rfl⟩
 rw [← hN]
 have hNM:N < M256:=by rw [hN];exact yS _ (by decide)
 have hlimb:∀ j,q+j < 4→limb N (q+j)=limb (a * 2 ^ r) j:=fun j hj=>by
  rw [hN,limb_mod _ _ hj,hs2,yV,← Nat.mul_assoc,limb_mul]
 refine qM (fun m:Nat=>([(8,.int .i64 ((m:Int) - 1)),(7,.int .i64 (r:Int)),(6,.int .i64 (q:Int)),(5,.pointer (some ⟨b5,0,none⟩)),(4,.pointer (some ⟨b4,0,none⟩)),(2,.pointer (some ⟨ba,0,none⟩))],
   [(b5,.cells (wc (N / 2 ^ (64 * m) * 2 ^ (64 * m))) 29 (0,0)),(b4,.cells (wc 0) 29 (0,0)),(b3,.cells (wc n) 29 (0,0)),(ba,.cells (wc a) 29 (0,0))]))
  (fun m=>m≤4∧q≤m) (fun m=>m) 4 ⟨Nat.le_refl _,by omega⟩ ⟨rfl,rfl,rfl,rfl,rfl,rfl,trivial⟩ ?_ ?_
 ·rw [show N / 2 ^ (64 * 4)=0 from Nat.div_eq_of_lt hNM,Nat.zero_mul];exact jG _
 ·rintro m ⟨hm4,hqm⟩
  dsimp only
  rcases jM q m with hlt|hge
  ·obtain ⟨k,rfl⟩:∃ k,m=k+1:=⟨m - 1,by omega⟩
   have e0:(((k+1:Nat):Int) - 1)=(k:Int):=by omega
   rw [e0]
   obtain ⟨X,hX⟩:∃ X,X=N / 2 ^ (64 * (k+1)) * 2 ^ (64 * (k+1)):=⟨_,rfl⟩
   have hz:limb X k=0:=by rw [hX];exact limb_zero _ k
   have hXM:X+18446744073709551615 * 2 ^ (64 * k) < M256:=by rw [hX];exact top_lt N k (by omega) hNM
   have htop:=limb_top N k
   rw [← hX] at htop
   rw [← hX]
   have hv1:limb a (k - q) * 2 ^ r % 18446744073709551616 < 18446744073709551616:=yS _ (by decide)
   have hrd1:=limb_rd a (k - q) (by omega) (E:=29) (fr:=(0,0))
   have hW1:=limb_wr X k 0 (limb a (k - q) * 2 ^ r % 18446744073709551616) (by omega) hXM (by decide) hv1 hz (E:=29)
   rw [Nat.zero_mul,Nat.add_zero] at hW1
   rcases jM q k with hqk|hqk
   ·obtain ⟨j,hj⟩:∃ j,k - q=j+1:=⟨k - q - 1,by omega⟩
    have hl:=hlimb (j+1) (by omega)
    rw [show q+(j+1)=k by omega] at hl
    obtain ⟨s1,s2⟩:=limb_shift a r j hr64
    rw [← hl,← hj] at s1
    rcases yB r with hr0|hr0
    ·have hl0:limb a j / 2 ^ (64 - r)=0:=by rw [hr0];exact Nat.div_eq_of_lt (limb_lt a j)
     rw [hl0,Nat.add_zero] at s1
     (refine zI<|sRz<|vMz<|vMz ?_;refine lvz (.geqT rfl rfl (by omega)) ?_;refine nNz<|cTz<|zJ<|thenN<|zI<|zM<|sRz<|vMz<|vMz<|vMz ?_;refine lvz (.subZ rfl rfl (by omega) (by omega)) ?_;refine lvz (.indexAddrA rfl rfl rfl (by omega)) ?_;refine ldz rfl (.tail (.tail (.tail .head))) (by assumption) ?_;refine vMz ?_;refine lvz (.shlU rfl rfl (by omega)) ?_;refine lvz (.indexAddrA rfl rfl rfl (by omega)) ?_;apply zR;rfl;rfl;apply qA;assumption;refine nSz<|vMz<|vMz ?_;refine lvz (.gtrT rfl rfl (by omega)) ?_;refine vMz<|gTz<|vMz<|gTz ?_;refine lvz (.gtrF rfl rfl (by omega)) ?_;refine pTz<|nNz<|cFz<|zJ<|blkN<|thenN<|zL<|vMz ?_;refine lvz (.subZL rfl rfl (by decide) (by omega) (by omega)) ?_;refine vAz ?_;apply zV)
     apply thenX
     refine ⟨rfl,k,⟨by omega,by omega⟩,Nat.lt_succ_self k,⟨congrArg (fun z=>some (Value.int .i64 z)) (show ((k - 1:Nat):Int)=(k:Int) - 1 by omega),rfl,rfl,rfl,rfl,rfl,trivial⟩,?_⟩
     rw [htop,s1]
     exact jG _
    ·have hrd2:=limb_rd (X+limb a (k - q) * 2 ^ r % 18446744073709551616 * 2 ^ (64 * k)) k (by omega) (E:=29) (fr:=(0,0))
     rw [limb_put X k _ hz hv1] at hrd2
     have hrd3:=limb_rd a (k - q - 1) (by omega) (E:=29) (fr:=(0,0))
     have ht0:limb a (k - q - 1) / 2 ^ (64 - r) < 18446744073709551616:=div64 (limb_lt _ _)
     have hor:(limb a (k - q) * 2 ^ r % 18446744073709551616 |||limb a (k - q - 1) / 2 ^ (64 - r))=limb N k:=by
      rw [s1,show k - q - 1=j by omega]
      exact or_low rfl (dvd_low _ _ hr64) s2
     have hW2:=limb_wr X k (limb a (k - q) * 2 ^ r % 18446744073709551616) (limb a (k - q) * 2 ^ r % 18446744073709551616 |||limb a (k - q - 1) / 2 ^ (64 - r)) (by omega) hXM hv1 (by rw [hor];exact limb_lt _ _) hz (E:=29)
     (refine zI<|sRz<|vMz<|vMz ?_;refine lvz (.geqT rfl rfl (by omega)) ?_;refine nNz<|cTz<|zJ<|thenN<|zI<|zM<|sRz<|vMz<|vMz<|vMz ?_;refine lvz (.subZ rfl rfl (by omega) (by omega)) ?_;refine lvz (.indexAddrA rfl rfl rfl (by omega)) ?_;refine ldz rfl (.tail (.tail (.tail .head))) (by assumption) ?_;refine vMz ?_;refine lvz (.shlU rfl rfl (by omega)) ?_;refine lvz (.indexAddrA rfl rfl rfl (by omega)) ?_;apply zR;rfl;rfl;apply qA;assumption;refine nSz<|vMz<|vMz ?_;refine lvz (.gtrT rfl rfl (by omega)) ?_;refine vMz<|gTz<|vMz<|gTz ?_;refine lvz (.gtrT rfl rfl (by omega)) ?_;refine pTz<|nNz<|cTz ?_;apply CW.pre;refine AnyW.any 12 mixed (by decide +kernel) ?_;(try simp only [tsOf_cons,tsOf_nil,tsOf_app]);refine dvz (.move rfl) ?_;refine dvz (.indexAddrA rfl rfl rfl (by omega)) ?_;apply qG;rfl;rfl;rfl;exact zC;rfl;apply zP;exact zN;assumption;refine dvz (.move rfl)<|dvz (.move rfl) ?_;refine dvz (.subZ rfl rfl (by omega) (by omega)) ?_;refine dvz (.subZL rfl rfl (by decide) (by omega) (by omega)) ?_;refine dvz (.indexAddrA rfl rfl rfl (by omega)) ?_;apply qG;rfl;rfl;rfl;exact zC;rfl;apply zO;apply zO;apply zO;apply zP;exact zN;assumption;refine dvz (.move rfl) ?_;refine dvz (.subZK rfl rfl (by decide) (by omega) (by omega)) ?_;refine dvz (.shrU rfl rfl (by omega)) ?_;apply DW.nil;simp only [fsOf_cons,fsOf_nil,fsOf_app,fsOf_tsOf,fsOf_new];refine lvz (.orU rfl rfl (by omega) (by omega)) ?_;refine lvz (.indexAddrA rfl rfl rfl (by omega)) ?_;apply zR;rfl;rfl;apply qA;assumption;apply zV;refine blkN<|thenN<|zL<|vMz ?_;refine lvz (.subZL rfl rfl (by decide) (by omega) (by omega)) ?_;refine vAz ?_;apply zV)
     apply thenX
     refine ⟨rfl,k,⟨by omega,by omega⟩,Nat.lt_succ_self k,⟨congrArg (fun z=>some (Value.int .i64 z)) (show ((k - 1:Nat):Int)=(k:Int) - 1 by omega),rfl,rfl,rfl,rfl,rfl,trivial⟩,?_⟩
     rw [htop,← hor]
     exact jG _
   ·have hl:=hlimb 0 (by omega)
    rw [limb_shift0,show q+0=k by omega] at hl
    (refine zI<|sRz<|vMz<|vMz ?_;refine lvz (.geqT rfl rfl (by omega)) ?_;refine nNz<|cTz<|zJ<|thenN<|zI<|zM<|sRz<|vMz<|vMz<|vMz ?_;refine lvz (.subZ rfl rfl (by omega) (by omega)) ?_;refine lvz (.indexAddrA rfl rfl rfl (by omega)) ?_;refine ldz rfl (.tail (.tail (.tail .head))) (by assumption) ?_;refine vMz ?_;refine lvz (.shlU rfl rfl (by omega)) ?_;refine lvz (.indexAddrA rfl rfl rfl (by omega)) ?_;apply zR;rfl;rfl;apply qA;assumption;refine nSz<|vMz<|vMz ?_;refine lvz (.gtrF rfl rfl (by omega)) ?_;refine vMz<|gFz<|gFz<|pFz<|nNz<|cFz<|zJ<|blkN<|thenN<|zL<|vMz ?_;refine lvz (.subI rfl rfl (by omega) (by omega)) ?_;refine vAz ?_;apply zV)
    apply thenX
    refine ⟨rfl,k,⟨by omega,by omega⟩,Nat.lt_succ_self k,⟨rfl,rfl,rfl,rfl,rfl,rfl,trivial⟩,?_⟩
    rw [htop,hl,show k - q=0 by omega]
    exact jG _
  ·obtain rfl:m=q:=by omega
   have hfin:N / 2 ^ (64 * m) * 2 ^ (64 * m)=N:=by
    refine Nat.div_mul_cancel ?_
    rw [hN]
    refine (Nat.dvd_mod_iff (show 2 ^ (64 * m) ∣ 2 ^ 256 from Nat.pow_dvd_pow 2 (by omega))).2 ?_
    rw [hs2,yV,← Nat.mul_assoc]
    exact ⟨_,yZ _ _⟩
   rw [hfin]
   exact dTBJyT
theorem limb_div (Y q j:Nat):limb (Y / 2 ^ (64 * q)) j=limb Y (j+q):=by
 unfold limb
 rw [yO,← yV,← Nat.mul_add,Nat.add_comm]
theorem low_zero (N m:Nat):limb (N % 2 ^ (64 * m)) m=0:=by
 unfold limb
 rw [Nat.div_eq_of_lt (yS _ (pow_pos2 _))]
theorem low_lt (N m:Nat) (hm:m < 4):N % 2 ^ (64 * m)+18446744073709551615 * 2 ^ (64 * m) < M256:=by
 have h:=yS N (pow_pos2 (64 * m))
 simp only [M256]
 rcases (show m=0∨m=1∨m=2∨m=3 by omega) with rfl|rfl|rfl|rfl<;>simp only [Nat.reduceMul,Nat.reducePow,Nat.mul_zero,Nat.pow_zero] at h ⊢<;>omega
theorem Shr_calls (a n:Nat) (ha:a < M256) (hn:n < M256) (w:World):Calls prog 25 #[wv a,wv n] w (Ret w (wv (a / 2 ^ min n 256))):=by
 refine enter (args:=[_,_]) _ [] [] func25 rfl ntmps25 rfl (by simp) .nil ?_
 (refine goZ ?_;intro _ _ _ _;refine anz 7 ?_;apply DW.callE;rfl;rfl;rfl;exact zC;rfl;exact vF;exact .cons rfl .nil;rfl;exact qS;intro w _ _;refine moves_calls _ ?_ w;assumption;refine goZ ?_;apply DW.callE;rfl;rfl;rfl;exact zC;rfl;exact vF;exact .cons rfl .nil;rfl;exact qS;intro w _ _;refine moves_calls _ ?_ w;assumption;refine goZ ?_)
 rename_i ba b3 b4 b5
 obtain ⟨s,hs⟩:∃ s,s=min n 256:=⟨_,rfl⟩
 rw [← hs]
 have hs256:s≤256:=by omega
 obtain ⟨q,hq⟩:∃ q,q=s / 64:=⟨_,rfl⟩
 obtain ⟨r,hr⟩:∃ r,r=s % 64:=⟨_,rfl⟩
 rw [← hq,← hr]
 have hr64:r < 64:=by omega
 have hs2:s=r+64 * q:=by omega
 obtain ⟨N,hN⟩:∃ N,N=a / 2 ^ s:=⟨_,rfl⟩
 rw [← hN]
 have hN2:N=a / 2 ^ r / 2 ^ (64 * q):=by rw [hN,hs2,yV,yO]
 have hlimb:∀ j,limb N j=limb (a / 2 ^ r) (j+q):=fun j=>by rw [hN2,limb_div]
 refine qM (fun m:Nat=>([(8,.int .i64 (m:Int)),(7,.int .i64 (r:Int)),(6,.int .i64 (q:Int)),(5,.pointer (some ⟨b5,0,none⟩)),(4,.pointer (some ⟨b4,0,none⟩)),(2,.pointer (some ⟨ba,0,none⟩))],
   [(b5,.cells (wc (N % 2 ^ (64 * m))) 29 (0,0)),(b4,.cells (wc 0) 29 (0,0)),(b3,.cells (wc n) 29 (0,0)),(ba,.cells (wc a) 29 (0,0))]))
  (fun m=>m+q≤4) (fun m=>4 - m) 0 (by omega) ⟨rfl,rfl,rfl,rfl,rfl,rfl,trivial⟩ (by rw [Nat.mul_zero,Nat.pow_zero,Nat.mod_one];exact jG _) ?_
 intro m hmq
 dsimp only
 rcases jM (m+q) 4 with hlt|hge
 ·obtain ⟨X,hX⟩:∃ X,X=N % 2 ^ (64 * m):=⟨_,rfl⟩
  have hz:limb X m=0:=by rw [hX];exact low_zero N m
  have hXM:X+18446744073709551615 * 2 ^ (64 * m) < M256:=by rw [hX];exact low_lt N m (by omega)
  have htop:=limb_step N m
  rw [B_pow,← hX,hlimb] at htop
  rw [← hX]
  obtain ⟨s1,s2⟩:=limb_down a r (m+q) hr64
  have hv1:limb a (m+q) / 2 ^ r < 18446744073709551616:=div64 (limb_lt _ _)
  have hrd1:=limb_rd a (m+q) hlt (E:=29) (fr:=(0,0))
  have hW1:=limb_wr X m 0 (limb a (m+q) / 2 ^ r) (by omega) hXM (by decide) hv1 hz (E:=29)
  rw [Nat.zero_mul,Nat.add_zero] at hW1
  rcases jM (m+q+1) 4 with h3|h3
  ·rcases yB r with hr0|hr0
   ·have hl0:limb a (m+q+1) * 2 ^ (64 - r) % 18446744073709551616=0:=by rw [hr0];exact Nat.mul_mod_left _ _
    rw [hl0,Nat.add_zero] at s1
    (refine zI<|sRz<|vMz<|vMz ?_;refine lvz (.addZ rfl rfl (by omega)) ?_;refine lvz (.lssT rfl rfl (by omega)) ?_;refine nNz<|cTz<|zJ<|thenN<|zI<|zM<|sRz<|vMz<|vMz<|vMz ?_;refine lvz (.addZ rfl rfl (by omega)) ?_;refine lvz (.indexAddrA rfl rfl rfl (by omega)) ?_;refine ldz rfl (.tail (.tail (.tail .head))) (by assumption) ?_;refine vMz ?_;refine lvz (.shrU rfl rfl (by omega)) ?_;refine lvz (.indexAddrA rfl rfl rfl (by omega)) ?_;apply zR;rfl;rfl;apply qA;assumption;refine nSz<|vMz<|vMz ?_;refine lvz (.addZ rfl rfl (by omega)) ?_;refine lvz (.addZL rfl rfl (by decide) (by omega)) ?_;refine lvz (.lssT rfl rfl (by omega)) ?_;refine vMz<|gTz<|vMz<|gTz ?_;refine lvz (.gtrF rfl rfl (by omega)) ?_;refine pTz<|nNz<|cFz<|zJ<|blkN<|thenN<|zL<|vMz ?_;refine lvz (.addZL rfl rfl (by decide) (by omega)) ?_;refine vAz ?_;apply zV)
    apply thenX
    refine ⟨rfl,m+1,(by omega),by omega,⟨rfl,rfl,rfl,rfl,rfl,rfl,trivial⟩,?_⟩
    rw [htop,s1]
    exact jG _
   ·have hrd2:=limb_rd (X+limb a (m+q) / 2 ^ r * 2 ^ (64 * m)) m (by omega) (E:=29) (fr:=(0,0))
    rw [limb_put X m _ hz hv1] at hrd2
    have hrd3:=limb_rd a (m+q+1) h3 (E:=29) (fr:=(0,0))
    have ht0:limb a (m+q+1) * 2 ^ (64 - r) % 18446744073709551616 < 18446744073709551616:=yS _ (by decide)
    have hor:(limb a (m+q) / 2 ^ r |||limb a (m+q+1) * 2 ^ (64 - r) % 18446744073709551616)=limb (a / 2 ^ r) (m+q):=by
     rw [s1,Nat.or_comm,Nat.add_comm (limb a (m+q) / 2 ^ r)]
     exact or_low rfl (dvd_low _ _ (by omega)) s2
    have hW2:=limb_wr X m (limb a (m+q) / 2 ^ r) (limb a (m+q) / 2 ^ r |||limb a (m+q+1) * 2 ^ (64 - r) % 18446744073709551616) (by omega) hXM hv1 (by rw [hor];exact limb_lt _ _) hz (E:=29)
    (refine zI<|sRz<|vMz<|vMz ?_;refine lvz (.addZ rfl rfl (by omega)) ?_;refine lvz (.lssT rfl rfl (by omega)) ?_;refine nNz<|cTz<|zJ<|thenN<|zI<|zM<|sRz<|vMz<|vMz<|vMz ?_;refine lvz (.addZ rfl rfl (by omega)) ?_;refine lvz (.indexAddrA rfl rfl rfl (by omega)) ?_;refine ldz rfl (.tail (.tail (.tail .head))) (by assumption) ?_;refine vMz ?_;refine lvz (.shrU rfl rfl (by omega)) ?_;refine lvz (.indexAddrA rfl rfl rfl (by omega)) ?_;apply zR;rfl;rfl;apply qA;assumption;refine nSz<|vMz<|vMz ?_;refine lvz (.addZ rfl rfl (by omega)) ?_;refine lvz (.addZL rfl rfl (by decide) (by omega)) ?_;refine lvz (.lssT rfl rfl (by omega)) ?_;refine vMz<|gTz<|vMz<|gTz ?_;refine lvz (.gtrT rfl rfl (by omega)) ?_;refine pTz<|nNz<|cTz ?_;apply CW.pre;refine AnyW.any 12 mixed (by decide +kernel) ?_;(try simp only [tsOf_cons,tsOf_nil,tsOf_app]);refine dvz (.move rfl) ?_;refine dvz (.indexAddrA rfl rfl rfl (by omega)) ?_;apply qG;rfl;rfl;rfl;exact zC;rfl;apply zP;exact zN;assumption;refine dvz (.move rfl)<|dvz (.move rfl) ?_;refine dvz (.addZ rfl rfl (by omega)) ?_;refine dvz (.addZL rfl rfl (by decide) (by omega)) ?_;refine dvz (.indexAddrA rfl rfl rfl (by omega)) ?_;apply qG;rfl;rfl;rfl;exact zC;rfl;apply zO;apply zO;apply zO;apply zP;exact zN;assumption;refine dvz (.move rfl) ?_;refine dvz (.subZK rfl rfl (by decide) (by omega) (by omega)) ?_;refine dvz (.shlU rfl rfl (by omega)) ?_;apply DW.nil;simp only [fsOf_cons,fsOf_nil,fsOf_app,fsOf_tsOf,fsOf_new];refine lvz (.orU rfl rfl (by omega) (by omega)) ?_;refine lvz (.indexAddrA rfl rfl rfl (by omega)) ?_;apply zR;rfl;rfl;apply qA;assumption;apply zV;refine blkN<|thenN<|zL<|vMz ?_;refine lvz (.addZL rfl rfl (by decide) (by omega)) ?_;refine vAz ?_;apply zV)
    apply thenX
    refine ⟨rfl,m+1,(by omega),by omega,⟨rfl,rfl,rfl,rfl,rfl,rfl,trivial⟩,?_⟩
    rw [htop,← hor]
    exact jG _
  ·have hl4:limb a (m+q+1)=0:=by
    rw [show m+q+1=4 by omega];unfold limb;rw [Nat.div_eq_of_lt (show a < 2 ^ (64 * 4) from ha)]
   rw [hl4,Nat.zero_mul,Nat.zero_mod,Nat.add_zero] at s1
   (refine zI<|sRz<|vMz<|vMz ?_;refine lvz (.addZ rfl rfl (by omega)) ?_;refine lvz (.lssT rfl rfl (by omega)) ?_;refine nNz<|cTz<|zJ<|thenN<|zI<|zM<|sRz<|vMz<|vMz<|vMz ?_;refine lvz (.addZ rfl rfl (by omega)) ?_;refine lvz (.indexAddrA rfl rfl rfl (by omega)) ?_;refine ldz rfl (.tail (.tail (.tail .head))) (by assumption) ?_;refine vMz ?_;refine lvz (.shrU rfl rfl (by omega)) ?_;refine lvz (.indexAddrA rfl rfl rfl (by omega)) ?_;apply zR;rfl;rfl;apply qA;assumption;refine nSz<|vMz<|vMz ?_;refine lvz (.addZ rfl rfl (by omega)) ?_;refine lvz (.addZL rfl rfl (by decide) (by omega)) ?_;refine lvz (.lssF rfl rfl (by omega)) ?_;refine vMz<|gFz<|gFz<|pFz<|nNz<|cFz<|zJ<|blkN<|thenN<|zL<|vMz ?_;refine lvz (.addZL rfl rfl (by decide) (by omega)) ?_;refine vAz ?_;apply zV)
   apply thenX
   refine ⟨rfl,m+1,(by omega),by omega,⟨rfl,rfl,rfl,rfl,rfl,rfl,trivial⟩,?_⟩
   rw [htop,s1]
   exact jG _
 ·have hfin:N % 2 ^ (64 * m)=N:=by
   refine jY ?_
   rw [hN2]
   refine Nat.div_lt_of_lt_mul (yR (Nat.div_le_self _ _) ?_)
   rw [← yV,show 64 * q+64 * m=256 by omega];exact ha
  rw [hfin]
  exact dTBJyT
theorem dTBdTD {P:Prop} (h:P:=by
 obtain ⟨b,off,c',cs,E,fr,heq,hb,hx⟩:=hv.pos (by omega)
 cases heq
 obtain ⟨u,hu⟩:∃ u,u=l[m]:=⟨_,rfl⟩
 have hrd:Rd prog 5 (.cells cs E fr) (off+m * 1) (.int .u8 (u.toNat:Int)):=Rd.elem1 hx (ucs_one l) (by rw [hu];exact jO hlt) rfl
 have hu8:=u.toNat_lt
 have hst:=bup_step l m hlt
 rw [← hu] at hst
 have hn32:l.length - 1 - m < 32:=by omega
 obtain ⟨X,hX⟩:∃ X,X=bup l m:=⟨_,rfl⟩
 rw [← hX] at hst ⊢
 have hlm:=limb_lt X ((l.length - 1 - m) / 8)
 have hrl:=limb_rd X ((l.length - 1 - m) / 8) (by omega) (E:=29) (fr:=(0,0))
 have hW:=byte_wr X (l.length - 1 - m) u.toNat hn32 hu8 (E:=29)
 have hv8:u.toNat * 2 ^ (8 * ((l.length - 1 - m) % 8)) % 18446744073709551616 < 18446744073709551616:=yS _ (by decide)
 rw [hst] at hW
 (refine sRz ?_;refine lvz (.lssT rfl rfl (by omega)) ?_;refine nNz<|zI<|cTz<|zJ<|thenN<|zI<|zM<|sRz<|vMz ?_;refine lvz (.indexAddrS rfl rfl rfl (by omega)) ?_;apply LW.load;rfl;rfl;exact Known.ext (by assumption) (by simp);assumption;refine vAz<|vAz<|nSz<|vMz<|lvz (.lenR rfl vF rfl) ?_;refine lvz (.subZL rfl rfl (by decide) (by omega) (by omega)) ?_;refine vMz ?_;refine lvz (.subZ rfl rfl (by omega) (by omega)) ?_;refine vAz<|nNz ?_;apply CW.pre;refine AnyW.any 10 mixed (by decide +kernel) ?_;(try simp only [tsOf_cons,tsOf_nil,tsOf_app]);refine dvz (.move rfl) ?_;refine dvz (.quoZL rfl rfl (by decide) (by omega) (by omega)) ?_;refine dvz (.indexAddrA rfl rfl rfl (by omega)) ?_;apply qG;rfl;rfl;rfl;exact zC;rfl;apply zP;exact zN;assumption;refine dvz (.move rfl) ?_;refine dvz (.convN rfl (by omega) (by omega)) ?_;refine dvz (.move rfl) ?_;refine dvz (.remZL rfl rfl (by decide) (by omega)) ?_;refine dvz (.mulZK rfl rfl (by decide) (by omega)) ?_;refine dvz (.shlU rfl rfl (by omega)) ?_;apply DW.nil;simp only [fsOf_cons,fsOf_nil,fsOf_app,fsOf_tsOf,fsOf_new];refine lvz (.orU rfl rfl (by omega) (by omega)) ?_;refine lvz (.indexAddrA rfl rfl rfl (by omega)) ?_;apply zR;rfl;rfl;apply qA;assumption;apply zV;refine blkN<|thenN<|zL ?_;refine lvz (.addZL rfl rfl (by decide) (by omega)) ?_;refine vMz ?_;apply zV)
 apply thenX
 exact ⟨rfl,m+1,hlt,by omega,⟨rfl,rfl,rfl,rfl,rfl,rfl,trivial⟩,jG _⟩):P:=h
theorem dTBwGB {P:Prop} (h:P:=by
 (refine goZ ?_)
 apply finM seg;(exact .inl rfl);(exact Shut.nil);rfl;(apply zD;exact zG rfl;exact zF);exact jJ _ _
 exact hrow):P:=h
def beb (m a:Nat):List UInt8:=(List.range m).map fun i=>UInt8.ofNat (a / 256 ^ (m - 1 - i))
theorem beb_len (m a:Nat):(beb m a).length=m:=by simp [beb]
theorem beb_get (m a i:Nat) (h:i < m):(beb m a)[i]?=some (UInt8.ofNat (a / 256 ^ (m - 1 - i))):=by simp [beb,h]
theorem byte_limb (a n:Nat) (hn:n < 32):a / 2 ^ (64 * (0+n / 8 * 1)) % 18446744073709551616 / 2 ^ (8 * (n % 8)) % 256=a / 256 ^ n % 256:=by
 rw [show (18446744073709551616:Nat)=2 ^ (8 * (n % 8)+(64 - 8 * (n % 8))) by rw [show 8 * (n % 8)+(64 - 8 * (n % 8))=64 by omega]]
 rw [yV,Nat.mod_mul_right_div_self,yO,← yV,show 64 * (0+n / 8 * 1)+8 * (n % 8)=8 * n by omega,Nat.pow_mul]
 obtain ⟨j,hj⟩:∃ j,64 - 8 * (n % 8)=8+j:=⟨56 - 8 * (n % 8),by omega⟩
 rw [hj,yV,show (256:Nat)=2 ^ 8 from rfl,Nat.mod_mod_of_dvd _ ⟨2 ^ j,rfl⟩]
theorem beb_u8 (a k:Nat) (hk:k < 32):((a / 2 ^ (64 * (0+(32 - 1 - k) / 8 * 1)) % 18446744073709551616 / 2 ^ (8 * ((32 - 1 - k) % 8)) % 256:Nat):Int)=(((UInt8.ofNat (a / 256 ^ (32 - 1 - k))).toNat:Nat):Int):=by
 rw [byte_limb a _ (by omega),UInt8.toNat_ofNat']
def fillB (L:List UInt8) (k:Nat):List UInt8:=L.take k++List.replicate (L.length - k) 0
theorem fillB_step (L:List UInt8) (k:Nat) (u:UInt8) (h:k < L.length) (hu:L[k]?=some u):ucs ((fillB L k).take k)++[Value.int .u8 (u.toNat:Int)]++ucs ((fillB L k).drop (k+1))=ucs (fillB L (k+1)):=by
 have h1:(L.take k).length=k:=by simp;omega
 have e1:(fillB L k).take k=L.take k:=by unfold fillB;rw [List.take_append_of_le_length (by omega),yI (by omega)]
 have e2:(fillB L k).drop (k+1)=List.replicate (L.length - (k+1)) 0:=by
  unfold fillB
  rw [List.drop_append,h1,List.drop_eq_nil_of_le (by omega),jQ,List.drop_replicate]
  congr 1;omega
 obtain ⟨hk,hv⟩:=List.getElem?_eq_some_iff.1 hu
 rw [e1,e2,show [Value.int .u8 (u.toNat:Int)]=ucs [u] from rfl,← ucs_app,← ucs_app]
 unfold fillB
 rw [List.take_succ_eq_append_getElem hk,hv]
theorem fillB_len (L:List UInt8) (k:Nat) (h:k≤L.length):(fillB L k).length=L.length:=by simp [fillB];omega
structure BX where
 m:Nat
 seg:Fs
theorem Bytes_calls (a:Nat) (ha:a < M256) (w:World):Calls prog 59 #[wv a] w (RetG w [] fun v gs=>IsRow 5 1 v 32 (ucs (beb 32 a)) gs):=by
 refine enter (args:=[_]) _ [] [] func59 rfl ntmps59 rfl (by simp) .nil ?_
 (refine goZ ?_;intro _)
 rename_i b
 refine LW.makeRow (n:=32) rfl vF vF vF rfl rfl (by decide) (by decide) ?_
 intro v0 seg0 hrow0
 obtain ⟨p0,c0,rfl⟩:=hrow0.form
 rw [← ucs_zero] at hrow0
 (refine goZ ?_)
 refine qM (fun x:BX=>([(9,.int .i64 (x.m:Int)),(8,.int .i64 32),(3,.slice p0 32 c0),(1,.pointer (some ⟨b,0,none⟩))],x.seg++[(b,.cells (wc a) 29 (0,0))]))
  (fun x=>x.m≤32∧IsRow 5 1 (.slice p0 32 c0) 32 (ucs (fillB (beb 32 a) x.m)) x.seg) (fun x=>32 - x.m) ⟨0,seg0⟩ ⟨Nat.zero_le _,by simpa [fillB,beb_len] using hrow0⟩ ⟨rfl,rfl,rfl,rfl,trivial⟩ (jG _) ?_
 rintro ⟨k,seg⟩ ⟨hk,hrow⟩
 dsimp only at hk hrow ⊢
 rcases jM k 32 with hlt|hge
 ·obtain ⟨g,cur,rfl,rfl,hc1,hmx,hsz,ht⟩:=hrow.pos (by decide)
  have hu:=beb_get 32 a k hlt
  have hval:=beb_u8 a k hlt
  obtain ⟨u,hu'⟩:∃ u,u=UInt8.ofNat (a / 256 ^ (32 - 1 - k)):=⟨_,rfl⟩
  rw [← hu'] at hu hval
  obtain ⟨w1,w2⟩:=wr_take (i:=k) (vs:=[Value.int .u8 (u.toNat:Int)]) ht rfl hlt (by omega)
  rw [ucs_take,ucs_drop,fillB_step _ _ _ (by rw [beb_len];exact hlt) hu] at w1
  have hW:Wr prog 5 (.cells cur 5 (0,0)) (0+k * 1) (.int .u8 (u.toNat:Int)) (.cells (wrCells cur (k * 1) [Value.int .u8 (u.toNat:Int)]) 5 (0,0)):=qU rfl rfl (by rw [hsz];show 0+k * 1+1≤c0 * 1;omega) (by rw [jH];rfl)
  rw [← hval] at hW
  (refine goZ ?_;apply LW.load;rfl;rfl;apply qH;apply zX;apply zY;apply Rd.one';apply nth_wc;omega;refine goZ ?_;refine lvz (.shrU rfl rfl (by omega)) ?_;refine goZ ?_)
  apply thenX
  refine ⟨rfl,⟨k+1,_⟩,⟨hlt,.own hc1 hmx (by rw [w2,hsz]) w1 ?_⟩,by show 32 - (k+1) < 32 - k;omega,⟨rfl,rfl,rfl,rfl,trivial⟩,by rw [hval];exact jG _⟩
  rw [ucs_len,fillB_len _ _ (by rw [beb_len];exact hlt),beb_len]
 ·obtain rfl:k=32:=by omega
  rw [show fillB (beb 32 a) 32=beb 32 a by simp [fillB,beb_len,yI]] at hrow
  exact dTBwGB
theorem rBytes_calls (a:Nat) (ha:a < M256) (w:World):Calls prog 180 #[wv a] w (RetG w [] fun v gs=>IsRow 5 1 v 32 (ucs (beb 32 a)) gs):=by
 refine enter (args:=[_]) _ [] [] func180 rfl ntmps180 rfl (by simp) .nil ?_
 (refine goZ ?_;intro _)
 rename_i b
 refine qM (fun x:RX=>([(4,.int .i64 (31 - (x.m:Int))),(3,x.v),(1,.pointer (some ⟨b,0,none⟩))],x.seg++[(b,.cells (wc a) 29 (0,0))]))
  (fun x=>x.m≤32∧IsRow 5 1 x.v x.m (ucs ((beb 32 a).take x.m)) x.seg) (fun x=>32 - x.m) ⟨0,.slice none 0 0,[]⟩ ⟨Nat.zero_le _,.nil⟩ ⟨rfl,rfl,rfl,trivial⟩ (jG _) ?_
 rintro ⟨k,v,seg⟩ ⟨hk,hrow⟩
 dsimp only at hk hrow ⊢
 obtain ⟨p,c,rfl⟩:=hrow.form
 rcases jM k 32 with hlt|hge
 ·have e0:(31 - (k:Int))=((32 - 1 - k:Nat):Int):=by omega
  have e1:(31 - ((k+1:Nat):Int))=((32 - 1 - k:Nat):Int) - 1:=by omega
  rw [e0]
  have hu:=beb_get 32 a k hlt
  have hval:=beb_u8 a k hlt
  obtain ⟨u,hu'⟩:∃ u,u=UInt8.ofNat (a / 256 ^ (32 - 1 - k)):=⟨_,rfl⟩
  rw [← hu'] at hu hval
  have hn32:32 - 1 - k < 32:=by omega
  obtain ⟨n,hn⟩:∃ n,n=32 - 1 - k:=⟨_,rfl⟩
  rw [← hn] at hval hn32 e1 ⊢
  (refine goZ ?_;apply LW.load;rfl;rfl;apply qH;apply zZ;apply zY;apply Rd.one';apply nth_wc;omega;refine goZ ?_;refine lvz (.shrU rfl rfl (by omega)) ?_;refine goZ ?_;intro _)
  rw [hval]
  skip
  (apply qZ;rfl;rfl;exact vF;exact vF;exact vF;rfl;rfl;rfl;(case hrow=>assumption);apply qK;exact qJ;apply qH;apply zY;rfl;rfl;rfl;omega;simp only [maxLen];omega;omega;intro v' seg' hrow';obtain ⟨p',c',rfl⟩:=hrow'.form;(refine ⟨_,(by (repeat (first|exact qJ|apply qK|apply qL))),?_⟩);(try simp only [yA,jQ]))
  (refine goZ ?_;refine lvz (.subI rfl rfl (by omega) (by omega)) ?_;refine goZ ?_)
  apply thenX
  refine ⟨rfl,⟨k+1,_,seg'⟩,⟨hlt,?_⟩,by show 32 - (k+1) < 32 - k;omega,⟨congrArg (fun z=>some (Value.int .i64 z)) e1.symm,rfl,rfl,trivial⟩,by (apply jK;exact jG _)⟩
  obtain ⟨h1,h2⟩:=List.getElem?_eq_some_iff.1 hu
  rw [List.take_succ_eq_append_getElem h1,h2,ucs_app]
  exact hrow'
 ·obtain rfl:k=32:=by omega
  rw [yI (by rw [beb_len];exact yD _)] at hrow
  exact dTBwGB
def bev (l:List UInt8):Nat:=l.foldl (fun n u=>256 * n+u.toNat) 0
theorem bev_snoc (l:List UInt8) (u:UInt8):bev (l++[u])=256 * bev l+u.toNat:=by simp [bev,List.foldl_append]
theorem bev_go (l:List UInt8):∀ n,l.foldl (fun n u=>256 * n+u.toNat) n < (n+1) * 2 ^ (8 * l.length):=by
 induction l with
 |nil=>intro n;simp
 |cons u l ih =>
  intro n
  have hu:=u.toNat_lt
  rw [List.foldl_cons,yK,show 8 * (l.length+1)=8+8 * l.length by omega,yV,← Nat.mul_assoc]
  exact Nat.lt_of_lt_of_le (ih _) (Nat.mul_le_mul_right _ (by omega))
theorem bev_lt (l:List UInt8):bev l < 2 ^ (8 * l.length):=by
 have:=bev_go l 0
 rwa [jH,Nat.one_mul] at this
def bup (l:List UInt8) (m:Nat):Nat:=bev (l.take m) * 2 ^ (8 * (l.length - m))
theorem bup_step (l:List UInt8) (m:Nat) (h:m < l.length):bup l m |||l[m].toNat * 2 ^ (8 * (l.length - 1 - m))=bup l (m+1):=by
 have hu:=l[m].toNat_lt
 have e:2 ^ (8 * (l.length - m))=256 * 2 ^ (8 * (l.length - 1 - m)):=by rw [show 8 * (l.length - m)=8+8 * (l.length - 1 - m) by omega,yV]
 have hp:=pow_pos2 (8 * (l.length - 1 - m))
 unfold bup
 rw [or_low (R:=2 ^ (8 * (l.length - m))) rfl ⟨bev (l.take m),yZ _ _⟩ (by rw [e];exact Nat.mul_lt_mul_of_pos_right hu hp)]
 rw [List.take_succ_eq_append_getElem h,bev_snoc,Nat.add_mul,e,show l.length - (m+1)=l.length - 1 - m by omega,← Nat.mul_assoc,yZ (bev _) 256]
theorem or_limb (X Z k:Nat):(X |||Z) / 2 ^ k % 18446744073709551616=X / 2 ^ k % 18446744073709551616 |||Z / 2 ^ k % 18446744073709551616:=by
 rw [Nat.or_div_two_pow,show (18446744073709551616:Nat)=2 ^ 64 from rfl,Nat.or_mod_two_pow]
theorem wc_or (X Z:Nat):wc (X |||Z)=#[.int .u64 ((X % 18446744073709551616 |||Z % 18446744073709551616:Nat):Int),.int .u64 ((X / 18446744073709551616 % 18446744073709551616 |||Z / 18446744073709551616 % 18446744073709551616:Nat):Int),
  .int .u64 ((X / 340282366920938463463374607431768211456 % 18446744073709551616 |||Z / 340282366920938463463374607431768211456 % 18446744073709551616:Nat):Int),.int .u64 ((X / 6277101735386680763835789423207666416102355444464034512896 % 18446744073709551616 |||Z / 6277101735386680763835789423207666416102355444464034512896 % 18446744073709551616:Nat):Int)]:=by
 have h0:=or_limb X Z 0
 have h1:=or_limb X Z 64
 have h2:=or_limb X Z 128
 have h3:=or_limb X Z 192
 simp only [Nat.pow_zero,Nat.div_one,Nat.reducePow] at h0 h1 h2 h3
 rw [wc,h0,h1,h2,h3]
theorem wc_setor (X i v:Nat) (hi:i < 4) (hv:v < 18446744073709551616):((wc X).toList.set i (.int .u64 ((limb X i |||v:Nat):Int))).toArray=wc (X |||v * 2 ^ (64 * i)):=by
 rw [wc_or]
 have e0:v % 18446744073709551616=v:=jY hv
 unfold limb
 rcases (show i=0∨i=1∨i=2∨i=3 by omega) with rfl|rfl|rfl|rfl<;>simp only [wc,jE,jF,Nat.mul_zero,Nat.pow_zero,Nat.div_one,yE,Nat.reduceMul,Nat.reducePow]
 ·rw [e0,show v / 18446744073709551616 % 18446744073709551616=0 by omega,show v / 340282366920938463463374607431768211456 % 18446744073709551616=0 by omega,show v / 6277101735386680763835789423207666416102355444464034512896 % 18446744073709551616=0 by omega,Nat.or_zero,Nat.or_zero,Nat.or_zero]
 ·rw [show v * 18446744073709551616 / 18446744073709551616 % 18446744073709551616=v by omega,show v * 18446744073709551616 % 18446744073709551616=0 by omega,show v * 18446744073709551616 / 340282366920938463463374607431768211456 % 18446744073709551616=0 by omega,show v * 18446744073709551616 / 6277101735386680763835789423207666416102355444464034512896 % 18446744073709551616=0 by omega,Nat.or_zero,Nat.or_zero,Nat.or_zero]
 ·rw [show v * 340282366920938463463374607431768211456 / 18446744073709551616 % 18446744073709551616=0 by omega,show v * 340282366920938463463374607431768211456 % 18446744073709551616=0 by omega,show v * 340282366920938463463374607431768211456 / 340282366920938463463374607431768211456 % 18446744073709551616=v by omega,show v * 340282366920938463463374607431768211456 / 6277101735386680763835789423207666416102355444464034512896 % 18446744073709551616=0 by omega,Nat.or_zero,Nat.or_zero,Nat.or_zero]
 ·rw [show v * 6277101735386680763835789423207666416102355444464034512896 / 18446744073709551616 % 18446744073709551616=0 by omega,show v * 6277101735386680763835789423207666416102355444464034512896 % 18446744073709551616=0 by omega,show v * 6277101735386680763835789423207666416102355444464034512896 / 340282366920938463463374607431768211456 % 18446744073709551616=0 by omega,show v * 6277101735386680763835789423207666416102355444464034512896 / 6277101735386680763835789423207666416102355444464034512896 % 18446744073709551616=v by omega,Nat.or_zero,Nat.or_zero,Nat.or_zero]
theorem byte_wr (X n u:Nat) (hn:n < 32) (hu:u < 256) {E:TypeId}:Wr prog 26 (.cells (wc X) E (0,0)) (0+n / 8 * 1) (.int .u64 ((limb X (n / 8) |||u * 2 ^ (8 * (n % 8)) % 18446744073709551616:Nat):Int)) (.cells (wc (X |||u * 2 ^ (8 * n))) E (0,0)) :=
 qU rfl rfl (by show 0+n / 8 * 1+1≤4;omega) (by
  have h7:2 ^ (8 * (n % 8))≤2 ^ 56:=yU (by decide) (by omega)
  have hlt:u * 2 ^ (8 * (n % 8)) < 18446744073709551616:=by
   have:=Nat.mul_le_mul (show u≤255 by omega) h7
   have:(255:Nat) * 2 ^ 56 < 18446744073709551616:=by decide
   omega
  have h:=wc_setor X (n / 8) (u * 2 ^ (8 * (n % 8))) (by omega) hlt
  rw [Nat.mul_assoc,← yV,show 8 * (n % 8)+64 * (n / 8)=8 * n by omega] at h
  rw [jH,yE,jY hlt,← h]
  apply Array.toList_inj.1
  simp [wrCells,Value.cells])
theorem Read_calls (v:Value) (l:List UInt8) (w:World) (hv:RowAt w 1 v l.length (ucs l)) (hl:l.length≤32):Calls prog 199 #[v] w (Ret w (.tuple #[wv (bev l),.int .i64 0])):=by
 obtain ⟨p,c,rfl,hc,hm⟩:=hv.form
 simp only [maxLen] at hm
 refine enter (args:=[_]) _ [] [] func199 rfl ntmps199 rfl (by simp) .nil ?_
 (refine goZ ?_;intro _ _)
 rename_i b2 b4
 refine qM (fun m:Nat=>([(14,.int .i64 (m:Int)),(13,.int .i64 (l.length:Int)),(12,.slice p l.length c),(0,.slice p l.length c),(4,.pointer (some ⟨b4,0,none⟩)),(2,.pointer (some ⟨b2,0,none⟩))],
   [(b4,.cells (wc (bup l m)) 29 (0,0)),(b2,.cells (wc 0) 29 (0,0))]))
  (fun m=>m≤l.length) (fun m=>l.length - m) 0 (yT _) ⟨rfl,rfl,rfl,rfl,rfl,rfl,trivial⟩ (by simp [bup,bev]) ?_
 intro m hml
 dsimp only at hml ⊢
 rcases jM m l.length with hlt|hge
 ·exact dTBdTD
 ·obtain rfl:m=l.length:=by omega
  rw [show bup l l.length=bev l by simp [bup]]
  exact dTBJyT
theorem rRead_calls (v:Value) (l:List UInt8) (w:World) (hv:RowAt w 1 v l.length (ucs l)) (hl:l.length≤32):Calls prog 53 #[v] w (Ret w (wv (bev l))):=by
 obtain ⟨p,c,rfl,hc,hm⟩:=hv.form
 simp only [maxLen] at hm
 refine enter (args:=[_]) _ [] [] func53 rfl ntmps53 rfl (by simp) .nil ?_
 (refine goZ ?_;intro _ _)
 rename_i b2 b4
 refine qM (fun m:Nat=>([(9,.int .i64 (m:Int)),(8,.int .i64 (l.length:Int)),(7,.slice p l.length c),(0,.slice p l.length c),(3,.pointer (some ⟨b4,0,none⟩)),(2,.pointer (some ⟨b2,0,none⟩))],
   [(b4,.cells (wc (bup l m)) 29 (0,0)),(b2,.cells (wc 0) 29 (0,0))]))
  (fun m=>m≤l.length) (fun m=>l.length - m) 0 (yT _) ⟨rfl,rfl,rfl,rfl,rfl,rfl,trivial⟩ (by simp [bup,bev]) ?_
 intro m hml
 dsimp only at hml ⊢
 rcases jM m l.length with hlt|hge
 ·exact dTBdTD
 ·obtain rfl:m=l.length:=by omega
  rw [show bup l l.length=bev l by simp [bup]]
  exact dTBJyT
def halvesE:Array MapEntry:=#[⟨.int .u8 1,.func (.func 137) #[] #[],0⟩,⟨.int .u8 3,.func (.func 139) #[] #[],1⟩,⟨.int .u8 2,.func (.func 140) #[] #[],2⟩,⟨.int .u8 4,.func (.func 141) #[] #[],3⟩,⟨.int .u8 6,.func (.func 143) #[] #[],4⟩,⟨.int .u8 22,.func (.func 21) #[] #[],5⟩,⟨.int .u8 23,.func (.func 22) #[] #[],6⟩,⟨.int .u8 24,.func (.func 23) #[] #[],7⟩,⟨.int .u8 27,.func (.func 144) #[] #[],8⟩,⟨.int .u8 28,.func (.func 145) #[] #[],9⟩,⟨.int .u8 16,.func (.func 146) #[] #[],10⟩,⟨.int .u8 17,.func (.func 148) #[] #[],11⟩,⟨.int .u8 20,.func (.func 149) #[] #[],12⟩]
def halvesF (b:Nat):Option (Nat × FuncId):=if b=1 then some (0,137) else if b=3 then some (1,139) else if b=2 then some (2,140) else if b=4 then some (3,141) else if b=6 then some (4,143) else if b=22 then some (5,21) else if b=23 then some (6,22) else if b=24 then some (7,23) else if b=27 then some (8,144) else if b=28 then some (9,145) else if b=16 then some (10,146) else if b=17 then some (11,148) else if b=20 then some (12,149) else none
def halvesM (v:Value) (gs:Fs):Prop:=∃ b,v=.map (some b)∧gs=[(b,.map halvesE 13)]
theorem halves_calls (w:World):Calls prog 96 #[] w (RetG w [] halvesM):=by
 refine enter (args:=[]) _ [] [] func96 rfl ntmps96 rfl (by simp) .nil ?_
 (refine goZ ?_;apply LW.makeMap;rfl;intro _;refine goZ ?_)
 rename_i b
 exact fin (vs:=[.map (some b)]) [(b,.map halvesE 13)] (.inl rfl) rfl rfl rsZ (jG _) ⟨b,rfl,rfl⟩
theorem halves_find (b:Nat):Instr.findNow (.int .u8) (.int .u8 (b:Int)) halvesE.toList 0=some ((halvesF b).map fun x=>(x.1,.func (.func x.2) #[] #[])):=by
 have hk:∀ (b k:Nat),¬ b=k→((b:Int) == (k:Int))=false:=fun b k h=>by
  rw [beq_eq_false_iff_ne]
  omega
 unfold halvesF
 by_cases h1:b=1
 ·subst h1;rfl
 rw [if_neg h1]
 by_cases h3:b=3
 ·subst h3;rfl
 rw [if_neg h3]
 by_cases h2:b=2
 ·subst h2;rfl
 rw [if_neg h2]
 by_cases h4:b=4
 ·subst h4;rfl
 rw [if_neg h4]
 by_cases h6:b=6
 ·subst h6;rfl
 rw [if_neg h6]
 by_cases h22:b=22
 ·subst h22;rfl
 rw [if_neg h22]
 by_cases h23:b=23
 ·subst h23;rfl
 rw [if_neg h23]
 by_cases h24:b=24
 ·subst h24;rfl
 rw [if_neg h24]
 by_cases h27:b=27
 ·subst h27;rfl
 rw [if_neg h27]
 by_cases h28:b=28
 ·subst h28;rfl
 rw [if_neg h28]
 by_cases h16:b=16
 ·subst h16;rfl
 rw [if_neg h16]
 by_cases h17:b=17
 ·subst h17;rfl
 rw [if_neg h17]
 by_cases h20:b=20
 ·subst h20;rfl
 rw [if_neg h20]
 simp only [halvesE,Instr.findNow,Instr.sameNow,if_true,Option.map_none,show ((b:Int) == 1)=false from hk b 1 h1,show ((b:Int) == 3)=false from hk b 3 h3,show ((b:Int) == 2)=false from hk b 2 h2,show ((b:Int) == 4)=false from hk b 4 h4,show ((b:Int) == 6)=false from hk b 6 h6,show ((b:Int) == 22)=false from hk b 22 h22,show ((b:Int) == 23)=false from hk b 23 h23,show ((b:Int) == 24)=false from hk b 24 h24,show ((b:Int) == 27)=false from hk b 27 h27,show ((b:Int) == 28)=false from hk b 28 h28,show ((b:Int) == 16)=false from hk b 16 h16,show ((b:Int) == 17)=false from hk b 17 h17,show ((b:Int) == 20)=false from hk b 20 h20,Bool.false_eq_true,if_false]
def saysE:Array MapEntry:=#[⟨.int .u8 48,.func (.func 150) #[] #[],0⟩,⟨.int .u8 51,.func (.func 151) #[] #[],1⟩,⟨.int .u8 50,.func (.func 152) #[] #[],2⟩,⟨.int .u8 66,.func (.func 153) #[] #[],3⟩,⟨.int .u8 67,.func (.func 154) #[] #[],4⟩,⟨.int .u8 72,.func (.func 155) #[] #[],5⟩,⟨.int .u8 54,.func (.func 156) #[] #[],6⟩,⟨.int .u8 61,.func (.func 157) #[] #[],7⟩,⟨.int .u8 90,.func (.func 158) #[] #[],8⟩]
def saysF (b:Nat):Option (Nat × FuncId):=if b=48 then some (0,150) else if b=51 then some (1,151) else if b=50 then some (2,152) else if b=66 then some (3,153) else if b=67 then some (4,154) else if b=72 then some (5,155) else if b=54 then some (6,156) else if b=61 then some (7,157) else if b=90 then some (8,158) else none
def saysM (v:Value) (gs:Fs):Prop:=∃ b,v=.map (some b)∧gs=[(b,.map saysE 9)]
theorem says_calls (w:World):Calls prog 97 #[] w (RetG w [] saysM):=by
 refine enter (args:=[]) _ [] [] func97 rfl ntmps97 rfl (by simp) .nil ?_
 (refine goZ ?_;apply LW.makeMap;rfl;intro _;refine goZ ?_)
 rename_i b
 exact fin (vs:=[.map (some b)]) [(b,.map saysE 9)] (.inl rfl) rfl rfl rsZ (jG _) ⟨b,rfl,rfl⟩
theorem says_find (b:Nat):Instr.findNow (.int .u8) (.int .u8 (b:Int)) saysE.toList 0=some ((saysF b).map fun x=>(x.1,.func (.func x.2) #[] #[])):=by
 have hk:∀ (b k:Nat),¬ b=k→((b:Int) == (k:Int))=false:=fun b k h=>by
  rw [beq_eq_false_iff_ne]
  omega
 unfold saysF
 by_cases h48:b=48
 ·subst h48;rfl
 rw [if_neg h48]
 by_cases h51:b=51
 ·subst h51;rfl
 rw [if_neg h51]
 by_cases h50:b=50
 ·subst h50;rfl
 rw [if_neg h50]
 by_cases h66:b=66
 ·subst h66;rfl
 rw [if_neg h66]
 by_cases h67:b=67
 ·subst h67;rfl
 rw [if_neg h67]
 by_cases h72:b=72
 ·subst h72;rfl
 rw [if_neg h72]
 by_cases h54:b=54
 ·subst h54;rfl
 rw [if_neg h54]
 by_cases h61:b=61
 ·subst h61;rfl
 rw [if_neg h61]
 by_cases h90:b=90
 ·subst h90;rfl
 rw [if_neg h90]
 simp only [saysE,Instr.findNow,Instr.sameNow,if_true,Option.map_none,show ((b:Int) == 48)=false from hk b 48 h48,show ((b:Int) == 51)=false from hk b 51 h51,show ((b:Int) == 50)=false from hk b 50 h50,show ((b:Int) == 66)=false from hk b 66 h66,show ((b:Int) == 67)=false from hk b 67 h67,show ((b:Int) == 72)=false from hk b 72 h72,show ((b:Int) == 54)=false from hk b 54 h54,show ((b:Int) == 61)=false from hk b 61 h61,show ((b:Int) == 90)=false from hk b 90 h90,Bool.false_eq_true,if_false]
def doesE:Array MapEntry:=#[⟨.int .u8 21,.func (.func 159) #[] #[],0⟩,⟨.int .u8 25,.func (.func 160) #[] #[],1⟩,⟨.int .u8 52,.func (.func 161) #[] #[],2⟩,⟨.int .u8 53,.func (.func 162) #[] #[],3⟩,⟨.int .u8 55,.func (.func 163) #[] #[],4⟩,⟨.int .u8 62,.func (.func 164) #[] #[],5⟩,⟨.int .u8 81,.func (.func 165) #[] #[],6⟩,⟨.int .u8 82,.func (.func 166) #[] #[],7⟩,⟨.int .u8 83,.func (.func 167) #[] #[],8⟩,⟨.int .u8 32,.func (.func 168) #[] #[],9⟩,⟨.int .u8 86,.func (.func 169) #[] #[],10⟩,⟨.int .u8 87,.func (.func 170) #[] #[],11⟩,⟨.int .u8 49,.func (.func 171) #[] #[],12⟩,⟨.int .u8 71,.func (.func 171) #[] #[],13⟩,⟨.int .u8 84,.func (.func 171) #[] #[],14⟩,⟨.int .u8 92,.func (.func 171) #[] #[],15⟩,⟨.int .u8 85,.func (.func 172) #[] #[],16⟩,⟨.int .u8 93,.func (.func 172) #[] #[],17⟩,⟨.int .u8 241,.func (.func 173) #[] #[],18⟩,⟨.int .u8 244,.func (.func 173) #[] #[],19⟩,⟨.int .u8 250,.func (.func 173) #[] #[],20⟩,⟨.int .u8 245,.func (.func 173) #[] #[],21⟩,⟨.int .u8 0,.func (.func 174) #[] #[],22⟩,⟨.int .u8 243,.func (.func 175) #[] #[],23⟩,⟨.int .u8 253,.func (.func 175) #[] #[],24⟩]
def doesF (b:Nat):Option (Nat × FuncId):=if b=21 then some (0,159) else if b=25 then some (1,160) else if b=52 then some (2,161) else if b=53 then some (3,162) else if b=55 then some (4,163) else if b=62 then some (5,164) else if b=81 then some (6,165) else if b=82 then some (7,166) else if b=83 then some (8,167) else if b=32 then some (9,168) else if b=86 then some (10,169) else if b=87 then some (11,170) else if b=49 then some (12,171) else if b=71 then some (13,171) else if b=84 then some (14,171) else if b=92 then some (15,171) else if b=85 then some (16,172) else if b=93 then some (17,172) else if b=241 then some (18,173) else if b=244 then some (19,173) else if b=250 then some (20,173) else if b=245 then some (21,173) else if b=0 then some (22,174) else if b=243 then some (23,175) else if b=253 then some (24,175) else none
def doesM (v:Value) (gs:Fs):Prop:=∃ b,v=.map (some b)∧gs=[(b,.map doesE 25)]
theorem does_calls (w:World):Calls prog 99 #[] w (RetG w [] doesM):=by
 refine enter (args:=[]) _ [] [] func99 rfl ntmps99 rfl (by simp) .nil ?_
 (refine goZ ?_;apply LW.makeMap;rfl;intro _;refine goZ ?_)
 rename_i b
 exact fin (vs:=[.map (some b)]) [(b,.map doesE 25)] (.inl rfl) rfl rfl rsZ (jG _) ⟨b,rfl,rfl⟩
theorem does_find (b:Nat):Instr.findNow (.int .u8) (.int .u8 (b:Int)) doesE.toList 0=some ((doesF b).map fun x=>(x.1,.func (.func x.2) #[] #[])):=by
 have hk:∀ (b k:Nat),¬ b=k→((b:Int) == (k:Int))=false:=fun b k h=>by
  rw [beq_eq_false_iff_ne]
  omega
 unfold doesF
 by_cases h21:b=21
 ·subst h21;rfl
 rw [if_neg h21]
 by_cases h25:b=25
 ·subst h25;rfl
 rw [if_neg h25]
 by_cases h52:b=52
 ·subst h52;rfl
 rw [if_neg h52]
 by_cases h53:b=53
 ·subst h53;rfl
 rw [if_neg h53]
 by_cases h55:b=55
 ·subst h55;rfl
 rw [if_neg h55]
 by_cases h62:b=62
 ·subst h62;rfl
 rw [if_neg h62]
 by_cases h81:b=81
 ·subst h81;rfl
 rw [if_neg h81]
 by_cases h82:b=82
 ·subst h82;rfl
 rw [if_neg h82]
 by_cases h83:b=83
 ·subst h83;rfl
 rw [if_neg h83]
 by_cases h32:b=32
 ·subst h32;rfl
 rw [if_neg h32]
 by_cases h86:b=86
 ·subst h86;rfl
 rw [if_neg h86]
 by_cases h87:b=87
 ·subst h87;rfl
 rw [if_neg h87]
 by_cases h49:b=49
 ·subst h49;rfl
 rw [if_neg h49]
 by_cases h71:b=71
 ·subst h71;rfl
 rw [if_neg h71]
 by_cases h84:b=84
 ·subst h84;rfl
 rw [if_neg h84]
 by_cases h92:b=92
 ·subst h92;rfl
 rw [if_neg h92]
 by_cases h85:b=85
 ·subst h85;rfl
 rw [if_neg h85]
 by_cases h93:b=93
 ·subst h93;rfl
 rw [if_neg h93]
 by_cases h241:b=241
 ·subst h241;rfl
 rw [if_neg h241]
 by_cases h244:b=244
 ·subst h244;rfl
 rw [if_neg h244]
 by_cases h250:b=250
 ·subst h250;rfl
 rw [if_neg h250]
 by_cases h245:b=245
 ·subst h245;rfl
 rw [if_neg h245]
 by_cases h0:b=0
 ·subst h0;rfl
 rw [if_neg h0]
 by_cases h243:b=243
 ·subst h243;rfl
 rw [if_neg h243]
 by_cases h253:b=253
 ·subst h253;rfl
 rw [if_neg h253]
 simp only [doesE,Instr.findNow,Instr.sameNow,if_true,Option.map_none,show ((b:Int) == 21)=false from hk b 21 h21,show ((b:Int) == 25)=false from hk b 25 h25,show ((b:Int) == 52)=false from hk b 52 h52,show ((b:Int) == 53)=false from hk b 53 h53,show ((b:Int) == 55)=false from hk b 55 h55,show ((b:Int) == 62)=false from hk b 62 h62,show ((b:Int) == 81)=false from hk b 81 h81,show ((b:Int) == 82)=false from hk b 82 h82,show ((b:Int) == 83)=false from hk b 83 h83,show ((b:Int) == 32)=false from hk b 32 h32,show ((b:Int) == 86)=false from hk b 86 h86,show ((b:Int) == 87)=false from hk b 87 h87,show ((b:Int) == 49)=false from hk b 49 h49,show ((b:Int) == 71)=false from hk b 71 h71,show ((b:Int) == 84)=false from hk b 84 h84,show ((b:Int) == 92)=false from hk b 92 h92,show ((b:Int) == 85)=false from hk b 85 h85,show ((b:Int) == 93)=false from hk b 93 h93,show ((b:Int) == 241)=false from hk b 241 h241,show ((b:Int) == 244)=false from hk b 244 h244,show ((b:Int) == 250)=false from hk b 250 h250,show ((b:Int) == 245)=false from hk b 245 h245,show ((b:Int) == 0)=false from hk b 0 h0,show ((b:Int) == 243)=false from hk b 243 h243,show ((b:Int) == 253)=false from hk b 253 h253,Bool.false_eq_true,if_false]
section
theorem dTBNNN {P:Prop} (h:P:=by
 by_cases h0:b=0
 ·subst h0;exact Div_calls0 a w
 ·rw [if_neg h0,if_neg h0];exact Div_calls a b ha hb h0 w):P:=h
theorem first1_calls (a:Nat) (t:Bool) (w:World):Calls prog 138 #[wv a,.bool t] w (Ret w (wv a)):=by
 refine enter (args:=[_,_]) _ [] [] func138 rfl ntmps138 rfl (by simp) .nil ?_
 (refine goZ ?_;intro _ _)
 (refine fiz ?_)
 rfl
theorem first2_calls (a b:Nat) (w:World):Calls prog 142 #[wv a,wv b] w (Ret w (wv a)):=by
 refine enter (args:=[_,_]) _ [] [] func142 rfl ntmps142 rfl (by simp) .nil ?_
 (refine goZ ?_;intro _ _ _)
 (refine fiz ?_)
 rfl
theorem truth_calls (t:Bool) (w:World):Calls prog 147 #[.bool t] w (Ret w (wv (if t then 1 else 0))):=by
 refine enter (args:=[_]) _ [] [] func147 rfl ntmps147 rfl (by simp) .nil ?_
 cases t with
 |true =>
  (refine goZ ?_;intro _;refine cEw (c:=by exact Of_calls 1 (by decide)) (k:=?_))
  (refine fiz ?_)
  rfl
 |false =>
  (refine goZ ?_;intro _;refine cEw (c:=by exact Of_calls 0 (by decide)) (k:=?_))
  (refine fiz ?_)
  rfl
def halfV (op a b:Nat):Nat :=
 if op=1 then (a+b) % M256 else if op=3 then (a+M256 - b) % M256 else if op=2 then a * b % M256 else if op=4 then (if b=0 then 0 else a / b) else if op=6 then (if b=0 then 0 else a % b) else if op=22 then a &&& b else if op=23 then a |||b else if op=24 then a ^^^ b else if op=27 then b * 2 ^ min a 256 % M256 else if op=28 then b / 2 ^ min a 256 else if op=16 then (if a < b then 1 else 0) else if op=17 then (if b < a then 1 else 0) else (if a=b then 1 else 0)
section
variable (a b : Nat) (ha : a < M256) (hb : b < M256) (w : World)
include ha hb
theorem half1_calls:Calls prog 137 #[wv a,wv b] w (Ret w (wv ((a+b) % M256))):=by
 refine enter (args:=[_,_]) _ [] [] func137 rfl ntmps137 rfl (by simp) .nil ?_
 (refine goZ ?_;intro _ _ _;refine cEw (c:=by exact Add_calls a b ha hb) (k:=?_);refine cEw (c:=by exact first1_calls _ _) (k:=?_))
 (refine fiz ?_)
 rfl
theorem half2_calls:Calls prog 139 #[wv a,wv b] w (Ret w (wv ((a+M256 - b) % M256))):=by
 refine enter (args:=[_,_]) _ [] [] func139 rfl ntmps139 rfl (by simp) .nil ?_
 (refine goZ ?_;intro _ _ _;refine cEw (c:=by exact Sub_calls a b ha hb) (k:=?_);refine cEw (c:=by exact first1_calls _ _) (k:=?_))
 (refine fiz ?_)
 rfl
theorem half3_calls:Calls prog 140 #[wv a,wv b] w (Ret w (wv (a * b % M256))):=by
 refine enter (args:=[_,_]) _ [] [] func140 rfl ntmps140 rfl (by simp) .nil ?_
 (refine goZ ?_;intro _ _ _;refine cEw (c:=by exact Mul_calls a b ha hb) (k:=?_);refine cEw (c:=by exact first1_calls _ _) (k:=?_))
 (refine fiz ?_)
 rfl
theorem half4_calls:Calls prog 141 #[wv a,wv b] w (Ret w (wv (if b=0 then 0 else a / b))):=by
 have hD:∀ w,Calls prog 20 #[wv a,wv b] w (Ret w (.tuple #[wv (if b=0 then 0 else a / b),wv (if b=0 then 0 else a % b)])):=fun w=>by
  exact dTBNNN
 refine enter (args:=[_,_]) _ [] [] func141 rfl ntmps141 rfl (by simp) .nil ?_
 (refine goZ ?_;intro _ _ _;refine cEv hD ?_;refine cEw (c:=by exact first2_calls _ _) (k:=?_))
 (refine fiz ?_)
 rfl
theorem half5_calls:Calls prog 143 #[wv a,wv b] w (Ret w (wv (if b=0 then 0 else a % b))):=by
 have hD:∀ w,Calls prog 20 #[wv a,wv b] w (Ret w (.tuple #[wv (if b=0 then 0 else a / b),wv (if b=0 then 0 else a % b)])):=fun w=>by
  exact dTBNNN
 refine enter (args:=[_,_]) _ [] [] func143 rfl ntmps143 rfl (by simp) .nil ?_
 (refine goZ ?_;intro _ _ _;refine cEv hD ?_;intro _ _)
 (refine fiz ?_)
 rfl
theorem half6_calls:Calls prog 144 #[wv a,wv b] w (Ret w (wv (b * 2 ^ min a 256 % M256))):=by
 refine enter (args:=[_,_]) _ [] [] func144 rfl ntmps144 rfl (by simp) .nil ?_
 (refine goZ ?_;intro _ _ _;refine cEw (c:=by exact Shl_calls b a hb ha) (k:=?_))
 (refine fiz ?_)
 rfl
theorem half7_calls:Calls prog 145 #[wv a,wv b] w (Ret w (wv (b / 2 ^ min a 256))):=by
 refine enter (args:=[_,_]) _ [] [] func145 rfl ntmps145 rfl (by simp) .nil ?_
 (refine goZ ?_;intro _ _ _;refine cEw (c:=by exact Shr_calls b a hb ha) (k:=?_))
 (refine fiz ?_)
 rfl
theorem half8_calls:Calls prog 146 #[wv a,wv b] w (Ret w (wv (if a < b then 1 else 0))):=by
 refine enter (args:=[_,_]) _ [] [] func146 rfl ntmps146 rfl (by simp) .nil ?_
 (refine goZ ?_;intro _ _ _;refine cEw (c:=by exact Cmp_calls a b ha hb) (k:=?_);refine lvz (.lss rfl rfl) ?_;refine cEw (c:=by exact truth_calls _) (k:=?_))
 (refine fiz ?_)
 refine congrArg wv ?_
 by_cases h1:a < b<;>by_cases h2:b < a<;>simp [h1,h2]
theorem half9_calls:Calls prog 148 #[wv a,wv b] w (Ret w (wv (if b < a then 1 else 0))):=by
 refine enter (args:=[_,_]) _ [] [] func148 rfl ntmps148 rfl (by simp) .nil ?_
 (refine goZ ?_;intro _ _ _;refine cEw (c:=by exact Cmp_calls a b ha hb) (k:=?_);refine lvz (.gtr rfl rfl) ?_;refine cEw (c:=by exact truth_calls _) (k:=?_))
 (refine fiz ?_)
 refine congrArg wv ?_
 by_cases h1:a < b<;>by_cases h2:b < a<;>simp [h1,h2]<;>omega
theorem half10_calls:Calls prog 149 #[wv a,wv b] w (Ret w (wv (if a=b then 1 else 0))):=by
 refine enter (args:=[_,_]) _ [] [] func149 rfl ntmps149 rfl (by simp) .nil ?_
 (refine goZ ?_;intro _ _ _;refine lvz (.eqW rfl rfl (by assumption) (by assumption)) ?_;refine cEw (c:=by exact truth_calls _) (k:=?_))
 (refine fiz ?_)
 refine congrArg wv ?_
 by_cases h1:a=b<;>simp [h1]
theorem halfs_calls {op i:Nat} {fid:FuncId} (h:halvesF op=some (i,fid)):FnI prog fid∧∀ w,Calls prog fid #[wv a,wv b] w (Ret w (wv (halfV op a b))):=by
 unfold halvesF at h
 unfold halfV
 by_cases h1:op=1
 ·rw [if_pos h1] at h;rw [if_pos h1]
  obtain ⟨-,rfl⟩:=Prod.mk.inj (jZ h)
  exact ⟨inferInstance,fun w=>half1_calls a b ha hb w⟩
 rw [if_neg h1] at h
 rw [if_neg h1]
 by_cases h3:op=3
 ·rw [if_pos h3] at h;rw [if_pos h3]
  obtain ⟨-,rfl⟩:=Prod.mk.inj (jZ h)
  exact ⟨inferInstance,fun w=>half2_calls a b ha hb w⟩
 rw [if_neg h3] at h
 rw [if_neg h3]
 by_cases h2:op=2
 ·rw [if_pos h2] at h;rw [if_pos h2]
  obtain ⟨-,rfl⟩:=Prod.mk.inj (jZ h)
  exact ⟨inferInstance,fun w=>half3_calls a b ha hb w⟩
 rw [if_neg h2] at h
 rw [if_neg h2]
 by_cases h4:op=4
 ·rw [if_pos h4] at h;rw [if_pos h4]
  obtain ⟨-,rfl⟩:=Prod.mk.inj (jZ h)
  exact ⟨inferInstance,fun w=>half4_calls a b ha hb w⟩
 rw [if_neg h4] at h
 rw [if_neg h4]
 by_cases h6:op=6
 ·rw [if_pos h6] at h;rw [if_pos h6]
  obtain ⟨-,rfl⟩:=Prod.mk.inj (jZ h)
  exact ⟨inferInstance,fun w=>half5_calls a b ha hb w⟩
 rw [if_neg h6] at h
 rw [if_neg h6]
 by_cases h22:op=22
 ·rw [if_pos h22] at h;rw [if_pos h22]
  obtain ⟨-,rfl⟩:=Prod.mk.inj (jZ h)
  exact ⟨inferInstance,fun w=>And_calls a b w⟩
 rw [if_neg h22] at h
 rw [if_neg h22]
 by_cases h23:op=23
 ·rw [if_pos h23] at h;rw [if_pos h23]
  obtain ⟨-,rfl⟩:=Prod.mk.inj (jZ h)
  exact ⟨inferInstance,fun w=>Or_calls a b w⟩
 rw [if_neg h23] at h
 rw [if_neg h23]
 by_cases h24:op=24
 ·rw [if_pos h24] at h;rw [if_pos h24]
  obtain ⟨-,rfl⟩:=Prod.mk.inj (jZ h)
  exact ⟨inferInstance,fun w=>Xor_calls a b w⟩
 rw [if_neg h24] at h
 rw [if_neg h24]
 by_cases h27:op=27
 ·rw [if_pos h27] at h;rw [if_pos h27]
  obtain ⟨-,rfl⟩:=Prod.mk.inj (jZ h)
  exact ⟨inferInstance,fun w=>half6_calls a b ha hb w⟩
 rw [if_neg h27] at h
 rw [if_neg h27]
 by_cases h28:op=28
 ·rw [if_pos h28] at h;rw [if_pos h28]
  obtain ⟨-,rfl⟩:=Prod.mk.inj (jZ h)
  exact ⟨inferInstance,fun w=>half7_calls a b ha hb w⟩
 rw [if_neg h28] at h
 rw [if_neg h28]
 by_cases h16:op=16
 ·rw [if_pos h16] at h;rw [if_pos h16]
  obtain ⟨-,rfl⟩:=Prod.mk.inj (jZ h)
  exact ⟨inferInstance,fun w=>half8_calls a b ha hb w⟩
 rw [if_neg h16] at h
 rw [if_neg h16]
 by_cases h17:op=17
 ·rw [if_pos h17] at h;rw [if_pos h17]
  obtain ⟨-,rfl⟩:=Prod.mk.inj (jZ h)
  exact ⟨inferInstance,fun w=>half9_calls a b ha hb w⟩
 rw [if_neg h17] at h
 rw [if_neg h17]
 by_cases h20:op=20
 ·rw [if_pos h20] at h
  obtain ⟨-,rfl⟩:=Prod.mk.inj (jZ h)
  exact ⟨inferInstance,fun w=>half10_calls a b ha hb w⟩
 rw [if_neg h20] at h
 cases h
end
theorem halfV_lt (op a b:Nat) (ha:a < M256) (hb:b < M256):halfV op a b < M256:=by
 have h0:0 < M256:=by decide
 have hM1:1 < M256:=by decide
 have hM:M256=2 ^ 256:=by decide
 unfold halfV
 by_cases h1:op=1
 ·rw [if_pos h1]
  exact yS _ h0
 rw [if_neg h1]
 by_cases h3:op=3
 ·rw [if_pos h3]
  exact yS _ h0
 rw [if_neg h3]
 by_cases h2:op=2
 ·rw [if_pos h2]
  exact yS _ h0
 rw [if_neg h2]
 by_cases h4:op=4
 ·rw [if_pos h4]
  by_cases hb0:b=0<;>simp only [hb0,if_true,if_false]
  ·exact h0
  ·exact yR (Nat.div_le_self _ _) ha
 rw [if_neg h4]
 by_cases h6:op=6
 ·rw [if_pos h6]
  by_cases hb0:b=0<;>simp only [hb0,if_true,if_false]
  ·exact h0
  ·exact yR (Nat.mod_le _ _) ha
 rw [if_neg h6]
 by_cases h22:op=22
 ·rw [if_pos h22]
  exact yR Nat.and_le_left ha
 rw [if_neg h22]
 by_cases h23:op=23
 ·rw [if_pos h23]
  rw [hM] at ha hb ⊢;exact Nat.or_lt_two_pow ha hb
 rw [if_neg h23]
 by_cases h24:op=24
 ·rw [if_pos h24]
  rw [hM] at ha hb ⊢;exact Nat.xor_lt_two_pow ha hb
 rw [if_neg h24]
 by_cases h27:op=27
 ·rw [if_pos h27]
  exact yS _ h0
 rw [if_neg h27]
 by_cases h28:op=28
 ·rw [if_pos h28]
  exact yR (Nat.div_le_self _ _) hb
 rw [if_neg h28]
 by_cases h16:op=16
 ·rw [if_pos h16]
  by_cases c:a < b
  ·rw [if_pos c];exact hM1
  ·rw [if_neg c];exact h0
 rw [if_neg h16]
 by_cases h17:op=17
 ·rw [if_pos h17]
  by_cases c:b < a
  ·rw [if_pos c];exact hM1
  ·rw [if_neg c];exact h0
 rw [if_neg h17]
 by_cases c:a=b
 ·rw [if_pos c];exact hM1
 ·rw [if_neg c];exact h0
end
def bcs (l:List Nat):List Value:=l.flatMap fun (x:Nat)=>[Value.int .u8 (x:Int)]
theorem bcs_one (l:List Nat):∀ x∈l,([Value.int .u8 (x:Int)]:List Value).length=1:=fun _ _=>rfl
theorem in_calls (b:Nat) (l:List Nat) (v:Value) (w:World) (hv:RowAt w 1 v l.length (bcs l)):Calls prog 106 #[.int .u8 (b:Int),v] w (Ret w (.bool (decide (b∈l)))):=by
 obtain ⟨p,c,rfl,hc,hm⟩:=hv.form
 simp only [maxLen] at hm
 refine enter (args:=[_,_]) _ [] [] func106 rfl ntmps106 rfl (by simp) .nil ?_
 (refine goZ ?_)
 refine qM (fun m:Nat=>([(9,.int .i64 (m:Int)),(8,.int .i64 (l.length:Int)),(7,.slice p l.length c),(0,.int .u8 (b:Int))],[]))
  (fun m=>m≤l.length∧b ∉ l.take m) (fun m=>l.length - m) 0 ⟨Nat.zero_le _,by simp⟩ ⟨rfl,rfl,rfl,rfl,trivial⟩ (jG _) ?_
 rintro m ⟨hml,hnb⟩
 dsimp only
 rcases jM m l.length with hlt|hge
 ·obtain ⟨bb,off,c',cs,E,fr,heq,hb,hx⟩:=hv.pos (by omega)
  cases heq
  obtain ⟨n,hn⟩:∃ n,n=l[m]:=⟨_,rfl⟩
  have hrd:Rd prog 5 (.cells cs E fr) (off+m * 1) (.int .u8 (n:Int)):=Rd.elem1 hx (bcs_one l) (by rw [hn];exact jO hlt) rfl
  by_cases he:n=b
  ·rw [vE (show b∈l by rw [← he,hn];exact List.getElem_mem hlt)]
   subst he
   clear hn
   exact dTBJyT
  ·have hnext:b ∉ l.take (m+1):=by
    rw [List.take_succ_eq_append_getElem hlt,← hn]
    simp only [List.mem_append,List.mem_singleton,not_or]
    exact ⟨hnb,fun h=>he h.symm⟩
   clear hn
   (refine goZ ?_)
   apply thenX
   exact ⟨rfl,m+1,⟨hlt,hnext⟩,by omega,⟨rfl,rfl,rfl,rfl,trivial⟩,List.nil_sublist _⟩
 ·obtain rfl:m=l.length:=by omega
  rw [List.take_length] at hnb
  rw [vA hnb]
  exact dTBJyT
def inA:List Nat:=[0,243,253,254,49,84,85,241,244,245,250]
def inB:List Nat:=[48,50,51,52,54,61,66,67,72,80,90]
def inC:List Nat:=[1,3,16,17,20,21,22,23,24,25,27,28,53,55,62,81,82,83]
def inD:List Nat:=[2,4,6,71]
def inE:List Nat:=[87,92,93]
def refB (b:Nat):Nat × Bool:=if 96≤b∧b≤159 then (3,true) else if b∈inA then (0,true) else if b=91 then (1,true) else if b∈inB then (2,true) else if b∈inC then (3,true) else if b∈inD then (5,true) else if b=86 then (8,true) else if b∈inE then (10,true) else if b=32 then (30,true) else (0,false)
theorem rBase_calls (b:Nat) (hb:b < 256) (w:World):Calls prog 51 #[.int .u8 (b:Int)] w (Ret w (.tuple #[.int .u64 ((refB b).1:Int),.bool (refB b).2])):=by
 have hA0:∀ w v,RowAt w 1 v 11 (bcs inA)→Calls prog 106 #[.int .u8 (b:Int),v] w (Ret w (.bool (decide (b∈inA)))):=fun w v hv=>in_calls b inA v w hv
 have hB0:∀ w v,RowAt w 1 v 11 (bcs inB)→Calls prog 106 #[.int .u8 (b:Int),v] w (Ret w (.bool (decide (b∈inB)))):=fun w v hv=>in_calls b inB v w hv
 have hC0:∀ w v,RowAt w 1 v 18 (bcs inC)→Calls prog 106 #[.int .u8 (b:Int),v] w (Ret w (.bool (decide (b∈inC)))):=fun w v hv=>in_calls b inC v w hv
 have hD0:∀ w v,RowAt w 1 v 4 (bcs inD)→Calls prog 106 #[.int .u8 (b:Int),v] w (Ret w (.bool (decide (b∈inD)))):=fun w v hv=>in_calls b inD v w hv
 have hE0:∀ w v,RowAt w 1 v 3 (bcs inE)→Calls prog 106 #[.int .u8 (b:Int),v] w (Ret w (.bool (decide (b∈inE)))):=fun w v hv=>in_calls b inE v w hv
 refine enter (args:=[_]) _ [] [] func51 rfl ntmps51 rfl (by simp) .nil ?_
 unfold refB
 rcases jM 159 b with hhi|hhi
 ·rw [if_neg (by omega)]
  have e91:b ≠ 91:=by omega
  have e86:b ≠ 86:=by omega
  have e32:b ≠ 32:=by omega
  by_cases ha:b∈inA
  ·skip
   rw [vE ha] at hA0
   have hA:=hA0
   rw [if_pos ha]
   (refine goZ ?_)
   refine bSz [0,243,253,254,49,84,85,241,244,245,250] ?_
   intro g
   (refine cEz (c:=fun w hst=>by exact hA w _ (row_cells ((hst.own (g,_) memZ).2) rfl rfl (by decide))) (k:=?_))
   (refine fiz ?_)
   rfl
  ·skip
   rw [vA ha] at hA0
   have hA:=hA0
   rw [if_neg ha]
   rw [if_neg e91]
   have hb:b ∉ inB:=by intro h;simp only [inB,List.mem_cons,List.not_mem_nil,or_false] at h;omega
   rw [vA hb] at hB0
   have hB:=hB0
   rw [if_neg hb]
   have hc:b ∉ inC:=by intro h;simp only [inC,List.mem_cons,List.not_mem_nil,or_false] at h;omega
   rw [vA hc] at hC0
   have hC:=hC0
   rw [if_neg hc]
   have hd:b ∉ inD:=by intro h;simp only [inD,List.mem_cons,List.not_mem_nil,or_false] at h;omega
   rw [vA hd] at hD0
   have hD:=hD0
   rw [if_neg hd]
   rw [if_neg e86]
   have he:b ∉ inE:=by intro h;simp only [inE,List.mem_cons,List.not_mem_nil,or_false] at h;omega
   rw [vA he] at hE0
   have hE:=hE0
   rw [if_neg he]
   rw [if_neg e32]
   (refine goZ ?_)
   refine bSz [0,243,253,254,49,84,85,241,244,245,250] ?_
   intro g
   (refine cEz (c:=fun w hst=>by exact hA w _ (row_cells ((hst.own (g,_) memZ).2) rfl rfl (by decide))) (k:=?_))
   refine bSz [48,50,51,52,54,61,66,67,72,80,90] ?_
   intro g
   (refine cEz (c:=fun w hst=>by exact hB w _ (row_cells ((hst.own (g,_) memZ).2) rfl rfl (by decide))) (k:=?_))
   refine bSz [1,3,16,17,20,21,22,23,24,25,27,28,53,55,62,81,82,83] ?_
   intro g
   (refine cEz (c:=fun w hst=>by exact hC w _ (row_cells ((hst.own (g,_) memZ).2) rfl rfl (by decide))) (k:=?_))
   refine bSz [2,4,6,71] ?_
   intro g
   (refine cEz (c:=fun w hst=>by exact hD w _ (row_cells ((hst.own (g,_) memZ).2) rfl rfl (by decide))) (k:=?_))
   refine bSz [87,92,93] ?_
   intro g
   (refine cEz (c:=fun w hst=>by exact hE w _ (row_cells ((hst.own (g,_) memZ).2) rfl rfl (by decide))) (k:=?_))
   (refine fiz ?_)
   rfl
 ·rcases jM b 96 with hlo|hlo
  ·rw [if_neg (by omega)]
   by_cases ha:b∈inA
   ·skip
    rw [vE ha] at hA0
    have hA:=hA0
    rw [if_pos ha]
    (refine goZ ?_)
    refine bSz [0,243,253,254,49,84,85,241,244,245,250] ?_
    intro g
    (refine cEz (c:=fun w hst=>by exact hA w _ (row_cells ((hst.own (g,_) memZ).2) rfl rfl (by decide))) (k:=?_))
    (refine fiz ?_)
    rfl
   ·skip
    rw [vA ha] at hA0
    have hA:=hA0
    rw [if_neg ha]
    by_cases e91:b=91
    ·rw [if_pos e91]
     (refine goZ ?_)
     refine bSz [0,243,253,254,49,84,85,241,244,245,250] ?_
     intro g
     (refine cEz (c:=fun w hst=>by exact hA w _ (row_cells ((hst.own (g,_) memZ).2) rfl rfl (by decide))) (k:=?_))
     (refine fiz ?_)
     rfl
    ·rw [if_neg e91]
     by_cases hb:b∈inB
     ·skip
      rw [vE hb] at hB0
      have hB:=hB0
      rw [if_pos hb]
      (refine goZ ?_)
      refine bSz [0,243,253,254,49,84,85,241,244,245,250] ?_
      intro g
      (refine cEz (c:=fun w hst=>by exact hA w _ (row_cells ((hst.own (g,_) memZ).2) rfl rfl (by decide))) (k:=?_))
      refine bSz [48,50,51,52,54,61,66,67,72,80,90] ?_
      intro g
      (refine cEz (c:=fun w hst=>by exact hB w _ (row_cells ((hst.own (g,_) memZ).2) rfl rfl (by decide))) (k:=?_))
      (refine fiz ?_)
      rfl
     ·skip
      rw [vA hb] at hB0
      have hB:=hB0
      rw [if_neg hb]
      by_cases hc:b∈inC
      ·skip
       rw [vE hc] at hC0
       have hC:=hC0
       rw [if_pos hc]
       (refine goZ ?_)
       refine bSz [0,243,253,254,49,84,85,241,244,245,250] ?_
       intro g
       (refine cEz (c:=fun w hst=>by exact hA w _ (row_cells ((hst.own (g,_) memZ).2) rfl rfl (by decide))) (k:=?_))
       refine bSz [48,50,51,52,54,61,66,67,72,80,90] ?_
       intro g
       (refine cEz (c:=fun w hst=>by exact hB w _ (row_cells ((hst.own (g,_) memZ).2) rfl rfl (by decide))) (k:=?_))
       refine bSz [1,3,16,17,20,21,22,23,24,25,27,28,53,55,62,81,82,83] ?_
       intro g
       (refine cEz (c:=fun w hst=>by exact hC w _ (row_cells ((hst.own (g,_) memZ).2) rfl rfl (by decide))) (k:=?_))
       (refine fiz ?_)
       rfl
      ·skip
       rw [vA hc] at hC0
       have hC:=hC0
       rw [if_neg hc]
       by_cases hd:b∈inD
       ·skip
        rw [vE hd] at hD0
        have hD:=hD0
        rw [if_pos hd]
        (refine goZ ?_)
        refine bSz [0,243,253,254,49,84,85,241,244,245,250] ?_
        intro g
        (refine cEz (c:=fun w hst=>by exact hA w _ (row_cells ((hst.own (g,_) memZ).2) rfl rfl (by decide))) (k:=?_))
        refine bSz [48,50,51,52,54,61,66,67,72,80,90] ?_
        intro g
        (refine cEz (c:=fun w hst=>by exact hB w _ (row_cells ((hst.own (g,_) memZ).2) rfl rfl (by decide))) (k:=?_))
        refine bSz [1,3,16,17,20,21,22,23,24,25,27,28,53,55,62,81,82,83] ?_
        intro g
        (refine cEz (c:=fun w hst=>by exact hC w _ (row_cells ((hst.own (g,_) memZ).2) rfl rfl (by decide))) (k:=?_))
        refine bSz [2,4,6,71] ?_
        intro g
        (refine cEz (c:=fun w hst=>by exact hD w _ (row_cells ((hst.own (g,_) memZ).2) rfl rfl (by decide))) (k:=?_))
        (refine fiz ?_)
        rfl
       ·skip
        rw [vA hd] at hD0
        have hD:=hD0
        rw [if_neg hd]
        by_cases e86:b=86
        ·rw [if_pos e86]
         (refine goZ ?_)
         refine bSz [0,243,253,254,49,84,85,241,244,245,250] ?_
         intro g
         (refine cEz (c:=fun w hst=>by exact hA w _ (row_cells ((hst.own (g,_) memZ).2) rfl rfl (by decide))) (k:=?_))
         refine bSz [48,50,51,52,54,61,66,67,72,80,90] ?_
         intro g
         (refine cEz (c:=fun w hst=>by exact hB w _ (row_cells ((hst.own (g,_) memZ).2) rfl rfl (by decide))) (k:=?_))
         refine bSz [1,3,16,17,20,21,22,23,24,25,27,28,53,55,62,81,82,83] ?_
         intro g
         (refine cEz (c:=fun w hst=>by exact hC w _ (row_cells ((hst.own (g,_) memZ).2) rfl rfl (by decide))) (k:=?_))
         refine bSz [2,4,6,71] ?_
         intro g
         (refine cEz (c:=fun w hst=>by exact hD w _ (row_cells ((hst.own (g,_) memZ).2) rfl rfl (by decide))) (k:=?_))
         (refine fiz ?_)
         rfl
        ·rw [if_neg e86]
         by_cases he:b∈inE
         ·skip
          rw [vE he] at hE0
          have hE:=hE0
          rw [if_pos he]
          (refine goZ ?_)
          refine bSz [0,243,253,254,49,84,85,241,244,245,250] ?_
          intro g
          (refine cEz (c:=fun w hst=>by exact hA w _ (row_cells ((hst.own (g,_) memZ).2) rfl rfl (by decide))) (k:=?_))
          refine bSz [48,50,51,52,54,61,66,67,72,80,90] ?_
          intro g
          (refine cEz (c:=fun w hst=>by exact hB w _ (row_cells ((hst.own (g,_) memZ).2) rfl rfl (by decide))) (k:=?_))
          refine bSz [1,3,16,17,20,21,22,23,24,25,27,28,53,55,62,81,82,83] ?_
          intro g
          (refine cEz (c:=fun w hst=>by exact hC w _ (row_cells ((hst.own (g,_) memZ).2) rfl rfl (by decide))) (k:=?_))
          refine bSz [2,4,6,71] ?_
          intro g
          (refine cEz (c:=fun w hst=>by exact hD w _ (row_cells ((hst.own (g,_) memZ).2) rfl rfl (by decide))) (k:=?_))
          refine bSz [87,92,93] ?_
          intro g
          (refine cEz (c:=fun w hst=>by exact hE w _ (row_cells ((hst.own (g,_) memZ).2) rfl rfl (by decide))) (k:=?_))
          (refine fiz ?_)
          rfl
         ·skip
          rw [vA he] at hE0
          have hE:=hE0
          rw [if_neg he]
          by_cases e32:b=32
          ·rw [if_pos e32]
           (refine goZ ?_)
           refine bSz [0,243,253,254,49,84,85,241,244,245,250] ?_
           intro g
           (refine cEz (c:=fun w hst=>by exact hA w _ (row_cells ((hst.own (g,_) memZ).2) rfl rfl (by decide))) (k:=?_))
           refine bSz [48,50,51,52,54,61,66,67,72,80,90] ?_
           intro g
           (refine cEz (c:=fun w hst=>by exact hB w _ (row_cells ((hst.own (g,_) memZ).2) rfl rfl (by decide))) (k:=?_))
           refine bSz [1,3,16,17,20,21,22,23,24,25,27,28,53,55,62,81,82,83] ?_
           intro g
           (refine cEz (c:=fun w hst=>by exact hC w _ (row_cells ((hst.own (g,_) memZ).2) rfl rfl (by decide))) (k:=?_))
           refine bSz [2,4,6,71] ?_
           intro g
           (refine cEz (c:=fun w hst=>by exact hD w _ (row_cells ((hst.own (g,_) memZ).2) rfl rfl (by decide))) (k:=?_))
           refine bSz [87,92,93] ?_
           intro g
           (refine cEz (c:=fun w hst=>by exact hE w _ (row_cells ((hst.own (g,_) memZ).2) rfl rfl (by decide))) (k:=?_))
           (refine fiz ?_)
           rfl
          ·rw [if_neg e32]
           (refine goZ ?_)
           refine bSz [0,243,253,254,49,84,85,241,244,245,250] ?_
           intro g
           (refine cEz (c:=fun w hst=>by exact hA w _ (row_cells ((hst.own (g,_) memZ).2) rfl rfl (by decide))) (k:=?_))
           refine bSz [48,50,51,52,54,61,66,67,72,80,90] ?_
           intro g
           (refine cEz (c:=fun w hst=>by exact hB w _ (row_cells ((hst.own (g,_) memZ).2) rfl rfl (by decide))) (k:=?_))
           refine bSz [1,3,16,17,20,21,22,23,24,25,27,28,53,55,62,81,82,83] ?_
           intro g
           (refine cEz (c:=fun w hst=>by exact hC w _ (row_cells ((hst.own (g,_) memZ).2) rfl rfl (by decide))) (k:=?_))
           refine bSz [2,4,6,71] ?_
           intro g
           (refine cEz (c:=fun w hst=>by exact hD w _ (row_cells ((hst.own (g,_) memZ).2) rfl rfl (by decide))) (k:=?_))
           refine bSz [87,92,93] ?_
           intro g
           (refine cEz (c:=fun w hst=>by exact hE w _ (row_cells ((hst.own (g,_) memZ).2) rfl rfl (by decide))) (k:=?_))
           (refine fiz ?_)
           rfl
  ·rw [if_pos ⟨hlo,hhi⟩]
   (refine goZ ?_)
   (refine fiz ?_)
   rfl
end Go.Proofs.YtdeggbkbblfpoaaGreatDoor
namespace Go.Proofs.YtdeggbkbblfpoaaGreatDoor.UK
open Go Go.RowKit SL

end Go.Proofs.YtdeggbkbblfpoaaGreatDoor.UK
namespace Go.Proofs.YtdeggbkbblfpoaaGreatDoor.UK
open Go Go.RowKit SL
set_option maxRecDepth 8000
set_option maxHeartbeats 4000000
set_option linter.unusedSimpArgs false
set_option linter.unusedVariables false
attribute [local irreducible] SL.CW SL.LW SL.DW Calls SL.Ret SL.RetG SL.beginQ SL.roundQ SL.rangeQ SL.inQ SL.RW SL.AnyW SL.thenQ SL.thenC SL.thenW SL.blkQ SL.finQ SL.ValP SL.NewP SL.SetP SL.CallP SL.Rd SL.Wr SL.Known
section
structure PartV where
 lg:Bool
 wd:Nat
 dv:Value
 db:List UInt8
section rd
variable {P : Program} {T E : TypeId} {fr : Nat × Nat} {p : PartV}
end rd
end




section
section lw
variable {w0 : World} {S : List Nat} {N : Nat} {ds : List Deferred} {r : Option Nat} {ops : Array Oper} {Q : Post} {rest : List Oper} {e : Env} {fs : Fs} {d : Nat} {t : TypeId} {pos : String} {af : Array Edge}
end lw
end







end Go.Proofs.YtdeggbkbblfpoaaGreatDoor.UK
namespace Go.Proofs.YtdeggbkbblfpoaaGreatDoor.UK
open Go Go.RowKit SL

end Go.Proofs.YtdeggbkbblfpoaaGreatDoor.UK
namespace Go.Proofs.YtdeggbkbblfpoaaGreatDoor.UK
open Go Go.RowKit SL
set_option maxRecDepth 8000
set_option maxHeartbeats 4000000
set_option linter.unusedSimpArgs false
set_option linter.unusedVariables false
attribute [local irreducible] SL.CW SL.LW SL.DW Calls SL.Ret SL.RetG SL.beginQ SL.roundQ SL.rangeQ SL.inQ SL.RW SL.AnyW SL.thenQ SL.thenC SL.thenW SL.blkQ SL.finQ SL.ValP SL.NewP SL.SetP SL.CallP SL.Rd SL.Wr SL.Known
section
structure OpV where
 sd:Nat
 no:Nat
 iv:Value
 ib:List UInt8
 cv:Value
 cb:List UInt8
 vg:Nat
 cg:Nat
 pg:Nat
 mf:Nat
 mp:Nat
 py:Nat
 pv:Nat
 pp:Nat
 dv:Value
 db:List UInt8
 gv:Value
 gb:List UInt8
section rd
variable {P : Program} {T E : TypeId} {fr : Nat × Nat} {u : OpV}
end rd
theorem bev_shift (l:List UInt8) (m:Nat) (h:m < l.length):bev (l.take m) * 256 |||l[m].toNat=bev (l.take (m+1)):=by
 have hu:=l[m].toNat_lt
 rw [or_low (R:=256) (r:=8) rfl ⟨bev (l.take m),yZ _ _⟩ hu,List.take_succ_eq_append_getElem h,bev_snoc,yZ]
theorem bev8 {l:List UInt8} {m:Nat} (h:m≤8):bev (l.take m) < 2 ^ (8 * m):=by
 refine Nat.lt_of_lt_of_le (bev_lt _) (yU (by decide) ?_)
 rw [yH];omega
def adr (l:List UInt8):Nat:=bev (l.take 8)
end

theorem rARead_calls (l:List UInt8) (v:Value) (w:World) (hv:RowAt w 1 v l.length (ucs l)) (hl:8≤l.length):Calls prog 214 #[v] w (Ret w (.int .u64 (adr l:Int))):=by
 obtain ⟨p,c,rfl,hc,hm⟩:=hv.form
 simp only [maxLen] at hm
 refine enter (args:=[_]) _ [] [] func214 rfl ntmps214 rfl (by simp) .nil ?_
 (refine goZ ?_)
 refine qM (fun m:Nat=>([(4,.int .i64 (m:Int)),(3,.int .u64 (bev (l.take m):Int)),(0,.slice p l.length c)],[])) (fun m=>m≤8) (fun m=>8 - m) 0 (yT _) ⟨rfl,rfl,rfl,trivial⟩ (List.nil_sublist _) ?_
 rintro m hm
 dsimp only at hm ⊢
 rcases jM m 8 with hlt|hge
 ·obtain ⟨b,off,c',cs,E,fr,heq,hb,hx⟩:=hv.pos (by omega)
  cases heq
  have hml:m < l.length:=by omega
  obtain ⟨u,hu⟩:∃ u,u=l[m]:=⟨_,rfl⟩
  have hu8:=u.toNat_lt
  have hrd:Rd prog 5 (.cells cs E fr) (off+m * 1) (.int .u8 (u.toNat:Int)):=Rd.elem1 hx (ucs_one l) (by rw [hu];exact jO hml) rfl
  have hb8:=bev8 (l:=l) (m:=m) (by omega)
  have hb7:bev (l.take m) < 72057594037927936:=Nat.lt_of_lt_of_le hb8 (show 2 ^ (8 * m)≤2 ^ 56 from yU (by decide) (by omega))
  have hsh:=bev_shift l m hml
  rw [← hu] at hsh
  obtain ⟨x,hx1⟩:∃ x,bev (l.take m)=x:=⟨_,rfl⟩
  rw [hx1] at hsh hb7 ⊢
  have e:x * 2 ^ 8 % 18446744073709551616=x * 256:=jY (by omega)
  (refine goZ ?_;refine lvz (.shlUL rfl rfl (by decide) (by omega)) ?_;refine goZ ?_;refine lvz (.orU rfl rfl (by omega) (by omega)) ?_;refine goZ ?_)
  rw [e,hsh]
  apply thenX
  exact ⟨rfl,m+1,hlt,by omega,⟨rfl,rfl,rfl,trivial⟩,List.nil_sublist _⟩
 ·obtain rfl:m=8:=by omega
  (refine goZ ?_)
  (refine fiz ?_)
  rfl
end Go.Proofs.YtdeggbkbblfpoaaGreatDoor.UK
namespace Go.Proofs.YtdeggbkbblfpoaaGreatDoor
open Go Go.RowKit SL
set_option maxRecDepth 8000
set_option maxHeartbeats 4000000
set_option linter.unusedSimpArgs false
set_option linter.unusedVariables false
attribute [local irreducible] SL.CW SL.LW SL.DW Calls SL.Ret SL.RetG SL.beginQ SL.roundQ SL.rangeQ SL.inQ SL.RW SL.AnyW SL.thenQ SL.thenC SL.thenW SL.blkQ SL.finQ SL.ValP SL.NewP SL.SetP SL.CallP SL.Rd SL.Wr SL.Known
section
structure FrV where
 code:Value
 pc:Int
 stk:Value
 mem:Value
 gas:Nat
 self:Nat
 frm:Nat
 val:Nat
 inp:Value
 back:Value
 stat:Bool
def frc (f:FrV):List Value:=f.code::.int .i64 f.pc::f.stk::f.mem::.int .u64 (f.gas:Int)::.int .u64 (f.self:Int)::.int .u64 (f.frm:Int)::((wc f.val).toList++[f.inp,f.back,.bool f.stat])
structure MaV where
 fr:FrV
 e0:Nat
 e1:Nat
 e2:Nat
 e3:Nat
 took:Value
 kind:Int
 op:Nat
 words:Value
 data:Value
def mcl (m:MaV):List Value:=frc m.fr++[.int .u64 (m.e0:Int),.int .u64 (m.e1:Int),.int .u64 (m.e2:Int),.int .u64 (m.e3:Int),m.took,.int .i64 m.kind,.int .u8 (m.op:Int),m.words,m.data]
def mca (m:MaV):Array Value:=(mcl m).toArray
abbrev maO (m:MaV):Obj:=.cells (mca m) 78 (0,0)
def MaV.setGas (m:MaV) (g:Nat):MaV:={ m with fr:={ m.fr with gas:=g } }
def MaV.setSc (m:MaV) (s k:Value):MaV:={ m with fr:={ m.fr with stk:=s,mem:=k } }
section rd
variable {P : Program} {T E : TypeId} {fr : Nat × Nat} {m : MaV}
theorem ma_rd3 [AgI P T false]:Rd P T (.cells (mca m) E fr) 3 m.fr.mem:=Rd.one rfl
theorem ma_rd2 [AgI P T true] {z:Value} [InfoI P T 2 z]:Rd P T (.cells (mca m) E fr) 2 (.agg #[m.fr.stk,m.fr.mem]):=Rd.mid (cs:=[m.fr.stk,m.fr.mem]) rfl rfl
theorem ma_wr4 {z:Value} {g:Nat} [InfoI P T 1 z]:Wr P T (.cells (mca m) E (0,0)) 4 (.int .u64 (g:Int)) (.cells (mca (m.setGas g)) E (0,0)):=qU (n:=1) (z:=z) rfl rfl (by show 4+1≤23;omega) rfl
theorem ma_wr2 {z s k:Value} [InfoI P T 2 z] (hs:s.oneCell'=true) (hk:k.oneCell'=true) (hsc:s.cells=#[s]) (hkc:k.cells=#[k]):Wr P T (.cells (mca m) E (0,0)) 2 (.agg #[s,k]) (.cells (mca (m.setSc s k)) E (0,0)) :=
 qU (n:=2) (z:=z) rfl (by show (s.oneCell' && (k.oneCell' && true))=true;rw [hs,hk];rfl) (by show 2+2≤23;omega) rfl
end rd
attribute [local irreducible] SL.inP
def MaK (b:Nat) (m:MaV) (r:Option MaV) (rest:Fs):Out:=fun x fs'=>match r with
 |some m'=>x=.returned (.tuple #[])∧fs'=(b,maO m')::rest
 |none=>x=.panicked failC∧fs'=(b,maO m)::rest
def spendM (m:MaV) (l:List Nat):Option MaV:=if l.sum≤m.fr.gas then some (m.setGas (m.fr.gas - l.sum)) else none
theorem spend_calls (w0:World) (S:List Nat) (b:Nat) (m:MaV) (l:List Nat) (hg:m.fr.gas < 18446744073709551616) (v:Value) (rest:Fs) (w:World) (hs:St w0 S ((b,maO m)::rest) w) (hv:∀ w',St w0 S ((b,maO m)::rest) w'→RowAt w' 1 v l.length (ncs l)) :
  Calls prog 73 #[.pointer (some ⟨b,0,none⟩),v] w (fun x w'=>∃ fs',MaK b m (spendM m l) rest x fs'∧St w0 S fs' w'):=by
 by_cases hle:l.sum≤m.fr.gas
 ·have hSp:∀ w',St w0 S ((b,maO m)::rest) w'→Calls prog 118 #[.int .u64 (m.fr.gas:Int),v] w' (Ret w' (.tuple #[.int .u64 ((m.fr.gas - l.sum:Nat):Int),.bool true])):=fun w' hw=>by
   have h:=Spend_calls m.fr.gas l hg v w' (hv w' hw)
   rwa [spendV,if_pos hle] at h
  refine qX (args:=[_,_]) func73 rfl ntmps73 rfl ?_ hs
  (refine goZ ?_;refine cEz (c:=fun w _=>by exact hSp w (by assumption)) (k:=?_);refine cEv need_true ?_;apply zR;rfl;rfl;apply qA;apply ma_wr4 (z:=.int .u64 0);refine goZ ?_)
  exact inPI (.inr rfl) .nil rfl .nil rfl (by unfold spendM;rw [if_pos hle];exact ⟨rfl,rfl⟩)
 ·have hSp:∀ w',St w0 S ((b,maO m)::rest) w'→Calls prog 118 #[.int .u64 (m.fr.gas:Int),v] w' (Ret w' (.tuple #[.int .u64 0,.bool false])):=fun w' hw=>by
   have h:=Spend_calls m.fr.gas l hg v w' (hv w' hw)
   rwa [spendV,if_neg hle] at h
  refine qX (args:=[_,_]) func73 rfl ntmps73 rfl ?_ hs
  (refine goZ ?_;refine cEz (c:=fun w _=>by exact hSp w (by assumption)) (k:=?_))
  refine qP (K:=NeedK ((b,maO m)::rest)) rfl rfl vF agZ rfl (fun fs h=>by cases h.1) (fun w' hst=>need_false w0 S _ w' hst) ?_ ?_
  ·rintro v fs' ⟨h,_⟩
   cases h
  ·rintro ch fs' ⟨h,rfl⟩
   cases h
   refine thenP ?_
   exact inPP .nil (by unfold spendM;rw [if_neg hle];exact ⟨rfl,rfl⟩)
end
end Go.Proofs.YtdeggbkbblfpoaaGreatDoor
namespace Go.Proofs.YtdeggbkbblfpoaaGreatDoor.SK
open Go Go.RowKit SL
set_option maxRecDepth 8000
set_option maxHeartbeats 4000000
set_option linter.unusedSimpArgs false
set_option linter.unusedVariables false
attribute [local irreducible] SL.CW SL.LW SL.DW Calls SL.Ret SL.RetG SL.beginQ SL.roundQ SL.rangeQ SL.inQ SL.RW SL.AnyW SL.thenQ SL.thenC SL.thenW SL.blkQ SL.finQ SL.ValP SL.NewP SL.SetP SL.CallP SL.Rd SL.Wr SL.Known
def bev (l:List UInt8):Nat:=l.foldl (fun n u=>256 * n+u.toNat) 0
theorem bev_snoc (l:List UInt8) (u:UInt8):bev (l++[u])=256 * bev l+u.toNat:=by simp [bev,List.foldl_append]


theorem dTDNkX {P:Prop} (h:P:=by
 refine thenX ⟨rfl,y+1,hy5,by omega,⟨rfl,rfl,trivial⟩,?_⟩
 rw [show 5 * (y+1)=5 * y+5 by omega]
 exact jG _):P:=h
theorem at_calls (x y:Nat) (hx:x < 1000) (hy:y < 1000) (w:World):Calls prog 258 #[.int .i64 (x:Int),.int .i64 (y:Int)] w (Ret w (.int .i64 ((5 * (y % 5)+x % 5:Nat):Int))):=by
 refine enter (args:=[_,_]) _ [] [] func258 rfl ntmps258 rfl (by simp) .nil ?_
 (refine sRz<|vAz<|nSz<|vMz ?_;refine lvz (.remZL rfl rfl (by decide) (by omega)) ?_;refine lvz (.mulZK rfl rfl (by decide) (by omega)) ?_;refine vMz ?_;refine lvz (.remZL rfl rfl (by decide) (by omega)) ?_;refine lvz (.addZ rfl rfl (by omega)) ?_;refine vAz<|nNz<|zK ?_)
 (apply finR;exact .inl rfl;rfl;rfl;rfl;apply zD;exact zG rfl;exact zF)
 rfl
def rotl (x n:Nat):Nat:=(x * 2 ^ n % 18446744073709551616) |||(x / 2 ^ (64 - n))
theorem rot_calls (x n:Nat) (hx:x < 18446744073709551616) (hn:n < 64) (w:World):Calls prog 261 #[.int .u64 (x:Int),.int .i64 (n:Int)] w (Ret w (.int .u64 ((rotl x n:Nat):Int))):=by
 have h63:n &&& 63=n:=by rw [show (63:Nat)=2 ^ 6 - 1 from rfl,Nat.and_two_pow_sub_one_eq_mod];exact jY hn
 refine enter (args:=[_,_]) _ [] [] func261 rfl ntmps261 rfl (by simp) .nil ?_
 unfold rotl
 conv in (2 ^ n)=>rw [← h63]
 conv in (64 - n)=>rw [← h63]
 (refine sRz<|vAz<|nSz<|vMz ?_;refine lvz (.convN rfl (by omega) (by omega)) ?_;refine lvz (.andUL rfl rfl (by decide) (by omega) (by omega)) ?_;refine vAz<|nSz<|vMz<|vMz ?_;refine lvz (.shlU rfl rfl (by omega)) ?_;refine vMz<|vMz ?_;refine lvz (.subNK rfl rfl (by decide) (by omega) (by omega)) ?_;refine lvz (.shrU rfl rfl (by omega)) ?_;apply qN;rfl;rfl;apply ValP.orU;rfl;rfl;omega;apply div64;omega;refine vAz<|nNz<|zK ?_)
 (apply finR;exact .inl rfl;rfl;rfl;rfl;apply zD;exact zG rfl;exact zF)
 rfl
theorem turned_calls (x n:Nat) (hx:x < 18446744073709551616) (hn:n < 64) (w:World):Calls prog 259 #[.int .u64 (x:Int),.int .i64 (n:Int)] w (Ret w (.int .u64 ((rotl x n:Nat):Int))):=by
 refine enter (args:=[_,_]) _ [] [] func259 rfl ntmps259 rfl (by simp) .nil ?_
 (refine sRz<|vAz<|nSz<|vMz<|vMz ?_;apply zS;rfl;rfl;exact vF;exact .cons rfl (.cons rfl .nil);intro w _;exact rot_calls x n hx hn w;refine vAz<|nNz<|zK ?_)
 (apply finR;exact .inl rfl;rfl;rfl;rfl;apply zD;exact zG rfl;exact zF)
 rfl
def rowV (L:List Nat) (x y:Nat):Nat:=L.getD (5 * (y % 5)+x % 5) 0 ^^^ ((18446744073709551615 - L.getD (5 * (y % 5)+(x+1) % 5) 0) &&& L.getD (5 * (y % 5)+(x+2) % 5) 0)
def rowsF (L:List Nat):Nat→List Nat
 |0=>List.replicate 25 0
 |k+1=>(rowsF L k).set (5 * (k / 5 % 5)+k % 5 % 5) (rowV L (k % 5) (k / 5))
theorem rowsF_len (L:List Nat) (k:Nat):(rowsF L k).length=25:=by
 induction k with
 |zero=>simp [rowsF]
 |succ k ih=>simp [rowsF,ih]
theorem rowsF_step (L:List Nat) (x y:Nat) (hx:x < 5):rowsF L (5 * y+x+1)=(rowsF L (5 * y+x)).set (5 * (y % 5)+x % 5) (rowV L x y):=by
 rw [rowsF,show (5 * y+x) / 5=y by omega,show (5 * y+x) % 5=x by omega]
theorem places_calls (w:World):Calls prog 257 #[] w (Ret w (.func (.func 260) #[] #[])):=by
 refine enter (args:=[]) _ [] [] func257 rfl ntmps257 rfl (by simp) .nil ?_
 (refine sRz<|vAz<|nSz<|vAz<|nNz<|zK ?_)
 (apply finR;exact .inl rfl;rfl;rfl;rfl;apply zD;exact zG rfl;exact zF)
 rfl
theorem Rows_calls (L:List Nat) (hL:L.length=25) (hb:∀ i,L.getD i 0 < 18446744073709551616) (w:World):Calls prog 252 #[.agg (nca L)] w (Ret w (.agg (nca (rowsF L 25)))):=by
 refine enter (args:=[_]) _ [] [] func252 rfl ntmps252 rfl (by simp) .nil ?_
 (refine sRz ?_;apply zT;rfl;rfl;intro _;apply zU;rfl;intro _;refine nNz<|zI<|sRz ?_;apply zS;rfl;rfl;exact vF;exact qT;intro w _;exact places_calls w;refine nNz<|zM ?_)
 rename_i b1 b2
 apply CW.rangeFunc
 rfl
 rfl
 exact vF
 rfl
 exact func260
 rfl
 exact ntmps260
 rfl
 rfl
 intro l r rec hrec
 (refine CW.scope<|zI<|CW.label<|thenN<|sRz<|vMz<|nNz<|zM ?_)
 refine qM (fun y:Nat=>([(4,.int .i64 (y:Int)),(0,.func (.yield l) #[] #[])],
  [(l,rdy rec),(r,.deferred (some [])),(b2,.cells (nca (rowsF L (5 * y))) 208 (0,0)),(b1,.cells (nca L) 208 (0,0))]))
  (fun y=>y≤5) (fun y=>5 - y) 0 (yT _) ⟨rfl,rfl,trivial⟩ (jG _) ?_
 intro y hy
 dsimp only at hy ⊢
 rcases jM y 5 with hy5|hy5
 ·(refine sRz ?_;refine lvz (.lssT rfl rfl (by omega)) ?_;refine nNz<|zI<|cTz<|zJ<|thenN<|zI<|zM<|sRz<|vMz<|vAz<|nSz<|vMz<|nNz<|zM ?_)
  refine qM (fun x:Nat=>([(7,.int .i64 (x:Int)),(2,.int .i64 (y:Int)),(4,.int .i64 (y:Int)),(0,.func (.yield l) #[] #[])],
   [(l,rdy rec),(r,.deferred (some [])),(b2,.cells (nca (rowsF L (5 * y+x))) 208 (0,0)),(b1,.cells (nca L) 208 (0,0))]))
   (fun x=>x≤5) (fun x=>5 - x) 0 (yT _) ⟨rfl,rfl,rfl,rfl,trivial⟩ (jG _) ?_
  intro x hx
  dsimp only at hx ⊢
  rcases jM x 5 with hx5|hx5
  ·have hlen:=rowsF_len L (5 * y+x)
   (refine sRz ?_;refine lvz (.lssT rfl rfl (by omega)) ?_;refine nNz<|zI<|cTz<|zJ<|thenN<|zI<|zM<|sRz<|vMz<|vAz<|nSz<|vMz<|vMz<|vMz ?_)
   apply LW.yield
   rfl
   rfl
   (exact .cons rfl (.cons rfl .nil))
   exact hrec
   (apply zY)
   rfl
   rfl
   (refine sRz<|vAz<|nNz<|zL<|vAz ?_;apply zV;apply beginI;apply qA;refine zM ?_;apply CW.pre;refine AnyW.any 22 mixed (by decide +kernel) ?_;(try simp only [tsOf_cons,tsOf_nil,tsOf_app]);refine dvz (.move rfl)<|dvz (.move rfl) ?_;apply DW.callE;rfl;rfl;rfl;exact zC;rfl;exact vF;exact .cons rfl (.cons rfl .nil);rfl;exact qS;intro w _ _;refine at_calls _ _ ?_ ?_ w;omega;omega;refine dvz (.move rfl)<|dvz (.move rfl) ?_;apply DW.callE;rfl;rfl;rfl;exact zC;rfl;exact vF;exact .cons rfl (.cons rfl .nil);rfl;exact qS;intro w _ _;refine at_calls _ _ ?_ ?_ w;omega;omega;refine dvz (.indexAddrA rfl rfl rfl (by omega)) ?_;apply qG;rfl;rfl;rfl;exact zC;rfl;apply zO;apply zO;apply zO;apply zP;exact zN;apply rd_nca;omega;refine dvz (.move rfl) ?_;refine dvz (.addZL rfl rfl (by decide) (by omega)) ?_;refine dvz (.move rfl) ?_;apply DW.callE;rfl;rfl;rfl;exact zC;rfl;exact vF;exact .cons rfl (.cons rfl .nil);rfl;exact qS;intro w _ _;refine at_calls _ _ ?_ ?_ w;omega;omega;refine dvz (.indexAddrA rfl rfl rfl (by omega)) ?_;apply qG;rfl;rfl;rfl;exact zC;rfl;apply zO;apply zO;apply zO;apply zP;exact zN;apply rd_nca;omega;apply DW.v0;rfl;rfl;rfl;exact zC;rfl;apply ValP.notU;rfl;exact hb _;refine dvz (.move rfl) ?_;refine dvz (.addZL rfl rfl (by decide) (by omega)) ?_;refine dvz (.move rfl) ?_;apply DW.callE;rfl;rfl;rfl;exact zC;rfl;exact vF;exact .cons rfl (.cons rfl .nil);rfl;exact qS;intro w _ _;refine at_calls _ _ ?_ ?_ w;omega;omega;refine dvz (.indexAddrA rfl rfl rfl (by omega)) ?_;apply qG;rfl;rfl;rfl;exact zC;rfl;apply zO;apply zO;apply zO;apply zP;exact zN;apply rd_nca;omega;apply DW.v0;rfl;rfl;rfl;exact zC;rfl;apply ValP.andU;rfl;rfl;omega;exact hb _;apply DW.nil;simp only [fsOf_cons,fsOf_nil,fsOf_app,fsOf_tsOf,fsOf_new];apply qN;rfl;rfl;apply ValP.xorU;rfl;rfl;exact hb _;apply and64;omega;refine lvz (.indexAddrA rfl rfl rfl (by omega)) ?_;apply zR;rfl;rfl;apply qE;apply qE;apply qA;apply wr_nca;omega;apply zV;refine blkN ?_;apply roundN;apply qA;refine lvz (.notT rfl (by with_reducible rfl)) ?_;refine nNz<|cFz<|zJ<|blkN<|thenN<|zL ?_;refine lvz (.addZL rfl rfl (by decide) (by omega)) ?_;refine vMz ?_;apply zV)
   refine thenX ⟨rfl,x+1,hx5,by omega,⟨rfl,rfl,rfl,rfl,trivial⟩,?_⟩
   rw [← Nat.add_assoc,rowsF_step L x y hx5]
   exact jG _
  ·obtain rfl:x=5:=by omega
   (refine sRz ?_;refine lvz (.lssF rfl rfl (by omega)) ?_;refine nNz<|zI<|cFz<|CW.exit<|thenE<|thenE<|blkE rfl<|blkN<|thenN<|zL ?_;refine lvz (.addZL rfl rfl (by decide) (by omega)) ?_;refine vMz ?_;apply zV)
   exact dTDNkX
 ·obtain rfl:y=5:=by omega
  have hlen:=rowsF_len L 25
  (refine sRz ?_;refine lvz (.lssF rfl rfl (by omega)) ?_;refine nNz<|zI<|cFz<|CW.exit<|thenE<|thenE<|blkE rfl<|scopeQ.n ?_)
  apply rangeN
  (exact .inr rfl)
  (exact Shut.nil)
  (apply qA)
  (refine blkN<|thenM<|sRz ?_;apply LW.load;rfl;rfl;apply qH;apply zX;apply zX;apply zY;apply rd_ncaW;assumption;apply zR;rfl;rfl;apply qE;apply qE;apply qA;apply wr_ncaW;assumption;assumption;refine nNz<|zK ?_)
  (apply finRM;exact .inl rfl;apply Shut.cons;apply qE;apply qA;exact Shut.nil;rfl;rfl;apply zD;apply zH;rfl;apply qH;apply zX;apply zX;apply zY;apply rd_ncaW;assumption;exact zF)
  rfl
section
theorem dTDICL {P:Prop} (h:P:=by
 obtain ⟨E,fr,h⟩:=h
 exact ⟨E,fr,by rw [hs.bel.block _ (Array.getElem?_eq_some_iff.1 h).1 (by simp)];exact h⟩):P:=h
def turnL:List Nat:=[0,1,62,28,27,36,44,6,55,20,3,10,43,25,39,41,45,15,21,8,18,2,61,56,14]
def numL:List Nat:=[1,32898,9223372036854808714,9223372039002292224,32907,2147483649,9223372039002292353,9223372036854808585,138,136,2147516425,2147483658,2147516555,9223372036854775947,9223372036854808713,9223372036854808579,9223372036854808578,9223372036854775936,32778,9223372039002259466,9223372039002292353,9223372036854808704,2147483649,9223372039002292232]
def ica (L:List Nat):Array Value:=(ics L).toArray
theorem ics_map (l:List Nat):ics l=l.map fun (x:Nat)=>Value.int .i64 (x:Int):=by
 induction l with
 |nil=>rfl
 |cons a l ih=>simp [ics] at *;exact ih
theorem rd_ica {P:Program} {T E:TypeId} {fr:Nat × Nat} {L:List Nat} {i:Nat} [AgI P T false] (hi:i < L.length):Rd P T (.cells (ica L) E fr) (0+i * 1) (.int .i64 ((L.getD i 0:Nat):Int)) :=
 Rd.one (by rw [jH,yE];simp [ica,ics_map,hi,jU])
def NumAt (w:World):Prop:=∃ E fr,w.heap[0]?=some (.cells (nca numL) E fr)
def TurnAt (w:World):Prop:=∃ E fr,w.heap[2]?=some (.cells (ica turnL) E fr)
theorem NumAt.st {w w':World} {fs:Fs} (h:NumAt w) (hs:St w [] fs w'):NumAt w':=by
 exact dTDICL
theorem TurnAt.st {w w':World} {fs:Fs} (h:TurnAt w) (hs:St w [] fs w'):TurnAt w':=by
 exact dTDICL
theorem turnL_lt:∀ i,turnL.getD i 0 < 64:=fun i=>by
 rcases jM i 25 with h|h
 ·exact (by decide:∀ i,i < 25→turnL.getD i 0 < 64) i h
 ·rw [jU,yN (by simpa [turnL] using h)];decide
theorem getD_set_lt {L:List Nat} {N i x:Nat} (h:∀ j,L.getD j 0 < N) (hx:x < N):∀ j,(L.set i x).getD j 0 < N:=fun j=>by
 have hj:=h j
 rw [jU] at hj ⊢
 rw [List.getElem?_set]
 split
 ·split
  ·exact hx
  ·exact yR (yT _) hx
 ·exact hj
theorem xor_lt {a b:Nat} (ha:a < 18446744073709551616) (hb:b < 18446744073709551616):a ^^^ b < 18446744073709551616:=Nat.xor_lt_two_pow (n:=64) ha hb
theorem rotl_lt {x n:Nat} (hx:x < 18446744073709551616):rotl x n < 18446744073709551616:=Nat.or_lt_two_pow (n:=64) (yS _ (by decide)) (yR (Nat.div_le_self _ _) hx)
def cF (L:List Nat):Nat→List Nat
 |0=>List.replicate 5 0
 |k+1=>(cF L k).set (k % 5) ((cF L k).getD (k % 5) 0 ^^^ L.getD (5 * (k / 5 % 5)+k % 5 % 5) 0)
theorem cF_len (L:List Nat) (k:Nat):(cF L k).length=5:=by
 induction k with
 |zero=>simp [cF]
 |succ k ih=>simp [cF,ih]
theorem rep_lt (n:Nat):∀ i,(List.replicate n 0).getD i 0 < 18446744073709551616:=fun i=>by
 rw [jU,List.getElem?_replicate];split<;>decide
theorem cF_lt (L:List Nat) (hb:∀ i,L.getD i 0 < 18446744073709551616) (k:Nat):∀ i,(cF L k).getD i 0 < 18446744073709551616:=by
 induction k with
 |zero=>exact rep_lt 5
 |succ k ih=>exact getD_set_lt ih (xor_lt (ih _) (hb _))
theorem cF_step (L:List Nat) (x y:Nat) (hx:x < 5):cF L (5 * y+x+1)=(cF L (5 * y+x)).set x ((cF L (5 * y+x)).getD x 0 ^^^ L.getD (5 * (y % 5)+x % 5) 0):=by
 rw [cF,show (5 * y+x) / 5=y by omega,show (5 * y+x) % 5=x by omega]
def mixV (L C:List Nat) (x y:Nat):Nat:=rotl (L.getD (5 * (y % 5)+x % 5) 0 ^^^ (C.getD ((x+5 - 1) % 5) 0 ^^^ rotl (C.getD ((x+1) % 5) 0) 1)) (turnL.getD (5 * (y % 5)+x % 5) 0)
def mixF (L C:List Nat):Nat→List Nat
 |0=>List.replicate 25 0
 |k+1=>(mixF L C k).set (5 * ((2 * (k % 5)+3 * (k / 5)) % 5)+k / 5 % 5) (mixV L C (k % 5) (k / 5))
theorem mixF_len (L C:List Nat) (k:Nat):(mixF L C k).length=25:=by
 induction k with
 |zero=>simp [mixF]
 |succ k ih=>simp [mixF,ih]
theorem mixV_lt (L C:List Nat) (hb:∀ i,L.getD i 0 < 18446744073709551616) (hc:∀ i,C.getD i 0 < 18446744073709551616) (x y:Nat):mixV L C x y < 18446744073709551616:=rotl_lt (xor_lt (hb _) (xor_lt (hc _) (rotl_lt (hc _))))
theorem mixF_lt (L C:List Nat) (hb:∀ i,L.getD i 0 < 18446744073709551616) (hc:∀ i,C.getD i 0 < 18446744073709551616) (k:Nat):∀ i,(mixF L C k).getD i 0 < 18446744073709551616:=by
 induction k with
 |zero=>exact rep_lt 25
 |succ k ih=>exact getD_set_lt ih (mixV_lt L C hb hc _ _)
theorem mixF_step (L C:List Nat) (x y:Nat) (hx:x < 5):mixF L C (5 * y+x+1)=(mixF L C (5 * y+x)).set (5 * ((2 * x+3 * y) % 5)+y % 5) (mixV L C x y):=by
 rw [mixF,show (5 * y+x) / 5=y by omega,show (5 * y+x) % 5=x by omega]
def mixL (L:List Nat):List Nat:=mixF L (cF L 25) 25
theorem rd_turn {T E:TypeId} {fr:Nat × Nat} {i:Nat} [AgI prog T false] (hi:i < 25):Rd prog T (.cells (ica turnL) E fr) (0+i * 1) (.int .i64 ((turnL.getD i 0:Nat):Int)):=rd_ica (L:=turnL) hi
theorem cF_zero (L:List Nat):cF L 0=List.replicate 5 0:=rfl
theorem mixF_zero (L C:List Nat):mixF L C 0=List.replicate 25 0:=rfl
attribute [local irreducible] turnL cF mixF
theorem Mix_calls (L:List Nat) (hL:L.length=25) (hb:∀ i,L.getD i 0 < 18446744073709551616) (w:World) (hT:TurnAt w):Calls prog 253 #[.agg (nca L)] w (Ret w (.agg (nca (mixL L)))):=by
 obtain ⟨ET,frT,hT⟩:=hT
 have hcb:=cF_lt L hb
 obtain ⟨C,hC⟩:∃ C,C=cF L 25:=⟨_,rfl⟩
 have hCb:∀ i,C.getD i 0 < 18446744073709551616:=fun i=>by rw [hC];exact hcb 25 i
 have hCl:C.length=5:=by rw [hC];exact cF_len L 25
 have hr1:∀ i,rotl (C.getD i 0) 1 < 18446744073709551616:=fun i=>rotl_lt (hCb i)
 have hk1:∀ i w,Calls prog 259 #[.int .u64 ((C.getD i 0:Nat):Int),.int .i64 1] w (Ret w (.int .u64 ((rotl (C.getD i 0) 1:Nat):Int))):=fun i w=>turned_calls _ 1 (hCb i) (by decide) w
 have hk2:∀ v i w,v < 18446744073709551616→Calls prog 259 #[.int .u64 ((v:Nat):Int),.int .i64 ((turnL.getD i 0:Nat):Int)] w (Ret w (.int .u64 ((rotl v (turnL.getD i 0):Nat):Int))):=fun v i w hv=>turned_calls v _ hv (turnL_lt i) w
 have hd:(0:Nat) < 18446744073709551616:=by decide
 refine enter (args:=[_]) _ [] [] func253 rfl ntmps253 rfl (by simp) .nil ?_
 (refine goZ ?_;intro _ _ _;refine cEv places_calls ?_)
 rename_i b1 b2 b3
 apply CW.rangeFunc
 rfl
 rfl
 exact vF
 rfl
 exact func260
 rfl
 exact ntmps260
 rfl
 rfl
 intro l r rec hrec
 (refine CW.scope ?_;refine goZ ?_;refine CW.label ?_;refine goZ ?_)
 refine qM (fun y:Nat=>([(4,.int .i64 (y:Int)),(0,.func (.yield l) #[] #[])],
  [(l,rdy rec),(r,.deferred (some [])),(b3,.cells (nca (cF L (5 * y))) 231 (0,0)),(b2,.cells (nca (List.replicate 25 0)) 208 (0,0)),(b1,.cells (nca L) 208 (0,0))]))
  (fun y=>y≤5) (fun y=>5 - y) 0 (yT _) ⟨rfl,rfl,trivial⟩ (by dsimp only;rw [Nat.mul_zero,cF_zero];exact jG _) ?_
 intro y hy
 dsimp only at hy ⊢
 rcases jM y 5 with hy5|hy5
 ·(refine goZ ?_)
  refine qM (fun x:Nat=>([(7,.int .i64 (x:Int)),(2,.int .i64 (y:Int)),(4,.int .i64 (y:Int)),(0,.func (.yield l) #[] #[])],
   [(l,rdy rec),(r,.deferred (some [])),(b3,.cells (nca (cF L (5 * y+x))) 231 (0,0)),(b2,.cells (nca (List.replicate 25 0)) 208 (0,0)),(b1,.cells (nca L) 208 (0,0))]))
   (fun x=>x≤5) (fun x=>5 - x) 0 (yT _) ⟨rfl,rfl,rfl,rfl,trivial⟩ (jG _) ?_
  intro x hx
  dsimp only at hx ⊢
  rcases jM x 5 with hx5|hx5
  ·have hlen:=cF_len L (5 * y+x)
   (refine goZ ?_)
   apply LW.yield
   rfl
   rfl
   (exact .cons rfl (.cons rfl .nil))
   exact hrec
   (apply zY)
   rfl
   rfl
   (refine goZ ?_;apply beginI;apply qA;refine goZ ?_;refine anz 8 ?_;apply qG;rfl;rfl;rfl;exact zC;rfl;apply zO;apply zO;apply zP;exact zN;apply rd_nca;omega;refine goZ ?_;apply DW.callE;rfl;rfl;rfl;exact zC;rfl;exact vF;exact .cons rfl (.cons rfl .nil);rfl;exact qS;intro w _ _;refine at_calls _ _ ?_ ?_ w;omega;omega;refine goZ ?_;apply qG;rfl;rfl;rfl;exact zC;rfl;apply zO;apply zO;apply zO;apply zO;apply zP;exact zN;apply rd_nca;omega;refine goZ ?_;apply qN;rfl;rfl;apply ValP.xorU;rfl;rfl;exact hcb _ _;exact hb _;refine goZ ?_;apply zR;rfl;rfl;apply qE;apply qE;apply qA;apply wr_nca;omega;refine goZ ?_;apply roundN;apply qA;refine goZ ?_)
   refine thenX ⟨rfl,x+1,hx5,by omega,⟨rfl,rfl,rfl,rfl,trivial⟩,?_⟩
   rw [← Nat.add_assoc,cF_step L x y hx5]
   exact jG _
  ·obtain rfl:x=5:=by omega
   (refine goZ ?_)
   exact dTDNkX
 ·obtain rfl:y=5:=by omega
  (refine goZ ?_;refine scopeQ.n ?_)
  apply rangeN
  (exact .inr rfl)
  (exact Shut.nil)
  (apply qA)
  (refine goZ ?_;refine thenM ?_;refine goZ ?_;refine cEv places_calls ?_)
  rw [show 5 * 5=25 from rfl,← hC]
  apply CW.rangeFunc
  rfl
  rfl
  exact vF
  rfl
  exact func260
  rfl
  exact ntmps260
  rfl
  rfl
  intro l2 r2 rec2 hrec2
  (refine CW.scope ?_;refine goZ ?_;refine CW.label ?_;refine goZ ?_)
  refine qM (fun y:Nat=>([(4,.int .i64 (y:Int)),(0,.func (.yield l2) #[] #[])],
   [(l2,rdy rec2),(r2,.deferred (some [])),(r,.deferred (some [])),(b3,.cells (nca C) 231 (0,0)),(b2,.cells (nca (mixF L C (5 * y))) 208 (0,0)),(b1,.cells (nca L) 208 (0,0))]))
   (fun y=>y≤5) (fun y=>5 - y) 0 (yT _) ⟨rfl,rfl,trivial⟩ ?_ ?_
  ·dsimp only
   rw [Nat.mul_zero,mixF_zero]
   (apply jP;apply jP;apply jK;exact jG _)
  intro y hy
  dsimp only at hy ⊢
  rcases jM y 5 with hy5|hy5
  ·(refine goZ ?_)
   refine qM (fun x:Nat=>([(7,.int .i64 (x:Int)),(2,.int .i64 (y:Int)),(4,.int .i64 (y:Int)),(0,.func (.yield l2) #[] #[])],
    [(l2,rdy rec2),(r2,.deferred (some [])),(r,.deferred (some [])),(b3,.cells (nca C) 231 (0,0)),(b2,.cells (nca (mixF L C (5 * y+x))) 208 (0,0)),(b1,.cells (nca L) 208 (0,0))]))
    (fun x=>x≤5) (fun x=>5 - x) 0 (yT _) ⟨rfl,rfl,rfl,rfl,trivial⟩ (jG _) ?_
   intro x hx
   dsimp only at hx ⊢
   rcases jM x 5 with hx5|hx5
   ·have hlen:=mixF_len L C (5 * y+x)
    have hstep:=mixF_step L C x y hx5
    (refine goZ ?_)
    apply LW.yield
    rfl
    rfl
    (exact .cons rfl (.cons rfl .nil))
    exact hrec2
    (apply zY)
    rfl
    rfl
    (refine goZ ?_;apply beginI;apply qA;refine goZ ?_;refine anz 12 ?_;apply qG;rfl;rfl;rfl;exact zC;rfl;apply zO;apply zO;apply zO;apply zP;exact zN;apply rd_nca;omega;refine goZ ?_;apply qG;rfl;rfl;rfl;exact zC;rfl;apply zO;apply zO;apply zO;apply zP;exact zN;apply rd_nca;omega;refine dcz (c:=fun w _ _=>by exact hk1 _ w) (k:=?_);apply qN;rfl;rfl;apply ValP.xorU;rfl;rfl;exact hCb _;exact hr1 _;refine goZ ?_;refine anz 19 ?_;apply DW.callE;rfl;rfl;rfl;exact zC;rfl;exact vF;exact .cons rfl (.cons rfl .nil);rfl;exact qS;intro w _ _;refine at_calls _ _ ?_ ?_ w;omega;omega;refine goZ ?_;apply DW.callE;rfl;rfl;rfl;exact zC;rfl;exact vF;exact .cons rfl (.cons rfl .nil);rfl;exact qS;intro w _ _;refine at_calls _ _ ?_ ?_ w;omega;omega;refine goZ ?_;apply qG;rfl;rfl;rfl;exact zC;rfl;apply zO;apply zO;apply zO;apply zO;apply zO;apply zP;exact zN;apply rd_nca;omega;refine goZ ?_;apply DW.v0;rfl;rfl;rfl;exact zC;rfl;apply ValP.xorU;rfl;rfl;exact hb _;apply xor64;exact hCb _;exact hr1 _;refine goZ ?_;apply DW.callE;rfl;rfl;rfl;exact zC;rfl;exact vF;exact .cons rfl (.cons rfl .nil);rfl;exact qS;intro w _ _;refine at_calls _ _ ?_ ?_ w;omega;omega;refine goZ ?_;apply DW.loadX;rfl;rfl;rfl;exact zC;rfl;assumption;simp;apply rd_turn;omega;refine goZ ?_;apply zS;rfl;rfl;exact vF;exact .cons rfl (.cons rfl .nil);intro w _;refine hk2 _ _ w ?_;apply xor64;exact hb _;apply xor64;exact hCb _;exact hr1 _;refine goZ ?_;apply zR;rfl;rfl;apply qE;apply qE;apply qE;apply qE;apply qA;apply wr_nca;omega;refine goZ ?_;apply roundN;apply qA;refine goZ ?_)
    refine thenX ⟨rfl,x+1,hx5,by omega,⟨rfl,rfl,rfl,rfl,trivial⟩,?_⟩
    rw [← Nat.add_assoc,hstep]
    exact jG _
   ·obtain rfl:x=5:=by omega
    (refine goZ ?_)
    exact dTDNkX
  ·obtain rfl:y=5:=by omega
   have hml:=mixF_len L C 25
   (refine goZ ?_;refine scopeQ.n ?_)
   apply rangeN
   (exact .inr rfl)
   (exact Shut.nil)
   (apply qA)
   (refine goZ ?_;refine thenM ?_;refine goZ ?_;apply LW.load;rfl;rfl;apply qH;apply zX;apply zX;apply zX;apply zX;apply zY;apply rd_ncaW;assumption;apply zR;rfl;rfl;apply qE;apply qE;apply qE;apply qE;apply qA;apply wr_ncaW;assumption;assumption;refine goZ ?_)
   (apply finRM;exact .inl rfl;apply Shut.cons;apply qE;apply qA;apply Shut.cons;apply qE;apply qE;apply qA;exact Shut.nil;rfl;rfl;apply zD;apply zH;rfl;apply qH;apply zX;apply zX;apply zX;apply zX;apply zY;apply rd_ncaW;assumption;exact zF)
   show (Value.agg (nca (mixF L C (5 * 5))))=_
   rw [hC]
   rfl
end
section
theorem dTDfRz {P:Prop} (h:P:=by
 (refine goZ ?_;apply LW.load;rfl;rfl;apply qH;apply zX;apply zY;apply rd_ncaW;assumption;apply zR;rfl;rfl;apply qA;apply wr_ncaW;assumption;assumption;refine goZ ?_)
 (apply finR;exact .inl rfl;rfl;rfl;rfl;apply zD;apply zH;rfl;apply qH;apply zY;apply rd_ncaW;assumption;exact zF)
 rfl):P:=h
attribute [local irreducible] turnL cF mixF mixL
def rowsL (L:List Nat):List Nat:=rowsF L 25
theorem mixL_len (L:List Nat):(mixL L).length=25:=by unfold mixL;exact mixF_len L _ 25
theorem mixL_lt (L:List Nat) (hb:∀ i,L.getD i 0 < 18446744073709551616):∀ i,(mixL L).getD i 0 < 18446744073709551616:=by unfold mixL;exact mixF_lt L _ hb (cF_lt L hb 25) 25
theorem rowV_lt (L:List Nat) (hb:∀ i,L.getD i 0 < 18446744073709551616) (x y:Nat):rowV L x y < 18446744073709551616 :=
 xor_lt (hb _) (Nat.and_lt_two_pow (n:=64) _ (hb _))
theorem rowsF_lt (L:List Nat) (hb:∀ i,L.getD i 0 < 18446744073709551616) (k:Nat):∀ i,(rowsF L k).getD i 0 < 18446744073709551616:=by
 induction k with
 |zero=>exact rep_lt 25
 |succ k ih=>exact getD_set_lt ih (rowV_lt L hb _ _)
theorem rowsL_len (L:List Nat):(rowsL L).length=25:=rowsF_len L 25
theorem rowsL_lt (L:List Nat) (hb:∀ i,L.getD i 0 < 18446744073709551616):∀ i,(rowsL L).getD i 0 < 18446744073709551616:=rowsF_lt L hb 25
def roundL (L:List Nat) (n:Nat):List Nat:=(rowsL (mixL L)).set 0 ((rowsL (mixL L)).getD 0 0 ^^^ n)
theorem roundL_len (L:List Nat) (n:Nat):(roundL L n).length=25:=by simp [roundL,rowsL_len]
theorem roundL_lt (L:List Nat) (n:Nat) (hb:∀ i,L.getD i 0 < 18446744073709551616) (hn:n < 18446744073709551616):∀ i,(roundL L n).getD i 0 < 18446744073709551616 :=
 getD_set_lt (rowsL_lt _ (mixL_lt L hb)) (xor_lt (rowsL_lt _ (mixL_lt L hb) 0) hn)
def permF (L:List Nat):Nat→List Nat
 |0=>L
 |k+1=>roundL (permF L k) (numL.getD k 0)
def permL (L:List Nat):List Nat:=permF L 24
theorem numL_lt (i:Nat) (h:i < 24):numL.getD i 0 < 18446744073709551616:=(by decide:∀ i,i < 24→numL.getD i 0 < 18446744073709551616) i h
theorem permF_len (L:List Nat) (hL:L.length=25) (k:Nat):(permF L k).length=25:=by
 cases k with
 |zero=>exact hL
 |succ k=>exact roundL_len _ _
theorem permF_lt (L:List Nat) (hb:∀ i,L.getD i 0 < 18446744073709551616) (k:Nat) (hk:k≤24):∀ i,(permF L k).getD i 0 < 18446744073709551616:=by
 induction k with
 |zero=>exact hb
 |succ k ih=>exact roundL_lt _ _ (ih (by omega)) (numL_lt k (by omega))
theorem permL_len (L:List Nat) (hL:L.length=25):(permL L).length=25:=permF_len L hL 24
theorem permL_lt (L:List Nat) (hb:∀ i,L.getD i 0 < 18446744073709551616):∀ i,(permL L).getD i 0 < 18446744073709551616:=permF_lt L hb 24 (yD _)
theorem permF_step (L:List Nat) (k:Nat):permF L (k+1)=roundL (permF L k) (numL.getD k 0):=rfl
attribute [local irreducible] rowsL
theorem round_calls (L:List Nat) (n:Nat) (hL:L.length=25) (hb:∀ i,L.getD i 0 < 18446744073709551616) (hn:n < 18446744073709551616) (w:World) (hT:TurnAt w):Calls prog 243 #[.agg (nca L),.int .u64 (n:Int)] w (Ret w (.agg (nca (roundL L n)))):=by
 have hM:∀ w' {fs},St w [] fs w'→Calls prog 253 #[.agg (nca L)] w' (Ret w' (.agg (nca (mixL L)))):=fun w' fs hst=>Mix_calls L hL hb w' (hT.st hst)
 have hR:∀ w',Calls prog 252 #[.agg (nca (mixL L))] w' (Ret w' (.agg (nca (rowsL (mixL L))))):=fun w'=>by
  unfold rowsL;exact Rows_calls _ (mixL_len L) (mixL_lt L hb) w'
 have hrb:=rowsL_lt _ (mixL_lt L hb)
 have hl1:=mixL_len L
 have hl2:=rowsL_len (mixL L)
 have hl3:((rowsL (mixL L)).set 0 ((rowsL (mixL L)).getD 0 0 ^^^ n)).length=25:=roundL_len L n
 refine enter (args:=[_,_]) _ [] [] func243 rfl ntmps243 rfl (by simp) .nil ?_
 (refine goZ ?_;intro _ _;apply LW.load;rfl;rfl;apply qH;apply zX;apply zY;apply rd_ncaW;assumption;refine cEz (c:=fun w _=>by exact hM w (by assumption)) (k:=?_);refine cEv hR ?_;apply zR;rfl;rfl;apply qE;apply qA;apply wr_ncaW;assumption;assumption;refine goZ ?_;apply LW.load;rfl;rfl;apply qH;apply zX;apply zY;apply rd_nca0;omega;refine goZ ?_;apply qN;rfl;rfl;apply ValP.xorU;rfl;rfl;exact hrb _;assumption;refine goZ ?_;apply zR;rfl;rfl;apply qE;apply qA;apply wr_nca0;omega;refine goZ ?_;apply LW.load;rfl;rfl;apply qH;apply zX;apply zY;apply rd_ncaW;assumption;apply zR;rfl;rfl;apply qA;apply wr_ncaO;rfl;assumption;refine goZ ?_)
 (apply finR;exact .inl rfl;rfl;rfl;rfl;apply zD;apply zH;rfl;apply qH;apply zY;apply rd_ncaW;assumption;exact zF)
 rfl
attribute [local irreducible] roundL
theorem numL_len:numL.length=24:=rfl
attribute [local irreducible] numL
theorem Permute_calls (L:List Nat) (hL:L.length=25) (hb:∀ i,L.getD i 0 < 18446744073709551616) (w:World) (hT:TurnAt w) (hN:NumAt w):Calls prog 235 #[.agg (nca L)] w (Ret w (.agg (nca (permL L)))):=by
 obtain ⟨EN,frN,hN⟩:=hN
 have hnl:=numL_len
 have hR:∀ k,k < 24→∀ w' {fs},St w [] fs w'→Calls prog 243 #[.agg (nca (permF L k)),.int .u64 ((numL.getD k 0:Nat):Int)] w' (Ret w' (.agg (nca (roundL (permF L k) (numL.getD k 0))))):=fun k hk w' fs hst=>round_calls _ _ (permF_len L hL k) (permF_lt L hb k (by omega)) (numL_lt k hk) w' (hT.st hst)
 refine enter (args:=[_]) _ [] [] func235 rfl ntmps235 rfl (by simp) .nil ?_
 (refine goZ ?_;intro _ _;apply LW.load;rfl;rfl;exact Known.ext (by assumption) (by simp);apply rd_ncaW;assumption;refine goZ ?_)
 rename_i b1 b2
 refine qM (fun k:Nat=>([(6,.int .i64 (k:Int)),(5,.agg (nca numL)),(2,.pointer (some ⟨b2,0,none⟩)),(1,.pointer (some ⟨b1,0,none⟩))],
  [(b2,.cells (nca (List.replicate 25 0)) 208 (0,0)),(b1,.cells (nca (permF L k)) 208 (0,0))]))
  (fun k=>k≤24) (fun k=>24 - k) 0 (yT _) ⟨rfl,rfl,rfl,rfl,trivial⟩ (jG _) ?_
 intro k hk
 dsimp only at hk ⊢
 have hlen:=permF_len L hL k
 rcases jM k 24 with hk4|hk4
 ·have hR':=fun w' fs hst=>hR k hk4 w' (fs:=fs) hst
  have hlen':=roundL_len (permF L k) (numL.getD k 0)
  (refine goZ ?_;apply qN;rfl;rfl;apply ValP.indexA;rfl;rfl;rfl;rfl;omega;apply nth_nca;omega;refine goZ ?_;apply LW.load;rfl;rfl;apply qH;apply zX;apply zY;apply rd_ncaW;assumption;refine goZ ?_;refine cEz (c:=fun w _=>by exact hR' w _ (by assumption)) (k:=?_);apply zR;rfl;rfl;apply qE;apply qA;apply wr_ncaW;assumption;assumption;refine goZ ?_)
  refine thenX ⟨rfl,k+1,hk4,by omega,⟨rfl,rfl,rfl,rfl,trivial⟩,?_⟩
  exact jG _
 ·obtain rfl:k=24:=by omega
  have hlr:(List.replicate 25 0:List Nat).length=25:=rfl
  exact dTDfRz
end
def padN (n:Nat):Nat:=(n / 136+1) * 136
def pad1 (b:List UInt8):List UInt8:=(b++List.replicate (padN b.length - b.length) 0).set b.length 1
def padB (b:List UInt8):List UInt8:=(pad1 b).set (padN b.length - 1) ((pad1 b).getD (padN b.length - 1) 0 |||128)
theorem padN_lt (n:Nat):n < padN n:=by unfold padN;omega
theorem pad1_len (b:List UInt8):(pad1 b).length=padN b.length:=by have:=padN_lt b.length;simp [pad1];omega
theorem padB_len (b:List UInt8):(padB b).length=padN b.length:=by rw [padB,List.length_set,pad1_len]
theorem pad_copy (b:List UInt8):((List.replicate (padN b.length) (Value.int .u8 0)).toArray.toList.take 0++ucs b++(List.replicate (padN b.length) (Value.int .u8 0)).toArray.toList.drop (0+b.length)).toArray=uca (b++List.replicate (padN b.length - b.length) 0):=by
 simp [uca,ucs_map]
def PadR (b:List UInt8) (v:Value) (gs:Fs):Prop:=∃ g,v=.slice (some ⟨g,0,none⟩) (padB b).length (padB b).length∧gs=[(g,.cells (uca (padB b)) 5 (0,0))]
theorem wr_pad1 {T E:TypeId} {z:Value} [InfoI prog T 1 z] (b:List UInt8):Wr prog T (.cells (uca (b++List.replicate (padN b.length - b.length) (0:UInt8))) E (0,0)) (0+b.length * 1) (.int .u8 1) (.cells (uca (pad1 b)) E (0,0)) :=
 wr_uca (x:=1) (by have:=padN_lt b.length;simp;omega) (by decide)
theorem or_byte (u:UInt8):UInt8.ofNat (u.toNat |||128)=u |||128:=by
 apply UInt8.toNat_inj.1
 rw [UInt8.toNat_or,UInt8.toNat_ofNat']
 exact jY (Nat.or_lt_two_pow (n:=8) (UInt8.toNat_lt u) (by decide))
theorem wr_padB {T E:TypeId} {z:Value} [InfoI prog T 1 z] (b:List UInt8):Wr prog T (.cells (uca (pad1 b)) E (0,0)) (0+(padN b.length - 1) * 1) (.int .u8 ((((pad1 b).getD (padN b.length - 1) 0).toNat |||128:Nat):Int)) (.cells (uca (padB b)) E (0,0)):=by
 have h:=wr_uca (P:=prog) (T:=T) (E:=E) (l:=pad1 b) (i:=padN b.length - 1) (x:=((pad1 b).getD (padN b.length - 1) 0).toNat |||128) (z:=z) (by rw [pad1_len];have:=padN_lt b.length;omega) (Nat.or_lt_two_pow (n:=8) (UInt8.toNat_lt _) (by decide))
 rw [or_byte] at h
 exact h
theorem Pad_calls (b:List UInt8) (v:Value) (w:World) (hv:RowAt w 1 v b.length (ucs b)) (hb:b.length≤100000):Calls prog 234 #[v] w (RetG w [] (PadR b)):=by
 obtain ⟨p,c,rfl,hc,hm⟩:=hv.form
 have hlt:=padN_lt b.length
 have h1:=pad1_len b
 have h2:=padB_len b
 have hN:padN b.length=(b.length / 136+1) * 136:=rfl
 refine enter (args:=[_]) _ [] [] func234 rfl ntmps234 rfl (by simp) .nil ?_
 (refine goZ ?_)
 rw [← hN]
 refine LW.makeOwn rfl vF vF vF rfl rfl ?_ ?_ fun g=>?_
 ·omega
 ·simp only [maxLen];omega
 (refine goZ ?_)
 refine LW.copyAt (cur:=(List.replicate (padN b.length) (Value.int .u8 0)).toArray) (E':=5) (fs':=[(g,.cells (((List.replicate (padN b.length) (Value.int .u8 0)).toArray.toList.take 0++ucs b++(List.replicate (padN b.length) (Value.int .u8 0)).toArray.toList.drop (0+b.length)).toArray) 5 (0,0))]) rfl rfl vF vF vF rfl rfl (fun w hst=>hv.st hst) (ucs_cells b) (by omega) (by simp;omega) (by (apply qA)) ?_
 rw [pad_copy]
 have hl0:(b++List.replicate (padN b.length - b.length) (0:UInt8)).length=padN b.length:=by simp;omega
 (refine goZ ?_;refine zR rfl rfl .head (wr_pad1 b) ?_;refine goZ ?_;apply LW.load;rfl;rfl;apply qH;apply zY;apply rd_uca;omega;apply qN;rfl;rfl;apply ValP.orBL;rfl;rfl;decide;exact UInt8.toNat_lt _;decide;refine goZ ?_;refine zR rfl rfl .head (wr_padB b) ?_;refine goZ ?_)
 refine fin [(g,.cells (uca (padB b)) 5 (0,0))] (.inl rfl) rfl rfl rsZ (jG _) ⟨g,?_,rfl⟩
 rw [h2];rfl
def ChunkR (v0:Value) (v:Value) (gs:Fs):Prop:=∃ b1 b2,v=.func (.func 242) #[] #[.pointer (some ⟨b1,0,none⟩),.pointer (some ⟨b2,0,none⟩)]∧gs=[(b2,.cells #[.int .i64 136] 3 (0,0)),(b1,.cells #[v0] 22 (0,0))]
theorem Chunk_calls (p:Option Addr) (n c:Nat) (w:World):Calls prog 233 #[.slice p n c,.int .i64 136] w (RetG w [] (ChunkR (.slice p n c))):=by
 refine enter (args:=[_,_]) _ [] [] func233 rfl ntmps233 rfl (by simp) .nil ?_
 (refine goZ ?_;apply LW.box1;rfl;rfl;rfl;intro _;apply LW.box1;rfl;rfl;rfl;intro _;refine goZ ?_;apply qN;rfl;rfl;apply ValP.makeFunc;exact qT;exact .cons rfl (.cons rfl .nil);refine goZ ?_)
 rename_i b1 b2
 exact fin _ (.inl rfl) rfl rfl rsZ (jG _) ⟨b1,b2,rfl,rfl⟩
section
def soakF (L:List Nat) (p:List UInt8) (o:Nat):Nat→List Nat
 |0=>L
 |k+1=>(soakF L p o k).set (k / 8) ((soakF L p o k).getD (k / 8) 0 ^^^ ((p.getD (o+k) 0).toNat * 2 ^ (8 * (k % 8)) % 18446744073709551616))
theorem soakF_len (L:List Nat) (p:List UInt8) (o k:Nat):(soakF L p o k).length=L.length:=by
 induction k with
 |zero=>rfl
 |succ k ih=>simp [soakF,ih]
theorem soakF_lt (L:List Nat) (p:List UInt8) (o:Nat) (hb:∀ i,L.getD i 0 < 18446744073709551616) (k:Nat):∀ i,(soakF L p o k).getD i 0 < 18446744073709551616:=by
 induction k with
 |zero=>exact hb
 |succ k ih=>exact getD_set_lt ih (xor_lt (ih _) (yS _ (by decide)))
def sumF (p:List UInt8):Nat→List Nat
 |0=>List.replicate 25 0
 |c+1=>permL (soakF (sumF p c) p (136 * c) 136)
theorem sumF_len (p:List UInt8) (c:Nat):(sumF p c).length=25:=by
 induction c with
 |zero=>simp [sumF]
 |succ c ih=>exact permL_len _ (by rw [soakF_len,ih])
theorem sumF_lt (p:List UInt8) (c:Nat):∀ i,(sumF p c).getD i 0 < 18446744073709551616:=by
 induction c with
 |zero=>exact rep_lt 25
 |succ c ih=>exact permL_lt _ (soakF_lt _ _ _ ih _)
def idF (L:List Nat):Nat→List UInt8
 |0=>List.replicate 32 0
 |k+1=>(idF L k).set k (UInt8.ofNat (L.getD (k / 8) 0 / 2 ^ (8 * (k % 8)) % 256))
theorem idF_len (L:List Nat) (k:Nat):(idF L k).length=32:=by
 induction k with
 |zero=>simp [idF]
 |succ k ih=>simp [idF,ih]
def padC (n:Nat):Nat:=n / 136+1
def sumB (b:List UInt8):List UInt8:=idF (sumF (padB b) (padC b.length)) 32
theorem ValP.cut3o {P:Program} {e:Env} {T:TypeId} {x:Operand} {g o o' m n:Nat} {ik il im:IntKind} {E i j k c:Nat} {z:Value} {lo hi mx:Operand} (hU:UnI P T (.slice E)) (hI:InfoI P E 1 z) (hx:e.ev x=some (.slice (some ⟨g,o,none⟩) n c)) (hl:e.ev lo=some (.int il (i:Int))) (hh:e.ev hi=some (.int ik (j:Int))) (hm:e.ev mx=some (.int im (k:Int))) (h1:j=i+m) (h2:k=i+m) (h3:i+m≤c) (h4:0 < m) (h5:o'=o+i) :
  ValP P e [] (.slice T x (some lo) (some hi) (some mx)) (.slice (some ⟨g,o',none⟩) m m):=by
 subst h1 h2 h5
 have h:=ValP.cut3 (P:=P) (e:=e) hU hI hx hl hh hm (by omega) (by omega) h3 (by omega)
 have e1:i+m - i=m:=by omega
 have e2:(Option.map (fun x=>Addr.add x (i * 1)) (some ⟨g,o,none⟩))=some ⟨g,o+i,none⟩:=by simp [Addr.add]
 rw [e1] at h
 rw [← e2]
 exact h
theorem soakF_zero (L:List Nat) (p:List UInt8) (o:Nat):soakF L p o 0=L:=rfl
theorem sumF_zero (p:List UInt8):sumF p 0=List.replicate 25 0:=rfl
theorem soakF_succ (L:List Nat) (p:List UInt8) (o k:Nat):soakF L p o (k+1)=(soakF L p o k).set (k / 8) ((soakF L p o k).getD (k / 8) 0 ^^^ ((p.getD (o+k) 0).toNat * 2 ^ (8 * (k % 8)) % 18446744073709551616)):=rfl
theorem sumF_succ (p:List UInt8) (c:Nat):sumF p (c+1)=permL (soakF (sumF p c) p (136 * c) 136):=rfl
theorem idF_zero (L:List Nat):idF L 0=List.replicate 32 0:=rfl
theorem idF_succ (L:List Nat) (k:Nat):idF L (k+1)=(idF L k).set k (UInt8.ofNat (L.getD (k / 8) 0 / 2 ^ (8 * (k % 8)) % 256)):=rfl
attribute [local irreducible] permL padB soakF sumF idF
theorem Sum_calls (b:List UInt8) (v:Value) (w:World) (hv:RowAt w 1 v b.length (ucs b)) (hb:b.length≤100000) (hT:TurnAt w) (hN:NumAt w):Calls prog 225 #[v] w (Ret w (.agg (uca (sumB b)))):=by
 have hPad:∀ w' {fs},St w [] fs w'→Calls prog 234 #[v] w' (RetG w' [] (PadR b)):=fun w' fs hst=>Pad_calls b v w' (hv.st hst) hb
 have hP:∀ L:List Nat,L.length=25→(∀ i,L.getD i 0 < 18446744073709551616)→∀ w' {fs},St w [] fs w'→Calls prog 235 #[.agg (nca L)] w' (Ret w' (.agg (nca (permL L)))):=fun L h1 h2 w' fs hst=>Permute_calls L h1 h2 w' (hT.st hst) (hN.st hst)
 obtain ⟨p0,c0,rfl,_,_⟩:=hv.form
 obtain ⟨P,hPe⟩:∃ P,P=padB b:=⟨_,rfl⟩
 obtain ⟨N,hNe⟩:∃ N,N=padC b.length:=⟨_,rfl⟩
 have hlP:P.length=136 * N:=by rw [hPe,hNe,padB_len,padN,padC];omega
 have hNb:N≤1000:=by rw [hNe,padC];omega
 refine enter (args:=[_]) _ [] [] func225 rfl ntmps225 rfl (by simp) .nil ?_
 (refine goZ ?_;intro _ _)
 refine LW.callR rfl rfl vF agZ (fun w hst=>hPad w hst) ?_
 rintro v1 gs1 ⟨g,rfl,rfl⟩
 rw [← hPe]
 skip
 refine LW.callR rfl rfl vF agZ (fun w hst=>Chunk_calls _ _ _ w) ?_
 rintro v2 gs2 ⟨b1,b2,rfl,rfl⟩
 refine laZ ?_
 (refine goZ ?_)
 rename_i bi bl
 apply CW.rangeFunc
 rfl
 rfl
 exact vF
 rfl
 exact func242
 rfl
 exact ntmps242
 rfl
 rfl
 intro l r rec hrec
 (refine goZ ?_)
 refine qM (fun c:Nat=>([(4,.int .i64 ((136 * c:Nat):Int)),(0,.func (.yield l) #[] #[]),(1,.pointer (some ⟨b1,0,none⟩)),(2,.pointer (some ⟨b2,0,none⟩))],
  [(l,rdy rec),(r,.deferred (some [])),(b2,.cells #[.int .i64 136] 3 (0,0)),(b1,.cells #[.slice (some ⟨g,0,none⟩) P.length P.length] 22 (0,0)),(g,.cells (uca P) 5 (0,0)),
   (bl,.cells (nca (sumF P c)) 208 (0,0)),(bi,.cells (uca (List.replicate 32 0)) 196 (0,0))]))
  (fun c=>c≤N) (fun c=>N - c) 0 (yT _) ⟨rfl,rfl,rfl,rfl,trivial⟩ (by dsimp only;rw [sumF_zero];exact jG _) ?_
 intro c hc
 dsimp only at hc ⊢
 rcases jM c N with hcN|hcN
 ·have hle:136 * c+136≤P.length:=by omega
  (refine goZ ?_;refine anz 5 ?_;refine dvz (.cutFrom vF vF rfl rfl (by omega)) ?_;refine goZ ?_;refine lvz (.minZ rfl rfl) ?_;refine goZ ?_)
  apply qN
  rfl
  rfl
  refine ValP.cut3o (o':=136 * c) (m:=136) vF vF rfl rfl rfl rfl ?_ ?_ ?_ ?_ ?_
  ·show 136 * c+min 136 (P.length - 136 * c)=136 * c+136
   omega
  ·show 136 * c+min 136 (P.length - 136 * c)=136 * c+136
   omega
  ·omega
  ·omega
  ·omega
  apply LW.yield
  rfl
  rfl
  (exact .cons rfl .nil)
  exact hrec
  (apply zY)
  rfl
  rfl
  (refine goZ ?_;apply beginI;apply qA;refine goZ ?_)
  refine qM (fun k:Nat=>([(14,.int .i64 (k:Int)),(13,.int .i64 136),(12,.slice (some ⟨g,136 * c,none⟩) 136 136),(3,.pointer (some ⟨bl,0,none⟩)),(2,.pointer (some ⟨bi,0,none⟩))],
   [(l,bsy rec),(r,.deferred (some [])),(b2,.cells #[.int .i64 136] 3 (0,0)),(b1,.cells #[.slice (some ⟨g,0,none⟩) P.length P.length] 22 (0,0)),(g,.cells (uca P) 5 (0,0)),
   (bl,.cells (nca (soakF (sumF P c) P (136 * c) k)) 208 (0,0)),(bi,.cells (uca (List.replicate 32 0)) 196 (0,0))]))
   (fun k=>k≤136) (fun k=>136 - k) 0 (yT _) ⟨rfl,rfl,rfl,rfl,rfl,trivial⟩ ?_ ?_
  ·dsimp only
   rw [soakF_zero]
   exact jG _
  intro k hk
  dsimp only at hk ⊢
  have hls:=soakF_len (sumF P c) P (136 * c) k
  have hls':=sumF_len P c
  have hsb:=soakF_lt _ P (136 * c) (sumF_lt P c) k
  rcases jM k 136 with hk6|hk6
  ·have hbt:(P.getD (136 * c+k) 0).toNat < 256:=UInt8.toNat_lt _
   (refine goZ ?_;apply LW.load;rfl;rfl;apply qH;apply zX;apply zX;apply zX;apply zX;apply zY;apply rd_ucaO;omega;refine goZ ?_;refine anz 10 ?_;apply qG;rfl;rfl;rfl;exact zC;rfl;apply zO;apply zO;apply zO;apply zO;apply zO;apply zP;exact zN;apply rd_nca;omega;refine goZ ?_;refine dvz (.shlU rfl rfl (by omega)) ?_;refine goZ ?_;apply qN;rfl;rfl;apply ValP.xorU;rfl;rfl;exact hsb _;exact yS _ (by decide);refine goZ ?_;apply zR;rfl;rfl;apply qE;apply qE;apply qE;apply qE;apply qE;apply qA;apply wr_nca;omega;refine goZ ?_)
   refine thenX ⟨rfl,k+1,hk6,by omega,⟨rfl,rfl,rfl,rfl,rfl,trivial⟩,?_⟩
   rw [soakF_succ]
   exact jG _
  ·obtain rfl:k=136:=by omega
   have hPerm:∀ w' {fs},St w [] fs w'→Calls prog 235 #[.agg (nca (soakF (sumF P c) P (136 * c) 136))] w' (Ret w' (.agg (nca (permL (soakF (sumF P c) P (136 * c) 136))))):=hP _ (by rw [hls,hls']) hsb
   have hlp:=permL_len (soakF (sumF P c) P (136 * c) 136) (by rw [hls,hls'])
   have hls2:(soakF (sumF P c) P (136 * c) 136).length=25:=by rw [hls,hls']
   (refine goZ ?_;apply LW.load;rfl;rfl;apply qH;apply zX;apply zX;apply zX;apply zX;apply zX;apply zY;apply rd_ncaW;assumption;refine cEz (c:=fun w _=>by exact hPerm w (by assumption)) (k:=?_);apply zR;rfl;rfl;apply qE;apply qE;apply qE;apply qE;apply qE;apply qA;apply wr_ncaW;assumption;assumption;refine goZ ?_;apply roundN;apply qA;refine goZ ?_)
   refine thenX ⟨rfl,c+1,hcN,by omega,⟨rfl,rfl,rfl,rfl,trivial⟩,?_⟩
   rw [sumF_succ]
   exact jG _
 ·obtain rfl:c=N:=by omega
  have hls:=sumF_len P c
  have hsb:=sumF_lt P c
  (refine goZ ?_)
  apply rangeN
  (exact .inr rfl)
  (exact Shut.nil)
  (apply qA)
  (refine goZ ?_;refine thenM ?_;refine goZ ?_)
  refine qM (fun k:Nat=>([(34,.int .i64 (k:Int)),(3,.pointer (some ⟨bl,0,none⟩)),(2,.pointer (some ⟨bi,0,none⟩))],
   [(r,.deferred (some [])),(bl,.cells (nca (sumF P c)) 208 (0,0)),(bi,.cells (uca (idF (sumF P c) k)) 196 (0,0))]))
   (fun k=>k≤32) (fun k=>32 - k) 0 (yT _) ⟨rfl,rfl,rfl,trivial⟩ ?_ ?_
  ·dsimp only
   rw [idF_zero]
   (apply jK;apply jP;apply jK;apply jK;apply jK;exact jG _)
  intro k hk
  dsimp only at hk ⊢
  have hli:=idF_len (sumF P c) k
  rcases jM k 32 with hk6|hk6
  ·(refine goZ ?_;apply LW.load;rfl;rfl;apply qH;apply zX;apply zY;apply rd_nca;omega;refine goZ ?_;refine lvz (.shrU rfl rfl (by omega)) ?_;refine goZ ?_;apply zR;rfl;rfl;apply qE;apply qE;apply qA;apply wr_uca;omega;exact yS _ (by decide);refine goZ ?_)
   refine thenX ⟨rfl,k+1,hk6,by omega,⟨rfl,rfl,rfl,trivial⟩,?_⟩
   rw [idF_succ]
   exact jG _
  ·obtain rfl:k=32:=by omega
   (refine goZ ?_;apply LW.load;rfl;rfl;apply qH;apply zX;apply zX;apply zY;apply rd_ucaW;assumption;apply zR;rfl;rfl;apply qE;apply qE;apply qA;apply wr_ucaW;assumption;assumption;refine goZ ?_)
   (apply finRM;exact .inl rfl;apply Shut.cons;apply qA;exact Shut.nil;rfl;rfl;apply zD;apply zH;rfl;apply qH;apply zX;apply zX;apply zY;apply rd_ucaW;assumption;exact zF)
   rw [sumB,← hPe,← hNe]
   rfl
end

end Go.Proofs.YtdeggbkbblfpoaaGreatDoor.SK
namespace Go.Proofs.YtdeggbkbblfpoaaGreatDoor.SK
open Go Go.RowKit SL
set_option maxRecDepth 100000

end Go.Proofs.YtdeggbkbblfpoaaGreatDoor.SK
namespace Go.Proofs.YtdeggbkbblfpoaaGreatDoor.SK
open Go Go.RowKit SL
set_option maxRecDepth 8000
set_option maxHeartbeats 4000000
set_option linter.unusedSimpArgs false
set_option linter.unusedVariables false
attribute [local irreducible] SL.CW SL.LW SL.DW Calls SL.Ret SL.RetG SL.beginQ SL.roundQ SL.rangeQ SL.inQ SL.RW SL.AnyW SL.thenQ SL.thenC SL.thenW SL.blkQ SL.finQ SL.ValP SL.NewP SL.SetP SL.CallP SL.Rd SL.Wr SL.Known

theorem Clone_calls (l:List UInt8) (v:Value) (w:World) (hv:RowAt w 1 v l.length (ucs l)) (hl:l.length≤100000):Calls prog 89 #[v] w (RetG w [] (fun v' gs=>IsRow 5 1 v' l.length (ucs l) gs)):=by
 obtain ⟨p,c,rfl,_,_⟩:=hv.form
 cases p with
 |none =>
  have h0:l.length=0:=by
   rcases yB l.length with h|h
   ·exact h
   ·obtain ⟨_,_,_,_,_,_,he,_,_⟩:=hv.pos h
    cases he
  have hn:l=[]:=List.length_eq_zero_iff.1 h0
  subst hn
  refine enter (args:=[_]) _ [] [] func89 rfl ntmps89 rfl (by simp) .nil ?_
  (refine goZ ?_;apply qN;rfl;rfl;apply ValP.sliNilT;rfl;rfl;refine goZ ?_)
  exact fin [] (.inl rfl) rfl rfl rsZ (jG _) .nil
 |some a =>
  refine enter (args:=[_]) _ [] [] func89 rfl ntmps89 rfl (by simp) .nil ?_
  (refine goZ ?_;apply qN;rfl;rfl;apply ValP.sliNilF;rfl;rfl;refine goZ ?_)
  refine LW.lay0 rfl vF vF fun v0 seg hrow=>?_
  (refine goZ ?_)
  (apply LW.appendAny;(case hrow=>assumption);rfl;rfl;exact vF;exact vF;exact vF;rfl;rfl;rfl;exact qJ)
  ·exact fun w hs=>hv.st hs
  ·exact ucs_cells l
  ·simp only [maxLen];omega
  ·omega
  intro v1 seg1 hrow1
  refine ⟨_,(by (exact qJ)),?_⟩
  simp only [jQ,jH,yM] at hrow1 ⊢
  (refine goZ ?_)
  refine fin (vs:=[v1]) seg1 (.inl rfl) rfl rfl rsZ ?_ hrow1
  (exact jG _)
def RowR (b:List UInt8) (v:Value) (gs:Fs):Prop:=IsRow 5 1 v b.length (ucs b) gs
end Go.Proofs.YtdeggbkbblfpoaaGreatDoor.SK
namespace Go.Proofs.YtdeggbkbblfpoaaGreatDoor.SK
open Go Go.RowKit SL
set_option maxRecDepth 8000
set_option linter.unusedSimpArgs false
set_option linter.unusedVariables false
theorem pad1_get (b:List UInt8) (i:Nat) (hi:i < padN b.length):(pad1 b).getD i 0=if i=b.length then 1 else b.getD i 0:=by
 have hlt:=padN_lt b.length
 unfold pad1
 rw [jU,List.getElem?_set]
 split
 ·rename_i h
  subst h
  rw [if_pos (by simp;omega),if_pos rfl];rfl
 ·rename_i h
  rw [if_neg (fun e=>h e.symm),List.getElem?_append]
  split
  ·rw [jU]
  ·rename_i hge
   rw [List.getElem?_replicate]
   have:b[i]?=none:=yN (by omega)
   rw [jU,this]
   split<;>rfl
end Go.Proofs.YtdeggbkbblfpoaaGreatDoor.SK
namespace Go.Proofs.YtdeggbkbblfpoaaGreatDoor.SK
open Go Go.RowKit SL
set_option maxRecDepth 8000
set_option maxHeartbeats 4000000
set_option linter.unusedSimpArgs false
set_option linter.unusedVariables false
attribute [local irreducible] SL.CW SL.LW SL.DW Calls SL.Ret SL.RetG SL.beginQ SL.roundQ SL.rangeQ SL.inQ SL.RW SL.AnyW SL.thenQ SL.thenC SL.thenW SL.blkQ SL.finQ SL.ValP SL.NewP SL.SetP SL.CallP SL.Rd SL.Wr SL.Known
def padK (b:List UInt8) (k:Nat):List UInt8:=b++1::List.replicate k 0
theorem padK_zero (b:List UInt8):padK b 0=b++[1]:=rfl
theorem padK_succ (b:List UInt8) (k:Nat):padK b (k+1)=padK b k++[0]:=by
 simp [padK,List.replicate_succ']
theorem padK_all (b:List UInt8):padK b (padN b.length - b.length - 1)=pad1 b:=by
 have hlt:=padN_lt b.length
 unfold padK pad1
 rw [List.set_append_right _ _ (yD _),Nat.sub_self,show padN b.length - b.length=(padN b.length - b.length - 1)+1 by omega,List.replicate_succ]
 rfl
theorem last_byte (b:List UInt8):((pad1 b).getD (padN b.length - 1) 0=0∨(pad1 b).getD (padN b.length - 1) 0=1):=by
 have hlt:=padN_lt b.length
 rw [pad1_get b _ (by omega)]
 split
 ·exact .inr rfl
 ·left
  rw [jU,yN (by omega)];rfl
theorem pad_last (b:List UInt8):padB b=(pad1 b).set (padN b.length - 1) (UInt8.ofNat ((((pad1 b).getD (padN b.length - 1) 0).toNat+128) % 256)):=by
 unfold padB
 rcases last_byte b with h|h<;>rw [h]<;>rfl
structure PX where
 k:Nat
 v:Value
 seg:Fs
theorem rPad_calls (b:List UInt8) (v:Value) (w:World) (hv:RowAt w 1 v b.length (ucs b)) (hb:b.length≤100000):Calls prog 228 #[v] w (RetG w [] (RowR (padB b))):=by
 have hlt:=padN_lt b.length
 have hN:padN b.length=(b.length / 136+1) * 136:=rfl
 refine enter (args:=[_]) _ [] [] func228 rfl ntmps228 rfl (by simp) .nil ?_
 (refine goZ ?_)
 refine LW.lay0 rfl vF vF fun v0 seg0 hrow=>?_
 obtain ⟨p0,c0,rfl⟩:=hrow.form
 (refine goZ ?_)
 (apply LW.appendAny;(case hrow=>assumption);rfl;rfl;exact vF;exact vF;exact vF;rfl;rfl;rfl;exact qJ)
 ·exact fun w hs=>hv.st hs
 ·exact ucs_cells b
 ·simp only [maxLen];omega
 ·omega
 intro v1 seg1 hrow1
 obtain ⟨p1,c1,rfl⟩:=hrow1.form
 refine ⟨_,(by (exact qJ)),?_⟩
 simp only [jQ,jH] at hrow1 ⊢
 clear hrow
 have hrow:=hrow1
 (refine goZ ?_;intro _)
 (apply qZ;rfl;rfl;exact vF;exact vF;exact vF;rfl;rfl;rfl;(case hrow=>assumption);apply qK;exact qJ;apply qH;apply zY;rfl;rfl;rfl;omega;simp only [maxLen];omega;omega;intro v' seg' hrow';obtain ⟨p',c',rfl⟩:=hrow'.form;(refine ⟨_,(by (repeat (first|exact qJ|apply qK|apply qL))),?_⟩);(try simp only [yA,jQ]))
 (apply LW.drop;exact jK _ (jG _))
 (refine goZ ?_)
 obtain ⟨K,hK⟩:∃ K,K=padN b.length - b.length - 1:=⟨_,rfl⟩
 refine qM (fun x:PX=>([(3,x.v)],x.seg++[]))
  (fun x=>x.k≤K∧IsRow 5 1 x.v (b.length+1+x.k) (ucs (padK b x.k)) x.seg) (fun x=>K - x.k) ⟨0,_,_⟩ ⟨Nat.zero_le _,by rw [padK_zero,ucs_app];exact hrow'⟩ ⟨rfl,trivial⟩ (jG _) ?_
 rintro ⟨k,v2,seg2⟩ ⟨hk,hrow2⟩
 clear hrow hrow1 hrow'
 dsimp only at hk hrow2 ⊢
 obtain ⟨p2,c2,rfl⟩:=hrow2.form
 rcases jM k K with hkK|hkK
 ·have hrow:=hrow2
  (refine goZ ?_;intro _)
  (apply qZ;rfl;rfl;exact vF;exact vF;exact vF;rfl;rfl;rfl;(case hrow=>assumption);apply qK;exact qJ;apply qH;apply zY;rfl;rfl;rfl;omega;simp only [maxLen];omega;omega;intro v' seg' hrow';obtain ⟨p',c',rfl⟩:=hrow'.form;(refine ⟨_,(by (repeat (first|exact qJ|apply qK|apply qL))),?_⟩);(try simp only [yA,jQ]))
  (apply LW.drop;exact jK _ (jG _))
  (refine goZ ?_)
  refine thenX ⟨rfl,⟨k+1,_,seg'⟩,⟨hkK,?_⟩,?_,⟨rfl,trivial⟩,jG _⟩
  ·dsimp only
   rw [padK_succ,ucs_app]
   exact hrow'
  ·dsimp only
   omega
 ·obtain rfl:k=K:=by omega
  have hn:b.length+1+k=padN b.length:=by omega
  have hpk:padK b k=pad1 b:=by rw [hK];exact padK_all b
  rw [hn,hpk] at hrow2
  obtain ⟨g,cur,rfl,rfl,hc1,hmx,hsz,ht⟩:=hrow2.pos (by omega)
  have hl1:=pad1_len b
  have hu:=UInt8.toNat_lt ((pad1 b).getD (padN b.length - 1) 0)
  have hcg:cur[padN b.length - 1]?=some (.int .u8 (((pad1 b).getD (padN b.length - 1) 0).toNat:Int)):=by
   have h1:=congrArg (·[padN b.length - 1]?) ht
   simp only [yE] at h1
   rw [List.getElem?_take,if_pos (by omega)] at h1
   have h2:=uca_get (pad1 b) (padN b.length - 1) (by omega)
   rw [← Array.getElem?_toList,h1]
   simpa [uca] using h2
  have hrd:Rd prog 5 (.cells cur 5 (0,0)) (0+(padN b.length - 1) * 1) (.int .u8 (((pad1 b).getD (padN b.length - 1) 0).toNat:Int)):=Rd.one (by rw [jH,yE];exact hcg)
  have hW:Wr prog 5 (.cells cur 5 (0,0)) (0+(padN b.length - 1) * 1) (.int .u8 (((((pad1 b).getD (padN b.length - 1) 0).toNat+128) % 256:Nat):Int)) (.cells (wrCells cur ((padN b.length - 1) * 1) [.int .u8 (((((pad1 b).getD (padN b.length - 1) 0).toNat+128) % 256:Nat):Int)]) 5 (0,0)):=qU rfl rfl (by rw [hsz];show 0+(padN b.length - 1) * 1+1≤c2 * 1;omega) (by rw [jH];rfl)
  obtain ⟨w1,w2⟩:=wr_take (i:=padN b.length - 1) (vs:=[Value.int .u8 (((((pad1 b).getD (padN b.length - 1) 0).toNat+128) % 256:Nat):Int)]) ht rfl (by omega) (by omega)
  rw [hn]
  (refine goZ ?_;refine lvz (.addBL rfl rfl (by decide)) ?_;refine goZ ?_)
  refine fin [(g,.cells (wrCells cur ((padN b.length - 1) * 1) [.int .u8 (((((pad1 b).getD (padN b.length - 1) 0).toNat+128) % 256:Nat):Int)]) 5 (0,0))] (.inl rfl) rfl rfl rsZ (by (exact jG _)) ?_
  show IsRow 5 1 (.slice (some ⟨g,0,none⟩) (padN b.length) c2) (padB b).length (ucs (padB b)) _
  rw [padB_len]
  refine .own hc1 hmx (by rw [w2,hsz]) ?_ (by rw [ucs_len,padB_len,yE])
  rw [w1,pad_last]
  have e:((((pad1 b).getD (padN b.length - 1) 0).toNat+128) % 256)=(UInt8.ofNat ((((pad1 b).getD (padN b.length - 1) 0).toNat+128) % 256)).toNat:=by rw [UInt8.toNat_ofNat'];omega
  generalize (((pad1 b).getD (padN b.length - 1) 0).toNat+128) % 256=q at *
  generalize UInt8.ofNat q=u at *
  subst e
  have hlen:(pad1 b).length=padN b.length:=hl1
  rw [ucs_map,ucs_map,yE,yE,List.set_eq_take_append_cons_drop,if_pos (by omega)]
  simp [List.map_take,List.map_drop]
theorem rotl_zero (x:Nat) (hx:x < 18446744073709551616):rotl x 0=x:=by
 unfold rotl
 rw [Nat.pow_zero,yE,Nat.sub_zero,jY hx,Nat.div_eq_of_lt (show x < 2 ^ 64 from hx),Nat.or_zero]
theorem Left_calls (x n:Nat) (hx:x < 18446744073709551616) (hn:n < 100000) (w:World):Calls prog 254 #[.int .u64 (x:Int),.int .i64 (n:Int)] w (Ret w (.int .u64 ((rotl x (n % 64):Nat):Int))):=by
 rcases yB (n % 64) with h0|h0
 ·rw [h0,rotl_zero x hx]
  refine enter (args:=[_,_]) _ [] [] func254 rfl ntmps254 rfl (by simp) .nil ?_
  (refine goZ ?_)
  (refine fiz ?_)
  rfl
 ·have hm:n % 64 < 64:=yS _ (by decide)
  refine enter (args:=[_,_]) _ [] [] func254 rfl ntmps254 rfl (by simp) .nil ?_
  (refine goZ ?_;refine anz 7 ?_;refine dvz (.shlU rfl rfl (by omega)) ?_;refine goZ ?_;refine dvz (.shrU rfl rfl (by omega)) ?_;refine goZ ?_;apply qN;rfl;rfl;apply ValP.orU;rfl;rfl;exact yS _ (by decide);exact yR (Nat.div_le_self _ _) hx;refine goZ ?_)
  (refine fiz ?_)
  rfl
theorem cF_at (L:List Nat) (k:Nat) (hk:k < 25):cF L (k+1)=(cF L k).set (k % 5) ((cF L k).getD (k % 5) 0 ^^^ L.getD k 0):=by
 rw [cF,show 5 * (k / 5 % 5)+k % 5 % 5=k by omega]
def dF (L C:List Nat):Nat→List Nat
 |0=>L
 |k+1=>(dF L C k).set k ((dF L C k).getD k 0 ^^^ (C.getD ((k % 5+4) % 5) 0 ^^^ rotl (C.getD ((k % 5+1) % 5) 0) 1))
theorem dF_zero (L C:List Nat):dF L C 0=L:=rfl
theorem dF_succ (L C:List Nat) (k:Nat):dF L C (k+1)=(dF L C k).set k ((dF L C k).getD k 0 ^^^ (C.getD ((k % 5+4) % 5) 0 ^^^ rotl (C.getD ((k % 5+1) % 5) 0) 1)):=rfl
theorem dF_len (L C:List Nat) (k:Nat):(dF L C k).length=L.length:=by
 induction k with
 |zero=>rfl
 |succ k ih=>simp [dF,ih]
theorem dF_lt (L C:List Nat) (hb:∀ i,L.getD i 0 < 18446744073709551616) (hc:∀ i,C.getD i 0 < 18446744073709551616) (k:Nat):∀ i,(dF L C k).getD i 0 < 18446744073709551616:=by
 induction k with
 |zero=>exact hb
 |succ k ih=>exact getD_set_lt ih (xor_lt (ih _) (xor_lt (hc _) (rotl_lt (hc _))))
def xyF:Nat→Nat × Nat
 |0=>(1,0)
 |t+1=>((xyF t).2,(2 * (xyF t).1+3 * (xyF t).2) % 5)
def nowF (L:List Nat):Nat→Nat × List Nat
 |0=>(L.getD 1 0,L)
 |t+1=>((nowF L t).2.getD (5 * (xyF (t+1)).2+(xyF (t+1)).1) 0,(nowF L t).2.set (5 * (xyF (t+1)).2+(xyF (t+1)).1) (rotl (nowF L t).1 ((t+1) * (t+2) / 2 % 64)))
theorem xyF_zero:xyF 0=(1,0):=rfl
theorem xyF_succ (t:Nat):xyF (t+1)=((xyF t).2,(2 * (xyF t).1+3 * (xyF t).2) % 5):=rfl
theorem xyF_lt (t:Nat):(xyF t).1 < 5∧(xyF t).2 < 5:=by
 induction t with
 |zero=>decide
 |succ t ih=>exact ⟨ih.2,yS _ (by decide)⟩
theorem nowF_zero (L:List Nat):nowF L 0=(L.getD 1 0,L):=rfl
theorem nowF_succ (L:List Nat) (t:Nat):nowF L (t+1)=((nowF L t).2.getD (5 * (xyF (t+1)).2+(xyF (t+1)).1) 0,(nowF L t).2.set (5 * (xyF (t+1)).2+(xyF (t+1)).1) (rotl (nowF L t).1 ((t+1) * (t+2) / 2 % 64))):=rfl
theorem nowF_len (L:List Nat) (t:Nat):(nowF L t).2.length=L.length:=by
 induction t with
 |zero=>rfl
 |succ t ih=>simp [nowF,ih]
theorem nowF_lt (L:List Nat) (hb:∀ i,L.getD i 0 < 18446744073709551616) (t:Nat):(nowF L t).1 < 18446744073709551616∧∀ i,(nowF L t).2.getD i 0 < 18446744073709551616:=by
 induction t with
 |zero=>exact ⟨hb 1,hb⟩
 |succ t ih=>exact ⟨ih.2 _,getD_set_lt ih.2 (rotl_lt ih.1)⟩
def rmixL (L:List Nat):List Nat:=(nowF (dF L (cF L 25) 25) 24).2
theorem len25 {L:List Nat} (h:L.length=25):∃ a0 a1 a2 a3 a4 a5 a6 a7 a8 a9 a10 a11 a12 a13 a14 a15 a16 a17 a18 a19 a20 a21 a22 a23 a24,L=[a0,a1,a2,a3,a4,a5,a6,a7,a8,a9,a10,a11,a12,a13,a14,a15,a16,a17,a18,a19,a20,a21,a22,a23,a24]:=by
 match L,h with
 |[a0,a1,a2,a3,a4,a5,a6,a7,a8,a9,a10,a11,a12,a13,a14,a15,a16,a17,a18,a19,a20,a21,a22,a23,a24],_=>exact ⟨a0,a1,a2,a3,a4,a5,a6,a7,a8,a9,a10,a11,a12,a13,a14,a15,a16,a17,a18,a19,a20,a21,a22,a23,a24,rfl⟩
theorem mix_vars (a0 a1 a2 a3 a4 a5 a6 a7 a8 a9 a10 a11 a12 a13 a14 a15 a16 a17 a18 a19 a20 a21 a22 a23 a24:Nat):mixL [a0,a1,a2,a3,a4,a5,a6,a7,a8,a9,a10,a11,a12,a13,a14,a15,a16,a17,a18,a19,a20,a21,a22,a23,a24]=(rmixL [a0,a1,a2,a3,a4,a5,a6,a7,a8,a9,a10,a11,a12,a13,a14,a15,a16,a17,a18,a19,a20,a21,a22,a23,a24]).set 0 (rotl ((rmixL [a0,a1,a2,a3,a4,a5,a6,a7,a8,a9,a10,a11,a12,a13,a14,a15,a16,a17,a18,a19,a20,a21,a22,a23,a24]).getD 0 0) 0):=by kernel_rfl
theorem rmix_mix (L:List Nat) (hL:L.length=25) (hb:∀ i,L.getD i 0 < 18446744073709551616):rmixL L=mixL L:=by
 have h0:(rmixL L).getD 0 0 < 18446744073709551616:=(nowF_lt _ (dF_lt L _ hb (cF_lt L hb 25) 25) 24).2 0
 have hl:(rmixL L).length=25:=by unfold rmixL;rw [nowF_len,dF_len,hL]
 have h:mixL L=(rmixL L).set 0 (rotl ((rmixL L).getD 0 0) 0):=by
  obtain ⟨a0,a1,a2,a3,a4,a5,a6,a7,a8,a9,a10,a11,a12,a13,a14,a15,a16,a17,a18,a19,a20,a21,a22,a23,a24,rfl⟩:=len25 hL
  exact mix_vars a0 a1 a2 a3 a4 a5 a6 a7 a8 a9 a10 a11 a12 a13 a14 a15 a16 a17 a18 a19 a20 a21 a22 a23 a24
 rw [h,rotl_zero _ h0]
 generalize rmixL L=M at *
 match M,hl with
 |a::r,_=>rfl
def rrF (L:List Nat):Nat→List Nat
 |0=>L
 |k+1=>(rrF L k).set k (L.getD k 0 ^^^ ((18446744073709551615 - L.getD (5 * (k / 5)+(k % 5+1) % 5) 0) &&& L.getD (5 * (k / 5)+(k % 5+2) % 5) 0))
theorem rrF_len (L:List Nat) (k:Nat):(rrF L k).length=L.length:=by
 induction k with
 |zero=>rfl
 |succ k ih=>simp [rrF,ih]
theorem rrF_zero (L:List Nat):rrF L 0=L:=rfl
theorem rrF_step (L:List Nat) (x y:Nat) (hx:x < 5):rrF L (5 * y+x+1)=(rrF L (5 * y+x)).set (5 * y+x) (L.getD (5 * y+x) 0 ^^^ ((18446744073709551615 - L.getD (5 * y+(x+1) % 5) 0) &&& L.getD (5 * y+(x+2) % 5) 0)):=by
 rw [rrF,show (5 * y+x) / 5=y by omega,show (5 * y+x) % 5=x by omega]
theorem rows_vars (a0 a1 a2 a3 a4 a5 a6 a7 a8 a9 a10 a11 a12 a13 a14 a15 a16 a17 a18 a19 a20 a21 a22 a23 a24:Nat):rowsF [a0,a1,a2,a3,a4,a5,a6,a7,a8,a9,a10,a11,a12,a13,a14,a15,a16,a17,a18,a19,a20,a21,a22,a23,a24] 25=rrF [a0,a1,a2,a3,a4,a5,a6,a7,a8,a9,a10,a11,a12,a13,a14,a15,a16,a17,a18,a19,a20,a21,a22,a23,a24] 25:=by kernel_rfl
theorem rr_rows (L:List Nat) (hL:L.length=25):rrF L 25=rowsL L:=by
 obtain ⟨a0,a1,a2,a3,a4,a5,a6,a7,a8,a9,a10,a11,a12,a13,a14,a15,a16,a17,a18,a19,a20,a21,a22,a23,a24,rfl⟩:=len25 hL
 exact (rows_vars a0 a1 a2 a3 a4 a5 a6 a7 a8 a9 a10 a11 a12 a13 a14 a15 a16 a17 a18 a19 a20 a21 a22 a23 a24).symm
section
attribute [local irreducible] cF dF nowF xyF rrF mixL rowsL numL
theorem rd_nca1 {P:Program} {T E:TypeId} {fr:Nat × Nat} {L:List Nat} [AgI P T false] (hi:1 < L.length):Rd P T (.cells (nca L) E fr) (0+1 * 1) (.int .u64 ((L.getD 1 0:Nat):Int)):=rd_nca hi
theorem rMix_calls (L:List Nat) (hL:L.length=25) (hb:∀ i,L.getD i 0 < 18446744073709551616) (w:World):Calls prog 245 #[.agg (nca L)] w (Ret w (.agg (nca (mixL L)))):=by
 rw [← rmix_mix L hL hb]
 obtain ⟨C,hC⟩:∃ C,C=cF L 25:=⟨_,rfl⟩
 have hCb:∀ i,C.getD i 0 < 18446744073709551616:=fun i=>by rw [hC];exact cF_lt L hb 25 i
 have hCl:C.length=5:=by rw [hC];exact cF_len L 25
 have hr1:∀ i,rotl (C.getD i 0) 1 < 18446744073709551616:=fun i=>rotl_lt (hCb i)
 have hk1:∀ i w,Calls prog 254 #[.int .u64 ((C.getD i 0:Nat):Int),.int .i64 1] w (Ret w (.int .u64 ((rotl (C.getD i 0) 1:Nat):Int))):=fun i w=>Left_calls _ 1 (hCb i) (by decide) w
 refine enter (args:=[_]) _ [] [] func245 rfl ntmps245 rfl (by simp) .nil ?_
 (refine goZ ?_;intro _ _ _;apply LW.load;rfl;rfl;apply qH;apply zX;apply zX;apply zY;apply rd_ncaW;assumption;refine goZ ?_)
 rename_i b1 b2 b3
 refine qM (fun k:Nat=>([(13,.int .i64 (k:Int)),(12,.agg (nca L)),(3,.pointer (some ⟨b3,0,none⟩)),(2,.pointer (some ⟨b2,0,none⟩)),(1,.pointer (some ⟨b1,0,none⟩))],
  [(b3,.cells (nca (cF L k)) 231 (0,0)),(b2,.cells (nca (List.replicate 25 0)) 208 (0,0)),(b1,.cells (nca L) 208 (0,0))]))
  (fun k=>k≤25) (fun k=>25 - k) 0 (yT _) ⟨rfl,rfl,rfl,rfl,rfl,trivial⟩ (by dsimp only;rw [cF_zero];exact jG _) ?_
 intro k hk
 dsimp only at hk ⊢
 have hcl:=cF_len L k
 have hcb:=cF_lt L hb k
 rcases jM k 25 with hk5|hk5
 ·(refine goZ ?_;apply qN;rfl;rfl;apply ValP.indexA;rfl;rfl;rfl;rfl;omega;apply nth_nca;omega;refine goZ ?_;apply LW.load;rfl;rfl;apply qH;apply zY;apply rd_nca;omega;refine goZ ?_;apply qN;rfl;rfl;apply ValP.xorU;rfl;rfl;exact hcb _;exact hb _;refine goZ ?_;apply zR;rfl;rfl;apply qA;apply wr_nca;omega;refine goZ ?_)
  refine thenX ⟨rfl,k+1,hk5,by omega,⟨rfl,rfl,rfl,rfl,rfl,trivial⟩,?_⟩
  rw [cF_at L k hk5]
  exact jG _
 ·obtain rfl:k=25:=by omega
  rw [← hC]
  (refine goZ ?_)
  refine qM (fun k:Nat=>([(25,.int .i64 (k:Int)),(3,.pointer (some ⟨b3,0,none⟩)),(2,.pointer (some ⟨b2,0,none⟩)),(1,.pointer (some ⟨b1,0,none⟩))],
   [(b3,.cells (nca C) 231 (0,0)),(b2,.cells (nca (List.replicate 25 0)) 208 (0,0)),(b1,.cells (nca (dF L C k)) 208 (0,0))]))
   (fun k=>k≤25) (fun k=>25 - k) 0 (yT _) ⟨rfl,rfl,rfl,rfl,trivial⟩ (by dsimp only;rw [dF_zero];exact jG _) ?_
  intro k hk
  dsimp only at hk ⊢
  have hdl:=dF_len L C k
  have hdb:=dF_lt L C hb hCb k
  rcases jM k 25 with hk5|hk5
  ·(refine goZ ?_;refine anz 15 ?_;apply qG;rfl;rfl;rfl;exact zC;rfl;apply zO;apply zO;apply zP;exact zN;apply rd_nca;omega;refine goZ ?_;apply qG;rfl;rfl;rfl;exact zC;rfl;apply zP;exact zN;apply rd_nca;omega;refine goZ ?_;apply qG;rfl;rfl;rfl;exact zC;rfl;apply zP;exact zN;apply rd_nca;omega;refine dcz (c:=fun w _ _=>by exact hk1 _ w) (k:=?_);apply DW.v0;rfl;rfl;rfl;exact zC;rfl;apply ValP.xorU;rfl;rfl;exact hCb _;exact hr1 _;refine goZ ?_;apply qN;rfl;rfl;apply ValP.xorU;rfl;rfl;exact hdb _;apply xor64;exact hCb _;exact hr1 _;refine goZ ?_;apply zR;rfl;rfl;apply qE;apply qE;apply qA;apply wr_nca;omega;refine goZ ?_)
   refine thenX ⟨rfl,k+1,hk5,by omega,⟨rfl,rfl,rfl,rfl,trivial⟩,?_⟩
   rw [dF_succ]
   exact jG _
  ·obtain rfl:k=25:=by omega
   obtain ⟨D,hD⟩:∃ D,D=dF L C 25:=⟨_,rfl⟩
   rw [← hD] at hdl hdb ⊢
   have hRm:rmixL L=(nowF D 24).2:=by rw [hD,hC];rfl
   have hDl:D.length=25:=by omega
   (refine goZ ?_;apply LW.load;rfl;rfl;apply qH;apply zX;apply zX;apply zY;apply rd_nca1;omega;refine goZ ?_)
   refine qM (fun t:Nat=>([(50,.int .i64 (t:Int)),(8,.int .i64 ((xyF t).1:Int)),(9,.int .i64 ((xyF t).2:Int)),(10,.int .u64 ((nowF D t).1:Int)),(2,.pointer (some ⟨b2,0,none⟩)),(1,.pointer (some ⟨b1,0,none⟩))],
    [(b2,.cells (nca (List.replicate 25 0)) 208 (0,0)),(b1,.cells (nca (nowF D t).2) 208 (0,0))]))
    (fun t=>t≤24) (fun t=>24 - t) 0 (yT _) ?_ ?_ ?_
   ·dsimp only
    rw [xyF_zero,nowF_zero]
    exact ⟨rfl,rfl,rfl,rfl,rfl,rfl,trivial⟩
   ·dsimp only
    rw [nowF_zero]
    (apply jK;exact jG _)
   intro t ht
   dsimp only at ht ⊢
   obtain ⟨hx5,hy5⟩:=xyF_lt t
   have hnl:=nowF_len D t
   obtain ⟨hn1,hn2⟩:=nowF_lt D hdb t
   rcases jM t 24 with ht4|ht4
   ·have e1:=xyF_succ t
    have e2:=nowF_succ D t
    rw [e1] at e2
    dsimp only at e2
    have hq:(t+1) * (t+2) / 2 < 100000:=by
     have:(t+1) * (t+2)≤25 * 26:=Nat.mul_le_mul (by omega) (by omega)
     omega
    have hq2:(t+1) * (t+2)≤650:=Nat.mul_le_mul (show t+1≤25 by omega) (show t+2≤26 by omega)
    have hm5:(2 * (xyF t).1+3 * (xyF t).2) % 5 < 5:=yS _ (by decide)
    have hk2:∀ w,Calls prog 254 #[.int .u64 ((nowF D t).1:Int),.int .i64 (((t+1) * (t+2) / 2:Nat):Int)] w (Ret w (.int .u64 ((rotl (nowF D t).1 ((t+1) * (t+2) / 2 % 64):Nat):Int))):=fun w=>Left_calls _ _ hn1 hq w
    (refine goZ ?_;refine anz 19 ?_;apply qG;rfl;rfl;rfl;exact zC;rfl;apply zO;apply zP;exact zN;apply rd_nca;omega;refine goZ ?_;refine dcz (c:=fun w _ _=>by exact hk2 w) (k:=?_);apply zR;rfl;rfl;apply qE;apply qA;apply wr_nca;omega;refine goZ ?_)
    refine thenX ⟨rfl,t+1,ht4,by omega,?_,?_⟩
    ·rw [e1,e2]
     exact ⟨rfl,rfl,rfl,rfl,rfl,rfl,trivial⟩
    ·rw [e2]
     exact jG _
   ·obtain rfl:t=24:=by omega
    have hrl:(List.replicate 25 0:List Nat).length=25:=rfl
    have hnl2:(nowF D 24).2.length=25:=by omega
    (refine goZ ?_;apply LW.load;rfl;rfl;apply qH;apply zX;apply zY;apply rd_ncaW;assumption;apply zR;rfl;rfl;apply qA;apply wr_ncaW;assumption;assumption;refine goZ ?_)
    (apply finR;exact .inl rfl;rfl;rfl;rfl;apply zD;apply zH;rfl;apply qH;apply zY;apply rd_ncaW;assumption;exact zF)
    rw [hRm]
    rfl
end
section
theorem dTDXRo {P:Prop} (h:P:=by
 refine thenX ⟨rfl,j+1,hj7,by omega,?_,List.nil_sublist _⟩
 rw [hs]
 exact ⟨rfl,rfl,rfl,rfl,rfl,rfl,rfl,trivial⟩):P:=h
theorem dTDkOq {P:Prop} (h:P:=by
 exact ⟨rfl,rfl,rfl,rfl,rfl,rfl,rfl,trivial⟩):P:=h
def inN (r:Nat):Nat→Nat × Nat
 |0=>(r,0)
 |j+1=>((if 255 < (inN r j).1 * 2 then ((inN r j).1 * 2 - 256) ^^^ 113 else (inN r j).1 * 2),(if (if 255 < (inN r j).1 * 2 then ((inN r j).1 * 2 - 256) ^^^ 113 else (inN r j).1 * 2) / 2 % 2=1 then (inN r j).2 |||2 ^ (2 ^ j - 1) else (inN r j).2))
def outN:Nat→Nat × Nat
 |0=>(1,0)
 |i+1=>inN (outN i).1 7
theorem num_doc:∀ n,n < 24→(outN (n+1)).2=numL.getD n 0:=by decide +kernel
theorem inN_zero (r:Nat):inN r 0=(r,0):=rfl
theorem inN_succ (r j:Nat):inN r (j+1)=((if 255 < (inN r j).1 * 2 then ((inN r j).1 * 2 - 256) ^^^ 113 else (inN r j).1 * 2),(if (if 255 < (inN r j).1 * 2 then ((inN r j).1 * 2 - 256) ^^^ 113 else (inN r j).1 * 2) / 2 % 2=1 then (inN r j).2 |||2 ^ (2 ^ j - 1) else (inN r j).2)):=rfl
theorem outN_zero:outN 0=(1,0):=rfl
theorem outN_succ (i:Nat):outN (i+1)=inN (outN i).1 7:=rfl
theorem inN_lt (r:Nat) (hr:r < 256) (j:Nat):(inN r j).1 < 256:=by
 induction j with
 |zero=>exact hr
 |succ j ih =>
  rw [inN_succ]
  show (if _ then _ else _) < _
  by_cases h:255 < (inN r j).1 * 2
  ·rw [if_pos h]
   exact Nat.xor_lt_two_pow (n:=8) (by omega) (by decide)
  ·rw [if_neg h]
   omega
theorem pow64 {j:Nat} (hj:j < 7):2 ^ j≤64:=Nat.le_trans (yU (by decide) (show j≤6 by omega)) (by decide)
theorem pos2 (j:Nat):1≤2 ^ j:=Nat.pow_pos (by decide)
theorem bit64 {j:Nat} (hj:j < 7):2 ^ (2 ^ j - 1) < 18446744073709551616:=by
 have h:=pow64 hj
 have h0:1≤2 ^ j:=Nat.pow_pos (by decide)
 exact yR (yU (by decide) (show 2 ^ j - 1≤63 by omega)) (by decide)
theorem inN_x (r:Nat) (j:Nat) (hj:j≤7):(inN r j).2 < 18446744073709551616:=by
 induction j with
 |zero=>exact Nat.zero_lt_succ _
 |succ j ih =>
  have ih:=ih (by omega)
  rw [inN_succ]
  show (if (if 255 < (inN r j).1 * 2 then ((inN r j).1 * 2 - 256) ^^^ 113 else (inN r j).1 * 2) / 2 % 2=1 then (inN r j).2 |||2 ^ (2 ^ j - 1) else (inN r j).2) < _
  generalize (if 255 < (inN r j).1 * 2 then ((inN r j).1 * 2 - 256) ^^^ 113 else (inN r j).1 * 2) / 2 % 2=q
  by_cases h:q=1
  ·rw [if_pos h]
   exact Nat.or_lt_two_pow (n:=64) ih (bit64 (by omega))
  ·rw [if_neg h]
   exact ih
theorem outN_lt (i:Nat):(outN i).1 < 256:=by
 induction i with
 |zero=>decide
 |succ i ih=>rw [outN_succ];exact inN_lt _ ih 7
attribute [local irreducible] inN outN
theorem ValP.shlOne {P:Program} {e:Env} {T ty:TypeId} {x y:Operand} {s:Nat} {ik:IntKind} (hx:e.ev x=some (.int .u64 1)) (hy:e.ev y=some (.int ik (s:Int))) (hs:s≤63):ValP P e [] (.binOp .shl T x y ty) (.int .u64 ((2 ^ s:Nat):Int)):=by
 have h:=ValP.shlU (P:=P) (T:=T) (ty:=ty) (m:=1) hx hy (by omega)
 have hb:2 ^ s < 18446744073709551616:=yR (yU (by decide) hs) (by decide)
 rwa [Nat.one_mul,jY hb] at h
theorem Number_calls (n:Nat) (hn:n < 24) (w:World):Calls prog 246 #[.int .i64 (n:Int)] w (Ret w (.int .u64 ((numL.getD n 0:Nat):Int))):=by
 rw [← num_doc n hn]
 refine enter (args:=[_]) _ [] [] func246 rfl ntmps246 rfl (by simp) .nil ?_
 (refine goZ ?_)
 refine qM (fun i:Nat=>([(9,.int .i64 (i:Int)),(8,.int .i64 ((n+1:Nat):Int)),(3,.int .i64 ((outN i).1:Int)),(0,.int .i64 (n:Int))],[]))
  (fun i=>i≤n) (fun i=>n - i) 0 (yT _) ?_ (List.nil_sublist _) ?_
 ·dsimp only
  rw [outN_zero]
  exact ⟨rfl,rfl,rfl,rfl,trivial⟩
 intro i hi
 dsimp only at hi ⊢
 have hol:=outN_lt i
 obtain ⟨r,hr⟩:∃ r,r=(outN i).1:=⟨_,rfl⟩
 have ho:=outN_succ i
 rw [← hr] at hol ho ⊢
 (refine goZ ?_)
 refine qM (fun j:Nat=>([(12,.int .i64 (j:Int)),(3,.int .i64 ((inN r j).1:Int)),(4,.int .u64 ((inN r j).2:Int)),(5,.int .i64 (i:Int)),(9,.int .i64 (i:Int)),(8,.int .i64 ((n+1:Nat):Int)),(0,.int .i64 (n:Int))],[]))
  (fun j=>j≤7) (fun j=>7 - j) 0 (yT _) ?_ (List.nil_sublist _) ?_
 ·dsimp only
  rw [inN_zero]
  exact dTDkOq
 intro j hj
 dsimp only at hj ⊢
 have hlt:=inN_lt r hol j
 have hx:=inN_x r j hj
 have hs:=inN_succ r j
 rcases jM j 7 with hj7|hj7
 ·have hp:=pow64 hj7
  have hp0:=pos2 j
  have hb:=bit64 hj7
  generalize (inN r j).1=a at *
  generalize (inN r j).2=x at *
  have hp63:2 ^ j - 1≤63:=by omega
  have hj63:j≤63:=by omega
  by_cases h1:255 < a * 2
  ·rw [if_pos h1] at hs
   have hx8:(a * 2 - 256) ^^^ 113 < 256:=Nat.xor_lt_two_pow (n:=8) (by omega) (by decide)
   by_cases h2:((a * 2 - 256) ^^^ 113) / 2 % 2=1
   ·rw [if_pos h2] at hs
    (refine goZ ?_;apply qN;rfl;rfl;apply ValP.xorIL;rfl;rfl;decide;omega;decide;refine goZ ?_;apply qN;rfl;rfl;apply ValP.shlOne;rfl;rfl;assumption;refine lvz (.subNL rfl rfl (by decide) (by omega) (by omega)) ?_;apply qN;rfl;rfl;apply ValP.shlOne;rfl;rfl;assumption;refine lvz (.orU rfl rfl (by assumption) (by assumption)) ?_;refine goZ ?_)
    exact dTDXRo
   ·rw [if_neg h2] at hs
    (refine goZ ?_;apply qN;rfl;rfl;apply ValP.xorIL;rfl;rfl;decide;omega;decide;refine goZ ?_)
    exact dTDXRo
  ·rw [if_neg h1] at hs
   by_cases h2:a * 2 / 2 % 2=1
   ·rw [if_pos h2] at hs
    (refine goZ ?_;apply qN;rfl;rfl;apply ValP.shlOne;rfl;rfl;assumption;refine lvz (.subNL rfl rfl (by decide) (by omega) (by omega)) ?_;apply qN;rfl;rfl;apply ValP.shlOne;rfl;rfl;assumption;refine lvz (.orU rfl rfl (by assumption) (by assumption)) ?_;refine goZ ?_)
    exact dTDXRo
   ·rw [if_neg h2] at hs
    (refine goZ ?_)
    exact dTDXRo
 ·obtain rfl:j=7:=by omega
  rw [← ho]
  by_cases h:i=n
  ·subst h
   (refine goZ ?_)
   (refine fiz ?_)
   rfl
  ·(refine goZ ?_)
   exact thenX ⟨rfl,i+1,by omega,by omega,⟨rfl,rfl,rfl,rfl,trivial⟩,List.nil_sublist _⟩
end
section
attribute [local irreducible] rrF mixL rowsL numL roundL permF
theorem rRows_calls (L:List Nat) (hL:L.length=25) (hb:∀ i,L.getD i 0 < 18446744073709551616) (w:World):Calls prog 244 #[.agg (nca L)] w (Ret w (.agg (nca (rowsL L)))):=by
 rw [← rr_rows L hL]
 refine enter (args:=[_]) _ [] [] func244 rfl ntmps244 rfl (by simp) .nil ?_
 (refine goZ ?_;intro _ _;apply LW.load;rfl;rfl;apply qH;apply zX;apply zY;apply rd_ncaW;assumption;refine goZ ?_;intro _;apply zR;rfl;rfl;apply qA;apply wr_ncaO;rfl;assumption;refine goZ ?_)
 rename_i b1 b2 b3
 refine qM (fun y:Nat=>([(7,.int .i64 (y:Int)),(3,.pointer (some ⟨b3,0,none⟩)),(2,.pointer (some ⟨b2,0,none⟩)),(1,.pointer (some ⟨b1,0,none⟩))],
  [(b3,.cells (nca L) 208 (0,0)),(b2,.cells (nca (List.replicate 25 0)) 208 (0,0)),(b1,.cells (nca (rrF L (5 * y))) 208 (0,0))]))
  (fun y=>y≤5) (fun y=>5 - y) 0 (yT _) ⟨rfl,rfl,rfl,rfl,trivial⟩ (by dsimp only;rw [Nat.mul_zero,rrF_zero];exact jG _) ?_
 intro y hy
 dsimp only at hy ⊢
 rcases jM y 5 with hy5|hy5
 ·(refine goZ ?_)
  refine qM (fun x:Nat=>([(10,.int .i64 (x:Int)),(4,.int .i64 (y:Int)),(7,.int .i64 (y:Int)),(3,.pointer (some ⟨b3,0,none⟩)),(2,.pointer (some ⟨b2,0,none⟩)),(1,.pointer (some ⟨b1,0,none⟩))],
   [(b3,.cells (nca L) 208 (0,0)),(b2,.cells (nca (List.replicate 25 0)) 208 (0,0)),(b1,.cells (nca (rrF L (5 * y+x))) 208 (0,0))]))
   (fun x=>x≤5) (fun x=>5 - x) 0 (yT _) ⟨rfl,rfl,rfl,rfl,rfl,rfl,trivial⟩ (jG _) ?_
  intro x hx
  dsimp only at hx ⊢
  have hrl:=rrF_len L (5 * y+x)
  rcases jM x 5 with hx5|hx5
  ·(refine goZ ?_;refine anz 28 ?_;apply qG;rfl;rfl;rfl;exact zC;rfl;apply zP;exact zN;apply rd_nca;omega;refine goZ ?_;apply qG;rfl;rfl;rfl;exact zC;rfl;apply zP;exact zN;apply rd_nca;omega;refine goZ ?_;apply qG;rfl;rfl;rfl;exact zC;rfl;apply zP;exact zN;apply rd_nca;omega;apply DW.v0;rfl;rfl;rfl;exact zC;rfl;apply ValP.andNotU;rfl;rfl;exact hb _;exact hb _;apply DW.v0;rfl;rfl;rfl;exact zC;rfl;apply ValP.xorU;rfl;rfl;exact hb _;apply and64;omega;refine goZ ?_;apply zR;rfl;rfl;apply qE;apply qE;apply qA;apply wr_nca;omega;refine goZ ?_)
   refine thenX ⟨rfl,x+1,hx5,by omega,⟨rfl,rfl,rfl,rfl,rfl,rfl,trivial⟩,?_⟩
   rw [← Nat.add_assoc,rrF_step L x y hx5]
   exact jG _
  ·obtain rfl:x=5:=by omega
   (refine goZ ?_)
   refine thenX ⟨rfl,y+1,hy5,by omega,⟨rfl,rfl,rfl,rfl,trivial⟩,?_⟩
   rw [show 5 * (y+1)=5 * y+5 by omega]
   exact jG _
 ·obtain rfl:y=5:=by omega
  have hrl:=rrF_len L (5 * 5)
  have hrl2:(rrF L (5 * 5)).length=25:=by omega
  have hz:(List.replicate 25 0:List Nat).length=25:=rfl
  (refine goZ ?_;apply LW.load;rfl;rfl;apply qH;apply zX;apply zX;apply zY;apply rd_ncaW;assumption;apply zR;rfl;rfl;apply qE;apply qA;apply wr_ncaW;assumption;assumption;refine goZ ?_)
  (apply finR;exact .inl rfl;rfl;rfl;rfl;apply zD;apply zH;rfl;apply qH;apply zX;apply zY;apply rd_ncaW;assumption;exact zF)
  rfl
theorem rRound_calls (L:List Nat) (n:Nat) (hn:n < 24) (hL:L.length=25) (hb:∀ i,L.getD i 0 < 18446744073709551616) (w:World):Calls prog 237 #[.agg (nca L),.int .i64 (n:Int)] w (Ret w (.agg (nca (roundL L (numL.getD n 0))))):=by
 have hM:∀ w',Calls prog 245 #[.agg (nca L)] w' (Ret w' (.agg (nca (mixL L)))):=rMix_calls L hL hb
 have hR:∀ w',Calls prog 244 #[.agg (nca (mixL L))] w' (Ret w' (.agg (nca (rowsL (mixL L))))):=rRows_calls _ (mixL_len L) (mixL_lt L hb)
 have hNu:=Number_calls n hn
 have hnb:=numL_lt n hn
 have hrb:=rowsL_lt _ (mixL_lt L hb)
 have hl1:=mixL_len L
 have hl2:=rowsL_len (mixL L)
 have hl3:((rowsL (mixL L)).set 0 ((rowsL (mixL L)).getD 0 0 ^^^ numL.getD n 0)).length=25:=by rw [List.length_set,hl2]
 have he:roundL L (numL.getD n 0)=(rowsL (mixL L)).set 0 ((rowsL (mixL L)).getD 0 0 ^^^ numL.getD n 0):=by unfold roundL;rfl
 rw [he]
 refine enter (args:=[_,_]) _ [] [] func237 rfl ntmps237 rfl (by simp) .nil ?_
 (refine goZ ?_;intro _ _;apply LW.load;rfl;rfl;apply qH;apply zX;apply zY;apply rd_ncaW;assumption;refine cEv hM ?_;refine cEv hR ?_;apply zR;rfl;rfl;apply qE;apply qA;apply wr_ncaW;assumption;assumption;refine goZ ?_;refine anz 4 ?_;apply qG;rfl;rfl;rfl;exact zC;rfl;apply zO;apply zP;exact zN;apply rd_nca0;omega;refine goZ ?_;refine dcz (c:=fun w _ _=>by exact hNu w) (k:=?_);apply qN;rfl;rfl;apply ValP.xorU;rfl;rfl;exact hrb _;assumption;refine goZ ?_;apply zR;rfl;rfl;apply qE;apply qA;apply wr_nca0;omega;refine goZ ?_;apply LW.load;rfl;rfl;apply qH;apply zX;apply zY;apply rd_ncaW;assumption;apply zR;rfl;rfl;apply qA;apply wr_ncaO;rfl;assumption;refine goZ ?_)
 (apply finR;exact .inl rfl;rfl;rfl;rfl;apply zD;apply zH;rfl;apply qH;apply zY;apply rd_ncaW;assumption;exact zF)
 rfl
theorem permF_z (L:List Nat):permF L 0=L:=by unfold permF;rfl
theorem rPermute_calls (L:List Nat) (hL:L.length=25) (hb:∀ i,L.getD i 0 < 18446744073709551616) (w:World):Calls prog 229 #[.agg (nca L)] w (Ret w (.agg (nca (permL L)))):=by
 refine enter (args:=[_]) _ [] [] func229 rfl ntmps229 rfl (by simp) .nil ?_
 (refine goZ ?_;intro _ _)
 rename_i b1 b2
 refine qM (fun k:Nat=>([(4,.int .i64 (k:Int)),(2,.pointer (some ⟨b2,0,none⟩)),(1,.pointer (some ⟨b1,0,none⟩))],
  [(b2,.cells (nca (List.replicate 25 0)) 208 (0,0)),(b1,.cells (nca (permF L k)) 208 (0,0))]))
  (fun k=>k≤24) (fun k=>24 - k) 0 (yT _) ⟨rfl,rfl,rfl,trivial⟩ (by dsimp only;rw [permF_z];exact jG _) ?_
 intro k hk
 dsimp only at hk ⊢
 have hlen:=permF_len L hL k
 rcases jM k 24 with hk4|hk4
 ·have hRd:∀ w',Calls prog 237 #[.agg (nca (permF L k)),.int .i64 (k:Int)] w' (Ret w' (.agg (nca (roundL (permF L k) (numL.getD k 0))))):=rRound_calls _ k hk4 hlen (permF_lt L hb k hk)
  have hlen':=roundL_len (permF L k) (numL.getD k 0)
  (refine goZ ?_;apply LW.load;rfl;rfl;apply qH;apply zX;apply zY;apply rd_ncaW;assumption;refine goZ ?_;refine cEv hRd ?_;apply zR;rfl;rfl;apply qE;apply qA;apply wr_ncaW;assumption;assumption;refine goZ ?_)
  refine thenX ⟨rfl,k+1,hk4,by omega,⟨rfl,rfl,rfl,trivial⟩,?_⟩
  rw [permF_step]
  exact jG _
 ·obtain rfl:k=24:=by omega
  have hlr:(List.replicate 25 0:List Nat).length=25:=rfl
  have hpe:permL L=permF L 24:=by unfold permL;rfl
  rw [hpe]
  exact dTDfRz
end
end Go.Proofs.YtdeggbkbblfpoaaGreatDoor.SK
namespace Go.Proofs.YtdeggbkbblfpoaaGreatDoor.SK
open Go Go.RowKit SL
set_option maxRecDepth 8000
set_option linter.unusedSimpArgs false
set_option linter.unusedVariables false
def litO (p:List UInt8) (o:Nat):Nat→Nat
 |0=>0
 |k+1=>litO p o k |||((p.getD (o+k) 0).toNat * 2 ^ (8 * k) % 18446744073709551616)
theorem litO_lt (p:List UInt8) (o:Nat):∀ k,k≤8→litO p o k < 2 ^ (8 * k)
 |0,_=>by simp [litO]
 |k+1,hk=>by
  have ih:=litO_lt p o k (by omega)
  have hu:=(p.getD (o+k) 0).toNat_lt
  have h1:(p.getD (o+k) 0).toNat * 2 ^ (8 * k) < 2 ^ (8 * (k+1)):=by
   rw [show 8 * (k+1)=8+8 * k by omega,yV]
   exact Nat.mul_lt_mul_of_pos_right hu (Nat.pow_pos (by decide))
  rw [litO]
  exact Nat.or_lt_two_pow (Nat.lt_of_lt_of_le ih (yU (by decide) (by omega))) (yR (Nat.mod_le _ _) h1)
theorem or_xor {a b k:Nat} (h:a < 2 ^ k):a |||(b * 2 ^ k)=a ^^^ (b * 2 ^ k):=by
 apply Nat.eq_of_testBit_eq
 intro i
 rw [Nat.testBit_or,Nat.testBit_xor]
 rcases jM i k with hi|hi
 ·have:(b * 2 ^ k).testBit i=false:=by
   rw [Nat.testBit_mul_two_pow]
   have:¬ k≤i:=by omega
   simp [this]
  rw [this];simp
 ·have:a.testBit i=false:=Nat.testBit_lt_two_pow (Nat.lt_of_lt_of_le h (yU (by decide) hi))
  rw [this];simp
theorem byte_small {u k:Nat} (hu:u < 256) (hk:k < 8):u * 2 ^ (8 * k) % 18446744073709551616=u * 2 ^ (8 * k):=by
 apply jY
 have h1:u * 2 ^ (8 * k) < 2 ^ 8 * 2 ^ (8 * k):=Nat.mul_lt_mul_of_pos_right hu (Nat.pow_pos (by decide))
 rw [← yV] at h1
 exact Nat.lt_of_lt_of_le h1 (show 2 ^ (8+8 * k)≤2 ^ 64 from yU (by decide) (by omega))
theorem litO_xor (p:List UInt8) (o k:Nat) (hk:k < 8):litO p o (k+1)=litO p o k ^^^ ((p.getD (o+k) 0).toNat * 2 ^ (8 * k) % 18446744073709551616):=by
 have hu:=(p.getD (o+k) 0).toNat_lt
 rw [litO,byte_small hu hk]
 exact or_xor (litO_lt p o k (by omega))
def litS (L:List Nat) (p:List UInt8) (o:Nat):Nat→List Nat
 |0=>L
 |i+1=>(litS L p o i).set i ((litS L p o i).getD i 0 ^^^ litO p (o+8 * i) 8)
theorem litS_len (L:List Nat) (p:List UInt8) (o k:Nat):(litS L p o k).length=L.length:=by
 induction k with
 |zero=>rfl
 |succ k ih=>simp [litS,ih]
theorem soak_eight (L:List Nat) (p:List UInt8) (o i:Nat) (hi:i < L.length):∀ k,k≤8→soakF L p o (8 * i+k)=(soakF L p o (8 * i)).set i ((soakF L p o (8 * i)).getD i 0 ^^^ litO p (o+8 * i) k)
 |0,_=>by
  have hl:=soakF_len L p o (8 * i)
  rw [show litO p (o+8 * i) 0=0 from rfl,Nat.xor_zero,Nat.add_zero]
  apply List.ext_getElem?
  intro j
  rw [List.getElem?_set]
  split
  ·rename_i h;subst h
   rw [if_pos (by omega),jU,jO (by omega)];rfl
  ·rfl
 |k+1,hk=>by
  have ih:=soak_eight L p o i hi k (by omega)
  have hl:=soakF_len L p o (8 * i)
  rw [← Nat.add_assoc,soakF_succ,ih,show (8 * i+k) / 8=i by omega,show (8 * i+k) % 8=k by omega,litO_xor p _ k (by omega),List.set_set]
  have hg:∀ x:Nat,((soakF L p o (8 * i)).set i x).getD i 0=x:=fun x=>by
   rw [jU,List.getElem?_set_self (by omega)];rfl
  rw [hg,Nat.xor_assoc,show o+(8 * i+k)=o+8 * i+k by omega]
theorem litS_soak (L:List Nat) (p:List UInt8) (o:Nat):∀ i,i≤L.length→litS L p o i=soakF L p o (8 * i)
 |0,_=>rfl
 |i+1,hi=>by
  rw [litS,litS_soak L p o i (by omega),show 8 * (i+1)=8 * i+8 by omega,soak_eight L p o i hi 8 (yD _)]
theorem or_add {a b k:Nat} (h:a < 2 ^ k):a |||(b * 2 ^ k)=b * 2 ^ k+a:=by
 rw [Nat.or_comm,yZ]
 exact (Nat.two_pow_add_eq_or_of_lt h b).symm
end Go.Proofs.YtdeggbkbblfpoaaGreatDoor.SK
namespace Go.Proofs.YtdeggbkbblfpoaaGreatDoor.SK
open Go Go.RowKit SL
set_option maxRecDepth 8000
set_option maxHeartbeats 4000000
set_option linter.unusedSimpArgs false
set_option linter.unusedVariables false
attribute [local irreducible] SL.CW SL.LW SL.DW Calls SL.Ret SL.RetG SL.beginQ SL.roundQ SL.rangeQ SL.inQ SL.RW SL.AnyW SL.thenQ SL.thenC SL.thenW SL.blkQ SL.finQ SL.ValP SL.NewP SL.SetP SL.CallP SL.Rd SL.Wr SL.Known
section
def yF (p:List UInt8) (o:Nat):Nat→Nat
 |0=>0
 |m+1=>(256 * yF p o m % 18446744073709551616+(p.getD (o+(7 - m)) 0).toNat) % 18446744073709551616
theorem yF_zero (p:List UInt8) (o:Nat):yF p o 0=0:=rfl
theorem yF_succ (p:List UInt8) (o m:Nat):yF p o (m+1)=(256 * yF p o m % 18446744073709551616+(p.getD (o+(7 - m)) 0).toNat) % 18446744073709551616:=rfl
theorem yF_lt (p:List UInt8) (o m:Nat):yF p o m < 18446744073709551616:=by
 cases m with
 |zero=>exact Nat.zero_lt_succ _
 |succ m=>exact yS _ (by decide)
theorem litO_sum (p:List UInt8) (o k:Nat) (hk:k < 8):litO p o (k+1)=(p.getD (o+k) 0).toNat * 2 ^ (8 * k)+litO p o k:=by
 rw [litO,byte_small (p.getD (o+k) 0).toNat_lt hk]
 exact or_add (litO_lt p o k (by omega))
theorem yF_lit (p:List UInt8) (o:Nat):∀ m,m≤8→yF p o m < 256 ^ m∧litO p o 8=yF p o m * 256 ^ (8 - m)+litO p o (8 - m)
 |0,_=>⟨by simp [yF],by simp [yF]⟩
 |m+1,hm=>by
  obtain ⟨h1,h2⟩:=yF_lit p o m (by omega)
  have hu:=(p.getD (o+(7 - m)) 0).toNat_lt
  have hp:256 ^ m≤256 ^ 7:=yU (by decide) (by omega)
  have hp7:(256:Nat) ^ 7=72057594037927936:=by decide
  have hy:yF p o (m+1)=256 * yF p o m+(p.getD (o+(7 - m)) 0).toNat:=by
   rw [yF]
   have:256 * yF p o m < 18446744073709551616:=by omega
   rw [jY this]
   apply jY
   have h3:256 * yF p o m+256≤256 * 256 ^ m:=by
    have:=Nat.mul_le_mul_left 256 h1
    omega
   omega
  constructor
  ·rw [hy,Nat.pow_succ]
   have:=Nat.mul_le_mul_left 256 h1
   omega
  ·have e1:8 - m=(7 - m)+1:=by omega
   have hs:=litO_sum p o (7 - m) (by omega)
   rw [← e1] at hs
   rw [h2,hs,hy,show 8 - (m+1)=7 - m by omega,e1,Nat.pow_succ,show 2 ^ (8 * (7 - m))=256 ^ (7 - m) by rw [Nat.pow_mul]]
   generalize 256 ^ (7 - m)=q
   generalize yF p o m=y
   generalize (p.getD (o+(7 - m)) 0).toNat=u
   rw [Nat.add_mul,Nat.add_assoc]
   congr 1
   rw [yZ q 256,← Nat.mul_assoc,yZ y 256]
theorem yF_all (p:List UInt8) (o:Nat):yF p o 8=litO p o 8:=by
 have:=(yF_lit p o 8 (yD _)).2
 simpa [litO] using this.symm
structure QX where
 k:Nat
 o:Nat
theorem ValP.cutFromAny {P:Program} {e:Env} {T E:TypeId} {x lo:Operand} {b o n c k:Nat} {il:IntKind} {z:Value} (hU:UnI P T (.slice E)) (hI:InfoI P E 1 z) (hx:e.ev x=some (.slice (some ⟨b,o,none⟩) n c)) (hl:e.ev lo=some (.int il (OfNat.ofNat k))) (_:k=k) (hk:(OfNat.ofNat k:Nat)≤n):ValP P e [] (.slice T x (some lo) none none) (.slice (some ⟨b,if c=(OfNat.ofNat k:Nat) then o else o+(OfNat.ofNat k:Nat),none⟩) (n - (OfNat.ofNat k:Nat)) (c - (OfNat.ofNat k:Nat))):=by
 have h:=ValP.cutFrom (P:=P) (k:=(OfNat.ofNat k:Nat)) hU hI hx hl hk
 have e1:cutAt (some ⟨b,o,none⟩) (OfNat.ofNat k:Nat) n c 1=.slice (some ⟨b,if c=(OfNat.ofNat k:Nat) then o else o+(OfNat.ofNat k:Nat),none⟩) (n - (OfNat.ofNat k:Nat)) (c - (OfNat.ofNat k:Nat)):=by
  unfold cutAt
  split<;>simp [Addr.add]
 rwa [e1] at h
theorem litS_z (L:List Nat) (p:List UInt8) (o:Nat):litS L p o 0=L:=rfl
theorem litS_s (L:List Nat) (p:List UInt8) (o i:Nat):litS L p o (i+1)=(litS L p o i).set i ((litS L p o i).getD i 0 ^^^ litO p (o+8 * i) 8):=rfl
attribute [local irreducible] padB sumB permL soakF sumF litS litO idF yF
theorem rSum_calls (b:List UInt8) (v:Value) (w:World) (hv:RowAt w 1 v b.length (ucs b)) (hb:b.length≤100000):Calls prog 213 #[v] w (Ret w (.agg (uca (sumB b)))):=by
 have hPad:∀ w' {fs},St w [] fs w'→Calls prog 228 #[v] w' (RetG w' [] (RowR (padB b))):=fun w' fs hst=>rPad_calls b v w' (hv.st hst) hb
 obtain ⟨p0,c0,rfl,_,_⟩:=hv.form
 obtain ⟨P,hPe⟩:∃ P,P=padB b:=⟨_,rfl⟩
 obtain ⟨N,hNe⟩:∃ N,N=padC b.length:=⟨_,rfl⟩
 have hlP:P.length=136 * N:=by rw [hPe,hNe,padB_len,padN,padC];omega
 have hNb:0 < N∧N≤1000:=by rw [hNe,padC];omega
 refine enter (args:=[_]) _ [] [] func213 rfl ntmps213 rfl (by simp) .nil ?_
 (refine goZ ?_;intro _ _)
 refine LW.callR rfl rfl vF agZ (fun w hst=>hPad w hst) ?_
 intro v1 gs1 hrow
 replace hrow:IsRow 5 1 v1 (padB b).length (ucs (padB b)) gs1:=hrow
 rw [← hPe] at hrow
 obtain ⟨p1,c1,rfl⟩:=hrow.form
 obtain ⟨g,cur,rfl,rfl,hc1,hmx,hsz,ht⟩:=hrow.pos (by omega)
 simp only [maxLen] at hmx
 have hcg:∀ j,j < P.length→cur[j]?=some (.int .u8 ((P.getD j 0).toNat:Int)):=fun j hj=>by
  have h1:=congrArg (·[j]?) ht
  simp only [yE] at h1
  rw [List.getElem?_take,if_pos hj] at h1
  have h2:=uca_get P j hj
  rw [← Array.getElem?_toList,h1]
  simpa [uca] using h2
 refine laZ ?_
 (refine goZ ?_)
 rename_i bi bl
 refine qM (fun x:QX=>([(4,.slice (some ⟨g,x.o,none⟩) (P.length - 136 * x.k) (c1 - 136 * x.k)),(3,.pointer (some ⟨bl,0,none⟩)),(2,.pointer (some ⟨bi,0,none⟩))],
  [(g,.cells cur 5 (0,0)),(bl,.cells (nca (sumF P x.k)) 208 (0,0)),(bi,.cells (uca (List.replicate 32 0)) 196 (0,0))]))
  (fun x=>x.k≤N∧(x.k < N→x.o=136 * x.k)) (fun x=>N - x.k) ⟨0,0⟩ ⟨Nat.zero_le _,fun _=>rfl⟩ ⟨rfl,rfl,rfl,trivial⟩ (by dsimp only;rw [sumF_zero];exact jG _) ?_
 rintro ⟨c,o⟩ ⟨hc,ho⟩
 dsimp only at hc ho ⊢
 have hls':=sumF_len P c
 rcases jM c N with hcN|hcN
 ·obtain rfl:=ho hcN
  (refine goZ ?_)
  refine qM (fun i:Nat=>([(17,.int .i64 (i:Int)),(4,.slice (some ⟨g,136 * c,none⟩) (P.length - 136 * c) (c1 - 136 * c)),(3,.pointer (some ⟨bl,0,none⟩)),(2,.pointer (some ⟨bi,0,none⟩))],
   [(g,.cells cur 5 (0,0)),(bl,.cells (nca (litS (sumF P c) P (136 * c) i)) 208 (0,0)),(bi,.cells (uca (List.replicate 32 0)) 196 (0,0))]))
   (fun i=>i≤17) (fun i=>17 - i) 0 (yT _) ⟨rfl,rfl,rfl,rfl,trivial⟩ ?_ ?_
  ·dsimp only
   rw [litS_z]
   exact jG _
  intro i hi
  dsimp only at hi ⊢
  have hls:=litS_len (sumF P c) P (136 * c) i
  have hso:=litS_soak (sumF P c) P (136 * c) i (by omega)
  have hsb:∀ j,(litS (sumF P c) P (136 * c) i).getD j 0 < 18446744073709551616:=by rw [hso];exact soakF_lt _ P (136 * c) (sumF_lt P c) (8 * i)
  rcases jM i 17 with hi7|hi7
  ·(refine goZ ?_)
   refine qM (fun m:Nat=>([(7,.int .i64 ((7:Int) - (m:Int))),(6,.int .u64 (yF P (136 * c+8 * i) m:Int)),(5,.int .i64 (i:Int)),(17,.int .i64 (i:Int)),(4,.slice (some ⟨g,136 * c,none⟩) (P.length - 136 * c) (c1 - 136 * c)),(3,.pointer (some ⟨bl,0,none⟩)),(2,.pointer (some ⟨bi,0,none⟩))],
    [(g,.cells cur 5 (0,0)),(bl,.cells (nca (litS (sumF P c) P (136 * c) i)) 208 (0,0)),(bi,.cells (uca (List.replicate 32 0)) 196 (0,0))]))
    (fun m=>m≤8) (fun m=>8 - m) 0 (yT _) ?_ (jG _) ?_
   ·dsimp only
    rw [yF_zero]
    exact dTDkOq
   intro m hm
   dsimp only at hm ⊢
   have hyl:=yF_lt P (136 * c+8 * i) m
   rcases jM m 8 with hm8|hm8
   ·have e0:((7:Int) - (m:Int))=((7 - m:Nat):Int):=by omega
    have e2:((7 - m:Nat):Int) - 1=(7:Int) - ((m+1:Nat):Int):=by omega
    rw [e0]
    have hbt:(P.getD (136 * c+8 * i+(7 - m)) 0).toNat < 256:=UInt8.toNat_lt _
    have hrd:Rd prog 5 (.cells cur 5 (0,0)) (136 * c+(8 * i+(7 - m)) * 1) (.int .u8 ((P.getD (136 * c+8 * i+(7 - m)) 0).toNat:Int)):=Rd.one (by rw [yE,← Nat.add_assoc];exact hcg _ (by omega))
    (refine goZ ?_;refine lvz (.mulNK rfl rfl (by decide)) ?_;refine goZ ?_;refine lvz (.addN rfl rfl) ?_;refine goZ ?_;refine lvz (.subI rfl rfl (by omega) (by omega)) ?_;refine goZ ?_)
    refine thenX ⟨rfl,m+1,hm8,by omega,?_,jG _⟩
    rw [yF_succ,← e2]
    exact dTDkOq
   ·obtain rfl:m=8:=by omega
    rw [yF_all] at hyl ⊢
    (refine goZ ?_;apply LW.load;rfl;rfl;apply qH;apply zX;apply zY;apply rd_nca;omega;refine goZ ?_;apply qN;rfl;rfl;apply ValP.xorU;rfl;rfl;exact hsb _;assumption;refine goZ ?_;apply zR;rfl;rfl;apply qE;apply qA;apply wr_nca;omega;refine goZ ?_)
    refine thenX ⟨rfl,i+1,hi7,by omega,⟨rfl,rfl,rfl,rfl,trivial⟩,?_⟩
    rw [litS_s]
    exact jG _
  ·obtain rfl:i=17:=by omega
   rw [show 8 * 17=136 from rfl] at hso
   rw [hso] at hsb hls ⊢
   have hls2:(soakF (sumF P c) P (136 * c) 136).length=25:=by omega
   have hPerm:∀ w',Calls prog 229 #[.agg (nca (soakF (sumF P c) P (136 * c) 136))] w' (Ret w' (.agg (nca (permL (soakF (sumF P c) P (136 * c) 136))))):=rPermute_calls _ hls2 hsb
   have hlp:=permL_len (soakF (sumF P c) P (136 * c) 136) hls2
   have e3:P.length - 136 * c - 136=P.length - 136 * (c+1):=by omega
   have e4:c1 - 136 * c - 136=c1 - 136 * (c+1):=by omega
   (refine goZ ?_;apply LW.load;rfl;rfl;apply qH;apply zX;apply zY;apply rd_ncaW;assumption;refine cEv hPerm ?_;apply zR;rfl;rfl;apply qE;apply qA;apply wr_ncaW;assumption;assumption;refine goZ ?_;apply qN;rfl;rfl;apply ValP.cutFromAny;exact vF;exact vF;rfl;rfl;decide;omega;refine goZ ?_)
   refine thenX ⟨rfl,⟨c+1,if c1 - 136 * c=136 then 136 * c else 136 * c+136⟩,⟨hcN,fun h=>?_⟩,?_,?_,?_⟩
   ·dsimp only at h ⊢
    rw [if_neg (by omega)]
    omega
   ·dsimp only
    omega
   ·dsimp only
    rw [← e3,← e4]
    exact ⟨rfl,rfl,rfl,trivial⟩
   ·dsimp only
    rw [sumF_succ]
    exact jG _
 ·obtain rfl:c=N:=by omega
  have hLb:=sumF_lt P c
  have hI:sumB b=idF (sumF P c) 32:=by rw [hPe,hNe];unfold sumB;rfl
  rw [hI]
  generalize sumF P c=L at *
  (refine goZ ?_;intro _)
  rename_i bd
  refine qM (fun i:Nat=>([(46,.int .i64 (i:Int)),(8,.pointer (some ⟨bd,0,none⟩)),(3,.pointer (some ⟨bl,0,none⟩)),(2,.pointer (some ⟨bi,0,none⟩))],
   [(bd,.cells (uca (idF L (8 * i))) 196 (0,0)),(bl,.cells (nca L) 208 (0,0)),(bi,.cells (uca (List.replicate 32 0)) 196 (0,0))]))
   (fun i=>i≤4) (fun i=>4 - i) 0 (yT _) ⟨rfl,rfl,rfl,rfl,trivial⟩ ?_ ?_
  ·dsimp only
   rw [Nat.mul_zero,idF_zero]
   (apply jP;apply jK;exact jG _)
  intro i hi
  dsimp only at hi ⊢
  rcases jM i 4 with hi4|hi4
  ·(refine goZ ?_;apply LW.load;rfl;rfl;apply qH;apply zX;apply zY;apply rd_nca;omega;refine goZ ?_)
   refine qM (fun k:Nat=>([(52,.int .i64 (k:Int)),(10,.int .u64 ((L.getD i 0 / 2 ^ (8 * k):Nat):Int)),(9,.int .i64 (i:Int)),(46,.int .i64 (i:Int)),(8,.pointer (some ⟨bd,0,none⟩)),(3,.pointer (some ⟨bl,0,none⟩)),(2,.pointer (some ⟨bi,0,none⟩))],
    [(bd,.cells (uca (idF L (8 * i+k))) 196 (0,0)),(bl,.cells (nca L) 208 (0,0)),(bi,.cells (uca (List.replicate 32 0)) 196 (0,0))]))
    (fun k=>k≤8) (fun k=>8 - k) 0 (yT _) ?_ (jG _) ?_
   ·dsimp only
    rw [Nat.mul_zero,Nat.pow_zero,Nat.div_one]
    exact dTDkOq
   intro k hk
   dsimp only at hk ⊢
   have hil:=idF_len L (8 * i+k)
   have hxl:L.getD i 0 / 2 ^ (8 * k) < 18446744073709551616:=yR (Nat.div_le_self _ _) (hLb i)
   rcases jM k 8 with hk8|hk8
   ·have hstep:=idF_succ L (8 * i+k)
    rw [show (8 * i+k) / 8=i by omega,show (8 * i+k) % 8=k by omega] at hstep
    have hdiv:L.getD i 0 / 2 ^ (8 * (k+1))=L.getD i 0 / 2 ^ (8 * k) / 256:=by
     rw [yO,show 8 * (k+1)=8 * k+8 by omega,yV]
    generalize L.getD i 0 / 2 ^ (8 * k)=x at *
    (refine goZ ?_;refine lvz (.remNL rfl rfl (by decide) (by omega)) ?_;refine goZ ?_;apply zR;rfl;rfl;apply qA;apply wr_uca;omega;exact yS _ (by decide);refine goZ ?_;refine lvz (.quoNL rfl rfl (by decide) (by omega) (by omega)) ?_;refine goZ ?_)
    refine thenX ⟨rfl,k+1,hk8,by omega,?_,?_⟩
    ·rw [hdiv]
     exact dTDkOq
    ·rw [← Nat.add_assoc,hstep,Nat.mod_mod]
     exact jG _
   ·obtain rfl:k=8:=by omega
    (refine goZ ?_)
    refine thenX ⟨rfl,i+1,hi4,by omega,⟨rfl,rfl,rfl,rfl,trivial⟩,?_⟩
    rw [show 8 * (i+1)=8 * i+8 by omega]
    exact jG _
  ·obtain rfl:i=4:=by omega
   have hil:=idF_len L (8 * 4)
   have hz:(List.replicate 32 (0:UInt8)).length=32:=rfl
   (refine goZ ?_;apply LW.load;rfl;rfl;apply qH;apply zY;apply rd_ucaW;assumption;apply zR;rfl;rfl;apply qE;apply qE;apply qA;apply wr_ucaW;assumption;assumption;refine goZ ?_)
   (apply finR;exact .inl rfl;rfl;rfl;rfl;apply zD;apply zH;rfl;apply qH;apply zX;apply zX;apply zY;apply rd_ucaW;assumption;exact zF)
   rfl
end
end Go.Proofs.YtdeggbkbblfpoaaGreatDoor.SK
namespace Go.Proofs.YtdeggbkbblfpoaaGreatDoor
open Go Go.RowKit SL
set_option maxRecDepth 8000
set_option maxHeartbeats 4000000
set_option linter.unusedSimpArgs false
set_option linter.unusedVariables false
attribute [local irreducible] SL.CW SL.LW SL.DW Calls SL.Ret SL.RetG SL.beginQ SL.roundQ SL.rangeQ SL.inQ SL.RW SL.AnyW SL.thenQ SL.thenC SL.thenW SL.blkQ SL.finQ SL.ValP SL.NewP SL.SetP SL.CallP SL.Rd SL.Wr SL.Known
theorem CloneW_calls (l:List Nat) (v:Value) (w:World) (hv:RowAt w 4 v l.length (wcs l)) (hl:l.length≤100000):Calls prog 27 #[v] w (RetG w [] (fun v' gs=>IsRow 29 4 v' l.length (wcs l) gs)):=by
 obtain ⟨p,c,rfl,_,_⟩:=hv.form
 cases p with
 |none =>
  have h0:l.length=0:=by
   rcases yB l.length with h|h
   ·exact h
   ·obtain ⟨_,_,_,_,_,_,he,_,_⟩:=hv.pos h
    cases he
  have hn:l=[]:=List.length_eq_zero_iff.1 h0
  subst hn
  refine enter (args:=[_]) _ [] [] func27 rfl ntmps27 rfl (by simp) .nil ?_
  (refine goZ ?_;apply qN;rfl;rfl;apply ValP.sliNilT;rfl;rfl;refine goZ ?_)
  exact fin [] (.inl rfl) rfl rfl rsZ (jG _) .nil
 |some a =>
  refine enter (args:=[_]) _ [] [] func27 rfl ntmps27 rfl (by simp) .nil ?_
  (refine goZ ?_;apply qN;rfl;rfl;apply ValP.sliNilF;rfl;rfl;refine goZ ?_)
  refine LW.lay0 rfl vF vF fun v0 seg hrow=>?_
  (refine goZ ?_)
  (apply LW.appendAny;(case hrow=>assumption);rfl;rfl;exact vF;exact vF;exact vF;rfl;rfl;rfl;exact qJ)
  ·exact fun w hs=>hv.st hs
  ·exact wcs_cells l
  ·simp only [maxLen];omega
  ·omega
  intro v1 seg1 hrow1
  refine ⟨_,(by (exact qJ)),?_⟩
  simp only [jQ,jH,yM] at hrow1 ⊢
  (refine goZ ?_)
  refine fin (vs:=[v1]) seg1 (.inl rfl) rfl rfl rsZ ?_ hrow1
  (exact jG _)
def wM (l:List Nat) (v:Value) (gs:Fs):Prop:=IsRow 29 4 v l.length (wcs l) gs
def bM (l:List UInt8) (v:Value) (gs:Fs):Prop:=IsRow 5 1 v l.length (ucs l) gs
def ScO (ws:List Nat) (ms:List UInt8) (v:Value) (gs:Fs):Prop:=∃ s m g1 g2,v=.agg #[s,m]∧gs=g2++g1∧wM ws s g1∧bM ms m g2
theorem copied_calls (ws:List Nat) (ms:List UInt8) (s m:Value) (w:World) (hs:RowAt w 4 s ws.length (wcs ws)) (hm:RowAt w 1 m ms.length (ucs ms)) (hl:ws.length≤100000) (hl2:ms.length≤100000) :
  Calls prog 135 #[.agg #[s,m]] w (RetG w [] (ScO ws ms)):=by
 obtain ⟨p,c,rfl,_,_⟩:=hs.form
 obtain ⟨p2,c2,rfl,_,_⟩:=hm.form
 refine enter (args:=[_]) _ [] [] func135 rfl ntmps135 rfl (by simp) .nil ?_
 (refine goZ ?_;intro _ _)
 rename_i b1 b2
 apply CW.pre
 (refine qY [(2,wM ws),(5,bM ms)] 5 mixed (by decide +kernel) ?_)
 (refine tsZ ?_)
 (apply DW.manyV;rfl;rfl;rfl;exact zC;rfl;exact vF;exact .cons rfl .nil;apply RdV.ext;assumption;rfl;exact RdV.nil;intro w _ _)
 exact CloneW_calls _ _ w (hs.bel (by assumption)) hl
 intro v1 g1 h1
 (refine tsZ ?_)
 (refine crz (c:=fun w hs=>by exact SK.Clone_calls _ _ w (hm.st hs) hl2) (k:=?_))
 intro v2 g2 h2
 have h1':=h1
 have h2':=h2
 unfold wM at h1'
 unfold bM at h2'
 obtain ⟨q1,k1,rfl⟩:=h1'.form
 obtain ⟨q2,k2,rfl⟩:=h2'.form
 (refine bTz ?_)
 refine fin (vs:=[.agg #[.slice q1 ws.length k1,.slice q2 ms.length k2]]) (g2++g1) (.inl rfl) rfl rfl rsZ ?_ ⟨_,_,g1,g2,rfl,rfl,h1,h2⟩
 exact jL (jJ _ _) _
section
theorem dQBlKy {P Q:Prop} (k:Q) (h:BoxZ Q→P:=by
 intro kQ
 (refine crz (c:=fun w hs=>by exact copied_calls ws ms _ _ w (hs0.st hs) (hm0.st hs) (by omega) (by omega)) (k:=?_))
 exact kQ.k):P:=h ⟨k⟩
theorem dTBxIv {P:Prop} (h:P:=by
 have h:=scCheck_calls p p2 ws.length c ms.length c2 (by omega) (by omega) w
 rwa [if_pos hok] at h):P:=h
section wr
variable {P : Program} {T E : TypeId} {s m z : Value} {p : Option Addr} {n c : Nat}
theorem sc_wr0 [InfoI P T 1 z]:Wr P T (.cells #[s,m] E (0,0)) 0 (.slice p n c) (.cells #[.slice p n c,m] E (0,0)):=qU (n:=1) (z:=z) rfl rfl (by show 0+1≤2;omega) rfl
theorem sc_wr1 [InfoI P T 1 z]:Wr P T (.cells #[s,m] E (0,0)) 1 (.slice p n c) (.cells #[s,.slice p n c] E (0,0)):=qU (n:=1) (z:=z) rfl rfl (by show 1+1≤2;omega) rfl
end wr
theorem push_full (ws:List Nat) (ms:List UInt8) (l:List Nat) (s m v:Value) (w:World) (hs:RowAt w 4 s ws.length (wcs ws)) (hm:RowAt w 1 m ms.length (ucs ms)) (hv:RowAt w 4 v l.length (wcs l)) (hok:okSc ws.length ms.length) (hll:l.length≤100000) (hf:64 < ws.length+l.length) :
  Calls prog 119 #[.agg #[s,m],v] w (Ret w (.tuple #[.agg #[.slice none 0 0,.slice none 0 0],.int .i64 6])):=by
 obtain ⟨p,c,rfl,_,hc⟩:=hs.form
 obtain ⟨p2,c2,rfl,_,hc2⟩:=hm.form
 obtain ⟨p3,c3,rfl,_,_⟩:=hv.form
 have hC:∀ w,Calls prog 84 #[.agg #[.slice p ws.length c,.slice p2 ms.length c2]] w (Ret w (.int .i64 0)):=fun w=>by
  exact dTBxIv
 have hok2:=hok
 unfold okSc at hok2
 obtain ⟨hn1,hk1,hk2⟩:=hok2
 refine enter (args:=[_,_]) _ [] [] func119 rfl ntmps119 rfl (by simp) .nil ?_
 (refine goZ ?_;intro _ _;refine cEv hC ?_;refine bTz ?_)
 (refine fiz ?_)
 rfl
theorem push_ok (ws:List Nat) (ms:List UInt8) (l:List Nat) (s m v:Value) (w:World) (hs:RowAt w 4 s ws.length (wcs ws)) (hm:RowAt w 1 m ms.length (ucs ms)) (hv:RowAt w 4 v l.length (wcs l)) (hok:okSc ws.length ms.length) (hll:l.length≤100000) (hf:ws.length+l.length≤64) :
  Calls prog 119 #[.agg #[s,m],v] w (RetG w [] (fun r gs=>∃ o,r=.tuple #[o,.int .i64 0]∧ScO (ws++l) ms o gs)):=by
 have hs0:=hs
 have hm0:=hm
 obtain ⟨p,c,rfl,_,hc⟩:=hs.form
 obtain ⟨p2,c2,rfl,_,hc2⟩:=hm.form
 obtain ⟨p3,c3,rfl,_,_⟩:=id hv.form
 have hC:∀ w,Calls prog 84 #[.agg #[.slice p ws.length c,.slice p2 ms.length c2]] w (Ret w (.int .i64 0)):=fun w=>by
  exact dTBxIv
 have hok2:=hok
 unfold okSc at hok2
 obtain ⟨hn1,hk1,hk2⟩:=hok2
 refine enter (args:=[_,_]) _ [] [] func119 rfl ntmps119 rfl (by simp) .nil ?_
 (refine goZ ?_;intro _ _;refine cEv hC ?_)
 refine dQBlKy ?_
 rintro vo gso ⟨s1,m1,g1,g2,rfl,rfl,h1,h2⟩
 have h1':=h1
 have h2':=h2
 unfold wM at h1'
 unfold bM at h2'
 obtain ⟨q1,k1,rfl⟩:=h1'.form
 obtain ⟨q2,k2,rfl⟩:=h2'.form
 (refine goZ ?_;intro _)
 rw [jR]
 (apply LW.appendAny;(case hrow=>exact h1');rfl;rfl;exact vF;exact vF;exact vF;rfl;rfl;rfl;(apply qK;apply qL;exact qJ))
 ·exact fun w hs=>hv.st hs
 ·exact wcs_cells l
 ·simp only [maxLen];omega
 ·omega
 intro v1 seg1 hrow1
 refine ⟨_,(by (apply qK;apply qL;exact qJ)),?_⟩
 simp only [jQ,jH,yM] at hrow1 ⊢
 obtain ⟨q3,k3,rfl⟩:=hrow1.form
 (refine vFz ?_;refine zR rfl rfl .head sc_wr0<|nSz<|ldz rfl .head (qI rfl) ?_;refine zR rfl rfl (.tail (.app (.app .head))) (.whole rfl rfl rfl)<|vAz<|nNz<|zK ?_)
 refine fin (vs:=[.agg #[.slice q3 (ws.length+l.length) k3,.slice q2 ms.length k2],.int .i64 0]) (g2++seg1) (.inl rfl) rfl rfl rsZ ?_ ⟨_,rfl,_,_,seg1,g2,rfl,rfl,?_,h2⟩
 ·exact jK _ (jL (jJ _ _) _)
 ·unfold wM
  rw [yC,wcs_app]
  exact hrow1
end
section
attribute [local irreducible] SL.inP
theorem lay_ok (w0:World) (S:List Nat) (b:Nat) (m:MaV) (ws:List Nat) (ms:List UInt8) (l:List Nat) (v:Value) (rest:Fs) (w:World) (hs:St w0 S ((b,maO m)::rest) w)
  (h1:∀ w',St w0 S ((b,maO m)::rest) w'→RowAt w' 4 m.fr.stk ws.length (wcs ws)∧RowAt w' 1 m.fr.mem ms.length (ucs ms)∧RowAt w' 4 v l.length (wcs l)) (hok:okSc ws.length ms.length) (hll:l.length≤100000) (hf:ws.length+l.length≤64) :
  Calls prog 74 #[.pointer (some ⟨b,0,none⟩),v] w (fun x w'=>∃ fs',(x=.returned (.tuple #[])∧∃ s k gs c4,ScO (ws++l) ms (.agg #[s,k]) gs∧fs'=c4::(gs++(b,maO (m.setSc s k))::rest))∧St w0 S fs' w'):=by
 refine qX (K:=fun x fs'=>x=.returned (.tuple #[])∧∃ s k gs c4,ScO (ws++l) ms (.agg #[s,k]) gs∧fs'=c4::(gs++(b,maO (m.setSc s k))::rest)) (args:=[_,_]) func74 rfl ntmps74 rfl ?_ hs
 (refine sRz<|vMz<|vNz<|vFz<|vFz<|ldz rfl .head ma_rd2<|vMz ?_)
 (apply LW.callR;rfl;rfl;exact vF;exact .cons rfl (.cons rfl .nil);intro w hs)
 exact push_ok ws ms l _ _ _ w (h1 w hs).1 (h1 w hs).2.1 (h1 w hs).2.2 hok hll hf
 rintro vo gso ⟨o,rfl,s1,m1,g1,g2,rfl,rfl,hw1,hb1⟩
 have hw1':=hw1
 have hb1':=hb1
 unfold wM at hw1'
 unfold bM at hb1'
 obtain ⟨q1,k1,rfl⟩:=hw1'.form
 obtain ⟨q2,k2,rfl⟩:=hb1'.form
 (refine goZ ?_;intro _;refine cEv need_true ?_;refine zR rfl rfl (.tail (.app .head)) (ma_wr2 rfl rfl rfl rfl) ?_;refine goZ ?_)
 exact inPI (.inr rfl) .nil rfl .nil rfl ⟨rfl,_,_,g2++g1,_,⟨_,_,g1,g2,rfl,rfl,hw1,hb1⟩,rfl⟩
theorem lay_full (w0:World) (S:List Nat) (b:Nat) (m:MaV) (ws:List Nat) (ms:List UInt8) (l:List Nat) (v:Value) (rest:Fs) (w:World) (hs:St w0 S ((b,maO m)::rest) w)
  (h1:∀ w',St w0 S ((b,maO m)::rest) w'→RowAt w' 4 m.fr.stk ws.length (wcs ws)∧RowAt w' 1 m.fr.mem ms.length (ucs ms)∧RowAt w' 4 v l.length (wcs l)) (hok:okSc ws.length ms.length) (hll:l.length≤100000) (hf:64 < ws.length+l.length) :
  Calls prog 74 #[.pointer (some ⟨b,0,none⟩),v] w (fun x w'=>∃ fs',(x=.panicked failC∧∃ c4,fs'=c4::(b,maO m)::rest)∧St w0 S fs' w'):=by
 have hP:∀ w',St w0 S ((b,maO m)::rest) w'→Calls prog 119 #[.agg #[m.fr.stk,m.fr.mem],v] w' (Ret w' (.tuple #[.agg #[.slice none 0 0,.slice none 0 0],.int .i64 6])):=fun w' hst =>
  push_full ws ms l _ _ _ w' (h1 w' hst).1 (h1 w' hst).2.1 (h1 w' hst).2.2 hok hll hf
 refine qX (K:=fun x fs'=>x=.panicked failC∧∃ c4,fs'=c4::(b,maO m)::rest) (args:=[_,_]) func74 rfl ntmps74 rfl ?_ hs
 (refine sRz<|vMz<|vNz<|vFz<|vFz<|ldz rfl .head ma_rd2<|vMz ?_;apply zS;rfl;rfl;exact vF;exact .cons rfl (.cons rfl .nil);intro w _;exact hP w (by assumption);refine vMz ?_;refine vEz ?_;refine vEz ?_;apply zU;rfl;intro _;refine zR rfl rfl .head (.whole rfl rfl rfl)<|vAz<|nSz<|vMz ?_;refine lvz (.eqF rfl rfl (by omega)) ?_)
 rename_i b4
 refine qP (K:=NeedK ((b4,.cells #[.slice none 0 0,.slice none 0 0] 25 (0,0))::(b,maO m)::rest)) rfl rfl vF agZ rfl (fun fs h=>by cases h.1) (fun w' hst=>need_false w0 S _ w' hst) ?_ ?_
 ·rintro v fs' ⟨h,_⟩
  cases h
 ·rintro ch fs' ⟨h,rfl⟩
  cases h
  refine thenP ?_
  exact inPP .nil ⟨rfl,_,rfl⟩
end
theorem dQBYDz {P Q:Prop} (k:Q) (h:BoxZ Q→P:=by
 intro kQ
 refine enter (args:=[_,_,_]) _ [] [] func122 rfl ntmps122 rfl (by simp) .nil ?_
 exact kQ.k):P:=h ⟨k⟩
def upW (n:Nat):Nat:=(n+31) / 32 * 32
theorem grow_ok (ws:List Nat) (ms:List UInt8) (n:Nat) (s m:Value) (w:World) (hs:RowAt w 4 s ws.length (wcs ws)) (hm:RowAt w 1 m ms.length (ucs ms)) (hok:okSc ws.length ms.length) (hn:0 < n) (hn2:n≤1024) :
  Calls prog 122 #[.agg #[s,m],.int .u64 0,.int .u64 (n:Int)] w (RetG w [] (fun r gs=>∃ o,r=.tuple #[o,.int .i64 0]∧ScO ws (ms++List.replicate (upW n - ms.length) 0) o gs)):=by
 have hs0:=hs
 have hm0:=hm
 obtain ⟨p,c,rfl,_,hc⟩:=hs.form
 obtain ⟨p2,c2,rfl,_,hc2⟩:=hm.form
 have hC:∀ w,Calls prog 84 #[.agg #[.slice p ws.length c,.slice p2 ms.length c2]] w (Ret w (.int .i64 0)):=fun w=>by
  exact dTBxIv
 have hok2:=hok
 unfold okSc at hok2
 obtain ⟨hn1,hk1,hk2⟩:=hok2
 refine dQBYDz ?_
 (refine goZ ?_;intro _ _;refine cEv hC ?_)
 refine dQBlKy ?_
 rintro vo gso ⟨s1,m1,g1,g2,rfl,rfl,h1,h2⟩
 have h1':=h1
 have h2':=h2
 unfold wM at h1'
 unfold bM at h2'
 obtain ⟨q1,k1,rfl⟩:=h1'.form
 obtain ⟨q2,k2,rfl⟩:=h2'.form
 (refine goZ ?_;intro _;refine lvz (.addNK rfl rfl (by decide)) ?_;refine goZ ?_;refine lvz (.addNK rfl rfl (by decide)) ?_;refine goZ ?_;refine lvz (.subI rfl rfl (by omega) (by omega)) ?_;apply qN;rfl;rfl;apply ValP.maxD;rfl;rfl;refine goZ ?_)
 rename_i b3 b6 b9
 obtain ⟨D,hD⟩:∃ D,D=((0+n) % 18446744073709551616+32 - 1) / 32 * 32 - ms.length:=⟨_,rfl⟩
 have hDu:D=upW n - ms.length:=by unfold upW;omega
 rw [← hD]
 refine qM (fun x:Nat × Option Addr × Nat × Fs=>([(9,.pointer (some ⟨b9,0,none⟩)),(6,.pointer (some ⟨b6,0,none⟩)),(48,.int .i64 (D:Int)),(49,.int .i64 (x.1:Int))],(b9,.cells #[.slice q1 ws.length k1,.slice x.2.1 (ms.length+x.1) x.2.2.1] 25 (0,0))::(x.2.2.2++(g1++[(b6,.cells #[.slice none 0 0,.slice none 0 0] 25 (0,0))]))))
  (fun x=>x.1≤D∧IsRow 5 1 (.slice x.2.1 (ms.length+x.1) x.2.2.1) (ms.length+x.1) (ucs (ms++List.replicate x.1 0)) x.2.2.2) (fun x=>D - x.1) (0,q2,k2,g2) ⟨Nat.zero_le _,by simpa using h2'⟩ ⟨rfl,rfl,rfl,rfl,trivial⟩ (by simp) ?_
 rintro ⟨k,q,kc,seg⟩ ⟨hk,hrow⟩
 dsimp only at hk hrow ⊢
 rcases jM k D with hlt|hge
 ·(refine goZ ?_;intro _)
  (apply qZ;rfl;rfl;exact vF;exact vF;exact vF;rfl;rfl;rfl;(case hrow=>assumption);apply qK;apply qK;exact qJ;apply qH;apply zY;rfl;rfl;rfl;omega;simp only [maxLen];omega;omega;intro v' seg' hrow';obtain ⟨p',c',rfl⟩:=hrow'.form;(refine ⟨_,(by (repeat (first|exact qJ|apply qK|apply qL))),?_⟩);(try simp only [yA,jQ]))
  (refine vFz ?_;refine zR rfl rfl (.tail .head) sc_wr1 ?_;apply zV;refine blkN<|thenN<|zL ?_;refine lvz (.addZL rfl rfl (by decide) (by omega)) ?_;refine vMz ?_;apply zV)
  apply thenX
  refine ⟨rfl,(k+1,p',c',seg'),⟨hlt,?_⟩,by show D - (k+1) < D - k;omega,⟨rfl,rfl,rfl,rfl,trivial⟩,jK _ (jG _)⟩
  have e:ucs (ms++List.replicate (k+1) 0)=ucs (ms++List.replicate k 0)++[.int .u8 0]:=by
   rw [List.replicate_succ',← jR]
   simp [ucs]
  dsimp only
  rw [e]
  exact hrow'
 ·(refine goZ ?_)
  obtain rfl:k=D:=by omega
  rw [← hDu]
  refine fin (vs:=[.agg #[.slice q1 ws.length k1,.slice q (ms.length+k) kc],.int .i64 0]) (seg++g1) (.inl rfl) rfl rfl rsZ ?_ ⟨_,rfl,_,_,g1,seg,rfl,rfl,h1,?_⟩
  ·exact jK _ (jL (jJ _ _) _)
  ·unfold bM
   rw [yC,List.length_replicate]
   exact hrow
section
theorem dTBtqw {P:Prop} (h:P:=by
 rintro ch fs' h
 rw [hsp] at h;cases h.1):P:=h
theorem st_sub {w0 w:World} {S:List Nat} {fs gs:Fs} (h:St w0 S fs w) (hg:List.Sublist gs fs):St w0 S gs w:=⟨h.bel,fun p hp=>h.own p (hg.subset hp),h.nd.sublist hg⟩
attribute [local irreducible] SL.inP
theorem reach_gas (w0:World) (S:List Nat) (b:Nat) (m:MaV) (a n k:Nat) (p2:Option Addr) (c2:Nat) (ha:a < M256) (hn:n < M256) (hE:endV a n < 18446744073709551616) (hk:k≤1024) (hg:m.fr.gas < 18446744073709551616) (hm:m.fr.mem=.slice p2 k c2) (rest:Fs) (w:World) (hs:St w0 S ((b,maO m)::rest) w)
  (hcost:m.fr.gas < memV k (endV a n)) :
  Calls prog 77 #[.pointer (some ⟨b,0,none⟩),wv a,wv n] w (fun x w'=>∃ fs',(x=.panicked failC∧∃ ex,fs'=(b,maO m)::(ex++rest))∧St w0 S fs' w'):=by
 have hmem:∀ {E fr},Rd prog 22 (.cells (mca m) E fr) 3 (.slice p2 k c2):=fun {E fr}=>by rw [← hm];exact ma_rd3
 refine qX (K:=fun x fs'=>x=.panicked failC∧∃ ex,fs'=(b,maO m)::(ex++rest)) (args:=[_,_,_]) func77 rfl ntmps77 rfl ?_ hs
 (refine sRz ?_;apply zT;rfl;rfl;intro _;apply zT;rfl;rfl;intro _;refine vAz<|vAz<|nSz<|ldz rfl (.tail .head) (qI rfl)<|ldz rfl .head (qI rfl) ?_;apply zS;rfl;rfl;exact vF;exact .cons rfl (.cons rfl .nil);intro w _;exact End_calls a n ha hn w;refine vAz<|nSz<|vMz<|vMz<|vNz<|vFz<|vFz<|vFz<|ldz rfl (.tail (.tail .head)) hmem<|lvz (.lenR rfl vF rfl) ?_;refine lvz (.convN rfl (by omega) (by omega)) ?_;refine vMz ?_;apply zS;rfl;rfl;exact vF;exact .cons rfl (.cons rfl .nil);intro w _;exact Memory_calls _ _ (by omega) hE w;apply LW.lay1;rfl;exact vF;exact vF;rfl;rfl;rfl;rfl;rfl;rfl;intro _)
 rename_i b4 b5 b29
 obtain ⟨c,hc⟩:∃ c,c=memV k (endV a n):=⟨_,rfl⟩
 rw [← hc] at hcost ⊢
 have hsp:spendM m [c]=none:=by unfold spendM;rw [if_neg (by simp;omega)]
 refine qV (fs':=(b,maO m)::(b29,.cells #[.int .u64 (c:Int)] 26 (0,0))::(b5,.cells (wc n) 29 (0,0))::(b4,.cells (wc a) 29 (0,0))::rest) (by exact (yX (l₁:=[_,_,_])).symm) ?_
 refine qP (K:=MaK b m (spendM m [c]) _) rfl rfl vF agZ rfl (fun fs h=>?_) (fun w' hst=>spend_calls w0 S b m [c] hg _ _ w' hst (fun w2 h2=>row_cells (h2.own (b29,_) (jX _ (jW _))).2 rfl rfl (by simp [maxLen]))) ?_ ?_
 ·rw [hsp] at h;cases h.1
 ·rintro v fs' h
  rw [hsp] at h;cases h.1
 ·rintro ch fs' h
  rw [hsp] at h
  obtain ⟨h,rfl⟩:=h
  cases h
  refine thenP ?_
  exact inPP .nil ⟨rfl,[_,_,_],rfl⟩
theorem reach_none (w0:World) (S:List Nat) (b:Nat) (m:MaV) (a n k:Nat) (hn0:n=0) (p2:Option Addr) (c2:Nat) (ha:a < M256) (hk:k≤1024) (hg:m.fr.gas < 18446744073709551616) (hm:m.fr.mem=.slice p2 k c2) (rest:Fs) (w:World) (hs:St w0 S ((b,maO m)::rest) w) :
  Calls prog 77 #[.pointer (some ⟨b,0,none⟩),wv a,wv n] w (fun x w'=>∃ fs',(x=.returned (.tuple #[.int .u64 0,.int .u64 0])∧∃ ex,fs'=(b,maO m)::(ex++rest))∧St w0 S fs' w'):=by
 have hmem:∀ {E fr},Rd prog 22 (.cells (mca m) E fr) 3 (.slice p2 k c2):=fun {E fr}=>by rw [← hm];exact ma_rd3
 have hE:endV a n < 18446744073709551616:=by simp [endV,hn0]
 have hn:n < M256:=by rw [hn0];decide
 have he:endV a n=0:=by simp [endV,hn0]
 refine qX (K:=fun x fs'=>x=.returned (.tuple #[.int .u64 0,.int .u64 0])∧∃ ex,fs'=(b,maO m)::(ex++rest)) (args:=[_,_,_]) func77 rfl ntmps77 rfl ?_ hs
 (refine sRz ?_;apply zT;rfl;rfl;intro _;apply zT;rfl;rfl;intro _;refine vAz<|vAz<|nSz<|ldz rfl (.tail .head) (qI rfl)<|ldz rfl .head (qI rfl) ?_;apply zS;rfl;rfl;exact vF;exact .cons rfl (.cons rfl .nil);intro w _;exact End_calls a n ha hn w;refine vAz<|nSz<|vMz<|vMz<|vNz<|vFz<|vFz<|vFz<|ldz rfl (.tail (.tail .head)) hmem<|lvz (.lenR rfl vF rfl) ?_;refine lvz (.convN rfl (by omega) (by omega)) ?_;refine vMz ?_;apply zS;rfl;rfl;exact vF;exact .cons rfl (.cons rfl .nil);intro w _;exact Memory_calls _ _ (by omega) hE w;apply LW.lay1;rfl;exact vF;exact vF;rfl;rfl;rfl;rfl;rfl;rfl;intro _)
 rename_i b4 b5 b29
 have hc:memV k (endV a n)=0:=by rw [he];simp [memV]
 rw [hc,he]
 have hsp:spendM m [0]=some m:=by unfold spendM;rw [if_pos (by simp)];rfl
 refine qV (fs':=(b,maO m)::(b29,.cells #[.int .u64 ((0:Nat):Int)] 26 (0,0))::(b5,.cells (wc n) 29 (0,0))::(b4,.cells (wc a) 29 (0,0))::rest) (by exact (yX (l₁:=[_,_,_])).symm) ?_
 refine qP (K:=MaK b m (spendM m [0]) _) rfl rfl vF agZ rfl (fun fs h=>?_) (fun w' hst=>spend_calls w0 S b m [0] hg _ _ w' hst (fun w2 h2=>row_cells (h2.own (b29,_) (jX _ (jW _))).2 rfl rfl (by simp [maxLen]))) ?_ ?_
 ·rw [hsp] at h;cases h.1
 ·rintro v fs' h
  rw [hsp] at h
  obtain ⟨h,rfl⟩:=h
  (refine goZ ?_)
  exact inPI (.inl rfl) .nil rfl rsZ rfl ⟨rfl,[_,_,_],rfl⟩
 ·exact dTBtqw
end
section
open UK (adr rARead_calls)
attribute [local irreducible] SK.padB SK.sumB
theorem sum_len (b:List UInt8):(SK.sumB b).length=32:=by unfold SK.sumB;rw [SK.idF_len]
theorem bev_app_v (x y:List UInt8):bev (x++y)=bev x * 2 ^ (8 * y.length)+bev y:=by
 have key:∀ (y:List UInt8) (n:Nat),y.foldl (fun n u=>256 * n+u.toNat) n=n * 2 ^ (8 * y.length)+bev y:=by
  intro y
  induction y with
  |nil=>intro n;simp [bev]
  |cons u y ih =>
   intro n
   unfold bev
   rw [List.foldl_cons,List.foldl_cons,ih,ih,yK,show 8 * (y.length+1)=8+8 * y.length by omega,yV,Nat.mul_zero,jH,Nat.add_mul,yZ 256 n,Nat.mul_assoc,Nat.add_assoc]
 show (x++y).foldl (fun n u=>256 * n+u.toNat) 0=_
 rw [List.foldl_append,key]
 rfl
def digW (b:List UInt8):Nat:=bev (SK.sumB b)
theorem digW_lt (b:List UInt8):digW b < M256:=by
 have:=bev_lt (SK.sumB b)
 rw [sum_len] at this
 exact this
attribute [local irreducible] digW
theorem Digest_calls (b:List UInt8) (v:Value) (w:World) (hv:RowAt w 1 v b.length (ucs b)) (hb:b.length≤100000) (hT:SK.TurnAt w) (hN:SK.NumAt w):Calls prog 208 #[v] w (Ret w (wv (digW b))):=by
 have hlen:=sum_len b
 have hdw:digW b=bev (SK.sumB b):=by unfold digW;rfl
 have hSum0:∀ w' {fs},St w [] fs w'→Calls prog 225 #[v] w' (Ret w' (.agg (uca (SK.sumB b)))):=fun w' fs hst=>SK.Sum_calls b v w' (hv.st hst) hb (hT.st hst) (hN.st hst)
 obtain ⟨D,hD⟩:∃ D,SK.sumB b=D:=⟨_,rfl⟩
 have hSum:=@hSum0
 rw [hD] at hSum hlen hdw
 have hRead:∀ (g:Nat) (w':World) {fs:Fs},St w [] fs w'→w'.heap[g]?=some (.cells (uca D) 196 (0,0))→Calls prog 199 #[.slice (some ⟨g,0,none⟩) 32 32] w' (Ret w' (.tuple #[wv (digW b),.int .i64 0])):=fun g w' fs _ h=>by
  have h2:=own_row (off:=0) (n:=32) (c:=32) h (by omega) (yD _) (by simp only [maxLen];omega)
  rw [yW,yI (by omega)] at h2
  rw [hdw]
  exact Read_calls _ D w' (by rw [hlen];exact h2) (by omega)
 refine enter (args:=[_]) _ [] [] func208 rfl ntmps208 rfl (by simp) .nil ?_
 (refine goZ ?_;intro _;refine cEz (c:=fun w hst=>by exact hSum w hst) (k:=?_);intro _;apply zR;rfl;rfl;apply qA;apply wr_ucaO;rfl;assumption;refine goZ ?_;apply qN;rfl;rfl;apply ValP.cutArrAll;exact vF;exact vF;rfl;refine cEz (c:=fun w hst=>by exact hRead _ w hst ((hst.own (_,.cells (uca D) 196 (0,0)) memZ).2)) (k:=?_);intro _)
 (refine fiz ?_)
 rfl
theorem take8 {D:List UInt8} (h:D.length=32):bev D=bev ((D.drop 24).take 8)+18446744073709551616 * bev ((D.drop 16).take 8)+340282366920938463463374607431768211456 * bev ((D.drop 8).take 8)+6277101735386680763835789423207666416102355444464034512896 * bev ((D.drop 0).take 8):=by
 have e:D=((D.drop 0).take 8++(D.drop 8).take 8)++((D.drop 16).take 8++(D.drop 24).take 8):=by
  match D,h with
  |[a0,a1,a2,a3,a4,a5,a6,a7,a8,a9,b0,b1,b2,b3,b4,b5,b6,b7,b8,b9,c0,c1,c2,c3,c4,c5,c6,c7,c8,c9,d0,d1],_=>rfl
 have l1:((D.drop 8).take 8).length=8:=by simp;omega
 have l2:((D.drop 16).take 8).length=8:=by simp;omega
 have l3:((D.drop 24).take 8).length=8:=by simp;omega
 conv=>lhs;rw [e]
 rw [bev_app_v,bev_app_v,bev_app_v,yC,l1,l2,l3]
 omega
theorem adr_of (l:List UInt8) (h:l.length=8):adr l=bev l:=by rw [adr,yI (by omega)]
def dgC (D:List UInt8):Nat→Nat→Nat→Nat→Nat→List Value
 |m,a,b,c,d=>[.int .u64 (if 4≤m then d else 0:Nat),.int .u64 (if 3≤m then c else 0:Nat),.int .u64 (if 2≤m then b else 0:Nat),.int .u64 (if 1≤m then a else 0:Nat)]
theorem rDigest_calls (b:List UInt8) (v:Value) (w:World) (hv:RowAt w 1 v b.length (ucs b)) (hb:b.length≤100000):Calls prog 181 #[v] w (Ret w (wv (digW b))):=by
 have hlen:=sum_len b
 have hdw:digW b=bev (SK.sumB b):=by unfold digW;rfl
 have hSum0:∀ w' {fs},St w [] fs w'→Calls prog 213 #[v] w' (Ret w' (.agg (uca (SK.sumB b)))):=fun w' fs hst=>SK.rSum_calls b v w' (hv.st hst) hb
 obtain ⟨D,hD⟩:∃ D,SK.sumB b=D:=⟨_,rfl⟩
 have hSum:=@hSum0
 rw [hD] at hSum hlen hdw
 have hA:∀ (k:Nat) (g:Nat) (w':World),k+8≤32→w'.heap[g]?=some (.cells (uca D) 196 (0,0))→Calls prog 214 #[.slice (some ⟨g,k,none⟩) 8 (32 - k)] w' (Ret w' (.int .u64 (bev ((D.drop k).take 8):Int))):=fun k g w' hk h=>by
  have h2:=own_row (off:=k) (n:=8) (c:=32 - k) h (by omega) (by omega) (by simp only [maxLen];omega)
  have hl:((D.drop k).take 8).length=8:=by simp;omega
  rw [← adr_of _ hl]
  exact rARead_calls _ _ w' (by rw [hl];exact h2) (by omega)
 rw [hdw]
 have h8:=take8 hlen
 have hb:∀ k,bev ((D.drop k).take 8) < 18446744073709551616:=fun k=>Nat.lt_of_lt_of_le (bev_lt _) (yU (by decide) (by simp;omega):_≤2 ^ 64)
 have hwc:=wc_val (hb 24) (hb 16) (hb 8) (hb 0) h8
 rw [wv,← hwc]
 clear h8 hwc hdw
 have hA1:=hA
 clear hA
 refine enter (args:=[_]) _ [] [] func181 rfl ntmps181 rfl (by simp) .nil ?_
 (refine goZ ?_;intro _;refine cEz (c:=fun w hst=>by exact hSum w hst) (k:=?_);intro _;apply zR;rfl;rfl;apply qA;apply wr_ucaO;rfl;assumption;refine goZ ?_;intro _)
 rename_i bR bD bW
 refine qM (fun m:Nat=>([(5,.int .i64 (m:Int)),(4,.pointer (some ⟨bW,0,none⟩)),(3,.pointer (some ⟨bD,0,none⟩)),(2,.pointer (some ⟨bR,0,none⟩))],[(bW,.cells (dgC D m (bev ((D.drop 0).take 8)) (bev ((D.drop 8).take 8)) (bev ((D.drop 16).take 8)) (bev ((D.drop 24).take 8))).toArray 29 (0,0)),(bD,.cells (uca D) 196 (0,0)),(bR,.cells (wc 0) 29 (0,0))]))
  (fun m=>m≤4) (fun m=>4 - m) 0 (by decide) ⟨rfl,rfl,rfl,rfl,trivial⟩ (jG _) ?_
 rintro m hm
 dsimp only at hm ⊢
 rcases jM m 4 with hlt|hge
 ·have hA:=fun w'=>hA1 (8 * m) bD w' (by omega)
  have e8:8 * m+8 - 8 * m=8:=by omega
  have hW:Wr prog 26 (.cells (dgC D m (bev ((D.drop 0).take 8)) (bev ((D.drop 8).take 8)) (bev ((D.drop 16).take 8)) (bev ((D.drop 24).take 8))).toArray 29 (0,0)) (0+(3 - m) * 1) (.int .u64 (bev ((D.drop (8 * m)).take 8):Int)) (.cells (dgC D (m+1) (bev ((D.drop 0).take 8)) (bev ((D.drop 8).take 8)) (bev ((D.drop 16).take 8)) (bev ((D.drop 24).take 8))).toArray 29 (0,0)):=by
   clear hA hA1 e8
   match m,hlt with
   |0,_=>exact qU (n:=1) rfl rfl (by show 0+(3 - 0) * 1+1≤4;decide) rfl
   |1,_=>exact qU (n:=1) rfl rfl (by show 0+(3 - 1) * 1+1≤4;decide) rfl
   |2,_=>exact qU (n:=1) rfl rfl (by show 0+(3 - 2) * 1+1≤4;decide) rfl
   |3,_=>exact qU (n:=1) rfl rfl (by show 0+(3 - 3) * 1+1≤4;decide) rfl
  (refine goZ ?_;apply qN;rfl;rfl;apply ValP.cutArrMid;exact vF;exact vF;rfl;rfl;rfl;omega;omega;omega)
  rw [e8,jH]
  (refine cEz (c:=fun w hst=>by exact hA w ((hst.own (_,.cells (uca D) 196 (0,0)) memZ).2)) (k:=?_))
  apply thenX
  exact ⟨rfl,m+1,hlt,by omega,⟨rfl,rfl,rfl,rfl,trivial⟩,jG _⟩
 ·obtain rfl:m=4:=by omega
  exact dTBJyT
end
end Go.Proofs.YtdeggbkbblfpoaaGreatDoor
namespace Go.Proofs.YtdeggbkbblfpoaaGreatDoor.CK
open Go Go.RowKit SL
set_option maxRecDepth 8000
set_option maxHeartbeats 4000000
set_option linter.unusedSimpArgs false
set_option linter.unusedVariables false
attribute [local irreducible] SL.CW SL.LW SL.DW Calls SL.Ret SL.RetG SL.beginQ SL.roundQ SL.rangeQ SL.inQ SL.RW SL.AnyW SL.thenQ SL.thenC SL.thenW SL.blkQ SL.finQ SL.ValP SL.NewP SL.SetP SL.CallP SL.Rd SL.Wr SL.Known


theorem ucs_app (a b:List UInt8):ucs (a++b)=ucs a++ucs b:=by simp [ucs]
theorem dTEyLc {P:Prop} (h:P:=by
 have hr:rowOp b=none:=by unfold rowOp;rw [if_neg (by omega),if_neg (by omega),if_neg (by omega)]
 (refine goZ ?_;intro _)
 (refine crz (c:=fun w hs=>by exact rPlain_calls w) (k:=?_))
 intro vp gp hpl
 obtain ⟨bp,rfl,rfl⟩:=hpl
 rename_i bo
 (refine goZ ?_)
 refine qM (fun i:Nat=>([(0,.int .u8 (b:Int)),(2,.pointer (some ⟨bo,0,none⟩)),(3,.bool false),(5,.slice (some ⟨bp,0,none⟩) 50 50),(6,.int .i64 (i:Int))],[(bp,.cells (opcs plainOps).toArray 86 (0,0)),(bo,.cells (opc zeroOp) 86 (0,0))]))
  (fun i=>i≤50∧∀ j (hj:j < plainOps.length),j < i→plainOps[j].c ≠ b) (fun i=>50 - i) 0 ⟨Nat.zero_le _,fun j hj h=>absurd h (Nat.not_lt_zero _)⟩ ⟨rfl,rfl,rfl,rfl,rfl,trivial⟩ (jG _) ?_
 rintro i ⟨hi,hall⟩
 dsimp only
 rcases jM i 50 with hlt|hge
 ·have hlt':i < plainOps.length:=hlt
  have hrc:=plain_rdc i hlt' (E:=86) (fr:=(0,0))
  have hrd:=plain_rd i hlt' (E:=86) (fr:=(0,0))
  have hop:=fun he=>opOf_plain hr hlt' (fun j hj=>hall j (by omega) hj) he
  obtain ⟨y,hy⟩:∃ y,plainOps[i]=y:=⟨_,rfl⟩
  rw [hy] at hrc hrd hop
  by_cases he:y.c=b
  ·rw [hop he]
   (refine zI<|sRz<|vMz<|vMz<|lvz (.lenR rfl vF rfl) ?_;refine lvz (.lssT rfl rfl (by omega)) ?_;refine nNz<|cTz<|zJ<|thenN<|zI<|zM<|sRz<|vMz<|vMz ?_;refine lvz (.indexAddrS rfl rfl rfl (by omega)) ?_;refine vFz ?_;refine ldz rfl .head (by assumption) ?_;refine vMz ?_;refine lvz (.eqT rfl rfl (by omega)) ?_;refine nNz<|cTz<|sRz<|vMz<|vMz ?_;refine lvz (.indexAddrS rfl rfl rfl (by omega)) ?_;refine ldz rfl .head (by assumption) ?_;apply zR;rfl;rfl;apply qE;apply qA;apply Wr.whole;kernel_rfl;kernel_rfl;kernel_rfl;refine vAz<|nNz<|zK<|blkR<|thenR<|thenR<|blkR<|thenR ?_)
   (refine fiz ?_)
   rfl
  ·(refine goZ ?_)
   apply thenX
   refine ⟨rfl,i+1,⟨hlt,fun j hj hji=>?_⟩,by omega,⟨rfl,rfl,rfl,rfl,rfl,trivial⟩,jG _⟩
   rcases jM j i with h|h
   ·exact hall j hj h
   ·obtain rfl:j=i:=by omega
    rw [hy];exact he
 ·rw [opOf_none hr (fun j hj=>hall j hj (by have:plainOps.length=50:=rfl;omega))]
  (refine zI<|sRz<|vMz<|vMz<|lvz (.lenR rfl vF rfl) ?_;refine lvz (.lssF rfl rfl (by omega)) ?_;refine nNz<|cFz<|CW.exit<|thenE<|thenE<|blkE rfl<|thenN<|sRz ?_;apply qN;rfl;rfl;apply zW;exact vF;exact vF;exact zB;rfl;simp only [fillP,wrCells,Value.cells,jB,jC,jD,jA,jF,jE,Nat.reduceAdd,jH];rfl;apply zR;rfl;rfl;apply qE;apply qA;apply Wr.whole;kernel_rfl;kernel_rfl;kernel_rfl;refine vAz<|nNz<|zK ?_)
  (refine fiz ?_)
  rfl):P:=h
theorem dTEJyT {P:Prop} (h:P:=by
 (refine goZ ?_)
 (refine fiz ?_)
 rfl):P:=h
theorem digit_ucs (n:Nat) (h:n < 10):[Value.int .u8 (((48+n) % 256:Nat):Int)]=ucs [UInt8.ofNat (48+n)]:=by
 have:((UInt8.ofNat (48+n)).toNat:Nat)=(48+n) % 256:=by simp
 show _=[Value.int .u8 (((UInt8.ofNat (48+n)).toNat:Nat):Int)]
 rw [this]
theorem number1_calls (n:Nat) (hn:n < 10) (w:World):Calls prog 104 #[.int .i64 (n:Int)] w (Ret w (sv [UInt8.ofNat (48+n)])):=by
 have hd:=digit_ucs n hn
 refine enter (args:=[_]) _ [] [] func104 rfl ntmps104 rfl (by simp) .nil ?_
 (refine goZ ?_;intro _)
 rename_i b
 have hrow:∀ w',w'.heap[b]?=some (.cells #[.int .u8 (((48+n) % 256:Nat):Int)] 5 (0,0))→RowAt w' 1 (.slice (some ⟨b,0,none⟩) 1 1) 1 (ucs [UInt8.ofNat (48+n)]):=fun w' h =>
  RowAt.us (us:=[]) (cur:=#[.int .u8 (((48+n) % 256:Nat):Int)]) (E:=5) (fr:=(0,0)) (fun p hp=>by rcases List.mem_singleton.1 hp with rfl;exact h) (yD _) (by decide) hd rfl
 refine LW.toStr rfl vF vF vF rfl (fun w' hs=>hrow w' (hs.own (b,_) (by (exact jW _))).2) ?_
 exact dTEJyT
theorem number_calls (n:Nat) (hn:n < 100) (w:World):Calls prog 104 #[.int .i64 (n:Int)] w (Ret w (sv (itoa n))):=by
 unfold itoa
 split
 ·rename_i h;exact number1_calls n h w
 ·rename_i h
  have h1:=number1_calls (n / 10) (by omega)
  have h2:=number1_calls (n % 10) (by omega)
  have l1:[UInt8.ofNat (48+n / 10)].length=1:=rfl
  have l2:[UInt8.ofNat (48+n % 10)].length=1:=rfl
  refine enter (args:=[_]) _ [] [] func104 rfl ntmps104 rfl (by simp) .nil ?_
  obtain ⟨x,hx⟩:∃ x,[UInt8.ofNat (48+n / 10)]=x:=⟨_,rfl⟩
  obtain ⟨y,hy⟩:∃ y,[UInt8.ofNat (48+n % 10)]=y:=⟨_,rfl⟩
  rw [hx] at h1 l1
  rw [hy] at h2 l2
  rw [show [UInt8.ofNat (48+n / 10),UInt8.ofNat (48+n % 10)]=x++y by rw [← hx,← hy];rfl]
  (refine goZ ?_;refine cEv h1 ?_;refine cEv h2 ?_;apply qN;rfl;rfl;apply ValP.addStr;rfl;rfl;omega;refine goZ ?_)
  (refine fiz ?_)
  rfl
def PlainR (v:Value) (gs:Fs):Prop:=∃ b,v=.slice (some ⟨b,0,none⟩) 50 50∧gs=[(b,.cells (opcs plainOps).toArray 86 (0,0))]
theorem rPlain_calls (w:World):Calls prog 105 #[] w (RetG w [] PlainR):=by
 refine enter (args:=[]) _ [] [] func105 rfl ntmps105 rfl (by simp) .nil ?_
 (refine goZ ?_;refine bTz ?_;refine bTz ?_;refine bTz ?_;refine bTz ?_;refine bTz ?_;refine bTz ?_;refine bTz ?_;refine bTz ?_;refine bTz ?_;refine bTz ?_;refine bTz ?_;refine bTz ?_;refine bTz ?_;refine bTz ?_;refine bTz ?_;refine bTz ?_;refine bTz ?_;refine bTz ?_;refine bTz ?_;refine bTz ?_;refine bTz ?_;refine bTz ?_;refine bTz ?_;refine bTz ?_;refine bTz ?_;refine bTz ?_;refine bTz ?_;refine bTz ?_;refine bTz ?_;refine bTz ?_;refine bTz ?_;refine bTz ?_;refine bTz ?_;refine bTz ?_;refine bTz ?_;refine bTz ?_;refine bTz ?_;refine bTz ?_;refine bTz ?_;refine bTz ?_;refine bTz ?_;refine bTz ?_;refine bTz ?_;refine bTz ?_;refine bTz ?_;refine bTz ?_;refine bTz ?_;refine bTz ?_;refine bTz ?_;refine bTz ?_)
 refine LW.n0 rfl rfl (NewP.buildSN (vs:=plainOps.zipIdx.map fun p=>(p.2,.agg (opc p.1))) (c:=(opcs plainOps).toArray) vF vF (by (apply zA;rfl;apply zA;rfl;apply zA;rfl;apply zA;rfl;apply zA;rfl;apply zA;rfl;apply zA;rfl;apply zA;rfl;apply zA;rfl;apply zA;rfl;apply zA;rfl;apply zA;rfl;apply zA;rfl;apply zA;rfl;apply zA;rfl;apply zA;rfl;apply zA;rfl;apply zA;rfl;apply zA;rfl;apply zA;rfl;apply zA;rfl;apply zA;rfl;apply zA;rfl;apply zA;rfl;apply zA;rfl;apply zA;rfl;apply zA;rfl;apply zA;rfl;apply zA;rfl;apply zA;rfl;apply zA;rfl;apply zA;rfl;apply zA;rfl;apply zA;rfl;apply zA;rfl;apply zA;rfl;apply zA;rfl;apply zA;rfl;apply zA;rfl;apply zA;rfl;apply zA;rfl;apply zA;rfl;apply zA;rfl;apply zA;rfl;apply zA;rfl;apply zA;rfl;apply zA;rfl;apply zA;rfl;apply zA;rfl;apply zA;rfl;exact zB)) rfl rfl (by kernel_rfl) (by kernel_rfl)) fun g=>?_
 (refine goZ ?_)
 apply finM [(g,.cells (opcs plainOps).toArray 86 (0,0))];(exact .inl rfl);(exact Shut.nil);rfl;(apply zD;exact zG rfl;exact zF);exact jG _
 exact ⟨g,rfl,rfl⟩
theorem opOf_none {b:Nat} (hr:rowOp b=none) (h:∀ i (hi:i < plainOps.length),plainOps[i].c ≠ b):opOf b=none:=by
 unfold opOf
 rw [hr]
 refine List.find?_eq_none.2 fun x hx=>?_
 obtain ⟨i,hi,rfl⟩:=List.mem_iff_getElem.1 hx
 simpa using h i hi
theorem opOf_plain {b i:Nat} (hr:rowOp b=none) (hi:i < plainOps.length) (h:∀ j (hj:j < i),plainOps[j].c ≠ b) (he:plainOps[i].c=b):opOf b=some plainOps[i]:=by
 unfold opOf
 rw [hr]
 exact List.find?_eq_some_iff_getElem.2 ⟨by simpa using he,i,hi,rfl,fun j hj=>by simpa using h j hj⟩
theorem plain_rdc (i:Nat) (hi:i < plainOps.length) {E:TypeId} {fr:Nat × Nat}:Rd prog 5 (.cells (opcs plainOps).toArray E fr) (0+i * 5+0) (.int .u8 (plainOps[i].c:Int)):=by
 refine Rd.one' ?_
 rw [nth_eq,jH]
 exact flat_get (g:=opl) (opl_len plainOps) (jO hi) rfl
theorem rOf_calls (b:Nat) (hb:b < 256) (w:World):Calls prog 50 #[.int .u8 (b:Int)] w (Ret w (tupOp (opOf b))):=by
 have hl:=itoa_len
 refine enter (args:=[_]) _ [] [] func50 rfl ntmps50 rfl (by simp) .nil ?_
 have hlow:∀ x,rowOp b=some x→opOf b=some x:=fun x h=>by unfold opOf;rw [h]
 rcases jM b 96 with h1|h1
 ·exact dTEyLc
 rcases jM b 128 with h2|h2
 ·rw [hlow ⟨b,[80,85,83,72]++itoa (b - 95),0,1,b - 95⟩ (by unfold rowOp;rw [if_pos (by omega)])]
  have hn:=number_calls (b - 95) (by omega)
  have hl1:=hl (b - 95)
  (refine sRz ?_;apply zU;rfl;intro _;refine vAz<|nSz<|vMz ?_;refine lvz (.convI rfl (by omega) (by omega)) ?_;refine vAz<|nNz<|zI<|sRz<|vMz ?_;refine lvz (.geqT rfl rfl (by omega)) ?_;refine vMz<|gTz<|vMz<|gTz ?_;refine lvz (.leqT rfl rfl (by omega)) ?_;refine pTz<|nNz<|cTz<|sRz<|vMz<|vMz ?_;refine lvz (.subZL rfl rfl (by decide) (by omega) (by omega)) ?_;apply zS;rfl;rfl;exact vF;exact .cons rfl .nil;intro w _;exact hn w;apply qN;rfl;rfl;apply ValP.addStr;rfl;rfl;simp;omega;refine vMz ?_;refine lvz (.subZL rfl rfl (by decide) (by omega) (by omega)) ?_;apply qN;rfl;rfl;apply zW;exact vF;exact vF;apply zA;rfl;apply zA;rfl;apply zA;rfl;apply zA;rfl;exact zB;rfl;simp only [fillP,wrCells,Value.cells,jB,jC,jD,jA,jF,jE,Nat.reduceAdd,jH];rfl;apply zR;rfl;rfl;apply qA;apply Wr.whole;kernel_rfl;kernel_rfl;kernel_rfl;refine vAz<|nNz<|zK<|thenR ?_)
  (refine fiz ?_)
  rfl
 rcases jM b 144 with h3|h3
 ·rw [hlow ⟨b,[68,85,80]++itoa (b - 127),b - 127,b - 126,0⟩ (by unfold rowOp;rw [if_neg (by omega),if_pos (by omega)])]
  have hn:=number_calls (b - 127) (by omega)
  have hl1:=hl (b - 127)
  (refine sRz ?_;apply zU;rfl;intro _;refine vAz<|nSz<|vMz ?_;refine lvz (.convI rfl (by omega) (by omega)) ?_;refine vAz<|nNz<|zI<|sRz<|vMz ?_;refine lvz (.geqT rfl rfl (by omega)) ?_;refine vMz<|gTz<|vMz<|gTz ?_;refine lvz (.leqF rfl rfl (by omega)) ?_;refine pTz<|nNz<|cFz<|zJ<|thenN<|zI<|sRz<|vMz ?_;refine lvz (.geqT rfl rfl (by omega)) ?_;refine vMz<|gTz<|vMz<|gTz ?_;refine lvz (.leqT rfl rfl (by omega)) ?_;refine pTz<|nNz<|cTz<|sRz<|vMz<|vMz ?_;refine lvz (.subZL rfl rfl (by decide) (by omega) (by omega)) ?_;apply zS;rfl;rfl;exact vF;exact .cons rfl .nil;intro w _;exact hn w;apply qN;rfl;rfl;apply ValP.addStr;rfl;rfl;simp;omega;refine vMz ?_;refine lvz (.subZL rfl rfl (by decide) (by omega) (by omega)) ?_;refine vMz ?_;refine lvz (.subZL rfl rfl (by decide) (by omega) (by omega)) ?_;apply qN;rfl;rfl;apply zW;exact vF;exact vF;apply zA;rfl;apply zA;rfl;apply zA;rfl;apply zA;rfl;exact zB;rfl;simp only [fillP,wrCells,Value.cells,jB,jC,jD,jA,jF,jE,Nat.reduceAdd,jH];rfl;apply zR;rfl;rfl;apply qA;apply Wr.whole;kernel_rfl;kernel_rfl;kernel_rfl;refine vAz<|nNz<|zK<|thenR ?_)
  (refine fiz ?_)
  rfl
 rcases jM b 160 with h4|h4
 ·rw [hlow ⟨b,[83,87,65,80]++itoa (b - 143),b - 142,b - 142,0⟩ (by unfold rowOp;rw [if_neg (by omega),if_neg (by omega),if_pos (by omega)])]
  have hn:=number_calls (b - 143) (by omega)
  have hl1:=hl (b - 143)
  (refine sRz ?_;apply zU;rfl;intro _;refine vAz<|nSz<|vMz ?_;refine lvz (.convI rfl (by omega) (by omega)) ?_;refine vAz<|nNz<|zI<|sRz<|vMz ?_;refine lvz (.geqT rfl rfl (by omega)) ?_;refine vMz<|gTz<|vMz<|gTz ?_;refine lvz (.leqF rfl rfl (by omega)) ?_;refine pTz<|nNz<|cFz<|zJ<|thenN<|zI<|sRz<|vMz ?_;refine lvz (.geqT rfl rfl (by omega)) ?_;refine vMz<|gTz<|vMz<|gTz ?_;refine lvz (.leqF rfl rfl (by omega)) ?_;refine pTz<|nNz<|cFz<|zJ<|thenN<|zI<|sRz<|vMz ?_;refine lvz (.geqT rfl rfl (by omega)) ?_;refine vMz<|gTz<|vMz<|gTz ?_;refine lvz (.leqT rfl rfl (by omega)) ?_;refine pTz<|nNz<|cTz<|sRz<|vMz<|vMz ?_;refine lvz (.subZL rfl rfl (by decide) (by omega) (by omega)) ?_;apply zS;rfl;rfl;exact vF;exact .cons rfl .nil;intro w _;exact hn w;apply qN;rfl;rfl;apply ValP.addStr;rfl;rfl;simp;omega;refine vMz ?_;refine lvz (.subZL rfl rfl (by decide) (by omega) (by omega)) ?_;refine vMz ?_;refine lvz (.subZL rfl rfl (by decide) (by omega) (by omega)) ?_;apply qN;rfl;rfl;apply zW;exact vF;exact vF;apply zA;rfl;apply zA;rfl;apply zA;rfl;apply zA;rfl;exact zB;rfl;simp only [fillP,wrCells,Value.cells,jB,jC,jD,jA,jF,jE,Nat.reduceAdd,jH];rfl;apply zR;rfl;rfl;apply qA;apply Wr.whole;kernel_rfl;kernel_rfl;kernel_rfl;refine vAz<|nNz<|zK<|thenR ?_)
  (refine fiz ?_)
  rfl
 ·exact dTEyLc
section
theorem dTEWCz {P:Prop} (h:P:=by
 (refine sRz<|vAz<|nSz<|vMz ?_;apply zS;rfl;rfl;exact vF;exact .cons rfl .nil;intro w _;exact hOf w;refine vMz ?_;refine vEz ?_;refine vEz ?_;apply zU;rfl;intro _;apply zR;rfl;rfl;apply qA;apply Wr.whole;kernel_rfl;kernel_rfl;kernel_rfl;refine vAz<|nSz<|vFz<|ldz rfl .head (Rd.one' rfl)<|vAz<|nNz<|zK ?_)
 (refine fiz ?_)
 rfl):P:=h
attribute [local irreducible] opOf
def szOf (b:Nat):Nat:=match opOf b with
 |some x=>x.dt
 |none=>0
attribute [local irreducible] szOf
theorem size_calls (b:Nat) (hb:b < 256) (w:World):Calls prog 100 #[.int .u8 (b:Int)] w (Ret w (.int .i64 (szOf b:Int))):=by
 have hOf0:=rOf_calls b hb
 refine enter (args:=[_]) _ [] [] func100 rfl ntmps100 rfl (by simp) .nil ?_
 cases ho:opOf b with
 |none =>
  rw [ho] at hOf0
  have hOf:∀ w,Calls prog 50 #[.int .u8 (b:Int)] w (Ret w (.tuple #[.agg (opc zeroOp),.bool false])):=hOf0
  rw [show szOf b=0 by unfold szOf;rw [ho]]
  exact dTEWCz
 |some x =>
  rw [ho] at hOf0
  have hOf:∀ w,Calls prog 50 #[.int .u8 (b:Int)] w (Ret w (.tuple #[.agg (opc x),.bool true])):=hOf0
  rw [show szOf b=x.dt by unfold szOf;rw [ho]]
  exact dTEWCz
theorem Right_calls (v:Value) (n:Nat) (xs:List Value) (w:World) (hv:RowAt w 1 v n xs):Calls prog 43 #[v] w (Ret w (.bool (decide (n≤200)))):=by
 obtain ⟨p,c,rfl,hc,hm⟩:=hv.form
 refine enter (args:=[_]) _ [] [] func43 rfl ntmps43 rfl (by simp) .nil ?_
 (refine goZ ?_;refine lvz (.leq rfl rfl) ?_;refine goZ ?_)
 (refine fiz ?_)
 rw [show decide (n≤200)=decide (((n:Nat):Int)≤200) from decide_eq_decide.2 (by omega)]
 rfl
theorem CheckC_calls (v:Value) (n:Nat) (xs:List Value) (w:World) (hv:RowAt w 1 v n xs):Calls prog 83 #[v] w (Ret w (.int .i64 (if n≤200 then 0 else 3))):=by
 obtain ⟨p,c,rfl,hc,hm⟩:=hv.form
 refine enter (args:=[_]) _ [] [] func83 rfl ntmps83 rfl (by simp) .nil ?_
 rcases jM 200 n with h|h
 ·rw [if_neg (by omega)]
  exact dTEJyT
 ·rw [if_pos h]
  exact dTEJyT
end
section
theorem dTEcMx {P:Prop} (h:P:=by
 try dsimp only at hJ hzl
 by_cases h91:u.toNat=91
 ·rw [jmpOf_hit h91] at hJ
  apply LW.yield
  rfl
  rfl
  (exact .cons rfl (.cons rfl .nil))
  exact hrec
  (apply zX;apply zZ;apply zY)
  rfl
  rfl
  (refine goZ ?_;intro _;apply beginI;apply qE;apply qE;apply qF;apply qA;refine goZ ?_;intro _)
  (apply qZ;rfl;rfl;exact vF;exact vF;exact vF;rfl;rfl;rfl;(case hrow=>assumption);apply qK;apply qK;apply qK;exact qJ;apply qH;apply zY;rfl;rfl;rfl;omega;simp only [maxLen];omega;omega;intro v' seg' hrow';obtain ⟨p',c',rfl⟩:=hrow'.form;(refine ⟨_,(by (repeat (first|exact qJ|apply qK|apply qL))),?_⟩);(try simp only [yA,jQ]))
  (refine goZ ?_;apply roundN;apply qE;apply qE;apply qE;apply qF;apply qA;refine goZ ?_)
  apply thenX
  refine ⟨rfl,⟨_,J++[p],_,seg'⟩,⟨(jR _ _ _).trans hJ,by dsimp only;omega,by rw [yC];simp;omega,by rw [yC,ics_app];exact hrow'⟩,by dsimp only;omega,⟨rfl,rfl,rfl,trivial⟩,by (apply jK;apply jK;apply jK;exact jG _)⟩
 ·rw [jmpOf_miss h91] at hJ
  apply LW.yield
  rfl
  rfl
  (exact .cons rfl (.cons rfl .nil))
  exact hrec
  (apply zX;apply zZ;apply zY)
  rfl
  rfl
  (refine goZ ?_;intro _;apply beginI;apply qE;apply qE;apply qF;apply qA;refine goZ ?_;apply roundN;apply qE;apply qE;apply qF;apply qA;refine goZ ?_)
  apply thenX
  refine ⟨rfl,⟨_,J,v,seg⟩,⟨hJ,by dsimp only;omega,by dsimp only;omega,hrow⟩,by dsimp only;omega,⟨rfl,rfl,rfl,trivial⟩,by (apply jK;apply jK;exact jG _)⟩):P:=h
def opAt (b:Nat):OpV:=match opOf b with
 |some x=>x
 |none=>⟨b,[],0,0,0⟩
theorem opAt_dt (b:Nat):(opAt b).dt=szOf b:=by unfold opAt szOf;cases opOf b<;>rfl
theorem row_c {b:Nat} {x:OpV} (h:rowOp b=some x):x.c=b:=by
 unfold rowOp at h
 split at h
 ·cases h;rfl
 ·split at h
  ·cases h;rfl
  ·split at h
   ·cases h;rfl
   ·cases h
theorem opOf_c {b:Nat} {x:OpV} (h:opOf b=some x):x.c=b:=by
 unfold opOf at h
 cases hr:rowOp b with
 |some y=>rw [hr] at h;cases h;exact row_c hr
 |none=>rw [hr] at h;simpa using List.find?_some h
theorem opAt_c (b:Nat):(opAt b).c=b:=by
 unfold opAt
 cases h:opOf b with
 |none=>rfl
 |some x=>exact opOf_c h
theorem row_dt {b:Nat} {x:OpV} (h:rowOp b=some x):x.dt≤32:=by
 unfold rowOp at h
 split at h
 ·cases h;dsimp only;omega
 ·split at h
  ·cases h;exact yT _
  ·split at h
   ·cases h;exact yT _
   ·cases h
theorem plain_dt:∀ x∈plainOps,x.dt=0:=by decide
theorem opOf_dt {b:Nat} {x:OpV} (h:opOf b=some x):x.dt≤32:=by
 unfold opOf at h
 cases hr:rowOp b with
 |some y=>rw [hr] at h;cases h;exact row_dt hr
 |none=>rw [hr] at h;rw [plain_dt x (List.mem_of_find?_eq_some h)];exact yT _
theorem szOf_le (b:Nat):szOf b≤32:=by
 unfold szOf
 cases h:opOf b with
 |none=>exact yT _
 |some x=>exact opOf_dt h
attribute [local irreducible] opOf
def segsAt (p:Nat) (bs:List UInt8):List (Nat × UInt8 × List UInt8):=match bs with
 |[]=>[]
 |b::r=>(p,b,r.take (szOf b.toNat))::segsAt (p+1+szOf b.toNat) (r.drop (szOf b.toNat))
termination_by bs.length
decreasing_by simp [yL];omega
theorem segsAt_nil (p:Nat):segsAt p []=[]:=by rw [segsAt]
theorem segsAt_cons (p:Nat) (b:UInt8) (r:List UInt8):segsAt p (b::r)=(p,b,r.take (szOf b.toNat))::segsAt (p+1+szOf b.toNat) (r.drop (szOf b.toNat)):=by rw [segsAt]
theorem segs_step (bs:List UInt8) (p:Nat) (h:p < bs.length):segsAt p (bs.drop p)=(p,bs.getD p 0,(bs.drop (p+1)).take (szOf (bs.getD p 0).toNat))::segsAt (p+szOf (bs.getD p 0).toNat+1) (bs.drop (p+szOf (bs.getD p 0).toNat+1)):=by
 rw [List.drop_eq_getElem_cons h,segsAt_cons,List.drop_drop,show bs[p]=bs.getD p 0 by simp [h],Nat.add_right_comm p 1]
theorem segs_end (bs:List UInt8) (p q:Nat) (h:bs.length≤p):segsAt q (bs.drop p)=[]:=by rw [List.drop_eq_nil_of_le h,segsAt_nil]
def jmpOf (L:List (Nat × UInt8 × List UInt8)):List Nat:=L.filterMap fun s=>if s.2.1.toNat=91 then some s.1 else none
def jumpsL (bs:List UInt8):List Nat:=jmpOf (segsAt 0 bs)
theorem jmpOf_hit {p:Nat} {u:UInt8} {d:List UInt8} {L:List (Nat × UInt8 × List UInt8)} (h:u.toNat=91):jmpOf ((p,u,d)::L)=p::jmpOf L:=by unfold jmpOf;exact List.filterMap_cons_some (if_pos h)
theorem jmpOf_miss {p:Nat} {u:UInt8} {d:List UInt8} {L:List (Nat × UInt8 × List UInt8)} (h:¬ u.toNat=91):jmpOf ((p,u,d)::L)=jmpOf L:=by unfold jmpOf;exact List.filterMap_cons_none (if_neg h)
structure JX where
 p:Nat
 J:List Nat
 v:Value
 seg:Fs
def JumpsR (bs:List UInt8) (v:Value) (gs:Fs):Prop:=IsRow 3 1 v (if bs.length≤200 then jumpsL bs else []).length (ics (if bs.length≤200 then jumpsL bs else [])) gs
theorem Jumps_calls (bs:List UInt8) (v:Value) (w:World) (hv:RowAt w 1 v bs.length (ucs bs)):Calls prog 227 #[v] w (RetG w [] (JumpsR bs)):=by
 have hCk0:∀ w' {fs},St w [] fs w'→Calls prog 83 #[v] w' (Ret w' (.int .i64 (if bs.length≤200 then 0 else 3))):=fun w' fs hst=>CheckC_calls v bs.length (ucs bs) w' (hv.st hst)
 obtain ⟨p0,c0,rfl,_,_⟩:=hv.form
 unfold JumpsR
 refine enter (args:=[_]) _ [] [] func227 rfl ntmps227 rfl (by simp) .nil ?_
 rcases jM 200 bs.length with hgt|hle
 ·rw [if_neg (by omega)]
  have hCk:∀ w' {fs},St w [] fs w'→Calls prog 83 #[.slice p0 bs.length c0] w' (Ret w' (.int .i64 3)):=by rw [if_neg (by omega)] at hCk0;exact hCk0
  (refine goZ ?_;apply LW.alloc1;rfl;rfl;intro _;refine goZ ?_)
  apply LW.inline
  rfl
  rfl
  exact vF
  (exact .cons rfl .nil)
  rfl
  exact func200
  rfl
  exact ntmps200
  rfl
  (refine goZ ?_;apply LW.box1;rfl;rfl;rfl;intro _;refine goZ ?_;apply qN;rfl;rfl;apply ValP.makeFunc;exact qT;exact .cons rfl .nil;refine goZ ?_)
  apply inI
  (exact .inl rfl)
  (exact Shut.nil)
  rfl
  (apply zD;exact zG rfl;exact zF)
  rfl
  (refine goZ ?_)
  apply CW.rangeFunc
  rfl
  rfl
  exact vF
  rfl
  exact func218
  rfl
  exact ntmps218
  rfl
  rfl
  intro l r rec hrec
  (refine goZ ?_;refine cEz (c:=fun w _=>by exact hCk w (by assumption)) (k:=?_))
  apply rangeN
  (exact .inl rfl)
  (exact Shut.nil)
  (apply qA)
  (refine goZ ?_;refine thenM ?_;refine goZ ?_)
  apply finM [];(exact .inl rfl);(apply Shut.cons;apply qE;apply qA;exact Shut.nil);rfl;(apply zD;exact zG rfl;exact zF);exact List.nil_sublist _
  exact .nil
 ·rw [if_pos hle]
  have hCk:∀ w' {fs},St w [] fs w'→Calls prog 83 #[.slice p0 bs.length c0] w' (Ret w' (.int .i64 0)):=by rw [if_pos hle] at hCk0;exact hCk0
  obtain ⟨T,hT⟩:∃ T,jumpsL bs=T:=⟨_,rfl⟩
  rw [hT]
  (refine goZ ?_;apply LW.alloc1;rfl;rfl;intro _;refine goZ ?_)
  apply LW.inline
  rfl
  rfl
  exact vF
  (exact .cons rfl .nil)
  rfl
  exact func200
  rfl
  exact ntmps200
  rfl
  (refine goZ ?_;apply LW.box1;rfl;rfl;rfl;intro _;refine goZ ?_;apply qN;rfl;rfl;apply ValP.makeFunc;exact qT;exact .cons rfl .nil;refine goZ ?_)
  apply inI
  (exact .inl rfl)
  (exact Shut.nil)
  rfl
  (apply zD;exact zG rfl;exact zF)
  rfl
  (refine goZ ?_)
  apply CW.rangeFunc
  rfl
  rfl
  exact vF
  rfl
  exact func218
  rfl
  exact ntmps218
  rfl
  rfl
  intro l r rec hrec
  (refine goZ ?_;refine cEz (c:=fun w _=>by exact hCk w (by assumption)) (k:=?_))
  rename_i bo bb
  refine qM (fun x:JX=>([(3,.int .i64 (x.p:Int)),(0,.func (.yield l) #[] #[]),(1,.pointer (some ⟨bb,0,none⟩))],
   x.seg++[(l,rdy rec),(r,.deferred (some [])),(bb,.cells #[.slice p0 bs.length c0] 22 (0,0)),(bo,.cells #[x.v] 176 (0,0))]))
   (fun x=>x.J++jmpOf (segsAt x.p (bs.drop x.p))=T∧x.p≤300∧x.J.length≤x.p∧IsRow 3 1 x.v x.J.length (ics x.J) x.seg) (fun x=>bs.length - x.p) ⟨0,[],.slice none 0 0,[]⟩ ⟨by rw [yW];exact hT,by decide,by decide,.nil⟩ ⟨rfl,rfl,rfl,trivial⟩ (jG _) ?_
  rintro ⟨p,J,v,seg⟩ ⟨hJ,hp,hJl,hrow⟩
  dsimp only at hJ hp hJl hrow ⊢
  rcases jM p bs.length with hlt|hge
  ·obtain ⟨b,off,c',cs,E,fr,heq,hbk,hx⟩:=hv.pos (by omega)
   cases heq
   have hst:=segs_step bs p hlt
   obtain ⟨u,hu⟩:∃ u,bs.getD p 0=u:=⟨_,rfl⟩
   rw [hu] at hst
   rw [hst] at hJ
   have hrd:Rd prog 5 (.cells cs E fr) (off+p * 1) (.int .u8 (u.toNat:Int)):=Rd.elem1 hx (ucs_one bs) (jO hlt) (by rw [← hu];simp [hlt])
   have hub:u.toNat < 256:=u.toNat_lt
   have hOf0:=Of_op_calls u.toNat hub
   have hzl:=szOf_le u.toNat
   have hxc:=opAt_c u.toNat
   have hxd:=opAt_dt u.toNat
   obtain ⟨x,hx0⟩:∃ x,opAt u.toNat=x:=⟨_,rfl⟩
   rw [hx0] at hxc hxd
   rw [← hxd] at hzl hJ
   unfold opAt at hx0
   cases ho:opOf u.toNat with
   |none =>
    rw [ho] at hx0 hOf0
    dsimp only at hx0
    subst hx0
    have hOf:∀ w,Calls prog 91 #[.int .u8 (u.toNat:Int)] w (Ret w (.tuple #[.agg (opc zeroOp),.int .i64 4])):=hOf0
    (refine goZ ?_;refine cEv hOf ?_;intro _;refine bTz ?_)
    exact dTEcMx
   |some y =>
    rw [ho] at hx0 hOf0
    dsimp only at hx0
    subst hx0
    have hOf:∀ w,Calls prog 91 #[.int .u8 (u.toNat:Int)] w (Ret w (.tuple #[.agg (opc y),.int .i64 0])):=hOf0
    (refine goZ ?_;refine cEv hOf ?_;intro _)
    exact dTEcMx
  ·rw [segs_end bs p p hge] at hJ
   have hJ':J=T:=by rw [← hJ];simp [jmpOf]
   subst hJ'
   (refine goZ ?_)
   apply rangeN
   (exact .inr rfl)
   (exact Shut.nil)
   (apply qF;apply qA)
   (refine goZ ?_;refine thenM ?_;refine goZ ?_)
   apply finM seg;(exact .inl rfl);(apply Shut.cons;apply qF;apply qE;apply qA;exact Shut.nil);rfl;(apply zD;exact zG rfl;exact zF);exact jJ _ _
   exact hrow
end
section
theorem dQEcmK {P Q:Prop} (k:Q) (h:BoxZ Q→P:=by
 intro kQ
 (refine goZ ?_;refine cEz (c:=fun w _=>by exact hRd w (by assumption)) (k:=?_))
 exact kQ.k):P:=h ⟨k⟩
theorem dTEhAF {P:Prop} (h:P:=by
 intro bs p h s hs
 rw [List.eq_nil_of_length_eq_zero (show bs.length=0 by omega),segsAt_nil] at hs
 cases hs):P:=h
attribute [local irreducible] opOf
def idxN (l:List Nat) (x:Nat):Int:=match l.findIdx? (· == x) with
 |some i=>(i:Int)
 |none=>-1
theorem idxN_mem (l:List Nat) (x:Nat):decide (0≤idxN l x)=l.contains x:=by
 unfold idxN
 cases h:l.findIdx? (· == x) with
 |none =>
  have:=List.findIdx?_eq_none_iff.1 h
  rw [vA (by decide)]
  symm
  rw [Bool.eq_false_iff]
  intro hc
  have hm:=List.contains_iff_mem.1 hc
  have:=this x hm
  simp at this
 |some i =>
  obtain ⟨hlt,hc,_⟩:=List.findIdx?_eq_some_iff_getElem.1 h
  rw [vE (by dsimp only;omega)]
  symm
  have:l[i]=x:=by simpa using hc
  exact List.contains_iff_mem.2 (this ▸ List.getElem_mem hlt)
theorem Index_n_calls (l:List Nat) (x:Nat) (hx:x < 1000) (v:Value) (w:World) (hv:RowAt w 1 v l.length (ics l)):Calls prog 236 #[v,.int .i64 (x:Int)] w (Ret w (.int .i64 (idxN l x))):=by
 obtain ⟨p0,c0,rfl,hc0,hm0⟩:=hv.form
 simp only [maxLen] at hm0
 refine enter (args:=[_,_]) _ [] [] func236 rfl ntmps236 rfl (by simp) .nil ?_
 (refine goZ ?_)
 refine qM (fun k:Nat=>([(0,.slice p0 l.length c0),(1,.int .i64 (x:Int)),(4,.int .i64 0),(7,.int .i64 (l.length:Int)),(8,.int .i64 (k:Int))],[]))
  (fun k=>k≤l.length∧∀ j (hj:j < l.length),j < k→l[j] ≠ x) (fun k=>l.length - k) 0 ⟨Nat.zero_le _,fun j hj h=>absurd h (Nat.not_lt_zero _)⟩ ⟨rfl,rfl,rfl,rfl,rfl,trivial⟩ (jG _) ?_
 rintro k ⟨hk,hall⟩
 dsimp only
 rcases jM k l.length with hlt|hge
 ·obtain ⟨b,off,c',cs,E,fr,heq,hbk,hx'⟩:=hv.pos (by omega)
  cases heq
  have hrd:Rd prog 3 (.cells cs E fr) (off+k * 1) (.int .i64 (l[k]:Int)):=Rd.elem1 hx' (ics_len l) (jO hlt) rfl
  by_cases he:l[k]=x
  ·have hi:idxN l x=(k:Int):=by
    unfold idxN
    rw [List.findIdx?_eq_some_iff_getElem.2 ⟨hlt,by simpa using he,fun j hj=>by simpa using hall j (by omega) hj⟩]
   rw [hi]
   have he':(x:Int)=(l[k]:Int):=by omega
   obtain ⟨y,hy⟩:∃ y,l[k]=y:=⟨_,rfl⟩
   rw [hy] at hrd he'
   exact dTEJyT
  ·have he':¬ (x:Int)=(l[k]:Int):=by omega
   obtain ⟨y,hy⟩:∃ y,l[k]=y:=⟨_,rfl⟩
   rw [hy] at hrd he'
   (refine goZ ?_)
   apply thenX
   refine ⟨rfl,k+1,⟨hlt,fun j hj hjk=>?_⟩,by omega,⟨rfl,rfl,rfl,rfl,rfl,trivial⟩,jG _⟩
   rcases jM j k with h|h
   ·exact hall j hj h
   ·obtain rfl:j=k:=by omega
    exact he
 ·have hi:idxN l x=-1:=by
   unfold idxN
   rw [List.findIdx?_eq_none_iff.2 fun y hy=>by
    obtain ⟨j,hj,rfl⟩:=List.mem_iff_getElem.1 hy
    simpa using hall j hj (by omega)]
  rw [hi]
  exact dTEJyT
theorem Contains_calls (l:List Nat) (x:Nat) (hx:x < 1000) (v:Value) (w:World) (hv:RowAt w 1 v l.length (ics l)):Calls prog 226 #[v,.int .i64 (x:Int)] w (Ret w (.bool (l.contains x))):=by
 have hIx:∀ w' {fs},St w [] fs w'→Calls prog 236 #[v,.int .i64 (x:Int)] w' (Ret w' (.int .i64 (idxN l x))):=fun w' fs hst=>Index_n_calls l x hx v w' (hv.st hst)
 refine enter (args:=[_,_]) _ [] [] func226 rfl ntmps226 rfl (by simp) .nil ?_
 (refine goZ ?_;refine cEz (c:=fun w _=>by exact hIx w (by assumption)) (k:=?_);refine lvz (.geq rfl rfl) ?_;refine goZ ?_)
 (refine fiz ?_)
 rw [← idxN_mem]
 rfl
def jumpsC (bs:List UInt8):List Nat:=if bs.length≤200 then jumpsL bs else []
def jumpC (bs:List UInt8) (n:Nat):Bool:=decide (n < 200) && (jumpsC bs).contains n
theorem Jump_calls (bs:List UInt8) (n:Nat) (hn:n < 18446744073709551616) (v:Value) (w:World) (hv:RowAt w 1 v bs.length (ucs bs)):Calls prog 209 #[v,.int .u64 (n:Int)] w (Ret w (.bool (jumpC bs n))):=by
 unfold jumpC
 refine enter (args:=[_,_]) _ [] [] func209 rfl ntmps209 rfl (by simp) .nil ?_
 rcases jM n 200 with h|h
 ·rw [vE h,Bool.true_and]
  (refine goZ ?_)
  refine LW.callR rfl rfl vF agZ (fun w' hst=>Jumps_calls bs v w' (hv.st hst)) ?_
  intro v1 gs1 hr1
  have hCo:∀ w',St w [] (gs1++[]) w'→Calls prog 226 #[v1,.int .i64 (n:Int)] w' (Ret w' (.bool ((jumpsC bs).contains n))):=fun w' hst=>Contains_calls (jumpsC bs) n (by omega) v1 w' (IsRow.at (pre:=[]) (post:=[]) hr1 hst)
  (refine goZ ?_;refine cEz (c:=fun w _=>by exact hCo w (by assumption)) (k:=?_))
  (refine fiz ?_)
  rfl
 ·rw [vA (by omega),Bool.false_and]
  exact dTEJyT
def readB (bs:List UInt8) (i:Int):Bool:=(segsAt 0 bs).any fun s=>decide ((s.1:Int)=i)
def readFrom (bs:List UInt8) (p:Nat) (i:Int):Bool:=(segsAt p (bs.drop p)).any fun s=>decide ((s.1:Int)=i)
theorem segsAt_ge (n:Nat):∀ (bs:List UInt8) (p:Nat),bs.length≤n→∀ s∈segsAt p bs,p≤s.1:=by
 induction n with
 |zero =>
  exact dTEhAF
 |succ n ih =>
  intro bs p h s hs
  cases bs with
  |nil=>rw [segsAt_nil] at hs;cases hs
  |cons b r =>
   rw [segsAt_cons] at hs
   rcases List.mem_cons.1 hs with rfl|hs
   ·exact yD _
   ·have:=ih (r.drop (szOf b.toNat)) (p+1+szOf b.toNat) (by simp at h ⊢;omega) s hs
    omega
theorem readFrom_gt {bs:List UInt8} {p:Nat} {i:Int} (h:i < (p:Int)):readFrom bs p i=false:=by
 unfold readFrom
 refine List.any_eq_false.2 fun s hs=>?_
 have:=segsAt_ge _ _ p (yD _) s hs
 simp;omega
theorem readFrom_end {bs:List UInt8} {p:Nat} {i:Int} (h:bs.length≤p):readFrom bs p i=false:=by
 unfold readFrom;rw [segs_end bs p p h];rfl
theorem readFrom_hit {bs:List UInt8} {p:Nat} (h:p < bs.length):readFrom bs p (p:Int)=true:=by
 unfold readFrom;rw [segs_step bs p h,List.any_cons];simp
theorem readFrom_step {bs:List UInt8} {p:Nat} {i:Int} (h:p < bs.length) (hi:(p:Int) < i):readFrom bs (p+1+szOf (bs.getD p 0).toNat) i=readFrom bs p i:=by
 unfold readFrom
 rw [segs_step bs p h,List.any_cons,vA (by dsimp only;omega),Bool.false_or,Nat.add_right_comm p 1]
theorem Read_calls (bs:List UInt8) (hb:bs.length≤1000) (i:Int) (v:Value) (w:World) (hv:RowAt w 1 v bs.length (ucs bs)):Calls prog 45 #[v,.int .i64 i] w (Ret w (.bool (readB bs i))):=by
 obtain ⟨p0,c0,rfl,hc0,hm0⟩:=hv.form
 have h0:readFrom bs 0 i=readB bs i:=by unfold readFrom readB;rw [yW]
 refine enter (args:=[_,_]) _ [] [] func45 rfl ntmps45 rfl (by simp) .nil ?_
 (refine goZ ?_)
 refine qM (fun k:Nat=>([(0,.slice p0 bs.length c0),(1,.int .i64 i),(4,.bool false),(5,.int .i64 (k:Int))],[]))
  (fun k=>k≤2000∧readFrom bs k i=readB bs i) (fun k=>bs.length - k) 0 ⟨Nat.zero_le _,h0⟩ ⟨rfl,rfl,rfl,rfl,trivial⟩ (jG _) ?_
 rintro k ⟨hk,hr⟩
 dsimp only
 rcases jM k bs.length with hlt|hge
 ·rcases Int.lt_or_le (k:Int) i with hki|hki
  ·obtain ⟨b,off,c',cs,E,fr,heq,hbk,hx⟩:=hv.pos (by omega)
   cases heq
   have hst:=readFrom_step hlt hki
   obtain ⟨u,hu⟩:∃ u,bs.getD k 0=u:=⟨_,rfl⟩
   rw [hu,hr] at hst
   have hrd:Rd prog 5 (.cells cs E fr) (off+k * 1) (.int .u8 (u.toNat:Int)):=Rd.elem1 hx (ucs_one bs) (jO hlt) (by rw [← hu];simp [hlt])
   have hSz:=size_calls u.toNat u.toNat_lt
   have hzl:=szOf_le u.toNat
   obtain ⟨z,hz⟩:∃ z,szOf u.toNat=z:=⟨_,rfl⟩
   rw [hz] at hSz hzl hst
   (refine goZ ?_;refine cEv hSz ?_)
   apply thenX
   exact ⟨rfl,k+1+z,⟨by omega,hst⟩,by omega,⟨rfl,rfl,rfl,rfl,trivial⟩,jG _⟩
  ·rcases Int.lt_or_eq_of_le hki with hlt'|heq
   ·rw [← hr,readFrom_gt hlt']
    have hne:¬ (k:Int)=i:=by omega
    (refine goZ ?_)
    (refine fiz ?_)
    rfl
   ·subst heq
    rw [← hr,readFrom_hit hlt]
    (refine goZ ?_)
    (refine fiz ?_)
    rfl
 ·rw [← hr,readFrom_end hge]
  by_cases heq:(k:Int)=i
  ·subst heq
   exact dTEJyT
  ·exact dTEJyT
def hitB (bs:List UInt8) (i:Nat):Bool:=decide ((bs.getD i 0).toNat=91) && readB bs (i:Int)
def jmpR (bs:List UInt8) (k:Nat):List Nat:=(List.range k).filter (hitB bs)
def rJumpC (bs:List UInt8) (n:Nat):Bool:=decide (n < bs.length) && hitB bs n
theorem rJump_calls (bs:List UInt8) (hb:bs.length≤1000) (n:Nat) (hn:n < 18446744073709551616) (v:Value) (w:World) (hv:RowAt w 1 v bs.length (ucs bs)):Calls prog 193 #[v,.int .u64 (n:Int)] w (Ret w (.bool (rJumpC bs n))):=by
 have hRd0:∀ i w' {fs},St w [] fs w'→Calls prog 45 #[v,.int .i64 i] w' (Ret w' (.bool (readB bs i))):=fun i w' fs hst=>Read_calls bs hb i v w' (hv.st hst)
 obtain ⟨p0,c0,rfl,hc0,hm0⟩:=hv.form
 unfold rJumpC
 refine enter (args:=[_,_]) _ [] [] func193 rfl ntmps193 rfl (by simp) .nil ?_
 rcases jM n bs.length with hlt|hge
 ·obtain ⟨b,off,c',cs,E,fr,heq,hbk,hx⟩:=hv.pos (by omega)
  cases heq
  obtain ⟨u,hu⟩:∃ u,bs.getD n 0=u:=⟨_,rfl⟩
  have hrd:Rd prog 5 (.cells cs E fr) (off+n * 1) (.int .u8 (u.toNat:Int)):=Rd.elem1 hx (ucs_one bs) (jO hlt) (by rw [← hu];simp [hlt])
  have hub:=u.toNat_lt
  have hRd:=hRd0 (n:Int)
  unfold hitB
  rw [vE hlt,Bool.true_and,hu]
  by_cases h91:u.toNat=91
  ·rw [vE h91,Bool.true_and]
   refine dQEcmK ?_
   (refine fiz ?_)
   rfl
  ·rw [vA h91,Bool.false_and]
   exact dTEJyT
 ·rw [vA (by omega),Bool.false_and]
  exact dTEJyT
end
section
theorem dTEmxr {P:Prop} (h:P:=by
 (refine goZ ?_)
 apply roundR
 (apply qE;apply qE;apply qE;apply qA)
 (refine goZ ?_)
 apply rangeR
 (exact .inl rfl)
 (exact Shut.nil)
 (apply qE;apply qE;apply qE;apply qA)
 (refine goZ ?_)
 have hfin:=fin _ hc
 apply finM [_];(exact .inl rfl);(apply Shut.cons;apply qE;apply qE;apply qE;apply qE;apply qA;exact Shut.nil);rfl;(apply zD;apply zH;rfl;apply qH;apply zX;apply zX;apply zX;apply zX;apply zX;apply zX;apply zY;exact Rd.one' rfl;exact zF)
 case hg=>exact List.singleton_sublist.2 (by (exact jW _))
 exact hfin):P:=h
theorem dTEAot {P:Prop} (h:P:=by
 rcases Int.lt_or_gt_of_ne hpi with h|h
 ·rcases hinv with h'|⟨h',_⟩
  ·left;rw [← h',hxd,← hu];exact readFrom_step' hlt h
  ·omega
 ·right
  refine ⟨by omega,?_⟩
  rcases hinv with h'|⟨_,h'⟩
  ·rw [readFrom_gt h] at h';rw [← hT];exact dataL_none h'.symm
  ·exact h'):P:=h
attribute [local irreducible] opOf
theorem LW.copyFull {C:Cu} {ops:Array Oper} {Q:Post} {rest:List Oper} {e:Env} {fs:Fs} {d:Nat} {t:TypeId} {pos:String} {af:Array Edge} {x y:Operand} {tys:Array TypeId} {T E bytes:TypeId} {z vx:Value} {g off dLen dCap m:Nat} {cur:Array Value} {E':TypeId} {news:List Value} {fs':Fs} (hd:Nat.blt d C.N=true) (hT:tys=#[T,T]) (hU:UnI C.P T (.slice E)) (hI:InfoI C.P E 1 z) (hB:BytI C.P E bytes)
  (hx:e.ev x=some (.slice (some ⟨g,off,none⟩) dLen dCap)) (hy:e.ev y=some vx) (hat:∀ w,St C.w0 C.S fs w→RowAt w 1 vx m news) (h1:∀ u∈news,u.oneCell'=true) (h0:0 < dLen) (hm:dLen≤m) (hfit:off+dLen≤cur.size)
  (hset:SetAt fs g (.cells cur E' (0,0)) (.cells (cur.toList.take off++news.take dLen++cur.toList.drop (off+dLen)).toArray E' (0,0)) fs')
  (k:LW C ops Q rest ((d,.int .i64 (dLen:Int))::e) fs') :
  LW C ops Q (⟨some d,.call { callee:=.builtin .copy,args:=#[x,y],argTypes:=tys },t,pos,af,none⟩::rest) e fs:=by
 subst hT
 refine LW.valset hd (fun c h=>by cases h) hset (fun a w hs hg=>?_) k
 have hA:=hat w hs.st
 have hl:(news.take dLen).length=dLen:=by have:=hA.len;rw [yH];omega
 have hsz:(C.P.info? E).map (·.size)=some 1:=by
  obtain ⟨i,i1,i2,i3,i4⟩:=info_all (P:=C.P) (T:=E);rw [i1];simp [i2]
 obtain ⟨b,o2,c,cs,E2,fr,rfl,hblk,hnx⟩:=hA.pos (by omega)
 have hrun:=run_copy_row (P:=C.P) w T T t E g off dLen dCap ⟨b,o2,none⟩ m c cur E' (news.take dLen) hU.un hsz hg (by rw [hl];exact (Nat.min_eq_right hm).symm) (fun j u hj=>by
  rw [addr_add,cell_of hblk]
  rw [List.getElem?_take] at hj
  split at hj
  ·exact cut_get hnx hj
  ·cases hj) (by rw [hl];exact hfit) (fun u hu=>h1 u (List.mem_of_mem_take hu))
 rw [hl] at hrun
 have hput:w.setRow g (cur.toList.take off++news.take dLen++cur.toList.drop (off+dLen)).toArray=w.putObj g (.cells (cur.toList.take off++news.take dLen++cur.toList.drop (off+dLen)).toArray E' (0,0)):=setRow_put hg
 rw [hput] at hrun
 simp [execOp,resolve,invoke,builtin,hs.env.ev hx,hs.env.ev hy,hrun,goInt]
def datF (bs:List UInt8) (n k:Nat):List UInt8:=(List.range k).map fun i=>bs.getD (n+1+i) 0
theorem datF_len (bs:List UInt8) (n k:Nat):(datF bs n k).length=k:=by simp [datF]
theorem datF_succ (bs:List UInt8) (n k:Nat):datF bs n (k+1)=datF bs n k++[bs.getD (n+1+k) 0]:=by unfold datF;rw [List.range_succ,List.map_append];rfl
theorem datF_get (bs:List UInt8) (n k i:Nat):(datF bs n k)[i]?=if i < k then some (bs.getD (n+1+i) 0) else none:=by
 unfold datF
 rw [List.getElem?_map]
 split
 ·rename_i h;rw [List.getElem?_range h];rfl
 ·rename_i h;rw [yN (by simp;omega)];rfl
theorem datF_eq (bs:List UInt8) (n k:Nat):datF bs n k=(bs.drop (n+1)).take k++List.replicate (k - (bs.length - (n+1))) 0:=by
 refine List.ext_getElem? fun i=>?_
 rw [datF_get,List.getElem?_append,yH,yL]
 split
 ·rename_i h
  split
  ·rename_i h2
   rw [List.getElem?_take,if_pos h,List.getElem?_drop,jU,jO (show n+1+i < bs.length by omega)];rfl
  ·rename_i h2
   rw [List.getElem?_replicate,if_pos (by omega),jU,yN (by omega)];rfl
 ·rename_i h
  rw [if_neg (by omega),List.getElem?_replicate,if_neg (by omega)]
def dataL (bs:List UInt8) (i:Int):List UInt8:=if readB bs i=true then datF bs i.toNat (szOf (bs.getD i.toNat 0).toNat) else []
def dataC (bs:List UInt8) (i:Int):List UInt8:=if bs.length≤200 then dataL bs i else []
theorem readB_range {bs:List UInt8} {i:Int} (h:readB bs i=true):0≤i∧i < bs.length:=by
 unfold readB at h
 obtain ⟨s,hs,he⟩:=List.any_eq_true.1 h
 have he':(s.1:Int)=i:=by simpa using he
 refine ⟨by omega,?_⟩
 have key:∀ n (bs:List UInt8) p,bs.length≤n→∀ s∈segsAt p bs,s.1 < p+bs.length:=by
  intro n
  induction n with
  |zero =>
   exact dTEhAF
  |succ n ih =>
   intro bs p h s hs
   cases bs with
   |nil=>rw [segsAt_nil] at hs;cases hs
   |cons b r =>
    rw [segsAt_cons] at hs
    rcases List.mem_cons.1 hs with rfl|hs
    ·simp
    ·have h1:=ih (r.drop (szOf b.toNat)) (p+1+szOf b.toNat) (by simp at h ⊢;omega) s hs
     have h2:=segsAt_ge _ _ _ (yD _) s hs
     simp at h1 ⊢
     omega
 have:=key _ bs 0 (yD _) s hs
 omega
structure RJ2 where
 k:Nat
 v:Value
 seg:Fs
theorem rData_calls (bs:List UInt8) (hb:bs.length≤1000) (i:Int) (v:Value) (w:World) (hv:RowAt w 1 v bs.length (ucs bs)):Calls prog 54 #[v,.int .i64 i] w (RetG w [] fun v gs=>IsRow 5 1 v (dataL bs i).length (ucs (dataL bs i)) gs):=by
 have hRd0:∀ w' {fs},St w [] fs w'→Calls prog 45 #[v,.int .i64 i] w' (Ret w' (.bool (readB bs i))):=fun w' fs hst=>Read_calls bs hb i v w' (hv.st hst)
 obtain ⟨p0,c0,rfl,hc0,hm0⟩:=hv.form
 unfold dataL
 refine enter (args:=[_,_]) _ [] [] func54 rfl ntmps54 rfl (by simp) .nil ?_
 cases hrk:readB bs i with
 |false =>
  have hRd:=hRd0
  rw [hrk] at hRd
  rw [if_neg (by decide)]
  refine dQEcmK ?_
  apply finM [];(exact .inl rfl);(exact Shut.nil);rfl;(apply zD;exact zG rfl;exact zF);exact List.nil_sublist _
  exact .nil
 |true =>
  have hRd:=hRd0
  rw [hrk] at hRd
  rw [if_pos rfl]
  obtain ⟨hi0,hi1⟩:=readB_range hrk
  obtain ⟨n,rfl⟩:∃ n:Nat,i=(n:Int):=⟨i.toNat,by omega⟩
  rw [yY]
  have hlt:n < bs.length:=by omega
  obtain ⟨b,off,c',cs,E,fr,heq,hbk,hx⟩:=hv.pos (by omega)
  cases heq
  obtain ⟨u,hu⟩:∃ u,bs.getD n 0=u:=⟨_,rfl⟩
  have hrd:Rd prog 5 (.cells cs E fr) (off+n * 1) (.int .u8 (u.toNat:Int)):=Rd.elem1 hx (ucs_one bs) (jO hlt) (by rw [← hu];simp [hlt])
  have hSz:=size_calls u.toNat u.toNat_lt
  have hzl:=szOf_le u.toNat
  rw [hu]
  obtain ⟨z,hz⟩:∃ z,szOf u.toNat=z:=⟨_,rfl⟩
  rw [hz] at hSz hzl ⊢
  refine dQEcmK ?_
  refine qM (fun x:RJ2=>([(0,.slice (some ⟨b,off,none⟩) bs.length c0),(1,.int .i64 (n:Int)),(5,x.v),(6,.int .i64 ((x.k+1:Nat):Int))],x.seg++[]))
   (fun x=>x.k≤z∧IsRow 5 1 x.v x.k (ucs (datF bs n x.k)) x.seg) (fun x=>z - x.k) ⟨0,.slice none 0 0,[]⟩ ⟨Nat.zero_le _,.nil⟩ ⟨rfl,rfl,rfl,rfl,trivial⟩ (jG _) ?_
  rintro ⟨k,v,seg⟩ ⟨hk,hrow⟩
  dsimp only at hk hrow ⊢
  have hst:=datF_succ bs n k
  rcases jM k z with hkz|hkz
  ·rcases jM (n+1+k) bs.length with hin|hout
   ·obtain ⟨y,hy⟩:∃ y,bs.getD (n+1+k) 0=y:=⟨_,rfl⟩
    rw [hy] at hst
    have hrd2:Rd prog 5 (.cells cs E fr) (off+(n+(k+1)) * 1) (.int .u8 (y.toNat:Int)):=Rd.elem1 hx (ucs_one bs) (jO (show n+(k+1) < bs.length by omega)) (by rw [← hy,show n+1+k=n+(k+1) by omega];simp [show n+(k+1) < bs.length by omega])
    (refine goZ ?_;refine cEv hSz ?_;intro _)
    (apply qZ;rfl;rfl;exact vF;exact vF;exact vF;rfl;rfl;rfl;(case hrow=>assumption);apply qK;exact qJ;apply qH;apply zY;rfl;rfl;rfl;omega;simp only [maxLen];omega;omega;intro v' seg' hrow';obtain ⟨p',c',rfl⟩:=hrow'.form;(refine ⟨_,(by (repeat (first|exact qJ|apply qK|apply qL))),?_⟩);(try simp only [yA,jQ]))
    (refine goZ ?_)
    apply thenX
    exact ⟨rfl,⟨k+1,_,seg'⟩,⟨hkz,by dsimp only;rw [hst,ucs_app];exact hrow'⟩,by dsimp only;omega,⟨rfl,rfl,rfl,rfl,trivial⟩,by (apply jK;exact jG _)⟩
   ·rw [show bs.getD (n+1+k) 0=0 by rw [jU,yN (by omega)];rfl] at hst
    (refine goZ ?_;refine cEv hSz ?_;intro _)
    (apply qZ;rfl;rfl;exact vF;exact vF;exact vF;rfl;rfl;rfl;(case hrow=>assumption);apply qK;exact qJ;apply qH;apply zY;rfl;rfl;rfl;omega;simp only [maxLen];omega;omega;intro v' seg' hrow';obtain ⟨p',c',rfl⟩:=hrow'.form;(refine ⟨_,(by (repeat (first|exact qJ|apply qK|apply qL))),?_⟩);(try simp only [yA,jQ]))
    (refine goZ ?_)
    apply thenX
    exact ⟨rfl,⟨k+1,_,seg'⟩,⟨hkz,by dsimp only;rw [hst,ucs_app];exact hrow'⟩,by dsimp only;omega,⟨rfl,rfl,rfl,rfl,trivial⟩,by (apply jK;exact jG _)⟩
  ·obtain rfl:k=z:=by omega
   (refine goZ ?_;refine cEv hSz ?_)
   apply finM seg;(exact .inl rfl);(exact Shut.nil);rfl;(apply zD;exact zG rfl;exact zF);exact jJ _ _
   rw [datF_len]
   exact hrow
theorem readFrom_step' {bs:List UInt8} {p:Nat} {i:Int} (h:p < bs.length) (hi:(p:Int) < i):readFrom bs (p+szOf (bs.getD p 0).toNat+1) i=readFrom bs p i:=by
 rw [← readFrom_step h hi,Nat.add_right_comm p 1]
theorem dataL_none {bs:List UInt8} {i:Int} (h:readB bs i=false):dataL bs i=[]:=by unfold dataL;rw [h];exact if_neg (by decide)
theorem dataL_some {bs:List UInt8} {n:Nat} (h:readB bs n=true):dataL bs n=datF bs n (szOf (bs.getD n 0).toNat):=by unfold dataL;rw [h];exact if_pos rfl
theorem Data_calls (bs:List UInt8) (i:Int) (v:Value) (w:World) (hv:RowAt w 1 v bs.length (ucs bs)):Calls prog 132 #[v,.int .i64 i] w (RetG w [] fun v gs=>IsRow 5 1 v (dataC bs i).length (ucs (dataC bs i)) gs):=by
 have hCk0:∀ w' {fs},St w [] fs w'→Calls prog 83 #[v] w' (Ret w' (.int .i64 (if bs.length≤200 then 0 else 3))):=fun w' fs hst=>CheckC_calls v bs.length (ucs bs) w' (hv.st hst)
 obtain ⟨p0,c0,rfl,_,_⟩:=hv.form
 unfold dataC
 refine enter (args:=[_,_]) _ [] [] func132 rfl ntmps132 rfl (by simp) .nil ?_
 rcases jM 200 bs.length with hgt|hle
 ·rw [if_neg (by omega)]
  have hCk:∀ w' {fs},St w [] fs w'→Calls prog 83 #[.slice p0 bs.length c0] w' (Ret w' (.int .i64 3)):=by rw [if_neg (by omega)] at hCk0;exact hCk0
  (refine goZ ?_;apply LW.box1;rfl;rfl;rfl;intro _;apply LW.box1;rfl;rfl;rfl;intro _;apply LW.alloc1;rfl;rfl;intro _;refine goZ ?_)
  apply LW.inline
  rfl
  rfl
  exact vF
  (apply ArgsOk.cons;rfl;exact qT)
  rfl
  exact func200
  rfl
  exact ntmps200
  rfl
  (refine goZ ?_;apply LW.box1;rfl;rfl;rfl;intro _;refine goZ ?_;apply qN;rfl;rfl;apply ValP.makeFunc;exact qT;apply ArgsOk.cons;rfl;exact qT;refine goZ ?_)
  apply inI
  (exact .inl rfl)
  (exact Shut.nil)
  rfl
  (apply zD;exact zG rfl;exact zF)
  rfl
  (refine goZ ?_)
  apply CW.rangeFunc
  rfl
  rfl
  exact vF
  rfl
  exact func218
  rfl
  exact ntmps218
  rfl
  rfl
  intro l r rec hrec
  (refine goZ ?_;refine cEz (c:=fun w _=>by exact hCk w (by assumption)) (k:=?_))
  apply rangeN
  (exact .inl rfl)
  (exact Shut.nil)
  (apply qA)
  (refine goZ ?_;refine thenM ?_;refine goZ ?_)
  apply finM [];(exact .inl rfl);(apply Shut.cons;apply qE;apply qA;exact Shut.nil);rfl;(apply zD;apply zH;rfl;apply qH;apply zX;apply zX;apply zX;apply zY;exact Rd.one' rfl;exact zF);exact List.nil_sublist _
  exact .nil
 ·rw [if_pos hle]
  have hCk:∀ w' {fs},St w [] fs w'→Calls prog 83 #[.slice p0 bs.length c0] w' (Ret w' (.int .i64 0)):=by rw [if_pos hle] at hCk0;exact hCk0
  obtain ⟨T,hT⟩:∃ T,dataL bs i=T:=⟨_,rfl⟩
  rw [hT]
  (refine goZ ?_;apply LW.box1;rfl;rfl;rfl;intro _;apply LW.box1;rfl;rfl;rfl;intro _;apply LW.alloc1;rfl;rfl;intro _;refine goZ ?_)
  apply LW.inline
  rfl
  rfl
  exact vF
  (apply ArgsOk.cons;rfl;exact qT)
  rfl
  exact func200
  rfl
  exact ntmps200
  rfl
  (refine goZ ?_;apply LW.box1;rfl;rfl;rfl;intro _;refine goZ ?_;apply qN;rfl;rfl;apply ValP.makeFunc;exact qT;apply ArgsOk.cons;rfl;exact qT;refine goZ ?_)
  apply inI
  (exact .inl rfl)
  (exact Shut.nil)
  rfl
  (apply zD;exact zG rfl;exact zF)
  rfl
  (refine goZ ?_)
  apply CW.rangeFunc
  rfl
  rfl
  exact vF
  rfl
  exact func218
  rfl
  exact ntmps218
  rfl
  rfl
  intro l r rec hrec
  (refine goZ ?_;refine cEz (c:=fun w _=>by exact hCk w (by assumption)) (k:=?_))
  rename_i b1 b2 b3 bb
  refine qM (fun p:Nat=>([(3,.int .i64 (p:Int)),(0,.func (.yield l) #[] #[]),(1,.pointer (some ⟨bb,0,none⟩))],
   [(l,rdy rec),(r,.deferred (some [])),(bb,.cells #[.slice p0 bs.length c0] 22 (0,0)),(b3,.cells #[.slice none 0 0] 22 (0,0)),(b2,.cells #[.int .i64 i] 3 (0,0)),(b1,.cells #[.slice p0 bs.length c0] 22 (0,0))]))
   (fun p=>p≤300∧(readFrom bs p i=readB bs i∨(i < (p:Int)∧T=[]))) (fun p=>bs.length - p) 0 ⟨by decide,.inl (by unfold readFrom readB;rw [yW])⟩ ⟨rfl,rfl,rfl,trivial⟩ (jG _) ?_
  rintro p ⟨hp,hinv⟩
  dsimp only at hp hinv ⊢
  rcases jM p bs.length with hlt|hge
  ·obtain ⟨b,off,c',cs,E,fr,heq,hbk,hx⟩:=hv.pos (by omega)
   cases heq
   obtain ⟨u,hu⟩:∃ u,bs.getD p 0=u:=⟨_,rfl⟩
   have hrd:Rd prog 5 (.cells cs E fr) (off+p * 1) (.int .u8 (u.toNat:Int)):=Rd.elem1 hx (ucs_one bs) (jO hlt) (by rw [← hu];simp [hlt])
   have hub:u.toNat < 256:=u.toNat_lt
   have hOf0:=Of_op_calls u.toNat hub
   have hzl:=szOf_le u.toNat
   have hxd:=opAt_dt u.toNat
   obtain ⟨x,hx0⟩:∃ x,opAt u.toNat=x:=⟨_,rfl⟩
   rw [hx0] at hxd
   rw [← hxd] at hzl
   unfold opAt at hx0
   cases ho:opOf u.toNat with
   |none =>
    rw [ho] at hx0 hOf0
    dsimp only at hx0
    subst hx0
    have hOf:∀ w,Calls prog 91 #[.int .u8 (u.toNat:Int)] w (Ret w (.tuple #[.agg (opc zeroOp),.int .i64 4])):=hOf0
    dsimp only at hzl hxd
    (refine goZ ?_;refine cEv hOf ?_;intro _;refine bTz ?_)
    by_cases hpi:(p:Int)=i
    ·have hno:¬ i < (p:Int):=by omega
     have hrb:readB bs i=true:=by
      rcases hinv with h|⟨h,_⟩
      ·rw [← h,← hpi];exact readFrom_hit hlt
      ·exact absurd h hno
     rcases yB 0 with hz|hz
     ·have hT0:T=[]:=by rw [← hT,← hpi,dataL_some (by rw [hpi];exact hrb),hu,← hxd];exact List.eq_nil_of_length_eq_zero ((datF_len _ _ _).trans hz)
      apply LW.yield
      rfl
      rfl
      (apply ArgsOk.cons;rfl;apply ArgsOk.cons;rfl;exact qT)
      exact hrec
      (apply zX;apply zY)
      rfl
      rfl
      (refine goZ ?_;intro _;apply beginI;apply qE;apply qE;apply qA;refine goZ ?_;apply roundN;apply qE;apply qE;apply qA;refine goZ ?_)
      apply thenX
      exact ⟨rfl,p+0+1,⟨by omega,.inr ⟨by omega,hT0⟩⟩,by omega,⟨rfl,rfl,rfl,trivial⟩,by (apply jK;apply jK;exact jG _)⟩
     ·omega
    ·have hnext:readFrom bs (p+0+1) i=readB bs i∨(i < ((p+0+1:Nat):Int)∧T=[]):=by
      exact dTEAot
     apply LW.yield
     rfl
     rfl
     (apply ArgsOk.cons;rfl;apply ArgsOk.cons;rfl;exact qT)
     exact hrec
     (apply zX;apply zY)
     rfl
     rfl
     (refine goZ ?_;intro _;apply beginI;apply qE;apply qE;apply qA;refine goZ ?_;apply roundN;apply qE;apply qE;apply qA;refine goZ ?_)
     apply thenX
     exact ⟨rfl,p+0+1,⟨by omega,hnext⟩,by omega,⟨rfl,rfl,rfl,trivial⟩,by (apply jK;apply jK;exact jG _)⟩
   |some y =>
    rw [ho] at hx0 hOf0
    dsimp only at hx0
    subst hx0
    have hOf:∀ w,Calls prog 91 #[.int .u8 (u.toNat:Int)] w (Ret w (.tuple #[.agg (opc y),.int .i64 0])):=hOf0
    (refine goZ ?_;refine cEv hOf ?_;intro _)
    by_cases hpi:(p:Int)=i
    ·have hno:¬ i < (p:Int):=by omega
     have hrb:readB bs i=true:=by
      rcases hinv with h|⟨h,_⟩
      ·rw [← h,← hpi];exact readFrom_hit hlt
      ·exact absurd h hno
     rcases yB y.dt with hz|hz
     ·have hT0:T=[]:=by rw [← hT,← hpi,dataL_some (by rw [hpi];exact hrb),hu,← hxd];exact List.eq_nil_of_length_eq_zero ((datF_len _ _ _).trans hz)
      apply LW.yield
      rfl
      rfl
      (apply ArgsOk.cons;rfl;apply ArgsOk.cons;rfl;exact qT)
      exact hrec
      (apply zX;apply zY)
      rfl
      rfl
      (refine goZ ?_;intro _;apply beginI;apply qE;apply qE;apply qA;refine goZ ?_;apply roundN;apply qE;apply qE;apply qA;refine goZ ?_)
      apply thenX
      exact ⟨rfl,p+y.dt+1,⟨by omega,.inr ⟨by omega,hT0⟩⟩,by omega,⟨rfl,rfl,rfl,trivial⟩,by (apply jK;apply jK;exact jG _)⟩
     ·have hTe:T=datF bs p y.dt:=by rw [← hT,← hpi,dataL_some (by rw [hpi];exact hrb),hu,← hxd]
      have hTl:T.length=y.dt:=by rw [hTe,datF_len]
      have hcut:=RowAt.drop (k:=p+1) hv (by omega)
      rw [ucs_drop] at hcut
      apply LW.yield
      rfl
      rfl
      (apply ArgsOk.cons;rfl;apply ArgsOk.cons;rfl;exact qT)
      exact hrec
      (apply zX;apply zY)
      rfl
      rfl
      (refine goZ ?_;intro _;apply beginI;apply qE;apply qE;apply qA;refine goZ ?_)
      refine LW.makeOwn rfl vF vF vF rfl rfl (by omega) (by simp only [maxLen];omega) fun g=>?_
      subst hpi
      (refine goZ ?_;apply qN;rfl;rfl;apply ValP.cutFrom;exact vF;exact vF;rfl;rfl;omega)
      have fin:∀ cur:Array Value,cur.toList=ucs T→IsRow 5 1 (.slice (some ⟨g,0,none⟩) y.dt y.dt) T.length (ucs T) [(g,.cells cur 5 (0,0))]:=fun cur hc=>by
       have h1:cur.size=y.dt:=by rw [← Array.length_toList,hc,ucs_len,hTl]
       have:=IsRow.own (E:=5) (size:=1) (g:=g) (n:=y.dt) (cap:=y.dt) (cur:=cur) (xs:=ucs T) (yD _) (by simp only [maxLen];omega) (by rw [h1,yE]) (by rw [hc];exact yI (by rw [ucs_len,hTl,yE];exact yD _)) (by rw [ucs_len,hTl,yE])
       rw [hTl]
       exact this
      have hz0:(List.replicate y.dt (Value.int .u8 0))=ucs (List.replicate y.dt 0):=(ucs_zero _).symm
      rcases jM (bs.length - (p+1)) y.dt with hsh|hfull
      ·refine LW.copyAt (cur:=(List.replicate y.dt (Value.int .u8 0)).toArray) (E':=5) (m:=bs.length - (p+1)) (news:=ucs (bs.drop (p+1))) rfl rfl vF vF vF rfl rfl (fun w' hst=>hcut.st hst) (ucs_cells _) (by omega) (by simp;omega) (by (apply qA)) ?_
       have hc:((List.replicate y.dt (Value.int .u8 0)).toArray.toList.take 0++ucs (bs.drop (p+1))++(List.replicate y.dt (Value.int .u8 0)).toArray.toList.drop (0+(bs.length - (p+1)))).toArray.toList=ucs T:=by
        rw [hTe,datF_eq,ucs_app,ucs_zero,yI (show (bs.drop (p+1)).length≤y.dt by rw [yL];omega)]
        simp
       exact dTEmxr
      ·refine LW.copyFull (cur:=(List.replicate y.dt (Value.int .u8 0)).toArray) (E':=5) (m:=bs.length - (p+1)) (news:=ucs (bs.drop (p+1))) rfl rfl vF vF vF rfl rfl (fun w' hst=>hcut.st hst) (ucs_cells _) hz (by omega) (by simp) (by (apply qA)) ?_
       have hc:((List.replicate y.dt (Value.int .u8 0)).toArray.toList.take 0++(ucs (bs.drop (p+1))).take y.dt++(List.replicate y.dt (Value.int .u8 0)).toArray.toList.drop (0+y.dt)).toArray.toList=ucs T:=by
        rw [hTe,datF_eq,ucs_app,ucs_zero,show y.dt - (bs.length - (p+1))=0 by omega,← ucs_take,yE]
        simp
       exact dTEmxr
    ·have hnext:readFrom bs (p+y.dt+1) i=readB bs i∨(i < ((p+y.dt+1:Nat):Int)∧T=[]):=by
      exact dTEAot
     apply LW.yield
     rfl
     rfl
     (apply ArgsOk.cons;rfl;apply ArgsOk.cons;rfl;exact qT)
     exact hrec
     (apply zX;apply zY)
     rfl
     rfl
     (refine goZ ?_;intro _;apply beginI;apply qE;apply qE;apply qA;refine goZ ?_;apply roundN;apply qE;apply qE;apply qA;refine goZ ?_)
     apply thenX
     exact ⟨rfl,p+y.dt+1,⟨by omega,hnext⟩,by omega,⟨rfl,rfl,rfl,trivial⟩,by (apply jK;apply jK;exact jG _)⟩
  ·have hT0:T=[]:=by
    rcases hinv with h|⟨_,h⟩
    ·rw [readFrom_end hge] at h;rw [← hT];exact dataL_none h.symm
    ·exact h
   subst hT0
   (refine goZ ?_)
   apply rangeN
   (exact .inr rfl)
   (exact Shut.nil)
   (apply qA)
   (refine goZ ?_;refine thenM ?_;refine goZ ?_)
   apply finM [];(exact .inl rfl);(apply Shut.cons;apply qE;apply qA;exact Shut.nil);rfl;(apply zD;apply zH;rfl;apply qH;apply zX;apply zX;apply zX;apply zY;exact Rd.one' rfl;exact zF);exact List.nil_sublist _
   exact .nil
end
end Go.Proofs.YtdeggbkbblfpoaaGreatDoor.CK
namespace Go.Proofs.YtdeggbkbblfpoaaGreatDoor
open Go Go.RowKit SL
set_option maxRecDepth 8000
set_option maxHeartbeats 4000000
set_option linter.unusedSimpArgs false
set_option linter.unusedVariables false
attribute [local irreducible] SL.CW SL.LW SL.DW Calls SL.Ret SL.RetG SL.beginQ SL.roundQ SL.rangeQ SL.inQ SL.RW SL.AnyW SL.thenQ SL.thenC SL.thenW SL.blkQ SL.finQ SL.ValP SL.NewP SL.SetP SL.CallP SL.Rd SL.Wr SL.Known
section
open CK (readB readFrom readFrom_step readFrom_hit readFrom_gt readFrom_end szOf szOf_le CheckC_calls)
attribute [local irreducible] opOf szOf
def opX (b:Nat):OpV:=(opOf b).getD zeroOp
theorem opX_dt (b:Nat):(opX b).dt=szOf b:=by
 unfold opX szOf
 cases opOf b<;>rfl
theorem OfX_calls (b:Nat) (hb:b < 256) (w:World):∃ e:Int,(∀ w,Calls prog 91 #[.int .u8 (b:Int)] w (Ret w (.tuple #[.agg (opc (opX b)),.int .i64 e])))∧e=(if (opOf b).isSome then 0 else 4):=by
 cases ho:opOf b with
 |none=>exact ⟨4,fun w=>by have h:=Of_op_calls b hb w;rw [ho] at h;unfold opX;rw [ho];exact h,rfl⟩
 |some x=>exact ⟨0,fun w=>by have h:=Of_op_calls b hb w;rw [ho] at h;unfold opX;rw [ho];exact h,rfl⟩
attribute [local irreducible] opX
theorem fread_calls (bs:List UInt8) (hb:bs.length≤1000) (i:Int) (v:Value) (w:World) (hv:RowAt w 1 v bs.length (ucs bs)):Calls prog 85 #[v,.int .i64 i] w (Ret w (.bool (readB bs i))):=by
 obtain ⟨p0,c0,rfl,hc0,hm0⟩:=hv.form
 have h0:readFrom bs 0 i=readB bs i:=by unfold readFrom readB;rw [yW]
 refine enter (args:=[_,_]) _ [] [] func85 rfl ntmps85 rfl (by simp) .nil ?_
 (refine goZ ?_)
 refine qM (fun k:Nat=>([(0,.slice p0 bs.length c0),(1,.int .i64 i),(4,.bool false),(5,.int .i64 (k:Int))],[]))
  (fun k=>k≤2000∧readFrom bs k i=readB bs i) (fun k=>bs.length - k) 0 ⟨Nat.zero_le _,h0⟩ ⟨rfl,rfl,rfl,rfl,trivial⟩ (jG _) ?_
 rintro k ⟨hk,hr⟩
 dsimp only
 rcases jM k bs.length with hlt|hge
 ·rcases Int.lt_or_le (k:Int) i with hki|hki
  ·obtain ⟨b,off,c',cs,E,fr,heq,hbk,hx⟩:=hv.pos (by omega)
   cases heq
   have hst:=readFrom_step hlt hki
   obtain ⟨u,hu⟩:∃ u,bs.getD k 0=u:=⟨_,rfl⟩
   rw [hu,hr] at hst
   have hrd:Rd prog 5 (.cells cs E fr) (off+k * 1) (.int .u8 (u.toNat:Int)):=Rd.elem1 hx (ucs_one bs) (jO hlt) (by rw [← hu];simp [hlt])
   obtain ⟨e,hOf,_⟩:=OfX_calls u.toNat u.toNat_lt w
   have hzl:=szOf_le u.toNat
   rw [← opX_dt] at hst hzl
   rw [Nat.add_assoc] at hst
   (refine goZ ?_;refine cEv hOf ?_;intro _)
   apply thenX
   exact ⟨rfl,k+(1+(opX u.toNat).dt),⟨by omega,hst⟩,by omega,⟨rfl,rfl,rfl,rfl,trivial⟩,List.nil_sublist _⟩
  ·rcases Int.lt_or_eq_of_le hki with hlt'|heq
   ·rw [← hr,readFrom_gt hlt']
    have hne:¬ (k:Int)=i:=by omega
    (refine goZ ?_)
    (refine fiz ?_)
    rfl
   ·subst heq
    rw [← hr,readFrom_hit hlt]
    (refine goZ ?_)
    (refine fiz ?_)
    rfl
 ·rw [← hr,readFrom_end hge]
  rcases Int.lt_or_le (k:Int) i with hki|hki
  ·have hne:¬ (k:Int)=i:=by omega
   exact dTBJyT
  ·by_cases heq:(k:Int)=i
   ·subst heq
    (refine goZ ?_)
    (refine fiz ?_)
    rfl
   ·(refine goZ ?_)
    (refine fiz ?_)
    rfl
structure FrL where
 cl:List UInt8
 ws:List Nat
 ms:List UInt8
 il:List UInt8
 bl:List UInt8
structure FrRows (w:World) (f:FrV) (L:FrL):Prop where
 c:RowAt w 1 f.code L.cl.length (ucs L.cl)
 s:RowAt w 4 f.stk L.ws.length (wcs L.ws)
 m:RowAt w 1 f.mem L.ms.length (ucs L.ms)
 i:RowAt w 1 f.inp L.il.length (ucs L.il)
 b:RowAt w 1 f.back L.bl.length (ucs L.bl)
theorem FrRows.st {w0 w:World} {f:FrV} {L:FrL} {fs:Fs} (h:FrRows w0 f L) (hs:St w0 [] fs w):FrRows w f L:=⟨h.c.st hs,h.s.st hs,h.m.st hs,h.i.st hs,h.b.st hs⟩
theorem FrRows.bel {w0 w:World} {f:FrV} {L:FrL} (h:FrRows w0 f L) (hb:Bel w0.heap.size [] w0 w):FrRows w f L:=⟨h.c.bel hb,h.s.bel hb,h.m.bel hb,h.i.bel hb,h.b.bel hb⟩
abbrev fra (f:FrV):Array Value:=(frc f).toArray
abbrev frv (f:FrV):Value:=.agg (fra f)
section rd
variable {P : Program} {T E : TypeId} {fr : Nat × Nat} {code stk mem inp back : Value} {pc : Int} {gas self frm val : Nat} {stat : Bool}
theorem fr_rd0 [AgI P T false]:Rd P T (.cells (fra ⟨code,pc,stk,mem,gas,self,frm,val,inp,back,stat⟩) E fr) 0 code:=Rd.one rfl
theorem fr_rd1 [AgI P T false]:Rd P T (.cells (fra ⟨code,pc,stk,mem,gas,self,frm,val,inp,back,stat⟩) E fr) 1 (.int .i64 pc):=Rd.one rfl
theorem fr_rd2 [AgI P T true] {z:Value} [InfoI P T 2 z]:Rd P T (.cells (fra ⟨code,pc,stk,mem,gas,self,frm,val,inp,back,stat⟩) E fr) 2 (.agg #[stk,mem]):=Rd.mid (cs:=[stk,mem]) rfl rfl
theorem fr_rd2s [AgI P T false]:Rd P T (.cells (fra ⟨code,pc,stk,mem,gas,self,frm,val,inp,back,stat⟩) E fr) 2 stk:=Rd.one rfl
theorem fr_rd3 [AgI P T false]:Rd P T (.cells (fra ⟨code,pc,stk,mem,gas,self,frm,val,inp,back,stat⟩) E fr) 3 mem:=Rd.one rfl
theorem fr_rd4 [AgI P T false]:Rd P T (.cells (fra ⟨code,pc,stk,mem,gas,self,frm,val,inp,back,stat⟩) E fr) 4 (.int .u64 (gas:Int)):=Rd.one rfl
theorem fr_rd5 [AgI P T false]:Rd P T (.cells (fra ⟨code,pc,stk,mem,gas,self,frm,val,inp,back,stat⟩) E fr) 5 (.int .u64 (self:Int)):=Rd.one rfl
theorem fr_rd7 [AgI P T true] {z:Value} [InfoI P T 4 z]:Rd P T (.cells (fra ⟨code,pc,stk,mem,gas,self,frm,val,inp,back,stat⟩) E fr) 7 (wv val):=Rd.mid (cs:=(wc val).toList) rfl rfl
theorem fr_rd11 [AgI P T false]:Rd P T (.cells (fra ⟨code,pc,stk,mem,gas,self,frm,val,inp,back,stat⟩) E fr) 11 inp:=Rd.one rfl
theorem fr_rd12 [AgI P T false]:Rd P T (.cells (fra ⟨code,pc,stk,mem,gas,self,frm,val,inp,back,stat⟩) E fr) 12 back:=Rd.one rfl
theorem fr_rdW {f:FrV} {z:Value} [AgI P T true] [InfoI P T 14 z]:Rd P T (.cells (fra f) E fr) 0 (frv f):=qI rfl
end rd
def okF (f:FrV) (L:FrL):Prop:=(L.il.length≤1024∧L.bl.length≤1024∧f.gas≤20000)∧¬ f.self=0∧L.cl.length≤200∧okSc L.ws.length L.ms.length∧(f.pc=(L.cl.length:Int)∨readB L.cl f.pc=true)
instance (f:FrV) (L:FrL):Decidable (okF f L):=by unfold okF;exact vF
theorem fCheck_calls (f:FrV) (L:FrL) (w:World) (h:FrRows w f L):Calls prog 34 #[frv f] w (Ret w (.int .i64 (if okF f L then 0 else 240))):=by
 obtain ⟨e,he⟩:∃ e:Int,e=if okF f L then 0 else 240:=⟨_,rfl⟩
 have hp:okF f L→e=0:=fun h=>by rw [he,if_pos h]
 have hn:¬ okF f L→e=240:=fun h=>by rw [he,if_neg h]
 rw [← he]
 clear he
 unfold okF at hp hn
 obtain ⟨code,pc,stk,mem,gas,self,frm,val,inp,back,stat⟩:=f
 obtain ⟨h0,h2,h3,h11,h12⟩:=h
 dsimp only at h0 h2 h3 h11 h12 hp hn
 obtain ⟨p0,c0,rfl,_,hm0⟩:=h0.form
 obtain ⟨p2,c2,rfl,_,hm2⟩:=h2.form
 obtain ⟨p3,c3,rfl,_,hm3⟩:=h3.form
 obtain ⟨p11,c11,rfl,_,hm11⟩:=h11.form
 obtain ⟨p12,c12,rfl,_,hm12⟩:=h12.form
 have hS0:=scCheck_calls p2 p3 L.ws.length c2 L.ms.length c3 (by omega) (by omega)
 have hC0:∀ w' {fs},St w [] fs w'→Calls prog 83 #[.slice p0 L.cl.length c0] w' (Ret w' (.int .i64 (if L.cl.length≤200 then 0 else 3))):=fun w' fs hst=>CheckC_calls _ _ _ w' (h0.st hst)
 simp only [maxLen] at hm0 hm2 hm3 hm11 hm12
 refine enter (args:=[_]) _ [] [] func34 rfl ntmps34 rfl (by simp) .nil ?_
 by_cases hc:L.cl.length≤200
 ·have hRd0:∀ w' {fs},St w [] fs w'→Calls prog 85 #[.slice p0 L.cl.length c0,.int .i64 pc] w' (Ret w' (.bool (readB L.cl pc))):=fun w' fs hst=>fread_calls _ (by omega) _ _ w' (h0.st hst)
  rw [if_pos hc] at hC0
  have hC:∀ w' {fs},St w [] fs w'→Calls prog 83 #[.slice p0 L.cl.length c0] w' (Ret w' (.int .i64 0)):=hC0
  by_cases hs:okSc L.ws.length L.ms.length
  ·rw [if_pos hs] at hS0
   have hS:∀ w',Calls prog 84 #[.agg #[.slice p2 L.ws.length c2,.slice p3 L.ms.length c3]] w' (Ret w' (.int .i64 0)):=hS0
   simp only [hs,true_and] at hp hn
   by_cases hpc:pc=(L.cl.length:Int)
   ·simp only [hpc,true_or,and_true] at hp hn
    subst hpc
    (refine goZ ?_;intro _;refine lvz (.gtr rfl rfl) ?_;refine goZ ?_)
    (refine LW.guardDF rfl rfl rfl (fun hsq hsp=>?_) (fun hsq hsp=>?_))
    (refine vFz<|gTaz<|ldz rfl .head fr_rd12<|gTaz<|lvz (.lenR rfl vF rfl)<|gTaz<|lvz (.gtr rfl rfl)<|pFaz<|vMz ?_;refine LW.guardDF rfl rfl rfl (fun hsq hsp=>?_) (fun hsq hsp=>?_);refine vFz<|gTaz<|ldz rfl .head fr_rd4<|gTaz<|lvz (.gtr rfl rfl)<|pFaz<|vAz<|nNz<|zI<|sRz<|vMz<|vMz ?_;refine LW.guardDF rfl rfl rfl (fun hsq hsp=>?_) (fun hsq hsp=>?_);refine vFz<|gTaz<|ldz rfl .head fr_rd5<|gTaz<|lvz (.eq rfl rfl)<|pFaz<|vMz ?_;refine LW.guardDF rfl rfl rfl (fun hsq hsp=>?_) (fun hsq hsp=>?_);refine vFz<|gTaz<|ldz rfl .head fr_rd0<|gTaz ?_;apply zS;rfl;rfl;exact vF;exact .cons rfl .nil;intro w _;exact hC w (by assumption);refine gTaz ?_;refine lvz (.neF rfl rfl (by omega)) ?_;refine pFaz<|vMz<|gTz<|vFz<|gTz<|ldz rfl .head fr_rd2<|gTz ?_;apply zS;rfl;rfl;exact vF;exact .cons rfl .nil;intro w _;exact hS w;refine gTz ?_;refine lvz (.neF rfl rfl (by omega)) ?_;refine pFz<|nNz<|cFz<|zJ<|thenN<|zI<|sRz<|vFz<|ldz rfl .head fr_rd1<|vFz<|ldz rfl .head fr_rd0<|lvz (.lenR rfl vF rfl) ?_;refine lvz (.neF rfl rfl (by omega)) ?_;refine vMz ?_;(iterate 6 refine gFz ?_);refine pFz<|nNz<|cFz<|zJ<|thenN<|sRz<|vAz<|nNz<|zK ?_;apply finR;exact .inl rfl;rfl;rfl;rfl;apply zD;exact zG rfl;exact zF;rw [hp (by omega)];rfl;(iterate 3 refine gFaz ?_);refine pTaz<|vMz ?_;(iterate 4 refine gFz ?_);refine pTz<|nNz<|cTz<|sRz<|vAz<|nNz<|zK ?_;refine thenR (finR (.inl rfl) rfl rfl rfl (.cons (.tmp rfl) .nil) ?_);rw [hn (by omega)];rfl;refine gFaz<|gFaz<|pTaz<|vMz ?_;(iterate 4 refine gFz ?_);refine pTz<|vMz ?_;(iterate 4 refine gFz ?_);refine pTz<|nNz<|cTz<|sRz<|vAz<|nNz<|zK ?_;refine thenR (finR (.inl rfl) rfl rfl rfl (.cons (.tmp rfl) .nil) ?_);rw [hn (by omega)];rfl;refine gFaz<|gFaz<|pTaz<|vAz<|nNz<|zI<|sRz<|vMz<|vMz ?_;(iterate 3 refine gFz ?_);refine pTz<|vMz ?_;(iterate 4 refine gFz ?_);refine pTz<|vMz ?_;(iterate 4 refine gFz ?_);refine pTz<|nNz<|cTz<|sRz<|vAz<|nNz<|zK ?_;refine thenR (finR (.inl rfl) rfl rfl rfl (.cons (.tmp rfl) .nil) ?_);rw [hn (by omega)];rfl;(iterate 3 refine gFaz ?_);refine pTaz<|vMz ?_;(iterate 3 refine gFz ?_);refine pTz<|vAz<|nNz<|zI<|sRz<|vMz<|vMz ?_;(iterate 3 refine gFz ?_);refine pTz<|vMz ?_;(iterate 4 refine gFz ?_);refine pTz<|vMz ?_;(iterate 4 refine gFz ?_);refine pTz<|nNz<|cTz<|sRz<|vAz<|nNz<|zK ?_;refine thenR (finR (.inl rfl) rfl rfl rfl (.cons (.tmp rfl) .nil) ?_);rw [hn (by omega)];rfl)
   ·cases hr:readB L.cl pc with
    |true =>
     rw [hr] at hRd0 hp hn
     have hRd:∀ w' {fs},St w [] fs w'→Calls prog 85 #[.slice p0 L.cl.length c0,.int .i64 pc] w' (Ret w' (.bool true)):=hRd0
     simp only [or_true,and_true] at hp hn
     (refine goZ ?_;intro _;refine lvz (.gtr rfl rfl) ?_;refine goZ ?_)
     (refine LW.guardDF rfl rfl rfl (fun hsq hsp=>?_) (fun hsq hsp=>?_))
     (refine vFz<|gTaz<|ldz rfl .head fr_rd12<|gTaz<|lvz (.lenR rfl vF rfl)<|gTaz<|lvz (.gtr rfl rfl)<|pFaz<|vMz ?_;refine LW.guardDF rfl rfl rfl (fun hsq hsp=>?_) (fun hsq hsp=>?_);refine vFz<|gTaz<|ldz rfl .head fr_rd4<|gTaz<|lvz (.gtr rfl rfl)<|pFaz<|vAz<|nNz<|zI<|sRz<|vMz<|vMz ?_;refine LW.guardDF rfl rfl rfl (fun hsq hsp=>?_) (fun hsq hsp=>?_);refine vFz<|gTaz<|ldz rfl .head fr_rd5<|gTaz<|lvz (.eq rfl rfl)<|pFaz<|vMz ?_;refine LW.guardDF rfl rfl rfl (fun hsq hsp=>?_) (fun hsq hsp=>?_);refine vFz<|gTaz<|ldz rfl .head fr_rd0<|gTaz ?_;apply zS;rfl;rfl;exact vF;exact .cons rfl .nil;intro w _;exact hC w (by assumption);refine gTaz ?_;refine lvz (.neF rfl rfl (by omega)) ?_;refine pFaz<|vMz<|gTz<|vFz<|gTz<|ldz rfl .head fr_rd2<|gTz ?_;apply zS;rfl;rfl;exact vF;exact .cons rfl .nil;intro w _;exact hS w;refine gTz ?_;refine lvz (.neF rfl rfl (by omega)) ?_;refine pFz<|nNz<|cFz<|zJ<|thenN<|zI<|sRz<|vFz<|ldz rfl .head fr_rd1<|vFz<|ldz rfl .head fr_rd0<|lvz (.lenR rfl vF rfl) ?_;refine lvz (.neT rfl rfl (by omega)) ?_;refine vMz<|gTz<|vFz<|gTz<|ldz rfl .head fr_rd0<|gTz<|vFz<|gTz<|ldz rfl .head fr_rd1<|gTz ?_;apply zS;rfl;rfl;exact vF;exact .cons rfl (.cons rfl .nil);intro w _;exact hRd w (by assumption);refine gTz ?_;refine lvz (.notT rfl (by with_reducible rfl)) ?_;refine pTz<|nNz<|cFz<|zJ<|thenN<|sRz<|vAz<|nNz<|zK ?_;apply finR;exact .inl rfl;rfl;rfl;rfl;apply zD;exact zG rfl;exact zF;rw [hp (by omega)];rfl;(iterate 3 refine gFaz ?_);refine pTaz<|vMz ?_;(iterate 4 refine gFz ?_);refine pTz<|nNz<|cTz<|sRz<|vAz<|nNz<|zK ?_;refine thenR (finR (.inl rfl) rfl rfl rfl (.cons (.tmp rfl) .nil) ?_);rw [hn (by omega)];rfl;refine gFaz<|gFaz<|pTaz<|vMz ?_;(iterate 4 refine gFz ?_);refine pTz<|vMz ?_;(iterate 4 refine gFz ?_);refine pTz<|nNz<|cTz<|sRz<|vAz<|nNz<|zK ?_;refine thenR (finR (.inl rfl) rfl rfl rfl (.cons (.tmp rfl) .nil) ?_);rw [hn (by omega)];rfl;refine gFaz<|gFaz<|pTaz<|vAz<|nNz<|zI<|sRz<|vMz<|vMz ?_;(iterate 3 refine gFz ?_);refine pTz<|vMz ?_;(iterate 4 refine gFz ?_);refine pTz<|vMz ?_;(iterate 4 refine gFz ?_);refine pTz<|nNz<|cTz<|sRz<|vAz<|nNz<|zK ?_;refine thenR (finR (.inl rfl) rfl rfl rfl (.cons (.tmp rfl) .nil) ?_);rw [hn (by omega)];rfl;(iterate 3 refine gFaz ?_);refine pTaz<|vMz ?_;(iterate 3 refine gFz ?_);refine pTz<|vAz<|nNz<|zI<|sRz<|vMz<|vMz ?_;(iterate 3 refine gFz ?_);refine pTz<|vMz ?_;(iterate 4 refine gFz ?_);refine pTz<|vMz ?_;(iterate 4 refine gFz ?_);refine pTz<|nNz<|cTz<|sRz<|vAz<|nNz<|zK ?_;refine thenR (finR (.inl rfl) rfl rfl rfl (.cons (.tmp rfl) .nil) ?_);rw [hn (by omega)];rfl)
    |false =>
     rw [hr] at hRd0 hp hn
     have hRd:∀ w' {fs},St w [] fs w'→Calls prog 85 #[.slice p0 L.cl.length c0,.int .i64 pc] w' (Ret w' (.bool false)):=hRd0
     simp only [Bool.false_eq_true,or_false] at hp hn
     (refine goZ ?_;intro _;refine lvz (.gtr rfl rfl) ?_;refine goZ ?_)
     (refine LW.guardDF rfl rfl rfl (fun hsq hsp=>?_) (fun hsq hsp=>?_))
     (refine vFz<|gTaz<|ldz rfl .head fr_rd12<|gTaz<|lvz (.lenR rfl vF rfl)<|gTaz<|lvz (.gtr rfl rfl)<|pFaz<|vMz ?_;refine LW.guardDF rfl rfl rfl (fun hsq hsp=>?_) (fun hsq hsp=>?_);refine vFz<|gTaz<|ldz rfl .head fr_rd4<|gTaz<|lvz (.gtr rfl rfl)<|pFaz<|vAz<|nNz<|zI<|sRz<|vMz<|vMz ?_;refine LW.guardDF rfl rfl rfl (fun hsq hsp=>?_) (fun hsq hsp=>?_);refine vFz<|gTaz<|ldz rfl .head fr_rd5<|gTaz<|lvz (.eq rfl rfl)<|pFaz<|vMz ?_;refine LW.guardDF rfl rfl rfl (fun hsq hsp=>?_) (fun hsq hsp=>?_);refine vFz<|gTaz<|ldz rfl .head fr_rd0<|gTaz ?_;apply zS;rfl;rfl;exact vF;exact .cons rfl .nil;intro w _;exact hC w (by assumption);refine gTaz ?_;refine lvz (.neF rfl rfl (by omega)) ?_;refine pFaz<|vMz<|gTz<|vFz<|gTz<|ldz rfl .head fr_rd2<|gTz ?_;apply zS;rfl;rfl;exact vF;exact .cons rfl .nil;intro w _;exact hS w;refine gTz ?_;refine lvz (.neF rfl rfl (by omega)) ?_;refine pFz<|nNz<|cFz<|zJ<|thenN<|zI<|sRz<|vFz<|ldz rfl .head fr_rd1<|vFz<|ldz rfl .head fr_rd0<|lvz (.lenR rfl vF rfl) ?_;refine lvz (.neT rfl rfl (by omega)) ?_;refine vMz<|gTz<|vFz<|gTz<|ldz rfl .head fr_rd0<|gTz<|vFz<|gTz<|ldz rfl .head fr_rd1<|gTz ?_;apply zS;rfl;rfl;exact vF;exact .cons rfl (.cons rfl .nil);intro w _;exact hRd w (by assumption);refine gTz ?_;refine lvz (.notF rfl (by with_reducible rfl)) ?_;refine pTz<|nNz<|cTz<|sRz<|vAz<|nNz<|zK ?_;refine thenR (finR (.inl rfl) rfl rfl rfl (.cons (.tmp rfl) .nil) ?_);rw [hn (by omega)];rfl;(iterate 3 refine gFaz ?_);refine pTaz<|vMz ?_;(iterate 4 refine gFz ?_);refine pTz<|nNz<|cTz<|sRz<|vAz<|nNz<|zK ?_;refine thenR (finR (.inl rfl) rfl rfl rfl (.cons (.tmp rfl) .nil) ?_);rw [hn (by omega)];rfl;refine gFaz<|gFaz<|pTaz<|vMz ?_;(iterate 4 refine gFz ?_);refine pTz<|vMz ?_;(iterate 4 refine gFz ?_);refine pTz<|nNz<|cTz<|sRz<|vAz<|nNz<|zK ?_;refine thenR (finR (.inl rfl) rfl rfl rfl (.cons (.tmp rfl) .nil) ?_);rw [hn (by omega)];rfl;refine gFaz<|gFaz<|pTaz<|vAz<|nNz<|zI<|sRz<|vMz<|vMz ?_;(iterate 3 refine gFz ?_);refine pTz<|vMz ?_;(iterate 4 refine gFz ?_);refine pTz<|vMz ?_;(iterate 4 refine gFz ?_);refine pTz<|nNz<|cTz<|sRz<|vAz<|nNz<|zK ?_;refine thenR (finR (.inl rfl) rfl rfl rfl (.cons (.tmp rfl) .nil) ?_);rw [hn (by omega)];rfl;(iterate 3 refine gFaz ?_);refine pTaz<|vMz ?_;(iterate 3 refine gFz ?_);refine pTz<|vAz<|nNz<|zI<|sRz<|vMz<|vMz ?_;(iterate 3 refine gFz ?_);refine pTz<|vMz ?_;(iterate 4 refine gFz ?_);refine pTz<|vMz ?_;(iterate 4 refine gFz ?_);refine pTz<|nNz<|cTz<|sRz<|vAz<|nNz<|zK ?_;refine thenR (finR (.inl rfl) rfl rfl rfl (.cons (.tmp rfl) .nil) ?_);rw [hn (by omega)];rfl)
  ·rw [if_neg hs] at hS0
   have hS:∀ w',Calls prog 84 #[.agg #[.slice p2 L.ws.length c2,.slice p3 L.ms.length c3]] w' (Ret w' (.int .i64 230)):=hS0
   rw [hn (fun h=>hs h.2.2.2.1)] at *
   clear hp hn
   (refine goZ ?_;intro _;refine lvz (.gtr rfl rfl) ?_;refine goZ ?_)
   (refine LW.guardDF rfl rfl rfl (fun hsq hsp=>?_) (fun hsq hsp=>?_))
   (refine vFz<|gTaz<|ldz rfl .head fr_rd12<|gTaz<|lvz (.lenR rfl vF rfl)<|gTaz<|lvz (.gtr rfl rfl)<|pFaz<|vMz ?_;refine LW.guardDF rfl rfl rfl (fun hsq hsp=>?_) (fun hsq hsp=>?_);refine vFz<|gTaz<|ldz rfl .head fr_rd4<|gTaz<|lvz (.gtr rfl rfl)<|pFaz<|vAz<|nNz<|zI<|sRz<|vMz<|vMz ?_;refine LW.guardDF rfl rfl rfl (fun hsq hsp=>?_) (fun hsq hsp=>?_);refine vFz<|gTaz<|ldz rfl .head fr_rd5<|gTaz<|lvz (.eq rfl rfl)<|pFaz<|vMz ?_;refine LW.guardDF rfl rfl rfl (fun hsq hsp=>?_) (fun hsq hsp=>?_);refine vFz<|gTaz<|ldz rfl .head fr_rd0<|gTaz ?_;apply zS;rfl;rfl;exact vF;exact .cons rfl .nil;intro w _;exact hC w (by assumption);refine gTaz ?_;refine lvz (.neF rfl rfl (by omega)) ?_;refine pFaz<|vMz<|gTz<|vFz<|gTz<|ldz rfl .head fr_rd2<|gTz ?_;apply zS;rfl;rfl;exact vF;exact .cons rfl .nil;intro w _;exact hS w;refine gTz ?_;refine lvz (.neT rfl rfl (by omega)) ?_;refine pFz<|nNz<|cTz<|sRz<|vAz<|nNz<|zK ?_;refine thenR (finR (.inl rfl) rfl rfl rfl (.cons (.tmp rfl) .nil) ?_);rfl;(iterate 3 refine gFaz ?_);refine pTaz<|vMz ?_;(iterate 4 refine gFz ?_);refine pTz<|nNz<|cTz<|sRz<|vAz<|nNz<|zK ?_;refine thenR (finR (.inl rfl) rfl rfl rfl (.cons (.tmp rfl) .nil) ?_);rfl;refine gFaz<|gFaz<|pTaz<|vMz ?_;(iterate 4 refine gFz ?_);refine pTz<|vMz ?_;(iterate 4 refine gFz ?_);refine pTz<|nNz<|cTz<|sRz<|vAz<|nNz<|zK ?_;refine thenR (finR (.inl rfl) rfl rfl rfl (.cons (.tmp rfl) .nil) ?_);rfl;refine gFaz<|gFaz<|pTaz<|vAz<|nNz<|zI<|sRz<|vMz<|vMz ?_;(iterate 3 refine gFz ?_);refine pTz<|vMz ?_;(iterate 4 refine gFz ?_);refine pTz<|vMz ?_;(iterate 4 refine gFz ?_);refine pTz<|nNz<|cTz<|sRz<|vAz<|nNz<|zK ?_;refine thenR (finR (.inl rfl) rfl rfl rfl (.cons (.tmp rfl) .nil) ?_);rfl;(iterate 3 refine gFaz ?_);refine pTaz<|vMz ?_;(iterate 3 refine gFz ?_);refine pTz<|vAz<|nNz<|zI<|sRz<|vMz<|vMz ?_;(iterate 3 refine gFz ?_);refine pTz<|vMz ?_;(iterate 4 refine gFz ?_);refine pTz<|vMz ?_;(iterate 4 refine gFz ?_);refine pTz<|nNz<|cTz<|sRz<|vAz<|nNz<|zK ?_;refine thenR (finR (.inl rfl) rfl rfl rfl (.cons (.tmp rfl) .nil) ?_);rfl)
 ·rw [if_neg hc] at hC0
  have hC:∀ w' {fs},St w [] fs w'→Calls prog 83 #[.slice p0 L.cl.length c0] w' (Ret w' (.int .i64 3)):=hC0
  rw [hn (fun h=>hc h.2.2.1)] at *
  clear hp hn
  (refine goZ ?_;intro _;refine lvz (.gtr rfl rfl) ?_;refine goZ ?_)
  (refine LW.guardDF rfl rfl rfl (fun hsq hsp=>?_) (fun hsq hsp=>?_))
  (refine goZ ?_;refine lvz (.gtr rfl rfl) ?_;refine goZ ?_;refine LW.guardDF rfl rfl rfl (fun hsq hsp=>?_) (fun hsq hsp=>?_);refine goZ ?_;refine lvz (.gtr rfl rfl) ?_;refine goZ ?_;refine LW.guardDF rfl rfl rfl (fun hsq hsp=>?_) (fun hsq hsp=>?_);refine goZ ?_;refine lvz (.eq rfl rfl) ?_;refine goZ ?_;refine LW.guardDF rfl rfl rfl (fun hsq hsp=>?_) (fun hsq hsp=>?_);refine goZ ?_;refine cEz (c:=fun w _=>by exact hC w (by assumption)) (k:=?_);refine fiz ?_;rfl;refine goZ ?_;refine fiz ?_;rfl;refine goZ ?_;refine fiz ?_;rfl;refine goZ ?_;refine fiz ?_;rfl;refine goZ ?_;refine fiz ?_;rfl)
end
section
def catI {α:Type} (env:List (List α)) (xs:List Nat) (tail:List α):List α:=xs.foldr (fun i acc=>env.getD i []++acc) tail
theorem perm_ix {α:Type} (env:List (List α)) {xs ys:List Nat} (tail:List α) (h:xs.isPerm ys=true):(catI env xs tail).Perm (catI env ys tail):=by
 have hp:xs.Perm ys:=List.isPerm_iff.1 h
 clear h
 unfold catI
 induction hp with
 |nil=>exact .refl _
 |cons x _ ih=>exact List.Perm.append_left _ ih
 |swap x y l =>
  simp only [List.foldr_cons,← jR]
  exact List.Perm.append_right _ List.perm_append_comm
 |trans _ _ ih1 ih2=>exact ih1.trans ih2
def SubP {α:Type} (l l':List α):Prop:=∃ m,l.Sublist m∧m.Perm l'
theorem catI_tail {α:Type} (env:List (List α)) (zs:List Nat) (tail:List α):tail.Sublist (catI env zs tail):=by
 induction zs with
 |nil=>exact .refl _
 |cons z zs ih=>exact List.Sublist.trans ih (jN _ _)
theorem catI_app {α:Type} (env:List (List α)) (xs zs:List Nat) (tail:List α):(catI env xs tail).Sublist (catI env (xs++zs) tail):=by
 induction xs with
 |nil=>exact catI_tail env zs tail
 |cons x xs ih=>exact jL ih _
theorem subp_ix {α:Type} (env:List (List α)) {xs ys:List Nat} (tail:List α) (h:(xs++ys.filter fun y=>!xs.contains y).isPerm ys=true):SubP (catI env xs tail) (catI env ys tail):=⟨_,catI_app env xs _ tail,perm_ix env tail h⟩
theorem SubP.st {w0 w:World} {S:List Nat} {fs gs:Fs} (h:SubP gs fs) (hs:St w0 S fs w):St w0 S gs w:=by
 obtain ⟨m,h1,h2⟩:=h
 exact st_sub (hs.perm h2) h1
theorem LW.subP {C:Cu} {ops:Array Oper} {Q:Post} {l:List Oper} {e:Env} {fs fs':Fs} (hp:SubP fs' fs) (h:LW C ops Q l e fs'):LW C ops Q l e fs:=by
 unfold LW at h ⊢
 exact fun a w hs=>h a w ⟨hs.env,hp.st hs.st⟩
def anyO (K:Out):Out:=fun x fs'=>∃ fs'',K x fs''∧SubP fs'' fs'
theorem calls_anyO {P:Program} {f:FuncId} {args:Array Value} {w0 w:World} {S:List Nat} {K:Out} (h:Calls P f args w (fun x w'=>∃ fs',anyO K x fs'∧St w0 S fs' w')):Calls P f args w (fun x w'=>∃ fs',K x fs'∧St w0 S fs' w') :=
 vG h fun x w' ⟨fs',⟨fs'',hk,hp⟩,hst⟩=>⟨fs'',hk,hp.st hst⟩
def FrO (f:FrV) (L:FrL) (gs:Fs):Prop:=∃ g1 g2 g3 g4 g5,(g1++(g2++(g3++(g4++g5)))).Perm gs∧bM L.cl f.code g1∧wM L.ws f.stk g2∧bM L.ms f.mem g3∧bM L.il f.inp g4∧bM L.bl f.back g5
theorem bM_at {l:List UInt8} {v:Value} {g:Fs} {w:World} (h:bM l v g) (hw:∀ p∈g,w.heap[p.1]?=some p.2):RowAt w 1 v l.length (ucs l):=IsRow.us h hw (jG _)
theorem wM_at {l:List Nat} {v:Value} {g:Fs} {w:World} (h:wM l v g) (hw:∀ p∈g,w.heap[p.1]?=some p.2):RowAt w 4 v l.length (wcs l):=IsRow.us h hw (jG _)
theorem FrO.rows {f:FrV} {L:FrL} {gs:Fs} {w:World} (h:FrO f L gs) (hw:∀ p∈gs,w.heap[p.1]?=some p.2):FrRows w f L:=by
 obtain ⟨g1,g2,g3,g4,g5,hp,h1,h2,h3,h4,h5⟩:=h
 replace hw:∀ p∈g1++(g2++(g3++(g4++g5))),w.heap[p.1]?=some p.2:=fun p h=>hw p (hp.subset h)
 exact ⟨bM_at h1 fun p hp=>hw p (by simp [hp]),wM_at h2 fun p hp=>hw p (by simp [hp]),bM_at h3 fun p hp=>hw p (by simp [hp]),bM_at h4 fun p hp=>hw p (by simp [hp]),bM_at h5 fun p hp=>hw p (by simp [hp])⟩
theorem FrO.st {f:FrV} {L:FrL} {gs fs:Fs} {w0 w:World} {S:List Nat} (h:FrO f L gs) (hs:St w0 S fs w) (hg:∀ p∈gs,p∈fs):FrRows w f L:=h.rows fun p hp=>(hs.own p (hg p hp)).2
attribute [local irreducible] SL.inP
def FrL.setM (L:FrL) (ms:List UInt8):FrL:={ L with ms:=ms }
def costR (L:FrL) (a n:Nat):Nat:=memV L.ms.length (endV a n)
def memR (L:FrL) (a n:Nat):FrL:=L.setM (L.ms++List.replicate (upW (endV a n) - L.ms.length) 0)
def frR (f:FrV) (L:FrL) (a n:Nat) (s k:Value):FrV:={ f with gas:=f.gas - costR L a n,stk:=s,mem:=k }
def MaV.setF (m:MaV) (f:FrV):MaV:={ m with fr:=f }
theorem memV_le {k E g:Nat} (hk:k≤1024) (hg:g≤20000) (h:memV k E≤g):E≤1024:=by
 unfold memV at h
 split at h
 ·omega
 ·split at h<;>omega
theorem endV_lt (a n:Nat):endV a n < 18446744073709551616:=by
 unfold endV NOG
 split<;>omega
end
section
def FrV.rows (f:FrV) (c s m i b:Value):FrV:=⟨c,f.pc,s,m,f.gas,f.self,f.frm,f.val,i,b,f.stat⟩
section wr
variable {P : Program} {T E : TypeId} {code stk mem inp back z : Value} {pc : Int} {gas self frm val n c : Nat} {stat : Bool} {p : Option Addr} {g : Nat}
theorem fr_wr0 [InfoI P T 1 z]:Wr P T (.cells (fra ⟨code,pc,stk,mem,gas,self,frm,val,inp,back,stat⟩) E (0,0)) (0+0) (.slice p n c) (.cells (fra ⟨.slice p n c,pc,stk,mem,gas,self,frm,val,inp,back,stat⟩) E (0,0)):=qU (n:=1) (z:=z) rfl rfl (by show 0+0+1≤14;omega) rfl
theorem fr_wr2 [InfoI P T 1 z]:Wr P T (.cells (fra ⟨code,pc,stk,mem,gas,self,frm,val,inp,back,stat⟩) E (0,0)) (0+2+0) (.slice p n c) (.cells (fra ⟨code,pc,.slice p n c,mem,gas,self,frm,val,inp,back,stat⟩) E (0,0)):=qU (n:=1) (z:=z) rfl rfl (by show 0+2+0+1≤14;omega) rfl
theorem fr_wr3 [InfoI P T 1 z]:Wr P T (.cells (fra ⟨code,pc,stk,mem,gas,self,frm,val,inp,back,stat⟩) E (0,0)) (0+2+1) (.slice p n c) (.cells (fra ⟨code,pc,stk,.slice p n c,gas,self,frm,val,inp,back,stat⟩) E (0,0)):=qU (n:=1) (z:=z) rfl rfl (by show 0+2+1+1≤14;omega) rfl
theorem fr_wr4 {x:Nat} [InfoI P T 1 z]:Wr P T (.cells (fra ⟨code,pc,stk,mem,gas,self,frm,val,inp,back,stat⟩) E (0,0)) (0+4) (.int .u64 (x:Int)) (.cells (fra ⟨code,pc,stk,mem,x,self,frm,val,inp,back,stat⟩) E (0,0)):=qU (n:=1) (z:=z) rfl rfl (by show 0+4+1≤14;omega) rfl
theorem fr_wr11 [InfoI P T 1 z]:Wr P T (.cells (fra ⟨code,pc,stk,mem,gas,self,frm,val,inp,back,stat⟩) E (0,0)) (0+11) (.slice p n c) (.cells (fra ⟨code,pc,stk,mem,gas,self,frm,val,.slice p n c,back,stat⟩) E (0,0)):=qU (n:=1) (z:=z) rfl rfl (by show 0+11+1≤14;omega) rfl
theorem fr_wr12 [InfoI P T 1 z]:Wr P T (.cells (fra ⟨code,pc,stk,mem,gas,self,frm,val,inp,back,stat⟩) E (0,0)) (0+12) (.slice p n c) (.cells (fra ⟨code,pc,stk,mem,gas,self,frm,val,inp,.slice p n c,stat⟩) E (0,0)):=qU (n:=1) (z:=z) rfl rfl (by show 0+12+1≤14;omega) rfl
end wr
structure FrSl (f:FrV):Prop where
 c:∃ p n c,f.code=.slice p n c
 s:∃ p n c,f.stk=.slice p n c
 m:∃ p n c,f.mem=.slice p n c
 i:∃ p n c,f.inp=.slice p n c
 b:∃ p n c,f.back=.slice p n c
theorem FrRows.sl {w:World} {f:FrV} {L:FrL} (h:FrRows w f L):FrSl f:=by
 obtain ⟨a,b,h1,_⟩:=h.c.form
 obtain ⟨a2,b2,h2,_⟩:=h.s.form
 obtain ⟨a3,b3,h3,_⟩:=h.m.form
 obtain ⟨a4,b4,h4,_⟩:=h.i.form
 obtain ⟨a5,b5,h5,_⟩:=h.b.form
 exact ⟨⟨_,_,_,h1⟩,⟨_,_,_,h2⟩,⟨_,_,_,h3⟩,⟨_,_,_,h4⟩,⟨_,_,_,h5⟩⟩
theorem fr_cells {f:FrV} (h:FrSl f):(fra f).toList.all Value.oneCell'=true:=by
 obtain ⟨⟨_,_,_,h1⟩,⟨_,_,_,h2⟩,⟨_,_,_,h3⟩,⟨_,_,_,h4⟩,⟨_,_,_,h5⟩⟩:=h
 simp only [fra,frc,wc,yA,jQ,List.all_cons,List.all_nil,h1,h2,h3,h4,h5];rfl
theorem fr_wrW {P:Program} {T E:TypeId} {f:FrV} {z:Value} {cs:Array Value} [InfoI P T 14 z] (h:cs.size=14) (hf:FrSl f):Wr P T (.cells cs E (0,0)) 0 (frv f) (.cells (fra f) E (0,0)):=Wr.whole h rfl (fr_cells hf)
theorem perm5 {α:Type} (g1 g2 g3 g4 g5:List α):(g1++(g2++(g3++(g4++g5)))).Perm (g3++(g2++(g5++(g4++g1)))):=by
 have h:=perm_ix [g1,g2,g3,g4,g5] (xs:=[0,1,2,3,4]) (ys:=[2,1,4,3,0]) [] rfl
 simpa [catI] using h
def FrL.short (L:FrL):Prop:=L.cl.length≤100000∧L.ws.length≤100000∧L.ms.length≤100000∧L.il.length≤100000∧L.bl.length≤100000
def ma0 (f:FrV) (e0 e1 e2 e3:Nat):MaV:=⟨f,e0,e1,e2,e3,.slice none 0 0,0,0,.slice none 0 0,.slice none 0 0⟩
def OfR (f:FrV) (L:FrL) (e0 e1 e2 e3:Nat) (v:Value) (gs:Fs):Prop:=∃ bm c s m i b g,v=.pointer (some ⟨bm,0,none⟩)∧gs=(bm,maO (ma0 (f.rows c s m i b) e0 e1 e2 e3))::g∧FrO (f.rows c s m i b) L g
def enva (e0 e1 e2 e3:Nat):Array Value:=#[.int .u64 (e0:Int),.int .u64 (e1:Int),.int .u64 (e2:Int),.int .u64 (e3:Int)]
theorem fOf_calls (f:FrV) (L:FrL) (e0 e1 e2 e3:Nat) (hl:L.short) (w:World) (h:FrRows w f L):Calls prog 40 #[frv f,.agg (enva e0 e1 e2 e3)] w (RetG w [] (OfR f L e0 e1 e2 e3)):=by
 obtain ⟨code,pc,stk,mem,gas,self,frm,val,inp,back,stat⟩:=f
 obtain ⟨h0,h2,h3,h11,h12⟩:=h
 dsimp only at h0 h2 h3 h11 h12
 obtain ⟨p0,c0,rfl,_,hm0⟩:=id h0.form
 obtain ⟨p2,c2,rfl,_,hm2⟩:=id h2.form
 obtain ⟨p3,c3,rfl,_,hm3⟩:=id h3.form
 obtain ⟨p11,c11,rfl,_,hm11⟩:=id h11.form
 obtain ⟨p12,c12,rfl,_,hm12⟩:=id h12.form
 refine enter (args:=[_,_]) _ [] [] func40 rfl ntmps40 rfl (by simp) .nil ?_
 (refine goZ ?_;intro _ _)
 rename_i b1 b2
 apply CW.pre
 (refine qY [(2,bM L.cl),(5,bM L.il),(8,bM L.bl)] 10 mixed (by decide +kernel) ?_)
 (refine tsZ ?_)
 (apply DW.manyV;rfl;rfl;rfl;exact zC;rfl;exact vF;exact .cons rfl .nil;apply RdV.ext;assumption;rfl;exact RdV.nil;intro w _ _)
 exact SK.Clone_calls _ _ w (h0.bel (by assumption)) hl.1
 intro v1 g1 h1
 (refine tsZ ?_)
 (apply DW.manyV;rfl;rfl;rfl;exact zC;rfl;exact vF;exact .cons rfl .nil;apply RdV.ext;assumption;rfl;exact RdV.nil;intro w _ _)
 exact SK.Clone_calls _ _ w (h11.bel (by assumption)) hl.2.2.2.1
 intro v4 g4 h4
 (refine tsZ ?_)
 (apply DW.manyV;rfl;rfl;rfl;exact zC;rfl;exact vF;exact .cons rfl .nil;apply RdV.ext;assumption;rfl;exact RdV.nil;intro w _ _)
 exact SK.Clone_calls _ _ w (h12.bel (by assumption)) hl.2.2.2.2
 intro v5 g5 h5
 have h1':=h1
 have h4':=h4
 have h5':=h5
 unfold bM at h1' h4' h5'
 obtain ⟨q1,k1,rfl⟩:=h1'.form
 obtain ⟨q4,k4,rfl⟩:=h4'.form
 obtain ⟨q5,k5,rfl⟩:=h5'.form
 (refine tsZ ?_)
 (refine zR rfl rfl (.app (.app (.app (.tail .head)))) fr_wr0 ?_;refine goZ ?_;refine zR rfl rfl (.app (.app (.app (.tail .head)))) fr_wr11 ?_;refine goZ ?_;refine zR rfl rfl (.app (.app (.app (.tail .head)))) fr_wr12 ?_;refine goZ ?_)
 apply CW.pre
 (refine qY [(3,wM L.ws),(7,bM L.ms)] 10 mixed (by decide +kernel) ?_)
 ((try simp only [tsOf_cons,tsOf_nil,tsOf_app]);refine dvz (.fieldAddr rfl rfl)<|dvz (.fieldAddr rfl rfl) ?_;apply qG;rfl;rfl;rfl;exact zC;rfl;apply zQ;apply zQ;apply zQ;apply zO;apply zP;exact zN;exact fr_rd2s)
 (apply DW.manyV;rfl;rfl;rfl;exact zC;rfl;exact vF;exact .cons rfl .nil;apply RdV.ext;assumption;rfl;exact RdV.nil;intro w _ _)
 exact CloneW_calls _ _ w (h2.bel (by assumption)) hl.2.1
 intro v2 g2 hh2
 (refine tsZ ?_)
 (apply DW.manyV;rfl;rfl;rfl;exact zC;rfl;exact vF;exact .cons rfl .nil;apply RdV.ext;assumption;rfl;exact RdV.nil;intro w _ _)
 exact SK.Clone_calls _ _ w (h3.bel (by assumption)) hl.2.2.1
 intro v3 g3 hh3
 have h2':=hh2
 have h3':=hh3
 unfold wM at h2'
 unfold bM at h3'
 obtain ⟨q2,k2,rfl⟩:=h2'.form
 obtain ⟨q3,k3,rfl⟩:=h3'.form
 (refine tsZ ?_)
 have hsl:FrSl ⟨.slice q1 L.cl.length k1,pc,.slice q2 L.ws.length k2,.slice q3 L.ms.length k3,gas,self,frm,val,.slice q4 L.il.length k4,.slice q5 L.bl.length k5,stat⟩:=⟨⟨_,_,_,rfl⟩,⟨_,_,_,rfl⟩,⟨_,_,_,rfl⟩,⟨_,_,_,rfl⟩,⟨_,_,_,rfl⟩⟩
 (refine zR rfl rfl (.app (.app (.app (.app (.app (.tail .head)))))) fr_wr2 ?_;refine goZ ?_;refine zR rfl rfl (.app (.app (.app (.app (.app (.tail .head)))))) fr_wr3 ?_;refine goZ ?_;apply qN;rfl;rfl;apply zW;exact vF;exact vF;apply zA;rfl;apply zA;rfl;exact zB;rfl;simp only [fillP,wrCells,fra,frc,enva,wc,Value.cells,jB,jC,jD,jA,jF,jE,yA,jQ,Nat.reduceAdd,jH];rfl;refine goZ ?_;intro _)
 rename_i bm
 refine fin (vs:=[.pointer (some ⟨bm,0,none⟩)]) ((bm,maO (ma0 ⟨.slice q1 L.cl.length k1,pc,.slice q2 L.ws.length k2,.slice q3 L.ms.length k3,gas,self,frm,val,.slice q4 L.il.length k4,.slice q5 L.bl.length k5,stat⟩ e0 e1 e2 e3))::(g3++(g2++(g5++(g4++g1))))) (.inl rfl) rfl rfl rsZ ?_ ⟨bm,_,_,_,_,_,_,rfl,rfl,g1,g2,g3,g4,g5,perm5 g1 g2 g3 g4 g5,h1,hh2,hh3,h4,h5⟩
 exact jP _ (jL (jL (jL (jL (jJ _ _) _) _) _) _)
end
end Go.Proofs.YtdeggbkbblfpoaaGreatDoor
