/-
  Texts that were built apart, put behind one another (3 of 5): W20 W22 W23 W26 P0 P1 P2 P3 P4 P5 P6 P7 P8 P9 PA PB PC PD PE U1 U2 U3 N3 K6 K7 K8 K1 K2 K3 K4 K5 K9 KA KB KD N4 N5 N6 Smx N7 N8 C1 C2 C3 C4 C5 C6 C7 N9 NA NB NC ND C8 NE NF NG Smy Smz NH NI Sna Q2 NJ NK Q0 Q3.
  Conditions: none.
-/
import Derived.Test.YtdeggbkbblfpoaaGreatDoorZ2
import Derived.Laws.Externs
import Derived.Lib.BytesEntry
import Derived.Lib.Bytealg
import Derived.Laws.IdiomCopy
namespace Go.Proofs.YtdeggbkbblfpoaaGreatDoor
open Go Go.RowKit SL
set_option maxRecDepth 8000
set_option maxHeartbeats 4000000
set_option linter.unusedSimpArgs false
set_option linter.unusedVariables false
attribute [local irreducible] SL.CW SL.LW SL.DW Calls SL.Ret SL.RetG SL.beginQ SL.roundQ SL.rangeQ SL.inQ SL.RW SL.AnyW SL.thenQ SL.thenC SL.thenW SL.blkQ SL.finQ SL.ValP SL.NewP SL.SetP SL.CallP SL.Rd SL.Wr SL.Known
theorem limb_top (N i:Nat):N / 2 ^ (64 * i) * 2 ^ (64 * i)=N / 2 ^ (64 * (i+1)) * 2 ^ (64 * (i+1))+limb N i * 2 ^ (64 * i):=by
 unfold limb
 rw [Nat.mul_add,Nat.mul_one,Nat.pow_add,← Nat.div_div_eq_div_mul]
 have h:=Nat.div_add_mod (N / 2 ^ (64 * i)) 18446744073709551616
 generalize N / 2 ^ (64 * i)=M at *
 generalize 2 ^ (64 * i)=P at *
 rw [show (2:Nat) ^ 64=18446744073709551616 from rfl]
 conv=>lhs;rw [← h]
 rw [Nat.add_mul,Nat.mul_comm 18446744073709551616 (M / _),Nat.mul_assoc,Nat.mul_comm P]
theorem limb_shift (a r j:Nat) (hr:r < 64):limb (a * 2 ^ r) (j+1)=limb a (j+1) * 2 ^ r % 18446744073709551616+limb a j / 2 ^ (64 - r)∧limb a j / 2 ^ (64 - r) < 2 ^ r:=by
 have hB:2 ^ (64 - r) * 2 ^ r=18446744073709551616:=by rw [← Nat.pow_add,show 64 - r+r=64 by omega]
 have hK:0 < 2 ^ (64 - r):=Nat.pow_pos (by decide)
 have hR:0 < 2 ^ r:=Nat.pow_pos (by decide)
 unfold limb
 rw [Nat.mul_add,Nat.mul_one,Nat.pow_add,← Nat.div_div_eq_div_mul a,show (2:Nat) ^ 64=18446744073709551616 from rfl]
 have h1:a * 2 ^ r / (2 ^ (64 * j) * 18446744073709551616)=a / 2 ^ (64 * j) / 2 ^ (64 - r):=by
  rw [← hB,← Nat.mul_assoc,Nat.mul_div_mul_right _ _ hR,Nat.div_div_eq_div_mul]
 rw [h1]
 generalize a / 2 ^ (64 * j)=A
 generalize 2 ^ (64 - r)=K at *
 generalize 2 ^ r=R at *
 have h2:=Nat.div_add_mod A 18446744073709551616
 have hm:A % 18446744073709551616 < 18446744073709551616:=Nat.mod_lt _ (by decide)
 have ht:A % 18446744073709551616 / K < R:=Nat.div_lt_of_lt_mul (by rw [hB];exact hm)
 refine ⟨?_,ht⟩
 have h3:A / K=A / 18446744073709551616 * R+A % 18446744073709551616 / K:=by
  conv=>lhs;rw [← h2,← hB,Nat.mul_assoc,Nat.mul_add_div hK]
  rw [hB,Nat.mul_comm R]
 rw [h3,Nat.mod_mul_mod]
 have h4:A / 18446744073709551616 * R % 18446744073709551616=A / 18446744073709551616 % K * R:=by rw [← hB,Nat.mul_mod_mul_right]
 have h5:A / 18446744073709551616 % K * R+A % 18446744073709551616 / K < 18446744073709551616:=by
  have h6:A / 18446744073709551616 % K < K:=Nat.mod_lt _ hK
  have h7:(A / 18446744073709551616 % K+1) * R≤K * R:=Nat.mul_le_mul_right _ h6
  rw [Nat.succ_mul,hB] at h7
  omega
 rw [Nat.add_mod,h4,Nat.mod_eq_of_lt (show A % 18446744073709551616 / K < 18446744073709551616 by omega),Nat.mod_eq_of_lt h5]
theorem limb_shift0 (a r:Nat):limb (a * 2 ^ r) 0=limb a 0 * 2 ^ r % 18446744073709551616:=by
 unfold limb;simp [Nat.mod_mul_mod]
theorem limb_down (a r j:Nat) (hr:r < 64):limb (a / 2 ^ r) j=limb a j / 2 ^ r+limb a (j+1) * 2 ^ (64 - r) % 18446744073709551616∧limb a j / 2 ^ r < 2 ^ (64 - r):=by
 have hB:2 ^ r * 2 ^ (64 - r)=18446744073709551616:=by rw [← Nat.pow_add,show r+(64 - r)=64 by omega]
 have hK:0 < 2 ^ (64 - r):=Nat.pow_pos (by decide)
 have hR:0 < 2 ^ r:=Nat.pow_pos (by decide)
 unfold limb
 rw [Nat.mul_add,Nat.mul_one,Nat.pow_add,← Nat.div_div_eq_div_mul a,show (2:Nat) ^ 64=18446744073709551616 from rfl,Nat.div_div_eq_div_mul a,Nat.mul_comm (2 ^ r) (2 ^ (64 * j)),← Nat.div_div_eq_div_mul a]
 generalize a / 2 ^ (64 * j)=A
 generalize 2 ^ (64 - r)=K at *
 generalize 2 ^ r=R at *
 have h2:=Nat.div_add_mod A 18446744073709551616
 have hm:A % 18446744073709551616 < 18446744073709551616:=Nat.mod_lt _ (by decide)
 have ht:A % 18446744073709551616 / R < K:=Nat.div_lt_of_lt_mul (by rw [hB];exact hm)
 refine ⟨?_,ht⟩
 have h3:A / R=A / 18446744073709551616 * K+A % 18446744073709551616 / R:=by
  conv=>lhs;rw [← h2,← hB,Nat.mul_assoc,Nat.mul_add_div hR]
  rw [hB,Nat.mul_comm K]
 rw [h3,Nat.mod_mul_mod]
 have h4:A / 18446744073709551616 * K % 18446744073709551616=A / 18446744073709551616 % R * K:=by rw [← hB,Nat.mul_mod_mul_right]
 have h5:A / 18446744073709551616 % R * K+A % 18446744073709551616 / R < 18446744073709551616:=by
  have h6:A / 18446744073709551616 % R < R:=Nat.mod_lt _ hR
  have h7:(A / 18446744073709551616 % R+1) * K≤R * K:=Nat.mul_le_mul_right _ h6
  rw [Nat.succ_mul,hB] at h7
  omega
 rw [Nat.add_mod,h4,Nat.mod_eq_of_lt (show A % 18446744073709551616 / R < 18446744073709551616 by omega),Nat.mod_eq_of_lt h5,Nat.add_comm]
theorem or_low {R A t:Nat} {r:Nat} (hR:R=2 ^ r) (hA:R ∣ A) (ht:t < R):A |||t=A+t:=by
 obtain ⟨q,rfl⟩:=hA
 subst hR
 rw [Nat.mul_comm,← Nat.shiftLeft_eq,Nat.shiftLeft_add_eq_or_of_lt ht]
theorem limb_mod (N j:Nat) (hj:j < 4):limb (N % M256) j=limb N j:=by
 unfold limb
 rcases (show j=0∨j=1∨j=2∨j=3 by omega) with rfl|rfl|rfl|rfl<;>simp only [Nat.mul_zero,Nat.pow_zero,Nat.div_one,Nat.mul_one,Nat.reduceMul,Nat.reducePow,M256]<;>omega
theorem limb_mul (Y q j:Nat):limb (Y * 2 ^ (64 * q)) (q+j)=limb Y j:=by
 unfold limb
 rw [Nat.mul_add,Nat.pow_add,Nat.mul_comm (2 ^ (64 * q)),Nat.mul_div_mul_right _ _ (pow_pos2 _)]
theorem wc_setlimb (X i v1 v2:Nat) (hi:i < 4) (hX:X+18446744073709551615 * 2 ^ (64 * i) < M256) (h1:v1 < 18446744073709551616) (h2:v2 < 18446744073709551616) (hz:limb X i=0) :
  ((wc (X+v1 * 2 ^ (64 * i))).toList.set i (.int .u64 ((v2:Nat):Int))).toArray=wc (X+v2 * 2 ^ (64 * i)):=by
 unfold limb at hz
 rcases (show i=0∨i=1∨i=2∨i=3 by omega) with rfl|rfl|rfl|rfl<;>simp only [wc,qM,qN,Nat.mul_zero,Nat.pow_zero,Nat.div_one,Nat.mul_one,Nat.reduceMul,Nat.reducePow,M256] at hz hX ⊢
 ·exact wc_val (by omega) (by omega) (by omega) (by omega) (by omega)
 ·exact wc_val (by omega) (by omega) (by omega) (by omega) (by omega)
 ·exact wc_val (by omega) (by omega) (by omega) (by omega) (by omega)
 ·exact wc_val (by omega) (by omega) (by omega) (by omega) (by omega)
theorem limb_rd (a j:Nat) (h:j < 4) {E:TypeId} {fr:Nat × Nat}:Rd Tryz.prog 26 (.cells (wc a) E fr) (0+j * 1) (.int .u64 ((limb a j:Nat):Int)) :=
 Rd.one (by rw [qP,Nat.mul_one];have:=nth_limb a j h;rw [nth_eq] at this;simpa using this)
theorem limb_wr (X i v1 v2:Nat) (hi:i < 4) (hX:X+18446744073709551615 * 2 ^ (64 * i) < M256) (h1:v1 < 18446744073709551616) (h2:v2 < 18446744073709551616) (hz:limb X i=0) {E:TypeId} :
  Wr Tryz.prog 26 (.cells (wc (X+v1 * 2 ^ (64 * i))) E (0,0)) (0+i * 1) (.int .u64 ((v2:Nat):Int)) (.cells (wc (X+v2 * 2 ^ (64 * i))) E (0,0)) :=
 Wr.cells rfl rfl (by show 0+i * 1+1≤4;omega) (by
  rw [qP,Nat.mul_one,← wc_setlimb X i v1 v2 hi hX h1 h2 hz]
  apply Array.toList_inj.1
  simp [wrCells,Value.cells])
theorem limb_zero (Y k:Nat):limb (Y * 2 ^ (64 * (k+1))) k=0:=by
 unfold limb
 rw [Nat.mul_add,Nat.mul_one,Nat.pow_add,← Nat.mul_assoc,Nat.mul_right_comm,Nat.mul_div_cancel _ (pow_pos2 _),show (2:Nat) ^ 64=18446744073709551616 from rfl,Nat.mul_mod_left]
theorem limb_put (X k v:Nat) (hz:limb X k=0) (hv:v < 18446744073709551616):limb (X+v * 2 ^ (64 * k)) k=v:=by
 unfold limb at *
 rw [Nat.add_mul_div_right _ _ (pow_pos2 _),Nat.add_mod,hz,qP,Nat.mod_mod,Nat.mod_eq_of_lt hv]
theorem top_lt (N k:Nat) (hk:k < 4) (hN:N < M256):N / 2 ^ (64 * (k+1)) * 2 ^ (64 * (k+1))+18446744073709551615 * 2 ^ (64 * k) < M256:=by
 simp only [M256] at *
 rcases (show k=0∨k=1∨k=2∨k=3 by omega) with rfl|rfl|rfl|rfl<;>simp only [Nat.reduceAdd,Nat.reduceMul,Nat.reducePow,Nat.mul_zero,Nat.pow_zero]<;>omega
theorem dvd_low (L r:Nat) (hr:r < 64):2 ^ r ∣ L * 2 ^ r % 18446744073709551616:=by
 rw [← show 2 ^ (64 - r) * 2 ^ r=18446744073709551616 by rw [← Nat.pow_add,show 64 - r+r=64 by omega],Nat.mul_mod_mul_right]
 exact ⟨_,Nat.mul_comm _ _⟩
theorem Shl_calls (a n:Nat) (ha:a < M256) (hn:n < M256) (w:World):Calls Tryz.prog 24 #[wv a,wv n] w (Ret w (wv (a * 2 ^ min n 256 % M256))):=by
 refine enter (args:=[_,_]) _ [] [] Tryz.func24 rfl Tryz.ntmps24 rfl (by simp) .nil ?_
 (refine sRz ?_;apply zT;rfl;rfl;intro _;apply zT;rfl;rfl;intro _;apply LW.allocW;rfl;intro _;refine nSz ?_;apply LW.allocW;rfl;intro _;refine nNz<|zI ?_;apply CW.pre;refine AnyW.any 7 mixed (by decide +kernel) ?_;(try simp only [tsOf_cons,tsOf_nil,tsOf_app]);apply qF;rfl;rfl;rfl;exact zC;rfl;apply zO;apply zO;apply zP;exact zN;exact qH rfl;apply DW.callE;rfl;rfl;rfl;exact zC;rfl;infer_instance;exact .cons rfl .nil;rfl;exact ReadAll.nil;intro w _ _;refine moves_calls _ ?_ w;assumption;refine dvz (.quoZL rfl rfl (by decide) (by omega) (by omega)) ?_;apply qF;rfl;rfl;rfl;exact zC;rfl;apply zO;apply zO;apply zP;exact zN;exact qH rfl;apply DW.callE;rfl;rfl;rfl;exact zC;rfl;infer_instance;exact .cons rfl .nil;rfl;exact ReadAll.nil;intro w _ _;refine moves_calls _ ?_ w;assumption;refine dvz (.remZL rfl rfl (by decide) (by omega)) ?_;refine dvz (.assign rfl) ?_;apply DW.nil;simp only [fsOf_cons,fsOf_nil,fsOf_app,fsOf_tsOf,fsOf_new];refine vAz<|nNz<|zI<|sRz<|vAz<|nNz<|zM ?_)
 rename_i ba b3 b4 b5
 obtain ⟨s,hs⟩:∃ s,s=min n 256:=⟨_,rfl⟩
 rw [← hs]
 have hs256:s≤256:=by omega
 obtain ⟨q,hq⟩:∃ q,q=s / 64:=⟨_,rfl⟩
 obtain ⟨r,hr⟩:∃ r,r=s % 64:=⟨_,rfl⟩
 rw [← hq,← hr]
 have hr64:r < 64:=by omega
 have hs2:s=r+64 * q:=by omega
 obtain ⟨N,hN⟩:∃ N,N=a * 2 ^ s % M256:=⟨_,rfl⟩
 rw [← hN]
 have hNM:N < M256:=by rw [hN];exact Nat.mod_lt _ (by decide)
 have hlimb:∀ j,q+j < 4→limb N (q+j)=limb (a * 2 ^ r) j:=fun j hj=>by
  rw [hN,limb_mod _ _ hj,hs2,Nat.pow_add,← Nat.mul_assoc,limb_mul]
 refine CW.loop (fun m:Nat=>([(8,.int .i64 ((m:Int) - 1)),(7,.int .i64 (r:Int)),(6,.int .i64 (q:Int)),(5,.pointer (some ⟨b5,0,none⟩)),(4,.pointer (some ⟨b4,0,none⟩)),(2,.pointer (some ⟨ba,0,none⟩))],
   [(b5,.cells (wc (N / 2 ^ (64 * m) * 2 ^ (64 * m))) 29 (0,0)),(b4,.cells (wc 0) 29 (0,0)),(b3,.cells (wc n) 29 (0,0)),(ba,.cells (wc a) 29 (0,0))]))
  (fun m=>m≤4∧q≤m) (fun m=>m) 4 ⟨Nat.le_refl _,by omega⟩ ⟨rfl,rfl,rfl,rfl,rfl,rfl,trivial⟩ ?_ ?_
 ·rw [show N / 2 ^ (64 * 4)=0 from Nat.div_eq_of_lt hNM,Nat.zero_mul];exact qO _
 ·rintro m ⟨hm4,hqm⟩
  dsimp only
  rcases Nat.lt_or_ge q m with hlt|hge
  ·obtain ⟨k,rfl⟩:∃ k,m=k+1:=⟨m - 1,by omega⟩
   have e0:(((k+1:Nat):Int) - 1)=(k:Int):=by omega
   rw [e0]
   obtain ⟨X,hX⟩:∃ X,X=N / 2 ^ (64 * (k+1)) * 2 ^ (64 * (k+1)):=⟨_,rfl⟩
   have hz:limb X k=0:=by rw [hX];exact limb_zero _ k
   have hXM:X+18446744073709551615 * 2 ^ (64 * k) < M256:=by rw [hX];exact top_lt N k (by omega) hNM
   have htop:=limb_top N k
   rw [← hX] at htop
   rw [← hX]
   have hv1:limb a (k - q) * 2 ^ r % 18446744073709551616 < 18446744073709551616:=Nat.mod_lt _ (by decide)
   have hrd1:=limb_rd a (k - q) (by omega) (E:=29) (fr:=(0,0))
   have hW1:=limb_wr X k 0 (limb a (k - q) * 2 ^ r % 18446744073709551616) (by omega) hXM (by decide) hv1 hz (E:=29)
   rw [Nat.zero_mul,Nat.add_zero] at hW1
   rcases Nat.lt_or_ge q k with hqk|hqk
   ·obtain ⟨j,hj⟩:∃ j,k - q=j+1:=⟨k - q - 1,by omega⟩
    have hl:=hlimb (j+1) (by omega)
    rw [show q+(j+1)=k by omega] at hl
    obtain ⟨s1,s2⟩:=limb_shift a r j hr64
    rw [← hl,← hj] at s1
    rcases Nat.eq_zero_or_pos r with hr0|hr0
    ·have hl0:limb a j / 2 ^ (64 - r)=0:=by rw [hr0];exact Nat.div_eq_of_lt (limb_lt a j)
     rw [hl0,Nat.add_zero] at s1
     (refine zI<|sRz<|vMz<|vMz ?_;refine lvz (.geqT rfl rfl (by omega)) ?_;refine nNz<|cTz<|zJ<|thenN<|zI<|zM<|sRz<|vMz<|vMz<|vMz ?_;refine lvz (.subZ rfl rfl (by omega) (by omega)) ?_;refine lvz (.indexAddrA rfl rfl rfl (by omega)) ?_;refine ldz rfl (.tail (.tail (.tail .head))) (by assumption) ?_;refine vMz ?_;refine lvz (.shlU rfl rfl (by omega)) ?_;refine lvz (.indexAddrA rfl rfl rfl (by omega)) ?_;apply zR;rfl;rfl;apply qA;assumption;refine nSz<|vMz<|vMz ?_;refine lvz (.gtrT rfl rfl (by omega)) ?_;refine vMz<|gTz<|vMz<|gTz ?_;refine lvz (.gtrF rfl rfl (by omega)) ?_;refine pTz<|nNz<|cFz<|zJ<|blkN<|thenN<|zL<|vMz ?_;refine lvz (.subZL rfl rfl (by decide) (by omega) (by omega)) ?_;refine vAz ?_;apply zV)
     apply thenX
     refine ⟨rfl,k,⟨by omega,by omega⟩,Nat.lt_succ_self k,⟨congrArg (fun z=>some (Value.int .i64 z)) (show ((k - 1:Nat):Int)=(k:Int) - 1 by omega),rfl,rfl,rfl,rfl,rfl,trivial⟩,?_⟩
     rw [htop,s1]
     exact qO _
    ·have hrd2:=limb_rd (X+limb a (k - q) * 2 ^ r % 18446744073709551616 * 2 ^ (64 * k)) k (by omega) (E:=29) (fr:=(0,0))
     rw [limb_put X k _ hz hv1] at hrd2
     have hrd3:=limb_rd a (k - q - 1) (by omega) (E:=29) (fr:=(0,0))
     have ht0:limb a (k - q - 1) / 2 ^ (64 - r) < 18446744073709551616:=div64 (limb_lt _ _)
     have hor:(limb a (k - q) * 2 ^ r % 18446744073709551616 |||limb a (k - q - 1) / 2 ^ (64 - r))=limb N k:=by
      rw [s1,show k - q - 1=j by omega]
      exact or_low rfl (dvd_low _ _ hr64) s2
     have hW2:=limb_wr X k (limb a (k - q) * 2 ^ r % 18446744073709551616) (limb a (k - q) * 2 ^ r % 18446744073709551616 |||limb a (k - q - 1) / 2 ^ (64 - r)) (by omega) hXM hv1 (by rw [hor];exact limb_lt _ _) hz (E:=29)
     (refine zI<|sRz<|vMz<|vMz ?_;refine lvz (.geqT rfl rfl (by omega)) ?_;refine nNz<|cTz<|zJ<|thenN<|zI<|zM<|sRz<|vMz<|vMz<|vMz ?_;refine lvz (.subZ rfl rfl (by omega) (by omega)) ?_;refine lvz (.indexAddrA rfl rfl rfl (by omega)) ?_;refine ldz rfl (.tail (.tail (.tail .head))) (by assumption) ?_;refine vMz ?_;refine lvz (.shlU rfl rfl (by omega)) ?_;refine lvz (.indexAddrA rfl rfl rfl (by omega)) ?_;apply zR;rfl;rfl;apply qA;assumption;refine nSz<|vMz<|vMz ?_;refine lvz (.gtrT rfl rfl (by omega)) ?_;refine vMz<|gTz<|vMz<|gTz ?_;refine lvz (.gtrT rfl rfl (by omega)) ?_;refine pTz<|nNz<|cTz ?_;apply CW.pre;refine AnyW.any 12 mixed (by decide +kernel) ?_;(try simp only [tsOf_cons,tsOf_nil,tsOf_app]);refine dvz (.move rfl) ?_;refine dvz (.indexAddrA rfl rfl rfl (by omega)) ?_;apply qF;rfl;rfl;rfl;exact zC;rfl;apply zP;exact zN;assumption;refine dvz (.move rfl)<|dvz (.move rfl) ?_;refine dvz (.subZ rfl rfl (by omega) (by omega)) ?_;refine dvz (.subZL rfl rfl (by decide) (by omega) (by omega)) ?_;refine dvz (.indexAddrA rfl rfl rfl (by omega)) ?_;apply qF;rfl;rfl;rfl;exact zC;rfl;apply zO;apply zO;apply zO;apply zP;exact zN;assumption;refine dvz (.move rfl) ?_;refine dvz (.subZK rfl rfl (by decide) (by omega) (by omega)) ?_;refine dvz (.shrU rfl rfl (by omega)) ?_;apply DW.nil;simp only [fsOf_cons,fsOf_nil,fsOf_app,fsOf_tsOf,fsOf_new];refine lvz (.orU rfl rfl (by omega) (by omega)) ?_;refine lvz (.indexAddrA rfl rfl rfl (by omega)) ?_;apply zR;rfl;rfl;apply qA;assumption;apply zV;refine blkN<|thenN<|zL<|vMz ?_;refine lvz (.subZL rfl rfl (by decide) (by omega) (by omega)) ?_;refine vAz ?_;apply zV)
     apply thenX
     refine ⟨rfl,k,⟨by omega,by omega⟩,Nat.lt_succ_self k,⟨congrArg (fun z=>some (Value.int .i64 z)) (show ((k - 1:Nat):Int)=(k:Int) - 1 by omega),rfl,rfl,rfl,rfl,rfl,trivial⟩,?_⟩
     rw [htop,← hor]
     exact qO _
   ·have hl:=hlimb 0 (by omega)
    rw [limb_shift0,show q+0=k by omega] at hl
    (refine zI<|sRz<|vMz<|vMz ?_;refine lvz (.geqT rfl rfl (by omega)) ?_;refine nNz<|cTz<|zJ<|thenN<|zI<|zM<|sRz<|vMz<|vMz<|vMz ?_;refine lvz (.subZ rfl rfl (by omega) (by omega)) ?_;refine lvz (.indexAddrA rfl rfl rfl (by omega)) ?_;refine ldz rfl (.tail (.tail (.tail .head))) (by assumption) ?_;refine vMz ?_;refine lvz (.shlU rfl rfl (by omega)) ?_;refine lvz (.indexAddrA rfl rfl rfl (by omega)) ?_;apply zR;rfl;rfl;apply qA;assumption;refine nSz<|vMz<|vMz ?_;refine lvz (.gtrF rfl rfl (by omega)) ?_;refine vMz<|gFz<|gFz<|pFz<|nNz<|cFz<|zJ<|blkN<|thenN<|zL<|vMz ?_;refine lvz (.subI rfl rfl (by omega) (by omega)) ?_;refine vAz ?_;apply zV)
    apply thenX
    refine ⟨rfl,k,⟨by omega,by omega⟩,Nat.lt_succ_self k,⟨rfl,rfl,rfl,rfl,rfl,rfl,trivial⟩,?_⟩
    rw [htop,hl,show k - q=0 by omega]
    exact qO _
  ·obtain rfl:m=q:=by omega
   have hfin:N / 2 ^ (64 * m) * 2 ^ (64 * m)=N:=by
    refine Nat.div_mul_cancel ?_
    rw [hN]
    refine (Nat.dvd_mod_iff (show 2 ^ (64 * m) ∣ 2 ^ 256 from Nat.pow_dvd_pow 2 (by omega))).2 ?_
    rw [hs2,Nat.pow_add,← Nat.mul_assoc]
    exact ⟨_,Nat.mul_comm _ _⟩
   rw [hfin]
   (refine zI<|sRz<|vMz<|vMz ?_;refine lvz (.geqF rfl rfl (by omega)) ?_;refine nNz<|cFz<|CW.exit<|thenE<|thenE<|blkE rfl<|thenN<|sRz<|ldz rfl .head (qH rfl) ?_;refine zR rfl rfl (.tail .head) (.whole rfl rfl rfl)<|nNz<|zK ?_)
   (apply finR;exact .inl rfl;rfl;rfl;rfl;apply zD;apply zH;rfl;apply qG;apply zX;apply zY;exact qH rfl;exact zF)
   rfl
theorem limb_div (Y q j:Nat):limb (Y / 2 ^ (64 * q)) j=limb Y (j+q):=by
 unfold limb
 rw [Nat.div_div_eq_div_mul,← Nat.pow_add,← Nat.mul_add,Nat.add_comm]
theorem low_zero (N m:Nat):limb (N % 2 ^ (64 * m)) m=0:=by
 unfold limb
 rw [Nat.div_eq_of_lt (Nat.mod_lt _ (pow_pos2 _))]
theorem low_lt (N m:Nat) (hm:m < 4):N % 2 ^ (64 * m)+18446744073709551615 * 2 ^ (64 * m) < M256:=by
 have h:=Nat.mod_lt N (pow_pos2 (64 * m))
 simp only [M256]
 rcases (show m=0∨m=1∨m=2∨m=3 by omega) with rfl|rfl|rfl|rfl<;>simp only [Nat.reduceMul,Nat.reducePow,Nat.mul_zero,Nat.pow_zero] at h ⊢<;>omega
theorem Shr_calls (a n:Nat) (ha:a < M256) (hn:n < M256) (w:World):Calls Tryz.prog 25 #[wv a,wv n] w (Ret w (wv (a / 2 ^ min n 256))):=by
 refine enter (args:=[_,_]) _ [] [] Tryz.func25 rfl Tryz.ntmps25 rfl (by simp) .nil ?_
 (refine sRz ?_;apply zT;rfl;rfl;intro _;apply zT;rfl;rfl;intro _;apply LW.allocW;rfl;intro _;refine nSz ?_;apply LW.allocW;rfl;intro _;refine nNz<|zI ?_;apply CW.pre;refine AnyW.any 7 mixed (by decide +kernel) ?_;(try simp only [tsOf_cons,tsOf_nil,tsOf_app]);apply qF;rfl;rfl;rfl;exact zC;rfl;apply zO;apply zO;apply zP;exact zN;exact qH rfl;apply DW.callE;rfl;rfl;rfl;exact zC;rfl;infer_instance;exact .cons rfl .nil;rfl;exact ReadAll.nil;intro w _ _;refine moves_calls _ ?_ w;assumption;refine dvz (.quoZL rfl rfl (by decide) (by omega) (by omega)) ?_;apply qF;rfl;rfl;rfl;exact zC;rfl;apply zO;apply zO;apply zP;exact zN;exact qH rfl;apply DW.callE;rfl;rfl;rfl;exact zC;rfl;infer_instance;exact .cons rfl .nil;rfl;exact ReadAll.nil;intro w _ _;refine moves_calls _ ?_ w;assumption;refine dvz (.remZL rfl rfl (by decide) (by omega)) ?_;refine dvz (.assign rfl) ?_;apply DW.nil;simp only [fsOf_cons,fsOf_nil,fsOf_app,fsOf_tsOf,fsOf_new];refine vAz<|nNz<|zI<|sRz<|vAz<|nNz<|zM ?_)
 rename_i ba b3 b4 b5
 obtain ⟨s,hs⟩:∃ s,s=min n 256:=⟨_,rfl⟩
 rw [← hs]
 have hs256:s≤256:=by omega
 obtain ⟨q,hq⟩:∃ q,q=s / 64:=⟨_,rfl⟩
 obtain ⟨r,hr⟩:∃ r,r=s % 64:=⟨_,rfl⟩
 rw [← hq,← hr]
 have hr64:r < 64:=by omega
 have hs2:s=r+64 * q:=by omega
 obtain ⟨N,hN⟩:∃ N,N=a / 2 ^ s:=⟨_,rfl⟩
 rw [← hN]
 have hN2:N=a / 2 ^ r / 2 ^ (64 * q):=by rw [hN,hs2,Nat.pow_add,Nat.div_div_eq_div_mul]
 have hlimb:∀ j,limb N j=limb (a / 2 ^ r) (j+q):=fun j=>by rw [hN2,limb_div]
 refine CW.loop (fun m:Nat=>([(8,.int .i64 (m:Int)),(7,.int .i64 (r:Int)),(6,.int .i64 (q:Int)),(5,.pointer (some ⟨b5,0,none⟩)),(4,.pointer (some ⟨b4,0,none⟩)),(2,.pointer (some ⟨ba,0,none⟩))],
   [(b5,.cells (wc (N % 2 ^ (64 * m))) 29 (0,0)),(b4,.cells (wc 0) 29 (0,0)),(b3,.cells (wc n) 29 (0,0)),(ba,.cells (wc a) 29 (0,0))]))
  (fun m=>m+q≤4) (fun m=>4 - m) 0 (by omega) ⟨rfl,rfl,rfl,rfl,rfl,rfl,trivial⟩ (by rw [Nat.mul_zero,Nat.pow_zero,Nat.mod_one];exact qO _) ?_
 intro m hmq
 dsimp only
 rcases Nat.lt_or_ge (m+q) 4 with hlt|hge
 ·obtain ⟨X,hX⟩:∃ X,X=N % 2 ^ (64 * m):=⟨_,rfl⟩
  have hz:limb X m=0:=by rw [hX];exact low_zero N m
  have hXM:X+18446744073709551615 * 2 ^ (64 * m) < M256:=by rw [hX];exact low_lt N m (by omega)
  have htop:=limb_step N m
  rw [B_pow,← hX,hlimb] at htop
  rw [← hX]
  obtain ⟨s1,s2⟩:=limb_down a r (m+q) hr64
  have hv1:limb a (m+q) / 2 ^ r < 18446744073709551616:=div64 (limb_lt _ _)
  have hrd1:=limb_rd a (m+q) hlt (E:=29) (fr:=(0,0))
  have hW1:=limb_wr X m 0 (limb a (m+q) / 2 ^ r) (by omega) hXM (by decide) hv1 hz (E:=29)
  rw [Nat.zero_mul,Nat.add_zero] at hW1
  rcases Nat.lt_or_ge (m+q+1) 4 with h3|h3
  ·rcases Nat.eq_zero_or_pos r with hr0|hr0
   ·have hl0:limb a (m+q+1) * 2 ^ (64 - r) % 18446744073709551616=0:=by rw [hr0];exact Nat.mul_mod_left _ _
    rw [hl0,Nat.add_zero] at s1
    (refine zI<|sRz<|vMz<|vMz ?_;refine lvz (.addZ rfl rfl (by omega)) ?_;refine lvz (.lssT rfl rfl (by omega)) ?_;refine nNz<|cTz<|zJ<|thenN<|zI<|zM<|sRz<|vMz<|vMz<|vMz ?_;refine lvz (.addZ rfl rfl (by omega)) ?_;refine lvz (.indexAddrA rfl rfl rfl (by omega)) ?_;refine ldz rfl (.tail (.tail (.tail .head))) (by assumption) ?_;refine vMz ?_;refine lvz (.shrU rfl rfl (by omega)) ?_;refine lvz (.indexAddrA rfl rfl rfl (by omega)) ?_;apply zR;rfl;rfl;apply qA;assumption;refine nSz<|vMz<|vMz ?_;refine lvz (.addZ rfl rfl (by omega)) ?_;refine lvz (.addZL rfl rfl (by decide) (by omega)) ?_;refine lvz (.lssT rfl rfl (by omega)) ?_;refine vMz<|gTz<|vMz<|gTz ?_;refine lvz (.gtrF rfl rfl (by omega)) ?_;refine pTz<|nNz<|cFz<|zJ<|blkN<|thenN<|zL<|vMz ?_;refine lvz (.addZL rfl rfl (by decide) (by omega)) ?_;refine vAz ?_;apply zV)
    apply thenX
    refine ⟨rfl,m+1,(by omega),by omega,⟨rfl,rfl,rfl,rfl,rfl,rfl,trivial⟩,?_⟩
    rw [htop,s1]
    exact qO _
   ·have hrd2:=limb_rd (X+limb a (m+q) / 2 ^ r * 2 ^ (64 * m)) m (by omega) (E:=29) (fr:=(0,0))
    rw [limb_put X m _ hz hv1] at hrd2
    have hrd3:=limb_rd a (m+q+1) h3 (E:=29) (fr:=(0,0))
    have ht0:limb a (m+q+1) * 2 ^ (64 - r) % 18446744073709551616 < 18446744073709551616:=Nat.mod_lt _ (by decide)
    have hor:(limb a (m+q) / 2 ^ r |||limb a (m+q+1) * 2 ^ (64 - r) % 18446744073709551616)=limb (a / 2 ^ r) (m+q):=by
     rw [s1,Nat.or_comm,Nat.add_comm (limb a (m+q) / 2 ^ r)]
     exact or_low rfl (dvd_low _ _ (by omega)) s2
    have hW2:=limb_wr X m (limb a (m+q) / 2 ^ r) (limb a (m+q) / 2 ^ r |||limb a (m+q+1) * 2 ^ (64 - r) % 18446744073709551616) (by omega) hXM hv1 (by rw [hor];exact limb_lt _ _) hz (E:=29)
    (refine zI<|sRz<|vMz<|vMz ?_;refine lvz (.addZ rfl rfl (by omega)) ?_;refine lvz (.lssT rfl rfl (by omega)) ?_;refine nNz<|cTz<|zJ<|thenN<|zI<|zM<|sRz<|vMz<|vMz<|vMz ?_;refine lvz (.addZ rfl rfl (by omega)) ?_;refine lvz (.indexAddrA rfl rfl rfl (by omega)) ?_;refine ldz rfl (.tail (.tail (.tail .head))) (by assumption) ?_;refine vMz ?_;refine lvz (.shrU rfl rfl (by omega)) ?_;refine lvz (.indexAddrA rfl rfl rfl (by omega)) ?_;apply zR;rfl;rfl;apply qA;assumption;refine nSz<|vMz<|vMz ?_;refine lvz (.addZ rfl rfl (by omega)) ?_;refine lvz (.addZL rfl rfl (by decide) (by omega)) ?_;refine lvz (.lssT rfl rfl (by omega)) ?_;refine vMz<|gTz<|vMz<|gTz ?_;refine lvz (.gtrT rfl rfl (by omega)) ?_;refine pTz<|nNz<|cTz ?_;apply CW.pre;refine AnyW.any 12 mixed (by decide +kernel) ?_;(try simp only [tsOf_cons,tsOf_nil,tsOf_app]);refine dvz (.move rfl) ?_;refine dvz (.indexAddrA rfl rfl rfl (by omega)) ?_;apply qF;rfl;rfl;rfl;exact zC;rfl;apply zP;exact zN;assumption;refine dvz (.move rfl)<|dvz (.move rfl) ?_;refine dvz (.addZ rfl rfl (by omega)) ?_;refine dvz (.addZL rfl rfl (by decide) (by omega)) ?_;refine dvz (.indexAddrA rfl rfl rfl (by omega)) ?_;apply qF;rfl;rfl;rfl;exact zC;rfl;apply zO;apply zO;apply zO;apply zP;exact zN;assumption;refine dvz (.move rfl) ?_;refine dvz (.subZK rfl rfl (by decide) (by omega) (by omega)) ?_;refine dvz (.shlU rfl rfl (by omega)) ?_;apply DW.nil;simp only [fsOf_cons,fsOf_nil,fsOf_app,fsOf_tsOf,fsOf_new];refine lvz (.orU rfl rfl (by omega) (by omega)) ?_;refine lvz (.indexAddrA rfl rfl rfl (by omega)) ?_;apply zR;rfl;rfl;apply qA;assumption;apply zV;refine blkN<|thenN<|zL<|vMz ?_;refine lvz (.addZL rfl rfl (by decide) (by omega)) ?_;refine vAz ?_;apply zV)
    apply thenX
    refine ⟨rfl,m+1,(by omega),by omega,⟨rfl,rfl,rfl,rfl,rfl,rfl,trivial⟩,?_⟩
    rw [htop,← hor]
    exact qO _
  ·have hl4:limb a (m+q+1)=0:=by
    rw [show m+q+1=4 by omega];unfold limb;rw [Nat.div_eq_of_lt (show a < 2 ^ (64 * 4) from ha)]
   rw [hl4,Nat.zero_mul,Nat.zero_mod,Nat.add_zero] at s1
   (refine zI<|sRz<|vMz<|vMz ?_;refine lvz (.addZ rfl rfl (by omega)) ?_;refine lvz (.lssT rfl rfl (by omega)) ?_;refine nNz<|cTz<|zJ<|thenN<|zI<|zM<|sRz<|vMz<|vMz<|vMz ?_;refine lvz (.addZ rfl rfl (by omega)) ?_;refine lvz (.indexAddrA rfl rfl rfl (by omega)) ?_;refine ldz rfl (.tail (.tail (.tail .head))) (by assumption) ?_;refine vMz ?_;refine lvz (.shrU rfl rfl (by omega)) ?_;refine lvz (.indexAddrA rfl rfl rfl (by omega)) ?_;apply zR;rfl;rfl;apply qA;assumption;refine nSz<|vMz<|vMz ?_;refine lvz (.addZ rfl rfl (by omega)) ?_;refine lvz (.addZL rfl rfl (by decide) (by omega)) ?_;refine lvz (.lssF rfl rfl (by omega)) ?_;refine vMz<|gFz<|gFz<|pFz<|nNz<|cFz<|zJ<|blkN<|thenN<|zL<|vMz ?_;refine lvz (.addZL rfl rfl (by decide) (by omega)) ?_;refine vAz ?_;apply zV)
   apply thenX
   refine ⟨rfl,m+1,(by omega),by omega,⟨rfl,rfl,rfl,rfl,rfl,rfl,trivial⟩,?_⟩
   rw [htop,s1]
   exact qO _
 ·have hfin:N % 2 ^ (64 * m)=N:=by
   refine Nat.mod_eq_of_lt ?_
   rw [hN2]
   refine Nat.div_lt_of_lt_mul (Nat.lt_of_le_of_lt (Nat.div_le_self _ _) ?_)
   rw [← Nat.pow_add,show 64 * q+64 * m=256 by omega];exact ha
  rw [hfin]
  (refine zI<|sRz<|vMz<|vMz ?_;refine lvz (.addZ rfl rfl (by omega)) ?_;refine lvz (.lssF rfl rfl (by omega)) ?_;refine nNz<|cFz<|CW.exit<|thenE<|thenE<|blkE rfl<|thenN<|sRz<|ldz rfl .head (qH rfl) ?_;refine zR rfl rfl (.tail .head) (.whole rfl rfl rfl)<|nNz<|zK ?_)
  (apply finR;exact .inl rfl;rfl;rfl;rfl;apply zD;apply zH;rfl;apply qG;apply zX;apply zY;exact qH rfl;exact zF)
  rfl
def beb (m a:Nat):List UInt8:=(List.range m).map fun i=>UInt8.ofNat (a / 256 ^ (m - 1 - i))
theorem beb_len (m a:Nat):(beb m a).length=m:=by simp [beb]
theorem beb_get (m a i:Nat) (h:i < m):(beb m a)[i]?=some (UInt8.ofNat (a / 256 ^ (m - 1 - i))):=by simp [beb,h]
theorem byte_limb (a n:Nat) (hn:n < 32):a / 2 ^ (64 * (0+n / 8 * 1)) % 18446744073709551616 / 2 ^ (8 * (n % 8)) % 256=a / 256 ^ n % 256:=by
 rw [show (18446744073709551616:Nat)=2 ^ (8 * (n % 8)+(64 - 8 * (n % 8))) by rw [show 8 * (n % 8)+(64 - 8 * (n % 8))=64 by omega]]
 rw [Nat.pow_add,Nat.mod_mul_right_div_self,Nat.div_div_eq_div_mul,← Nat.pow_add,show 64 * (0+n / 8 * 1)+8 * (n % 8)=8 * n by omega,Nat.pow_mul]
 obtain ⟨j,hj⟩:∃ j,64 - 8 * (n % 8)=8+j:=⟨56 - 8 * (n % 8),by omega⟩
 rw [hj,Nat.pow_add,show (256:Nat)=2 ^ 8 from rfl,Nat.mod_mod_of_dvd _ ⟨2 ^ j,rfl⟩]
theorem beb_u8 (a k:Nat) (hk:k < 32):((a / 2 ^ (64 * (0+(32 - 1 - k) / 8 * 1)) % 18446744073709551616 / 2 ^ (8 * ((32 - 1 - k) % 8)) % 256:Nat):Int)=(((UInt8.ofNat (a / 256 ^ (32 - 1 - k))).toNat:Nat):Int):=by
 rw [byte_limb a _ (by omega),UInt8.toNat_ofNat']
def fillB (L:List UInt8) (k:Nat):List UInt8:=L.take k++List.replicate (L.length - k) 0
theorem fillB_step (L:List UInt8) (k:Nat) (u:UInt8) (h:k < L.length) (hu:L[k]?=some u):ucs ((fillB L k).take k)++[Value.int .u8 (u.toNat:Int)]++ucs ((fillB L k).drop (k+1))=ucs (fillB L (k+1)):=by
 have h1:(L.take k).length=k:=by simp;omega
 have e1:(fillB L k).take k=L.take k:=by unfold fillB;rw [List.take_append_of_le_length (by omega),List.take_of_length_le (by omega)]
 have e2:(fillB L k).drop (k+1)=List.replicate (L.length - (k+1)) 0:=by
  unfold fillB
  rw [List.drop_append,h1,List.drop_eq_nil_of_le (by omega),List.nil_append,List.drop_replicate]
  congr 1;omega
 obtain ⟨hk,hv⟩:=List.getElem?_eq_some_iff.1 hu
 rw [e1,e2,show [Value.int .u8 (u.toNat:Int)]=ucs [u] from rfl,← ucs_app,← ucs_app]
 unfold fillB
 rw [List.take_succ_eq_append_getElem hk,hv]
theorem fillB_len (L:List UInt8) (k:Nat) (h:k≤L.length):(fillB L k).length=L.length:=by simp [fillB];omega
structure BX where
 m:Nat
 seg:Fs
theorem Bytes_calls (a:Nat) (ha:a < M256) (w:World):Calls Tryz.prog 59 #[wv a] w (RetG w [] fun v gs=>IsRow 5 1 v 32 (ucs (beb 32 a)) gs):=by
 refine enter (args:=[_]) _ [] [] Tryz.func59 rfl Tryz.ntmps59 rfl (by simp) .nil ?_
 (refine sRz ?_;apply zT;rfl;rfl;intro _;refine vAz<|nSz ?_)
 rename_i b
 refine LW.makeRow (n:=32) rfl inferInstance inferInstance inferInstance rfl rfl (by decide) (by decide) ?_
 intro v0 seg0 hrow0
 obtain ⟨p0,c0,rfl⟩:=hrow0.form
 rw [← ucs_zero] at hrow0
 (refine vAz<|nNz<|zI<|sRz<|vMz<|lvz (.lenR rfl inferInstance rfl)<|vMz<|nNz<|zM ?_)
 refine CW.loop (fun x:BX=>([(9,.int .i64 (x.m:Int)),(8,.int .i64 32),(3,.slice p0 32 c0),(1,.pointer (some ⟨b,0,none⟩))],x.seg++[(b,.cells (wc a) 29 (0,0))]))
  (fun x=>x.m≤32∧IsRow 5 1 (.slice p0 32 c0) 32 (ucs (fillB (beb 32 a) x.m)) x.seg) (fun x=>32 - x.m) ⟨0,seg0⟩ ⟨Nat.zero_le _,by simpa [fillB,beb_len] using hrow0⟩ ⟨rfl,rfl,rfl,rfl,trivial⟩ (qO _) ?_
 rintro ⟨k,seg⟩ ⟨hk,hrow⟩
 dsimp only at hk hrow ⊢
 rcases Nat.lt_or_ge k 32 with hlt|hge
 ·obtain ⟨g,cur,rfl,rfl,hc1,hmx,hsz,ht⟩:=hrow.pos (by decide)
  have hu:=beb_get 32 a k hlt
  have hval:=beb_u8 a k hlt
  obtain ⟨u,hu'⟩:∃ u,u=UInt8.ofNat (a / 256 ^ (32 - 1 - k)):=⟨_,rfl⟩
  rw [← hu'] at hu hval
  obtain ⟨w1,w2⟩:=wr_take (i:=k) (vs:=[Value.int .u8 (u.toNat:Int)]) ht rfl hlt (by omega)
  rw [ucs_take,ucs_drop,fillB_step _ _ _ (by rw [beb_len];exact hlt) hu] at w1
  have hW:Wr Tryz.prog 5 (.cells cur 5 (0,0)) (0+k * 1) (.int .u8 (u.toNat:Int)) (.cells (wrCells cur (k * 1) [Value.int .u8 (u.toNat:Int)]) 5 (0,0)):=Wr.cells rfl rfl (by rw [hsz];show 0+k * 1+1≤c0 * 1;omega) (by rw [qP];rfl)
  rw [← hval] at hW
  (refine sRz ?_;refine lvz (.lssT rfl rfl (by omega)) ?_;refine nNz<|zI<|cTz<|zJ<|thenN<|zI<|zM<|sRz<|vMz<|vAz<|nSz<|vMz<|lvz (.lenR rfl inferInstance rfl) ?_;refine lvz (.subZL rfl rfl (by decide) (by omega) (by omega)) ?_;refine vMz ?_;refine lvz (.subZ rfl rfl (by omega) (by omega)) ?_;refine vAz<|nNz<|zL<|vMz<|vMz<|vMz ?_;refine lvz (.quoZL rfl rfl (by decide) (by omega) (by omega)) ?_;refine lvz (.indexAddrA rfl rfl rfl (by omega)) ?_;apply LW.load;rfl;rfl;apply qG;apply zX;apply zY;apply Rd.one';apply nth_wc;omega;refine vMz ?_;refine lvz (.remZL rfl rfl (by decide) (by omega)) ?_;refine lvz (.mulZK rfl rfl (by decide) (by omega)) ?_;refine lvz (.shrU rfl rfl (by omega)) ?_;refine lvz (.convB rfl) ?_;refine lvz (.indexAddrS rfl rfl rfl (by omega)) ?_;apply zR;rfl;rfl;apply qA;assumption;apply zV;refine blkN<|thenN<|zL ?_;refine lvz (.addZL rfl rfl (by decide) (by omega)) ?_;refine vMz ?_;apply zV)
  apply thenX
  refine ⟨rfl,⟨k+1,_⟩,⟨hlt,.own hc1 hmx (by rw [w2,hsz]) w1 ?_⟩,by show 32 - (k+1) < 32 - k;omega,⟨rfl,rfl,rfl,rfl,trivial⟩,by rw [hval];exact qO _⟩
  rw [ucs_len,fillB_len _ _ (by rw [beb_len];exact hlt),beb_len]
 ·obtain rfl:k=32:=by omega
  rw [show fillB (beb 32 a) 32=beb 32 a by simp [fillB,beb_len,List.take_of_length_le]] at hrow
  (refine sRz ?_;refine lvz (.lssF rfl rfl (by omega)) ?_;refine nNz<|zI<|cFz<|CW.exit<|thenE<|thenE<|blkE rfl<|thenN<|sRz<|vMz<|vAz<|nNz<|zK ?_)
  apply finM seg;(exact .inl rfl);(exact Shut.nil);rfl;(apply zD;exact zG rfl;exact zF);exact qR _ _
  exact hrow
def bev (l:List UInt8):Nat:=l.foldl (fun n u=>256 * n+u.toNat) 0
theorem bev_snoc (l:List UInt8) (u:UInt8):bev (l++[u])=256 * bev l+u.toNat:=by simp [bev,List.foldl_append]
theorem bev_go (l:List UInt8):∀ n,l.foldl (fun n u=>256 * n+u.toNat) n < (n+1) * 2 ^ (8 * l.length):=by
 induction l with
 |nil=>intro n;simp
 |cons u l ih =>
  intro n
  have hu:=u.toNat_lt
  rw [List.foldl_cons,List.length_cons,show 8 * (l.length+1)=8+8 * l.length by omega,Nat.pow_add,← Nat.mul_assoc]
  exact Nat.lt_of_lt_of_le (ih _) (Nat.mul_le_mul_right _ (by omega))
theorem bev_lt (l:List UInt8):bev l < 2 ^ (8 * l.length):=by
 have:=bev_go l 0
 rwa [qP,Nat.one_mul] at this
def bup (l:List UInt8) (m:Nat):Nat:=bev (l.take m) * 2 ^ (8 * (l.length - m))
theorem bup_step (l:List UInt8) (m:Nat) (h:m < l.length):bup l m |||l[m].toNat * 2 ^ (8 * (l.length - 1 - m))=bup l (m+1):=by
 have hu:=l[m].toNat_lt
 have e:2 ^ (8 * (l.length - m))=256 * 2 ^ (8 * (l.length - 1 - m)):=by rw [show 8 * (l.length - m)=8+8 * (l.length - 1 - m) by omega,Nat.pow_add]
 have hp:=pow_pos2 (8 * (l.length - 1 - m))
 unfold bup
 rw [or_low (R:=2 ^ (8 * (l.length - m))) rfl ⟨bev (l.take m),Nat.mul_comm _ _⟩ (by rw [e];exact Nat.mul_lt_mul_of_pos_right hu hp)]
 rw [List.take_succ_eq_append_getElem h,bev_snoc,Nat.add_mul,e,show l.length - (m+1)=l.length - 1 - m by omega,← Nat.mul_assoc,Nat.mul_comm (bev _) 256]
theorem or_limb (X Z k:Nat):(X |||Z) / 2 ^ k % 18446744073709551616=X / 2 ^ k % 18446744073709551616 |||Z / 2 ^ k % 18446744073709551616:=by
 rw [Nat.or_div_two_pow,show (18446744073709551616:Nat)=2 ^ 64 from rfl,Nat.or_mod_two_pow]
theorem wc_or (X Z:Nat):wc (X |||Z)=#[.int .u64 ((X % 18446744073709551616 |||Z % 18446744073709551616:Nat):Int),.int .u64 ((X / 18446744073709551616 % 18446744073709551616 |||Z / 18446744073709551616 % 18446744073709551616:Nat):Int),
  .int .u64 ((X / 340282366920938463463374607431768211456 % 18446744073709551616 |||Z / 340282366920938463463374607431768211456 % 18446744073709551616:Nat):Int),.int .u64 ((X / 6277101735386680763835789423207666416102355444464034512896 % 18446744073709551616 |||Z / 6277101735386680763835789423207666416102355444464034512896 % 18446744073709551616:Nat):Int)]:=by
 have h0:=or_limb X Z 0
 have h1:=or_limb X Z 64
 have h2:=or_limb X Z 128
 have h3:=or_limb X Z 192
 simp only [Nat.pow_zero,Nat.div_one,Nat.reducePow] at h0 h1 h2 h3
 rw [wc,h0,h1,h2,h3]
theorem wc_setor (X i v:Nat) (hi:i < 4) (hv:v < 18446744073709551616):((wc X).toList.set i (.int .u64 ((limb X i |||v:Nat):Int))).toArray=wc (X |||v * 2 ^ (64 * i)):=by
 rw [wc_or]
 have e0:v % 18446744073709551616=v:=Nat.mod_eq_of_lt hv
 unfold limb
 rcases (show i=0∨i=1∨i=2∨i=3 by omega) with rfl|rfl|rfl|rfl<;>simp only [wc,qM,qN,Nat.mul_zero,Nat.pow_zero,Nat.div_one,Nat.mul_one,Nat.reduceMul,Nat.reducePow]
 ·rw [e0,show v / 18446744073709551616 % 18446744073709551616=0 by omega,show v / 340282366920938463463374607431768211456 % 18446744073709551616=0 by omega,show v / 6277101735386680763835789423207666416102355444464034512896 % 18446744073709551616=0 by omega,Nat.or_zero,Nat.or_zero,Nat.or_zero]
 ·rw [show v * 18446744073709551616 / 18446744073709551616 % 18446744073709551616=v by omega,show v * 18446744073709551616 % 18446744073709551616=0 by omega,show v * 18446744073709551616 / 340282366920938463463374607431768211456 % 18446744073709551616=0 by omega,show v * 18446744073709551616 / 6277101735386680763835789423207666416102355444464034512896 % 18446744073709551616=0 by omega,Nat.or_zero,Nat.or_zero,Nat.or_zero]
 ·rw [show v * 340282366920938463463374607431768211456 / 18446744073709551616 % 18446744073709551616=0 by omega,show v * 340282366920938463463374607431768211456 % 18446744073709551616=0 by omega,show v * 340282366920938463463374607431768211456 / 340282366920938463463374607431768211456 % 18446744073709551616=v by omega,show v * 340282366920938463463374607431768211456 / 6277101735386680763835789423207666416102355444464034512896 % 18446744073709551616=0 by omega,Nat.or_zero,Nat.or_zero,Nat.or_zero]
 ·rw [show v * 6277101735386680763835789423207666416102355444464034512896 / 18446744073709551616 % 18446744073709551616=0 by omega,show v * 6277101735386680763835789423207666416102355444464034512896 % 18446744073709551616=0 by omega,show v * 6277101735386680763835789423207666416102355444464034512896 / 340282366920938463463374607431768211456 % 18446744073709551616=0 by omega,show v * 6277101735386680763835789423207666416102355444464034512896 / 6277101735386680763835789423207666416102355444464034512896 % 18446744073709551616=v by omega,Nat.or_zero,Nat.or_zero,Nat.or_zero]
theorem byte_wr (X n u:Nat) (hn:n < 32) (hu:u < 256) {E:TypeId}:Wr Tryz.prog 26 (.cells (wc X) E (0,0)) (0+n / 8 * 1) (.int .u64 ((limb X (n / 8) |||u * 2 ^ (8 * (n % 8)) % 18446744073709551616:Nat):Int)) (.cells (wc (X |||u * 2 ^ (8 * n))) E (0,0)) :=
 Wr.cells rfl rfl (by show 0+n / 8 * 1+1≤4;omega) (by
  have h7:2 ^ (8 * (n % 8))≤2 ^ 56:=Nat.pow_le_pow_right (by decide) (by omega)
  have hlt:u * 2 ^ (8 * (n % 8)) < 18446744073709551616:=by
   have:=Nat.mul_le_mul (show u≤255 by omega) h7
   have:(255:Nat) * 2 ^ 56 < 18446744073709551616:=by decide
   omega
  have h:=wc_setor X (n / 8) (u * 2 ^ (8 * (n % 8))) (by omega) hlt
  rw [Nat.mul_assoc,← Nat.pow_add,show 8 * (n % 8)+64 * (n / 8)=8 * n by omega] at h
  rw [qP,Nat.mul_one,Nat.mod_eq_of_lt hlt,← h]
  apply Array.toList_inj.1
  simp [wrCells,Value.cells])
theorem Read_calls (v:Value) (l:List UInt8) (w:World) (hv:RowAt w 1 v l.length (ucs l)) (hl:l.length≤32):Calls Tryz.prog 199 #[v] w (Ret w (.tuple #[wv (bev l),.int .i64 0])):=by
 obtain ⟨p,c,rfl,hc,hm⟩:=hv.form
 simp only [maxLen] at hm
 refine enter (args:=[_]) _ [] [] Tryz.func199 rfl Tryz.ntmps199 rfl (by simp) .nil ?_
 (refine sRz ?_;apply LW.allocW;rfl;intro _;refine vAz<|nSz ?_;apply LW.allocW;rfl;intro _;refine nNz<|zI<|sRz<|vMz<|lvz (.lenR rfl inferInstance rfl) ?_;refine lvz (.gtrF rfl rfl (by omega)) ?_;refine nNz<|cFz<|zJ<|thenN<|zI<|sRz<|vMz<|lvz (.lenR rfl inferInstance rfl)<|vMz<|nNz<|zM ?_)
 rename_i b2 b4
 refine CW.loop (fun m:Nat=>([(14,.int .i64 (m:Int)),(13,.int .i64 (l.length:Int)),(12,.slice p l.length c),(0,.slice p l.length c),(4,.pointer (some ⟨b4,0,none⟩)),(2,.pointer (some ⟨b2,0,none⟩))],
   [(b4,.cells (wc (bup l m)) 29 (0,0)),(b2,.cells (wc 0) 29 (0,0))]))
  (fun m=>m≤l.length) (fun m=>l.length - m) 0 (Nat.zero_le _) ⟨rfl,rfl,rfl,rfl,rfl,rfl,trivial⟩ (by simp [bup,bev]) ?_
 intro m hml
 dsimp only at hml ⊢
 rcases Nat.lt_or_ge m l.length with hlt|hge
 ·obtain ⟨b,off,c',cs,E,fr,heq,hb,hx⟩:=hv.pos (by omega)
  cases heq
  obtain ⟨u,hu⟩:∃ u,u=l[m]:=⟨_,rfl⟩
  have hrd:Rd Tryz.prog 5 (.cells cs E fr) (off+m * 1) (.int .u8 (u.toNat:Int)):=Rd.elem1 hx (ucs_one l) (by rw [hu];exact List.getElem?_eq_getElem hlt) rfl
  have hu8:=u.toNat_lt
  have hst:=bup_step l m hlt
  rw [← hu] at hst
  have hn32:l.length - 1 - m < 32:=by omega
  obtain ⟨X,hX⟩:∃ X,X=bup l m:=⟨_,rfl⟩
  rw [← hX] at hst ⊢
  have hlm:=limb_lt X ((l.length - 1 - m) / 8)
  have hrl:=limb_rd X ((l.length - 1 - m) / 8) (by omega) (E:=29) (fr:=(0,0))
  have hW:=byte_wr X (l.length - 1 - m) u.toNat hn32 hu8 (E:=29)
  have hv8:u.toNat * 2 ^ (8 * ((l.length - 1 - m) % 8)) % 18446744073709551616 < 18446744073709551616:=Nat.mod_lt _ (by decide)
  rw [hst] at hW
  (refine sRz ?_;refine lvz (.lssT rfl rfl (by omega)) ?_;refine nNz<|zI<|cTz<|zJ<|thenN<|zI<|zM<|sRz<|vMz ?_;refine lvz (.indexAddrS rfl rfl rfl (by omega)) ?_;apply LW.load;rfl;rfl;exact Known.ext (by assumption) (by simp);assumption;refine vAz<|vAz<|nSz<|vMz<|lvz (.lenR rfl inferInstance rfl) ?_;refine lvz (.subZL rfl rfl (by decide) (by omega) (by omega)) ?_;refine vMz ?_;refine lvz (.subZ rfl rfl (by omega) (by omega)) ?_;refine vAz<|nNz ?_;apply CW.pre;refine AnyW.any 10 mixed (by decide +kernel) ?_;(try simp only [tsOf_cons,tsOf_nil,tsOf_app]);refine dvz (.move rfl) ?_;refine dvz (.quoZL rfl rfl (by decide) (by omega) (by omega)) ?_;refine dvz (.indexAddrA rfl rfl rfl (by omega)) ?_;apply qF;rfl;rfl;rfl;exact zC;rfl;apply zP;exact zN;assumption;refine dvz (.move rfl) ?_;refine dvz (.convN rfl (by omega) (by omega)) ?_;refine dvz (.move rfl) ?_;refine dvz (.remZL rfl rfl (by decide) (by omega)) ?_;refine dvz (.mulZK rfl rfl (by decide) (by omega)) ?_;refine dvz (.shlU rfl rfl (by omega)) ?_;apply DW.nil;simp only [fsOf_cons,fsOf_nil,fsOf_app,fsOf_tsOf,fsOf_new];refine lvz (.orU rfl rfl (by omega) (by omega)) ?_;refine lvz (.indexAddrA rfl rfl rfl (by omega)) ?_;apply zR;rfl;rfl;apply qA;assumption;apply zV;refine blkN<|thenN<|zL ?_;refine lvz (.addZL rfl rfl (by decide) (by omega)) ?_;refine vMz ?_;apply zV)
  apply thenX
  exact ⟨rfl,m+1,hlt,by omega,⟨rfl,rfl,rfl,rfl,rfl,rfl,trivial⟩,qO _⟩
 ·obtain rfl:m=l.length:=by omega
  rw [show bup l l.length=bev l by simp [bup]]
  (refine sRz ?_;refine lvz (.lssF rfl rfl (by omega)) ?_;refine nNz<|zI<|cFz<|CW.exit<|thenE<|thenE<|blkE rfl<|thenN<|sRz<|ldz rfl .head (qH rfl) ?_;refine zR rfl rfl (.tail .head) (.whole rfl rfl rfl)<|vAz<|nNz<|zK ?_)
  (apply finR;exact .inl rfl;rfl;rfl;rfl;apply zD;apply zH;rfl;apply qG;apply zX;apply zY;exact qH rfl;apply zD;exact zG rfl;exact zF)
  rfl
end Go.Proofs.YtdeggbkbblfpoaaGreatDoor
namespace Go.Proofs.YtdeggbkbblfpoaaGreatDoor.UK
open Go Go.RowKit SL
theorem bev_beb:∀ (m a:Nat),bev (beb m a)=a % 256 ^ m
 |0,a=>by simp [beb,bev,Nat.mod_one]
 |m+1,a=>by
  have e:beb (m+1) a=beb m (a / 256)++[UInt8.ofNat a]:=by
   unfold beb
   rw [List.range_succ,List.map_append]
   congr 1
   ·apply List.map_congr_left
    intro i hi
    rw [List.mem_range] at hi
    rw [show m+1 - 1 - i=(m - 1 - i)+1 by omega,Nat.pow_succ',Nat.div_div_eq_div_mul]
   ·simp
  have h:=@Nat.mod_mul 256 (256 ^ m) a
  rw [e,bev_snoc,bev_beb m (a / 256),UInt8.toNat_ofNat',show 2 ^ 8=256 from rfl,show 256 ^ (m+1)=256 * 256 ^ m from Nat.pow_succ',h]
  omega
theorem bev_back (a:Nat) (ha:a < M256):bev (beb 32 a)=a:=by
 rw [bev_beb];exact Nat.mod_eq_of_lt ha
end Go.Proofs.YtdeggbkbblfpoaaGreatDoor.UK
namespace Go.Proofs.YtdeggbkbblfpoaaGreatDoor.UK
open Go Go.RowKit SL
set_option maxRecDepth 8000
set_option maxHeartbeats 4000000
set_option linter.unusedSimpArgs false
set_option linter.unusedVariables false
attribute [local irreducible] SL.CW SL.LW SL.DW Calls SL.Ret SL.RetG SL.beginQ SL.roundQ SL.rangeQ SL.inQ SL.RW SL.AnyW SL.thenQ SL.thenC SL.thenW SL.blkQ SL.finQ SL.ValP SL.NewP SL.SetP SL.CallP SL.Rd SL.Wr SL.Known
section
structure PartV where
 lg:Bool
 wd:Nat
 dv:Value
 db:List UInt8
section rd
variable {P : Program} {T E : TypeId} {fr : Nat × Nat} {p : PartV}
end rd
end




section
section lw
variable {w0 : World} {S : List Nat} {N : Nat} {ds : List Deferred} {r : Option Nat} {ops : Array Oper} {Q : Post} {rest : List Oper} {e : Env} {fs : Fs} {d : Nat} {t : TypeId} {pos : String} {af : Array Edge}
end lw
end







end Go.Proofs.YtdeggbkbblfpoaaGreatDoor.UK
namespace Go.Proofs.YtdeggbkbblfpoaaGreatDoor.UK
open Go Go.RowKit SL

end Go.Proofs.YtdeggbkbblfpoaaGreatDoor.UK
namespace Go.Proofs.YtdeggbkbblfpoaaGreatDoor.UK
open Go Go.RowKit SL
set_option maxRecDepth 8000
set_option maxHeartbeats 4000000
set_option linter.unusedSimpArgs false
set_option linter.unusedVariables false
attribute [local irreducible] SL.CW SL.LW SL.DW Calls SL.Ret SL.RetG SL.beginQ SL.roundQ SL.rangeQ SL.inQ SL.RW SL.AnyW SL.thenQ SL.thenC SL.thenW SL.blkQ SL.finQ SL.ValP SL.NewP SL.SetP SL.CallP SL.Rd SL.Wr SL.Known
section
structure OpV where
 sd:Nat
 no:Nat
 iv:Value
 ib:List UInt8
 cv:Value
 cb:List UInt8
 vg:Nat
 cg:Nat
 pg:Nat
 mf:Nat
 mp:Nat
 py:Nat
 pv:Nat
 pp:Nat
 dv:Value
 db:List UInt8
 gv:Value
 gb:List UInt8
section rd
variable {P : Program} {T E : TypeId} {fr : Nat × Nat} {u : OpV}
end rd
end


end Go.Proofs.YtdeggbkbblfpoaaGreatDoor.UK
namespace Go.Proofs.YtdeggbkbblfpoaaGreatDoor
open Go Go.RowKit SL
set_option maxRecDepth 8000
set_option maxHeartbeats 4000000
set_option linter.unusedSimpArgs false
set_option linter.unusedVariables false
attribute [local irreducible] SL.CW SL.LW SL.DW Calls SL.Ret SL.RetG SL.beginQ SL.roundQ SL.rangeQ SL.inQ SL.RW SL.AnyW SL.thenQ SL.thenC SL.thenW SL.blkQ SL.finQ SL.ValP SL.NewP SL.SetP SL.CallP SL.Rd SL.Wr SL.Known
section
structure FrV where
 code:Value
 pc:Int
 stk:Value
 mem:Value
 gas:Nat
 self:Nat
 frm:Nat
 val:Nat
 inp:Value
 back:Value
 stat:Bool
def frc (f:FrV):List Value:=f.code::.int .i64 f.pc::f.stk::f.mem::.int .u64 (f.gas:Int)::.int .u64 (f.self:Int)::.int .u64 (f.frm:Int)::((wc f.val).toList++[f.inp,f.back,.bool f.stat])
structure MaV where
 fr:FrV
 e0:Nat
 e1:Nat
 e2:Nat
 e3:Nat
 took:Value
 kind:Int
 op:Nat
 words:Value
 data:Value
def mcl (m:MaV):List Value:=frc m.fr++[.int .u64 (m.e0:Int),.int .u64 (m.e1:Int),.int .u64 (m.e2:Int),.int .u64 (m.e3:Int),m.took,.int .i64 m.kind,.int .u8 (m.op:Int),m.words,m.data]
def mca (m:MaV):Array Value:=(mcl m).toArray
abbrev maO (m:MaV):Obj:=.cells (mca m) 78 (0,0)
def MaV.setGas (m:MaV) (g:Nat):MaV:={ m with fr:={ m.fr with gas:=g } }
def MaV.setSc (m:MaV) (s k:Value):MaV:={ m with fr:={ m.fr with stk:=s,mem:=k } }
section rd
variable {P : Program} {T E : TypeId} {fr : Nat × Nat} {m : MaV}
theorem ma_rd4 [AgI P T false]:Rd P T (.cells (mca m) E fr) 4 (.int .u64 (m.fr.gas:Int)):=Rd.one rfl
theorem ma_rd3 [AgI P T false]:Rd P T (.cells (mca m) E fr) 3 m.fr.mem:=Rd.one rfl
theorem ma_rd2 [AgI P T true] {z:Value} [InfoI P T 2 z]:Rd P T (.cells (mca m) E fr) 2 (.agg #[m.fr.stk,m.fr.mem]):=Rd.mid (cs:=[m.fr.stk,m.fr.mem]) rfl rfl
theorem ma_wr4 {z:Value} {g:Nat} [InfoI P T 1 z]:Wr P T (.cells (mca m) E (0,0)) 4 (.int .u64 (g:Int)) (.cells (mca (m.setGas g)) E (0,0)):=Wr.cells (n:=1) (z:=z) rfl rfl (by show 4+1≤23;omega) rfl
theorem ma_wr2 {z s k:Value} [InfoI P T 2 z] (hs:s.oneCell'=true) (hk:k.oneCell'=true) (hsc:s.cells=#[s]) (hkc:k.cells=#[k]):Wr P T (.cells (mca m) E (0,0)) 2 (.agg #[s,k]) (.cells (mca (m.setSc s k)) E (0,0)) :=
 Wr.cells (n:=2) (z:=z) rfl (by show (s.oneCell' && (k.oneCell' && true))=true;rw [hs,hk];rfl) (by show 2+2≤23;omega) rfl
end rd
attribute [local irreducible] SL.inP
def MaK (b:Nat) (m:MaV) (r:Option MaV) (rest:Fs):Out:=fun x fs'=>match r with
 |some m'=>x=.returned (.tuple #[])∧fs'=(b,maO m')::rest
 |none=>x=.panicked failC∧fs'=(b,maO m)::rest
def spendM (m:MaV) (l:List Nat):Option MaV:=if l.sum≤m.fr.gas then some (m.setGas (m.fr.gas - l.sum)) else none
theorem spend_calls (w0:World) (S:List Nat) (b:Nat) (m:MaV) (l:List Nat) (hg:m.fr.gas < 18446744073709551616) (v:Value) (rest:Fs) (w:World) (hs:St w0 S ((b,maO m)::rest) w) (hv:∀ w',St w0 S ((b,maO m)::rest) w'→RowAt w' 1 v l.length (ncs l)) :
  Calls Tryz.prog 73 #[.pointer (some ⟨b,0,none⟩),v] w (fun x w'=>∃ fs',MaK b m (spendM m l) rest x fs'∧St w0 S fs' w'):=by
 by_cases hle:l.sum≤m.fr.gas
 ·have hSp:∀ w',St w0 S ((b,maO m)::rest) w'→Calls Tryz.prog 118 #[.int .u64 (m.fr.gas:Int),v] w' (Ret w' (.tuple #[.int .u64 ((m.fr.gas - l.sum:Nat):Int),.bool true])):=fun w' hw=>by
   have h:=Spend_calls m.fr.gas l hg v w' (hv w' hw)
   rwa [spendV,if_pos hle] at h
  refine calls_inlineP (args:=[_,_]) Tryz.func73 rfl Tryz.ntmps73 rfl ?_ hs
  (refine sRz<|vMz<|vNz<|vFz<|vFz<|ldz rfl .head ma_rd4<|vMz ?_;apply zS;rfl;rfl;infer_instance;exact .cons rfl (.cons rfl .nil);intro w _;exact hSp w (by assumption);refine vMz ?_;refine vEz ?_;refine vEz ?_;refine vAz<|vAz<|nSz<|vMz ?_;apply zS;rfl;rfl;infer_instance;exact .cons rfl .nil;intro w _;exact need_true w;refine nNz<|zL<|vMz<|vMz<|vNz<|vFz<|vFz ?_;apply zR;rfl;rfl;apply qA;apply ma_wr4 (z:=.int .u64 0);apply zV)
  exact inPI (.inr rfl) .nil rfl .nil rfl (by unfold spendM;rw [if_pos hle];exact ⟨rfl,rfl⟩)
 ·have hSp:∀ w',St w0 S ((b,maO m)::rest) w'→Calls Tryz.prog 118 #[.int .u64 (m.fr.gas:Int),v] w' (Ret w' (.tuple #[.int .u64 0,.bool false])):=fun w' hw=>by
   have h:=Spend_calls m.fr.gas l hg v w' (hv w' hw)
   rwa [spendV,if_neg hle] at h
  refine calls_inlineP (args:=[_,_]) Tryz.func73 rfl Tryz.ntmps73 rfl ?_ hs
  (refine sRz<|vMz<|vNz<|vFz<|vFz<|ldz rfl .head ma_rd4<|vMz ?_;apply zS;rfl;rfl;infer_instance;exact .cons rfl (.cons rfl .nil);intro w _;exact hSp w (by assumption);refine vMz ?_;refine vEz ?_;refine vEz ?_;refine vAz<|vAz<|nSz<|vMz ?_)
  refine LW.callP (K:=NeedK ((b,maO m)::rest)) rfl rfl inferInstance (by (exact .cons rfl .nil)) rfl (fun fs h=>by cases h.1) (fun w' hst=>need_false w0 S _ w' hst) ?_ ?_
  ·rintro v fs' ⟨h,_⟩
   cases h
  ·rintro ch fs' ⟨h,rfl⟩
   cases h
   refine thenP ?_
   exact inPP .nil (by unfold spendM;rw [if_neg hle];exact ⟨rfl,rfl⟩)
end
end Go.Proofs.YtdeggbkbblfpoaaGreatDoor
namespace Go.Proofs.YtdeggbkbblfpoaaGreatDoor.SK
open Go Go.RowKit SL
set_option maxRecDepth 8000
set_option maxHeartbeats 4000000
set_option linter.unusedSimpArgs false
set_option linter.unusedVariables false
attribute [local irreducible] SL.CW SL.LW SL.DW Calls SL.Ret SL.RetG SL.beginQ SL.roundQ SL.rangeQ SL.inQ SL.RW SL.AnyW SL.thenQ SL.thenC SL.thenW SL.blkQ SL.finQ SL.ValP SL.NewP SL.SetP SL.CallP SL.Rd SL.Wr SL.Known
def bev (l:List UInt8):Nat:=l.foldl (fun n u=>256 * n+u.toNat) 0
theorem bev_snoc (l:List UInt8) (u:UInt8):bev (l++[u])=256 * bev l+u.toNat:=by simp [bev,List.foldl_append]


theorem at_calls (x y:Nat) (hx:x < 1000) (hy:y < 1000) (w:World):Calls Tryz.prog 258 #[.int .i64 (x:Int),.int .i64 (y:Int)] w (Ret w (.int .i64 ((5 * (y % 5)+x % 5:Nat):Int))):=by
 refine enter (args:=[_,_]) _ [] [] Tryz.func258 rfl Tryz.ntmps258 rfl (by simp) .nil ?_
 (refine sRz<|vAz<|nSz<|vMz ?_;refine lvz (.remZL rfl rfl (by decide) (by omega)) ?_;refine lvz (.mulZK rfl rfl (by decide) (by omega)) ?_;refine vMz ?_;refine lvz (.remZL rfl rfl (by decide) (by omega)) ?_;refine lvz (.addZ rfl rfl (by omega)) ?_;refine vAz<|nNz<|zK ?_)
 (apply finR;exact .inl rfl;rfl;rfl;rfl;apply zD;exact zG rfl;exact zF)
 rfl
def rotl (x n:Nat):Nat:=(x * 2 ^ n % 18446744073709551616) |||(x / 2 ^ (64 - n))
theorem rot_calls (x n:Nat) (hx:x < 18446744073709551616) (hn:n < 64) (w:World):Calls Tryz.prog 261 #[.int .u64 (x:Int),.int .i64 (n:Int)] w (Ret w (.int .u64 ((rotl x n:Nat):Int))):=by
 have h63:n &&& 63=n:=by rw [show (63:Nat)=2 ^ 6 - 1 from rfl,Nat.and_two_pow_sub_one_eq_mod];exact Nat.mod_eq_of_lt hn
 refine enter (args:=[_,_]) _ [] [] Tryz.func261 rfl Tryz.ntmps261 rfl (by simp) .nil ?_
 unfold rotl
 conv in (2 ^ n)=>rw [← h63]
 conv in (64 - n)=>rw [← h63]
 (refine sRz<|vAz<|nSz<|vMz ?_;refine lvz (.convN rfl (by omega) (by omega)) ?_;refine lvz (.andUL rfl rfl (by decide) (by omega) (by omega)) ?_;refine vAz<|nSz<|vMz<|vMz ?_;refine lvz (.shlU rfl rfl (by omega)) ?_;refine vMz<|vMz ?_;refine lvz (.subNK rfl rfl (by decide) (by omega) (by omega)) ?_;refine lvz (.shrU rfl rfl (by omega)) ?_;apply LW.v0;rfl;rfl;apply ValP.orU;rfl;rfl;omega;apply div64;omega;refine vAz<|nNz<|zK ?_)
 (apply finR;exact .inl rfl;rfl;rfl;rfl;apply zD;exact zG rfl;exact zF)
 rfl
theorem turned_calls (x n:Nat) (hx:x < 18446744073709551616) (hn:n < 64) (w:World):Calls Tryz.prog 259 #[.int .u64 (x:Int),.int .i64 (n:Int)] w (Ret w (.int .u64 ((rotl x n:Nat):Int))):=by
 refine enter (args:=[_,_]) _ [] [] Tryz.func259 rfl Tryz.ntmps259 rfl (by simp) .nil ?_
 (refine sRz<|vAz<|nSz<|vMz<|vMz ?_;apply zS;rfl;rfl;infer_instance;exact .cons rfl (.cons rfl .nil);intro w _;exact rot_calls x n hx hn w;refine vAz<|nNz<|zK ?_)
 (apply finR;exact .inl rfl;rfl;rfl;rfl;apply zD;exact zG rfl;exact zF)
 rfl
def rowV (L:List Nat) (x y:Nat):Nat:=L.getD (5 * (y % 5)+x % 5) 0 ^^^ ((18446744073709551615 - L.getD (5 * (y % 5)+(x+1) % 5) 0) &&& L.getD (5 * (y % 5)+(x+2) % 5) 0)
def rowsF (L:List Nat):Nat→List Nat
 |0=>List.replicate 25 0
 |k+1=>(rowsF L k).set (5 * (k / 5 % 5)+k % 5 % 5) (rowV L (k % 5) (k / 5))
theorem rowsF_len (L:List Nat) (k:Nat):(rowsF L k).length=25:=by
 induction k with
 |zero=>simp [rowsF]
 |succ k ih=>simp [rowsF,ih]
theorem rowsF_step (L:List Nat) (x y:Nat) (hx:x < 5):rowsF L (5 * y+x+1)=(rowsF L (5 * y+x)).set (5 * (y % 5)+x % 5) (rowV L x y):=by
 rw [rowsF,show (5 * y+x) / 5=y by omega,show (5 * y+x) % 5=x by omega]
theorem places_calls (w:World):Calls Tryz.prog 257 #[] w (Ret w (.func (.func 260) #[] #[])):=by
 refine enter (args:=[]) _ [] [] Tryz.func257 rfl Tryz.ntmps257 rfl (by simp) .nil ?_
 (refine sRz<|vAz<|nSz<|vAz<|nNz<|zK ?_)
 (apply finR;exact .inl rfl;rfl;rfl;rfl;apply zD;exact zG rfl;exact zF)
 rfl
theorem Rows_calls (L:List Nat) (hL:L.length=25) (hb:∀ i,L.getD i 0 < 18446744073709551616) (w:World):Calls Tryz.prog 252 #[.agg (nca L)] w (Ret w (.agg (nca (rowsF L 25)))):=by
 refine enter (args:=[_]) _ [] [] Tryz.func252 rfl Tryz.ntmps252 rfl (by simp) .nil ?_
 (refine sRz ?_;apply zT;rfl;rfl;intro _;apply zU;rfl;intro _;refine nNz<|zI<|sRz ?_;apply zS;rfl;rfl;infer_instance;exact ArgsOk.nil;intro w _;exact places_calls w;refine nNz<|zM ?_)
 rename_i b1 b2
 apply CW.rangeFunc
 rfl
 rfl
 infer_instance
 rfl
 exact Tryz.func260
 rfl
 exact Tryz.ntmps260
 rfl
 rfl
 intro l r rec hrec
 (refine CW.scope<|zI<|CW.label<|thenN<|sRz<|vMz<|nNz<|zM ?_)
 refine CW.loop (fun y:Nat=>([(4,.int .i64 (y:Int)),(0,.func (.yield l) #[] #[])],
  [(l,rdy rec),(r,.deferred (some [])),(b2,.cells (nca (rowsF L (5 * y))) 208 (0,0)),(b1,.cells (nca L) 208 (0,0))]))
  (fun y=>y≤5) (fun y=>5 - y) 0 (Nat.zero_le _) ⟨rfl,rfl,trivial⟩ (qO _) ?_
 intro y hy
 dsimp only at hy ⊢
 rcases Nat.lt_or_ge y 5 with hy5|hy5
 ·(refine sRz ?_;refine lvz (.lssT rfl rfl (by omega)) ?_;refine nNz<|zI<|cTz<|zJ<|thenN<|zI<|zM<|sRz<|vMz<|vAz<|nSz<|vMz<|nNz<|zM ?_)
  refine CW.loop (fun x:Nat=>([(7,.int .i64 (x:Int)),(2,.int .i64 (y:Int)),(4,.int .i64 (y:Int)),(0,.func (.yield l) #[] #[])],
   [(l,rdy rec),(r,.deferred (some [])),(b2,.cells (nca (rowsF L (5 * y+x))) 208 (0,0)),(b1,.cells (nca L) 208 (0,0))]))
   (fun x=>x≤5) (fun x=>5 - x) 0 (Nat.zero_le _) ⟨rfl,rfl,rfl,rfl,trivial⟩ (qO _) ?_
  intro x hx
  dsimp only at hx ⊢
  rcases Nat.lt_or_ge x 5 with hx5|hx5
  ·have hlen:=rowsF_len L (5 * y+x)
   (refine sRz ?_;refine lvz (.lssT rfl rfl (by omega)) ?_;refine nNz<|zI<|cTz<|zJ<|thenN<|zI<|zM<|sRz<|vMz<|vAz<|nSz<|vMz<|vMz<|vMz ?_)
   apply LW.yield
   rfl
   rfl
   (exact .cons rfl (.cons rfl .nil))
   exact hrec
   (apply zY)
   rfl
   rfl
   (refine sRz<|vAz<|nNz<|zL<|vAz ?_;apply zV;apply beginI;apply qA;refine zM ?_;apply CW.pre;refine AnyW.any 22 mixed (by decide +kernel) ?_;(try simp only [tsOf_cons,tsOf_nil,tsOf_app]);refine dvz (.move rfl)<|dvz (.move rfl) ?_;apply DW.callE;rfl;rfl;rfl;exact zC;rfl;infer_instance;exact .cons rfl (.cons rfl .nil);rfl;exact ReadAll.nil;intro w _ _;refine at_calls _ _ ?_ ?_ w;omega;omega;refine dvz (.move rfl)<|dvz (.move rfl) ?_;apply DW.callE;rfl;rfl;rfl;exact zC;rfl;infer_instance;exact .cons rfl (.cons rfl .nil);rfl;exact ReadAll.nil;intro w _ _;refine at_calls _ _ ?_ ?_ w;omega;omega;refine dvz (.indexAddrA rfl rfl rfl (by omega)) ?_;apply qF;rfl;rfl;rfl;exact zC;rfl;apply zO;apply zO;apply zO;apply zP;exact zN;apply rd_nca;omega;refine dvz (.move rfl) ?_;refine dvz (.addZL rfl rfl (by decide) (by omega)) ?_;refine dvz (.move rfl) ?_;apply DW.callE;rfl;rfl;rfl;exact zC;rfl;infer_instance;exact .cons rfl (.cons rfl .nil);rfl;exact ReadAll.nil;intro w _ _;refine at_calls _ _ ?_ ?_ w;omega;omega;refine dvz (.indexAddrA rfl rfl rfl (by omega)) ?_;apply qF;rfl;rfl;rfl;exact zC;rfl;apply zO;apply zO;apply zO;apply zP;exact zN;apply rd_nca;omega;apply DW.v0;rfl;rfl;rfl;exact zC;rfl;apply ValP.notU;rfl;exact hb _;refine dvz (.move rfl) ?_;refine dvz (.addZL rfl rfl (by decide) (by omega)) ?_;refine dvz (.move rfl) ?_;apply DW.callE;rfl;rfl;rfl;exact zC;rfl;infer_instance;exact .cons rfl (.cons rfl .nil);rfl;exact ReadAll.nil;intro w _ _;refine at_calls _ _ ?_ ?_ w;omega;omega;refine dvz (.indexAddrA rfl rfl rfl (by omega)) ?_;apply qF;rfl;rfl;rfl;exact zC;rfl;apply zO;apply zO;apply zO;apply zP;exact zN;apply rd_nca;omega;apply DW.v0;rfl;rfl;rfl;exact zC;rfl;apply ValP.andU;rfl;rfl;omega;exact hb _;apply DW.nil;simp only [fsOf_cons,fsOf_nil,fsOf_app,fsOf_tsOf,fsOf_new];apply LW.v0;rfl;rfl;apply ValP.xorU;rfl;rfl;exact hb _;apply and64;omega;refine lvz (.indexAddrA rfl rfl rfl (by omega)) ?_;apply zR;rfl;rfl;apply qD;apply qD;apply qA;apply wr_nca;omega;apply zV;refine blkN ?_;apply roundN;apply qA;refine lvz (.notT rfl (by with_reducible rfl)) ?_;refine nNz<|cFz<|zJ<|blkN<|thenN<|zL ?_;refine lvz (.addZL rfl rfl (by decide) (by omega)) ?_;refine vMz ?_;apply zV)
   refine thenX ⟨rfl,x+1,hx5,by omega,⟨rfl,rfl,rfl,rfl,trivial⟩,?_⟩
   rw [← Nat.add_assoc,rowsF_step L x y hx5]
   exact qO _
  ·obtain rfl:x=5:=by omega
   (refine sRz ?_;refine lvz (.lssF rfl rfl (by omega)) ?_;refine nNz<|zI<|cFz<|CW.exit<|thenE<|thenE<|blkE rfl<|blkN<|thenN<|zL ?_;refine lvz (.addZL rfl rfl (by decide) (by omega)) ?_;refine vMz ?_;apply zV)
   refine thenX ⟨rfl,y+1,hy5,by omega,⟨rfl,rfl,trivial⟩,?_⟩
   rw [show 5 * (y+1)=5 * y+5 by omega]
   exact qO _
 ·obtain rfl:y=5:=by omega
  have hlen:=rowsF_len L 25
  (refine sRz ?_;refine lvz (.lssF rfl rfl (by omega)) ?_;refine nNz<|zI<|cFz<|CW.exit<|thenE<|thenE<|blkE rfl<|scopeQ.n ?_)
  apply rangeN
  (exact .inr rfl)
  (exact Shut.nil)
  (apply qA)
  (refine blkN<|thenM<|sRz ?_;apply LW.load;rfl;rfl;apply qG;apply zX;apply zX;apply zY;apply rd_ncaW;assumption;apply zR;rfl;rfl;apply qD;apply qD;apply qA;apply wr_ncaW;assumption;assumption;refine nNz<|zK ?_)
  (apply finRM;exact .inl rfl;apply Shut.cons;apply qD;apply qA;exact Shut.nil;rfl;rfl;apply zD;apply zH;rfl;apply qG;apply zX;apply zX;apply zY;apply rd_ncaW;assumption;exact zF)
  rfl
section
def turnL:List Nat:=[0,1,62,28,27,36,44,6,55,20,3,10,43,25,39,41,45,15,21,8,18,2,61,56,14]
def numL:List Nat:=[1,32898,9223372036854808714,9223372039002292224,32907,2147483649,9223372039002292353,9223372036854808585,138,136,2147516425,2147483658,2147516555,9223372036854775947,9223372036854808713,9223372036854808579,9223372036854808578,9223372036854775936,32778,9223372039002259466,9223372039002292353,9223372036854808704,2147483649,9223372039002292232]
def ica (L:List Nat):Array Value:=(ics L).toArray
theorem ics_map (l:List Nat):ics l=l.map fun (x:Nat)=>Value.int .i64 (x:Int):=by
 induction l with
 |nil=>rfl
 |cons a l ih=>simp [ics] at *;exact ih
theorem rd_ica {P:Program} {T E:TypeId} {fr:Nat × Nat} {L:List Nat} {i:Nat} [AgI P T false] (hi:i < L.length):Rd P T (.cells (ica L) E fr) (0+i * 1) (.int .i64 ((L.getD i 0:Nat):Int)) :=
 Rd.one (by rw [qP,Nat.mul_one];simp [ica,ics_map,hi,List.getD_eq_getElem?_getD])
def NumAt (w:World):Prop:=∃ E fr,w.heap[0]?=some (.cells (nca numL) E fr)
def TurnAt (w:World):Prop:=∃ E fr,w.heap[2]?=some (.cells (ica turnL) E fr)
theorem NumAt.st {w w':World} {fs:Fs} (h:NumAt w) (hs:St w [] fs w'):NumAt w':=by
 obtain ⟨E,fr,h⟩:=h
 exact ⟨E,fr,by rw [hs.bel.block _ (Array.getElem?_eq_some_iff.1 h).1 (by simp)];exact h⟩
theorem TurnAt.st {w w':World} {fs:Fs} (h:TurnAt w) (hs:St w [] fs w'):TurnAt w':=by
 obtain ⟨E,fr,h⟩:=h
 exact ⟨E,fr,by rw [hs.bel.block _ (Array.getElem?_eq_some_iff.1 h).1 (by simp)];exact h⟩
theorem turnL_lt:∀ i,turnL.getD i 0 < 64:=fun i=>by
 rcases Nat.lt_or_ge i 25 with h|h
 ·exact (by decide:∀ i,i < 25→turnL.getD i 0 < 64) i h
 ·rw [List.getD_eq_getElem?_getD,List.getElem?_eq_none (by simpa [turnL] using h)];decide
theorem getD_set_lt {L:List Nat} {N i x:Nat} (h:∀ j,L.getD j 0 < N) (hx:x < N):∀ j,(L.set i x).getD j 0 < N:=fun j=>by
 have hj:=h j
 rw [List.getD_eq_getElem?_getD] at hj ⊢
 rw [List.getElem?_set]
 split
 ·split
  ·exact hx
  ·exact Nat.lt_of_le_of_lt (Nat.zero_le _) hx
 ·exact hj
theorem xor_lt {a b:Nat} (ha:a < 18446744073709551616) (hb:b < 18446744073709551616):a ^^^ b < 18446744073709551616:=Nat.xor_lt_two_pow (n:=64) ha hb
theorem rotl_lt {x n:Nat} (hx:x < 18446744073709551616):rotl x n < 18446744073709551616:=Nat.or_lt_two_pow (n:=64) (Nat.mod_lt _ (by decide)) (Nat.lt_of_le_of_lt (Nat.div_le_self _ _) hx)
def cF (L:List Nat):Nat→List Nat
 |0=>List.replicate 5 0
 |k+1=>(cF L k).set (k % 5) ((cF L k).getD (k % 5) 0 ^^^ L.getD (5 * (k / 5 % 5)+k % 5 % 5) 0)
theorem cF_len (L:List Nat) (k:Nat):(cF L k).length=5:=by
 induction k with
 |zero=>simp [cF]
 |succ k ih=>simp [cF,ih]
theorem rep_lt (n:Nat):∀ i,(List.replicate n 0).getD i 0 < 18446744073709551616:=fun i=>by
 rw [List.getD_eq_getElem?_getD,List.getElem?_replicate];split<;>decide
theorem cF_lt (L:List Nat) (hb:∀ i,L.getD i 0 < 18446744073709551616) (k:Nat):∀ i,(cF L k).getD i 0 < 18446744073709551616:=by
 induction k with
 |zero=>exact rep_lt 5
 |succ k ih=>exact getD_set_lt ih (xor_lt (ih _) (hb _))
theorem cF_step (L:List Nat) (x y:Nat) (hx:x < 5):cF L (5 * y+x+1)=(cF L (5 * y+x)).set x ((cF L (5 * y+x)).getD x 0 ^^^ L.getD (5 * (y % 5)+x % 5) 0):=by
 rw [cF,show (5 * y+x) / 5=y by omega,show (5 * y+x) % 5=x by omega]
def mixV (L C:List Nat) (x y:Nat):Nat:=rotl (L.getD (5 * (y % 5)+x % 5) 0 ^^^ (C.getD ((x+5 - 1) % 5) 0 ^^^ rotl (C.getD ((x+1) % 5) 0) 1)) (turnL.getD (5 * (y % 5)+x % 5) 0)
def mixF (L C:List Nat):Nat→List Nat
 |0=>List.replicate 25 0
 |k+1=>(mixF L C k).set (5 * ((2 * (k % 5)+3 * (k / 5)) % 5)+k / 5 % 5) (mixV L C (k % 5) (k / 5))
theorem mixF_len (L C:List Nat) (k:Nat):(mixF L C k).length=25:=by
 induction k with
 |zero=>simp [mixF]
 |succ k ih=>simp [mixF,ih]
theorem mixV_lt (L C:List Nat) (hb:∀ i,L.getD i 0 < 18446744073709551616) (hc:∀ i,C.getD i 0 < 18446744073709551616) (x y:Nat):mixV L C x y < 18446744073709551616:=rotl_lt (xor_lt (hb _) (xor_lt (hc _) (rotl_lt (hc _))))
theorem mixF_lt (L C:List Nat) (hb:∀ i,L.getD i 0 < 18446744073709551616) (hc:∀ i,C.getD i 0 < 18446744073709551616) (k:Nat):∀ i,(mixF L C k).getD i 0 < 18446744073709551616:=by
 induction k with
 |zero=>exact rep_lt 25
 |succ k ih=>exact getD_set_lt ih (mixV_lt L C hb hc _ _)
theorem mixF_step (L C:List Nat) (x y:Nat) (hx:x < 5):mixF L C (5 * y+x+1)=(mixF L C (5 * y+x)).set (5 * ((2 * x+3 * y) % 5)+y % 5) (mixV L C x y):=by
 rw [mixF,show (5 * y+x) / 5=y by omega,show (5 * y+x) % 5=x by omega]
def mixL (L:List Nat):List Nat:=mixF L (cF L 25) 25
theorem rd_turn {T E:TypeId} {fr:Nat × Nat} {i:Nat} [AgI Tryz.prog T false] (hi:i < 25):Rd Tryz.prog T (.cells (ica turnL) E fr) (0+i * 1) (.int .i64 ((turnL.getD i 0:Nat):Int)):=rd_ica (L:=turnL) hi
theorem cF_zero (L:List Nat):cF L 0=List.replicate 5 0:=rfl
theorem mixF_zero (L C:List Nat):mixF L C 0=List.replicate 25 0:=rfl
attribute [local irreducible] turnL cF mixF
theorem Mix_calls (L:List Nat) (hL:L.length=25) (hb:∀ i,L.getD i 0 < 18446744073709551616) (w:World) (hT:TurnAt w):Calls Tryz.prog 253 #[.agg (nca L)] w (Ret w (.agg (nca (mixL L)))):=by
 obtain ⟨ET,frT,hT⟩:=hT
 have hcb:=cF_lt L hb
 obtain ⟨C,hC⟩:∃ C,C=cF L 25:=⟨_,rfl⟩
 have hCb:∀ i,C.getD i 0 < 18446744073709551616:=fun i=>by rw [hC];exact hcb 25 i
 have hCl:C.length=5:=by rw [hC];exact cF_len L 25
 have hr1:∀ i,rotl (C.getD i 0) 1 < 18446744073709551616:=fun i=>rotl_lt (hCb i)
 have hk1:∀ i w,Calls Tryz.prog 259 #[.int .u64 ((C.getD i 0:Nat):Int),.int .i64 1] w (Ret w (.int .u64 ((rotl (C.getD i 0) 1:Nat):Int))):=fun i w=>turned_calls _ 1 (hCb i) (by decide) w
 have hk2:∀ v i w,v < 18446744073709551616→Calls Tryz.prog 259 #[.int .u64 ((v:Nat):Int),.int .i64 ((turnL.getD i 0:Nat):Int)] w (Ret w (.int .u64 ((rotl v (turnL.getD i 0):Nat):Int))):=fun v i w hv=>turned_calls v _ hv (turnL_lt i) w
 have hd:(0:Nat) < 18446744073709551616:=by decide
 refine enter (args:=[_]) _ [] [] Tryz.func253 rfl Tryz.ntmps253 rfl (by simp) .nil ?_
 (refine sRz ?_;apply zT;rfl;rfl;intro _;apply zU;rfl;intro _;refine nSz ?_;apply zU;rfl;intro _;refine nNz<|zI<|sRz ?_;apply zS;rfl;rfl;infer_instance;exact ArgsOk.nil;intro w _;exact places_calls w;refine nNz<|zM ?_)
 rename_i b1 b2 b3
 apply CW.rangeFunc
 rfl
 rfl
 infer_instance
 rfl
 exact Tryz.func260
 rfl
 exact Tryz.ntmps260
 rfl
 rfl
 intro l r rec hrec
 (refine CW.scope<|zI<|CW.label<|thenN<|sRz<|vMz<|nNz<|zM ?_)
 refine CW.loop (fun y:Nat=>([(4,.int .i64 (y:Int)),(0,.func (.yield l) #[] #[])],
  [(l,rdy rec),(r,.deferred (some [])),(b3,.cells (nca (cF L (5 * y))) 231 (0,0)),(b2,.cells (nca (List.replicate 25 0)) 208 (0,0)),(b1,.cells (nca L) 208 (0,0))]))
  (fun y=>y≤5) (fun y=>5 - y) 0 (Nat.zero_le _) ⟨rfl,rfl,trivial⟩ (by dsimp only;rw [Nat.mul_zero,cF_zero];exact qO _) ?_
 intro y hy
 dsimp only at hy ⊢
 rcases Nat.lt_or_ge y 5 with hy5|hy5
 ·(refine sRz ?_;refine lvz (.lssT rfl rfl (by omega)) ?_;refine nNz<|zI<|cTz<|zJ<|thenN<|zI<|zM<|sRz<|vMz<|vAz<|nSz<|vMz<|nNz<|zM ?_)
  refine CW.loop (fun x:Nat=>([(7,.int .i64 (x:Int)),(2,.int .i64 (y:Int)),(4,.int .i64 (y:Int)),(0,.func (.yield l) #[] #[])],
   [(l,rdy rec),(r,.deferred (some [])),(b3,.cells (nca (cF L (5 * y+x))) 231 (0,0)),(b2,.cells (nca (List.replicate 25 0)) 208 (0,0)),(b1,.cells (nca L) 208 (0,0))]))
   (fun x=>x≤5) (fun x=>5 - x) 0 (Nat.zero_le _) ⟨rfl,rfl,rfl,rfl,trivial⟩ (qO _) ?_
  intro x hx
  dsimp only at hx ⊢
  rcases Nat.lt_or_ge x 5 with hx5|hx5
  ·have hlen:=cF_len L (5 * y+x)
   (refine sRz ?_;refine lvz (.lssT rfl rfl (by omega)) ?_;refine nNz<|zI<|cTz<|zJ<|thenN<|zI<|zM<|sRz<|vMz<|vAz<|nSz<|vMz<|vMz<|vMz ?_)
   apply LW.yield
   rfl
   rfl
   (exact .cons rfl (.cons rfl .nil))
   exact hrec
   (apply zY)
   rfl
   rfl
   (refine sRz<|vAz<|nNz<|zL<|vAz ?_;apply zV;apply beginI;apply qA;refine zM ?_;apply CW.pre;refine AnyW.any 8 mixed (by decide +kernel) ?_;(try simp only [tsOf_cons,tsOf_nil,tsOf_app]);refine dvz (.move rfl) ?_;refine dvz (.indexAddrA rfl rfl rfl (by omega)) ?_;apply qF;rfl;rfl;rfl;exact zC;rfl;apply zO;apply zO;apply zP;exact zN;apply rd_nca;omega;refine dvz (.move rfl)<|dvz (.move rfl) ?_;apply DW.callE;rfl;rfl;rfl;exact zC;rfl;infer_instance;exact .cons rfl (.cons rfl .nil);rfl;exact ReadAll.nil;intro w _ _;refine at_calls _ _ ?_ ?_ w;omega;omega;refine dvz (.indexAddrA rfl rfl rfl (by omega)) ?_;apply qF;rfl;rfl;rfl;exact zC;rfl;apply zO;apply zO;apply zO;apply zO;apply zP;exact zN;apply rd_nca;omega;apply DW.nil;simp only [fsOf_cons,fsOf_nil,fsOf_app,fsOf_tsOf,fsOf_new];apply LW.v0;rfl;rfl;apply ValP.xorU;rfl;rfl;exact hcb _ _;exact hb _;refine lvz (.indexAddrA rfl rfl rfl (by omega)) ?_;apply zR;rfl;rfl;apply qD;apply qD;apply qA;apply wr_nca;omega;apply zV;refine blkN ?_;apply roundN;apply qA;refine lvz (.notT rfl (by with_reducible rfl)) ?_;refine nNz<|cFz<|zJ<|blkN<|thenN<|zL ?_;refine lvz (.addZL rfl rfl (by decide) (by omega)) ?_;refine vMz ?_;apply zV)
   refine thenX ⟨rfl,x+1,hx5,by omega,⟨rfl,rfl,rfl,rfl,trivial⟩,?_⟩
   rw [← Nat.add_assoc,cF_step L x y hx5]
   exact qO _
  ·obtain rfl:x=5:=by omega
   (refine sRz ?_;refine lvz (.lssF rfl rfl (by omega)) ?_;refine nNz<|zI<|cFz<|CW.exit<|thenE<|thenE<|blkE rfl<|blkN<|thenN<|zL ?_;refine lvz (.addZL rfl rfl (by decide) (by omega)) ?_;refine vMz ?_;apply zV)
   refine thenX ⟨rfl,y+1,hy5,by omega,⟨rfl,rfl,trivial⟩,?_⟩
   rw [show 5 * (y+1)=5 * y+5 by omega]
   exact qO _
 ·obtain rfl:y=5:=by omega
  (refine sRz ?_;refine lvz (.lssF rfl rfl (by omega)) ?_;refine nNz<|zI<|cFz<|CW.exit<|thenE<|thenE<|blkE rfl<|scopeQ.n ?_)
  apply rangeN
  (exact .inr rfl)
  (exact Shut.nil)
  (apply qA)
  (refine blkN<|thenM<|zI<|sRz ?_;apply zS;rfl;rfl;infer_instance;exact ArgsOk.nil;intro w _;exact places_calls w;refine nNz<|zM ?_)
  rw [show 5 * 5=25 from rfl,← hC]
  apply CW.rangeFunc
  rfl
  rfl
  infer_instance
  rfl
  exact Tryz.func260
  rfl
  exact Tryz.ntmps260
  rfl
  rfl
  intro l2 r2 rec2 hrec2
  (refine CW.scope<|zI<|CW.label<|thenN<|sRz<|vMz<|nNz<|zM ?_)
  refine CW.loop (fun y:Nat=>([(4,.int .i64 (y:Int)),(0,.func (.yield l2) #[] #[])],
   [(l2,rdy rec2),(r2,.deferred (some [])),(r,.deferred (some [])),(b3,.cells (nca C) 231 (0,0)),(b2,.cells (nca (mixF L C (5 * y))) 208 (0,0)),(b1,.cells (nca L) 208 (0,0))]))
   (fun y=>y≤5) (fun y=>5 - y) 0 (Nat.zero_le _) ⟨rfl,rfl,trivial⟩ ?_ ?_
  ·dsimp only
   rw [Nat.mul_zero,mixF_zero]
   (apply List.Sublist.cons_cons;apply List.Sublist.cons_cons;apply qS;exact qO _)
  intro y hy
  dsimp only at hy ⊢
  rcases Nat.lt_or_ge y 5 with hy5|hy5
  ·(refine sRz ?_;refine lvz (.lssT rfl rfl (by omega)) ?_;refine nNz<|zI<|cTz<|zJ<|thenN<|zI<|zM<|sRz<|vMz<|vAz<|nSz<|vMz<|nNz<|zM ?_)
   refine CW.loop (fun x:Nat=>([(7,.int .i64 (x:Int)),(2,.int .i64 (y:Int)),(4,.int .i64 (y:Int)),(0,.func (.yield l2) #[] #[])],
    [(l2,rdy rec2),(r2,.deferred (some [])),(r,.deferred (some [])),(b3,.cells (nca C) 231 (0,0)),(b2,.cells (nca (mixF L C (5 * y+x))) 208 (0,0)),(b1,.cells (nca L) 208 (0,0))]))
    (fun x=>x≤5) (fun x=>5 - x) 0 (Nat.zero_le _) ⟨rfl,rfl,rfl,rfl,trivial⟩ (qO _) ?_
   intro x hx
   dsimp only at hx ⊢
   rcases Nat.lt_or_ge x 5 with hx5|hx5
   ·have hlen:=mixF_len L C (5 * y+x)
    have hstep:=mixF_step L C x y hx5
    (refine sRz ?_;refine lvz (.lssT rfl rfl (by omega)) ?_;refine nNz<|zI<|cTz<|zJ<|thenN<|zI<|zM<|sRz<|vMz<|vAz<|nSz<|vMz<|vMz<|vMz ?_)
    apply LW.yield
    rfl
    rfl
    (exact .cons rfl (.cons rfl .nil))
    exact hrec2
    (apply zY)
    rfl
    rfl
    (refine sRz<|vAz<|nNz<|zL<|vAz ?_;apply zV;apply beginI;apply qA;refine zM<|zI ?_;apply CW.pre;refine AnyW.any 12 mixed (by decide +kernel) ?_;(try simp only [tsOf_cons,tsOf_nil,tsOf_app]);refine dvz (.move rfl) ?_;refine dvz (.addZL rfl rfl (by decide) (by omega)) ?_;refine dvz (.subZL rfl rfl (by decide) (by omega) (by omega)) ?_;refine dvz (.remZL rfl rfl (by decide) (by omega)) ?_;refine dvz (.indexAddrA rfl rfl rfl (by omega)) ?_;apply qF;rfl;rfl;rfl;exact zC;rfl;apply zO;apply zO;apply zO;apply zP;exact zN;apply rd_nca;omega;refine dvz (.move rfl) ?_;refine dvz (.addZL rfl rfl (by decide) (by omega)) ?_;refine dvz (.remZL rfl rfl (by decide) (by omega)) ?_;refine dvz (.indexAddrA rfl rfl rfl (by omega)) ?_;apply qF;rfl;rfl;rfl;exact zC;rfl;apply zO;apply zO;apply zO;apply zP;exact zN;apply rd_nca;omega;apply DW.callE;rfl;rfl;rfl;exact zC;rfl;infer_instance;exact .cons rfl (.cons rfl .nil);rfl;exact ReadAll.nil;intro w _ _;exact hk1 _ w;apply DW.nil;simp only [fsOf_cons,fsOf_nil,fsOf_app,fsOf_tsOf,fsOf_new];apply LW.v0;rfl;rfl;apply ValP.xorU;rfl;rfl;exact hCb _;exact hr1 _;refine vAz<|nNz ?_;apply CW.pre;refine AnyW.any 19 mixed (by decide +kernel) ?_;(try simp only [tsOf_cons,tsOf_nil,tsOf_app]);refine dvz (.move rfl)<|dvz (.move rfl) ?_;refine dvz (.mulZK rfl rfl (by decide) (by omega)) ?_;refine dvz (.move rfl) ?_;refine dvz (.mulZK rfl rfl (by decide) (by omega)) ?_;refine dvz (.addZ rfl rfl (by omega)) ?_;apply DW.callE;rfl;rfl;rfl;exact zC;rfl;infer_instance;exact .cons rfl (.cons rfl .nil);rfl;exact ReadAll.nil;intro w _ _;refine at_calls _ _ ?_ ?_ w;omega;omega;refine dvz (.move rfl)<|dvz (.move rfl) ?_;apply DW.callE;rfl;rfl;rfl;exact zC;rfl;infer_instance;exact .cons rfl (.cons rfl .nil);rfl;exact ReadAll.nil;intro w _ _;refine at_calls _ _ ?_ ?_ w;omega;omega;refine dvz (.indexAddrA rfl rfl rfl (by omega)) ?_;apply qF;rfl;rfl;rfl;exact zC;rfl;apply zO;apply zO;apply zO;apply zO;apply zO;apply zP;exact zN;apply rd_nca;omega;refine dvz (.move rfl) ?_;apply DW.v0;rfl;rfl;rfl;exact zC;rfl;apply ValP.xorU;rfl;rfl;exact hb _;apply xor64;exact hCb _;exact hr1 _;refine dvz (.move rfl)<|dvz (.move rfl) ?_;apply DW.callE;rfl;rfl;rfl;exact zC;rfl;infer_instance;exact .cons rfl (.cons rfl .nil);rfl;exact ReadAll.nil;intro w _ _;refine at_calls _ _ ?_ ?_ w;omega;omega;refine dvz (.indexAddrA rfl rfl rfl (by omega)) ?_;apply DW.loadX;rfl;rfl;rfl;exact zC;rfl;assumption;simp;apply rd_turn;omega;apply DW.nil;simp only [fsOf_cons,fsOf_nil,fsOf_app,fsOf_tsOf,fsOf_new];apply zS;rfl;rfl;infer_instance;exact .cons rfl (.cons rfl .nil);intro w _;refine hk2 _ _ w ?_;apply xor64;exact hb _;apply xor64;exact hCb _;exact hr1 _;refine lvz (.indexAddrA rfl rfl rfl (by omega)) ?_;apply zR;rfl;rfl;apply qD;apply qD;apply qD;apply qD;apply qA;apply wr_nca;omega;apply zV;refine blkN ?_;apply roundN;apply qA;refine lvz (.notT rfl (by with_reducible rfl)) ?_;refine nNz<|cFz<|zJ<|blkN<|thenN<|zL ?_;refine lvz (.addZL rfl rfl (by decide) (by omega)) ?_;refine vMz ?_;apply zV)
    refine thenX ⟨rfl,x+1,hx5,by omega,⟨rfl,rfl,rfl,rfl,trivial⟩,?_⟩
    rw [← Nat.add_assoc,hstep]
    exact qO _
   ·obtain rfl:x=5:=by omega
    (refine sRz ?_;refine lvz (.lssF rfl rfl (by omega)) ?_;refine nNz<|zI<|cFz<|CW.exit<|thenE<|thenE<|blkE rfl<|blkN<|thenN<|zL ?_;refine lvz (.addZL rfl rfl (by decide) (by omega)) ?_;refine vMz ?_;apply zV)
    refine thenX ⟨rfl,y+1,hy5,by omega,⟨rfl,rfl,trivial⟩,?_⟩
    rw [show 5 * (y+1)=5 * y+5 by omega]
    exact qO _
  ·obtain rfl:y=5:=by omega
   have hml:=mixF_len L C 25
   (refine sRz ?_;refine lvz (.lssF rfl rfl (by omega)) ?_;refine nNz<|zI<|cFz<|CW.exit<|thenE<|thenE<|blkE rfl<|scopeQ.n ?_)
   apply rangeN
   (exact .inr rfl)
   (exact Shut.nil)
   (apply qA)
   (refine blkN<|thenM<|sRz ?_;apply LW.load;rfl;rfl;apply qG;apply zX;apply zX;apply zX;apply zX;apply zY;apply rd_ncaW;assumption;apply zR;rfl;rfl;apply qD;apply qD;apply qD;apply qD;apply qA;apply wr_ncaW;assumption;assumption;refine nNz<|zK ?_)
   (apply finRM;exact .inl rfl;apply Shut.cons;apply qD;apply qA;apply Shut.cons;apply qD;apply qD;apply qA;exact Shut.nil;rfl;rfl;apply zD;apply zH;rfl;apply qG;apply zX;apply zX;apply zX;apply zX;apply zY;apply rd_ncaW;assumption;exact zF)
   show (Value.agg (nca (mixF L C (5 * 5))))=_
   rw [hC]
   rfl
end
section
attribute [local irreducible] turnL cF mixF mixL
def rowsL (L:List Nat):List Nat:=rowsF L 25
theorem mixL_len (L:List Nat):(mixL L).length=25:=by unfold mixL;exact mixF_len L _ 25
theorem mixL_lt (L:List Nat) (hb:∀ i,L.getD i 0 < 18446744073709551616):∀ i,(mixL L).getD i 0 < 18446744073709551616:=by unfold mixL;exact mixF_lt L _ hb (cF_lt L hb 25) 25
theorem rowV_lt (L:List Nat) (hb:∀ i,L.getD i 0 < 18446744073709551616) (x y:Nat):rowV L x y < 18446744073709551616 :=
 xor_lt (hb _) (Nat.and_lt_two_pow (n:=64) _ (hb _))
theorem rowsF_lt (L:List Nat) (hb:∀ i,L.getD i 0 < 18446744073709551616) (k:Nat):∀ i,(rowsF L k).getD i 0 < 18446744073709551616:=by
 induction k with
 |zero=>exact rep_lt 25
 |succ k ih=>exact getD_set_lt ih (rowV_lt L hb _ _)
theorem rowsL_len (L:List Nat):(rowsL L).length=25:=rowsF_len L 25
theorem rowsL_lt (L:List Nat) (hb:∀ i,L.getD i 0 < 18446744073709551616):∀ i,(rowsL L).getD i 0 < 18446744073709551616:=rowsF_lt L hb 25
def roundL (L:List Nat) (n:Nat):List Nat:=(rowsL (mixL L)).set 0 ((rowsL (mixL L)).getD 0 0 ^^^ n)
theorem roundL_len (L:List Nat) (n:Nat):(roundL L n).length=25:=by simp [roundL,rowsL_len]
theorem roundL_lt (L:List Nat) (n:Nat) (hb:∀ i,L.getD i 0 < 18446744073709551616) (hn:n < 18446744073709551616):∀ i,(roundL L n).getD i 0 < 18446744073709551616 :=
 getD_set_lt (rowsL_lt _ (mixL_lt L hb)) (xor_lt (rowsL_lt _ (mixL_lt L hb) 0) hn)
def permF (L:List Nat):Nat→List Nat
 |0=>L
 |k+1=>roundL (permF L k) (numL.getD k 0)
def permL (L:List Nat):List Nat:=permF L 24
theorem numL_lt (i:Nat) (h:i < 24):numL.getD i 0 < 18446744073709551616:=(by decide:∀ i,i < 24→numL.getD i 0 < 18446744073709551616) i h
theorem permF_len (L:List Nat) (hL:L.length=25) (k:Nat):(permF L k).length=25:=by
 cases k with
 |zero=>exact hL
 |succ k=>exact roundL_len _ _
theorem permF_lt (L:List Nat) (hb:∀ i,L.getD i 0 < 18446744073709551616) (k:Nat) (hk:k≤24):∀ i,(permF L k).getD i 0 < 18446744073709551616:=by
 induction k with
 |zero=>exact hb
 |succ k ih=>exact roundL_lt _ _ (ih (by omega)) (numL_lt k (by omega))
theorem permL_len (L:List Nat) (hL:L.length=25):(permL L).length=25:=permF_len L hL 24
theorem permL_lt (L:List Nat) (hb:∀ i,L.getD i 0 < 18446744073709551616):∀ i,(permL L).getD i 0 < 18446744073709551616:=permF_lt L hb 24 (Nat.le_refl _)
attribute [local irreducible] rowsL
theorem round_calls (L:List Nat) (n:Nat) (hL:L.length=25) (hb:∀ i,L.getD i 0 < 18446744073709551616) (hn:n < 18446744073709551616) (w:World) (hT:TurnAt w):Calls Tryz.prog 243 #[.agg (nca L),.int .u64 (n:Int)] w (Ret w (.agg (nca (roundL L n)))):=by
 have hM:∀ w' {fs},St w [] fs w'→Calls Tryz.prog 253 #[.agg (nca L)] w' (Ret w' (.agg (nca (mixL L)))):=fun w' fs hst=>Mix_calls L hL hb w' (hT.st hst)
 have hR:∀ w',Calls Tryz.prog 252 #[.agg (nca (mixL L))] w' (Ret w' (.agg (nca (rowsL (mixL L))))):=fun w'=>by
  unfold rowsL;exact Rows_calls _ (mixL_len L) (mixL_lt L hb) w'
 have hrb:=rowsL_lt _ (mixL_lt L hb)
 have hl1:=mixL_len L
 have hl2:=rowsL_len (mixL L)
 have hl3:((rowsL (mixL L)).set 0 ((rowsL (mixL L)).getD 0 0 ^^^ n)).length=25:=roundL_len L n
 refine enter (args:=[_,_]) _ [] [] Tryz.func243 rfl Tryz.ntmps243 rfl (by simp) .nil ?_
 (refine sRz ?_;apply zT;rfl;rfl;intro _;apply zU;rfl;intro _;refine nSz ?_;apply LW.load;rfl;rfl;apply qG;apply zX;apply zY;apply rd_ncaW;assumption;apply zS;rfl;rfl;infer_instance;exact .cons rfl .nil;intro w _;exact hM w (by assumption);apply zS;rfl;rfl;infer_instance;exact .cons rfl .nil;intro w _;exact hR w;apply zR;rfl;rfl;apply qD;apply qA;apply wr_ncaW;assumption;assumption;refine nSz<|lvz (.indexAddrL rfl rfl rfl) ?_;apply LW.load;rfl;rfl;apply qG;apply zX;apply zY;apply rd_nca0;omega;refine vMz ?_;apply LW.v0;rfl;rfl;apply ValP.xorU;rfl;rfl;exact hrb _;assumption;refine lvz (.indexAddrL rfl rfl rfl) ?_;apply zR;rfl;rfl;apply qD;apply qA;apply wr_nca0;omega;refine nSz ?_;apply LW.load;rfl;rfl;apply qG;apply zX;apply zY;apply rd_ncaW;assumption;apply zR;rfl;rfl;apply qA;apply wr_ncaO;rfl;assumption;refine nNz<|zK ?_)
 (apply finR;exact .inl rfl;rfl;rfl;rfl;apply zD;apply zH;rfl;apply qG;apply zY;apply rd_ncaW;assumption;exact zF)
 rfl
attribute [local irreducible] roundL
theorem numL_len:numL.length=24:=rfl
attribute [local irreducible] numL
theorem Permute_calls (L:List Nat) (hL:L.length=25) (hb:∀ i,L.getD i 0 < 18446744073709551616) (w:World) (hT:TurnAt w) (hN:NumAt w):Calls Tryz.prog 235 #[.agg (nca L)] w (Ret w (.agg (nca (permL L)))):=by
 obtain ⟨EN,frN,hN⟩:=hN
 have hnl:=numL_len
 have hR:∀ k,k < 24→∀ w' {fs},St w [] fs w'→Calls Tryz.prog 243 #[.agg (nca (permF L k)),.int .u64 ((numL.getD k 0:Nat):Int)] w' (Ret w' (.agg (nca (roundL (permF L k) (numL.getD k 0))))):=fun k hk w' fs hst=>round_calls _ _ (permF_len L hL k) (permF_lt L hb k (by omega)) (numL_lt k hk) w' (hT.st hst)
 refine enter (args:=[_]) _ [] [] Tryz.func235 rfl Tryz.ntmps235 rfl (by simp) .nil ?_
 (refine sRz ?_;apply zT;rfl;rfl;intro _;apply zU;rfl;intro _;refine nNz<|zI<|sRz ?_;apply LW.load;rfl;rfl;exact Known.ext (by assumption) (by simp);apply rd_ncaW;assumption;refine vMz<|nNz<|zM ?_)
 rename_i b1 b2
 refine CW.loop (fun k:Nat=>([(6,.int .i64 (k:Int)),(5,.agg (nca numL)),(2,.pointer (some ⟨b2,0,none⟩)),(1,.pointer (some ⟨b1,0,none⟩))],
  [(b2,.cells (nca (List.replicate 25 0)) 208 (0,0)),(b1,.cells (nca (permF L k)) 208 (0,0))]))
  (fun k=>k≤24) (fun k=>24 - k) 0 (Nat.zero_le _) ⟨rfl,rfl,rfl,rfl,trivial⟩ (qO _) ?_
 intro k hk
 dsimp only at hk ⊢
 have hlen:=permF_len L hL k
 rcases Nat.lt_or_ge k 24 with hk4|hk4
 ·have hR':=fun w' fs hst=>hR k hk4 w' (fs:=fs) hst
  have hlen':=roundL_len (permF L k) (numL.getD k 0)
  (refine sRz ?_;refine lvz (.lssT rfl rfl (by omega)) ?_;refine nNz<|zI<|cTz<|zJ<|thenN<|zI<|zM<|sRz ?_;apply LW.v0;rfl;rfl;apply ValP.indexA;rfl;rfl;rfl;rfl;omega;apply nth_nca;omega;refine vAz<|nNz<|zL ?_;apply LW.load;rfl;rfl;apply qG;apply zX;apply zY;apply rd_ncaW;assumption;refine vMz ?_;apply zS;rfl;rfl;infer_instance;exact .cons rfl (.cons rfl .nil);intro w _;exact hR' w _ (by assumption);apply zR;rfl;rfl;apply qD;apply qA;apply wr_ncaW;assumption;assumption;apply zV;refine blkN<|thenN<|zL ?_;refine lvz (.addZL rfl rfl (by decide) (by omega)) ?_;refine vMz ?_;apply zV)
  refine thenX ⟨rfl,k+1,hk4,by omega,⟨rfl,rfl,rfl,rfl,trivial⟩,?_⟩
  exact qO _
 ·obtain rfl:k=24:=by omega
  have hlr:(List.replicate 25 0:List Nat).length=25:=rfl
  (refine sRz ?_;refine lvz (.lssF rfl rfl (by omega)) ?_;refine nNz<|zI<|cFz<|CW.exit<|thenE<|thenE<|blkE rfl<|thenN<|sRz ?_;apply LW.load;rfl;rfl;apply qG;apply zX;apply zY;apply rd_ncaW;assumption;apply zR;rfl;rfl;apply qA;apply wr_ncaW;assumption;assumption;refine nNz<|zK ?_)
  (apply finR;exact .inl rfl;rfl;rfl;rfl;apply zD;apply zH;rfl;apply qG;apply zY;apply rd_ncaW;assumption;exact zF)
  rfl
end
def padN (n:Nat):Nat:=(n / 136+1) * 136
def pad1 (b:List UInt8):List UInt8:=(b++List.replicate (padN b.length - b.length) 0).set b.length 1
def padB (b:List UInt8):List UInt8:=(pad1 b).set (padN b.length - 1) ((pad1 b).getD (padN b.length - 1) 0 |||128)
theorem padN_lt (n:Nat):n < padN n:=by unfold padN;omega
theorem pad1_len (b:List UInt8):(pad1 b).length=padN b.length:=by have:=padN_lt b.length;simp [pad1];omega
theorem padB_len (b:List UInt8):(padB b).length=padN b.length:=by rw [padB,List.length_set,pad1_len]
theorem pad_copy (b:List UInt8):((List.replicate (padN b.length) (Value.int .u8 0)).toArray.toList.take 0++ucs b++(List.replicate (padN b.length) (Value.int .u8 0)).toArray.toList.drop (0+b.length)).toArray=uca (b++List.replicate (padN b.length - b.length) 0):=by
 simp [uca,ucs_map]
def PadR (b:List UInt8) (v:Value) (gs:Fs):Prop:=∃ g,v=.slice (some ⟨g,0,none⟩) (padB b).length (padB b).length∧gs=[(g,.cells (uca (padB b)) 5 (0,0))]
theorem wr_pad1 {T E:TypeId} {z:Value} [InfoI Tryz.prog T 1 z] (b:List UInt8):Wr Tryz.prog T (.cells (uca (b++List.replicate (padN b.length - b.length) (0:UInt8))) E (0,0)) (0+b.length * 1) (.int .u8 1) (.cells (uca (pad1 b)) E (0,0)) :=
 wr_uca (x:=1) (by have:=padN_lt b.length;simp;omega) (by decide)
theorem or_byte (u:UInt8):UInt8.ofNat (u.toNat |||128)=u |||128:=by
 apply UInt8.toNat_inj.1
 rw [UInt8.toNat_or,UInt8.toNat_ofNat']
 exact Nat.mod_eq_of_lt (Nat.or_lt_two_pow (n:=8) (UInt8.toNat_lt u) (by decide))
theorem wr_padB {T E:TypeId} {z:Value} [InfoI Tryz.prog T 1 z] (b:List UInt8):Wr Tryz.prog T (.cells (uca (pad1 b)) E (0,0)) (0+(padN b.length - 1) * 1) (.int .u8 ((((pad1 b).getD (padN b.length - 1) 0).toNat |||128:Nat):Int)) (.cells (uca (padB b)) E (0,0)):=by
 have h:=wr_uca (P:=Tryz.prog) (T:=T) (E:=E) (l:=pad1 b) (i:=padN b.length - 1) (x:=((pad1 b).getD (padN b.length - 1) 0).toNat |||128) (z:=z) (by rw [pad1_len];have:=padN_lt b.length;omega) (Nat.or_lt_two_pow (n:=8) (UInt8.toNat_lt _) (by decide))
 rw [or_byte] at h
 exact h
theorem Pad_calls (b:List UInt8) (v:Value) (w:World) (hv:RowAt w 1 v b.length (ucs b)) (hb:b.length≤100000):Calls Tryz.prog 234 #[v] w (RetG w [] (PadR b)):=by
 obtain ⟨p,c,rfl,hc,hm⟩:=hv.form
 have hlt:=padN_lt b.length
 have h1:=pad1_len b
 have h2:=padB_len b
 have hN:padN b.length=(b.length / 136+1) * 136:=rfl
 refine enter (args:=[_]) _ [] [] Tryz.func234 rfl Tryz.ntmps234 rfl (by simp) .nil ?_
 (refine sRz<|vAz<|nSz<|vMz<|lvz (.lenR rfl inferInstance rfl) ?_;refine lvz (.quoZL rfl rfl (by decide) (by omega) (by omega)) ?_;refine lvz (.addZL rfl rfl (by decide) (by omega)) ?_;refine lvz (.mulZL rfl rfl (by decide) (by omega)) ?_)
 rw [← hN]
 refine LW.makeOwn rfl inferInstance inferInstance inferInstance rfl rfl ?_ ?_ fun g=>?_
 ·omega
 ·simp only [maxLen];omega
 (refine vAz<|nSz<|vMz<|vMz<|vMz ?_)
 refine LW.copyAt (cur:=(List.replicate (padN b.length) (Value.int .u8 0)).toArray) (E':=5) (fs':=[(g,.cells (((List.replicate (padN b.length) (Value.int .u8 0)).toArray.toList.take 0++ucs b++(List.replicate (padN b.length) (Value.int .u8 0)).toArray.toList.drop (0+b.length)).toArray) 5 (0,0))]) rfl rfl inferInstance inferInstance inferInstance rfl rfl (fun w hst=>hv.st hst) (ucs_cells b) (by omega) (by simp;omega) (by (apply qA)) ?_
 rw [pad_copy]
 have hl0:(b++List.replicate (padN b.length - b.length) (0:UInt8)).length=padN b.length:=by simp;omega
 (refine lvz (.indexAddrS rfl rfl rfl (by omega)) ?_;refine zR rfl rfl .head (wr_pad1 b)<|nSz<|vMz<|vMz<|lvz (.lenR rfl inferInstance rfl) ?_;refine lvz (.subZL rfl rfl (by decide) (by omega) (by omega)) ?_;refine lvz (.indexAddrS rfl rfl rfl (by omega)) ?_;apply LW.load;rfl;rfl;apply qG;apply zY;apply rd_uca;omega;apply LW.v0;rfl;rfl;apply ValP.orBL;rfl;rfl;decide;exact UInt8.toNat_lt _;decide;refine lvz (.indexAddrS rfl rfl rfl (by omega)) ?_;refine zR rfl rfl .head (wr_padB b)<|nSz<|vMz<|vAz<|nNz<|zK ?_)
 refine fin [(g,.cells (uca (padB b)) 5 (0,0))] (.inl rfl) rfl rfl (by (apply zD;exact zG rfl;exact zF)) (qO _) ⟨g,?_,rfl⟩
 rw [h2];rfl
def ChunkR (v0:Value) (v:Value) (gs:Fs):Prop:=∃ b1 b2,v=.func (.func 242) #[] #[.pointer (some ⟨b1,0,none⟩),.pointer (some ⟨b2,0,none⟩)]∧gs=[(b2,.cells #[.int .i64 136] 3 (0,0)),(b1,.cells #[v0] 22 (0,0))]
theorem Chunk_calls (p:Option Addr) (n c:Nat) (w:World):Calls Tryz.prog 233 #[.slice p n c,.int .i64 136] w (RetG w [] (ChunkR (.slice p n c))):=by
 refine enter (args:=[_,_]) _ [] [] Tryz.func233 rfl Tryz.ntmps233 rfl (by simp) .nil ?_
 (refine sRz ?_;apply LW.box1;rfl;rfl;rfl;intro _;apply LW.box1;rfl;rfl;rfl;intro _;refine vAz<|nNz<|zI<|sRz<|ldz rfl .head (Rd.one' rfl) ?_;refine lvz (.lssF rfl rfl (by omega)) ?_;refine nNz<|cFz<|zJ<|thenN<|sRz ?_;apply LW.v0;rfl;rfl;apply ValP.makeFunc;exact ArgsOk.nil;exact .cons rfl (.cons rfl .nil);refine vAz<|nNz<|zK ?_)
 rename_i b1 b2
 exact fin _ (.inl rfl) rfl rfl (by (apply zD;exact zG rfl;exact zF)) (qO _) ⟨b1,b2,rfl,rfl⟩
section
def soakF (L:List Nat) (p:List UInt8) (o:Nat):Nat→List Nat
 |0=>L
 |k+1=>(soakF L p o k).set (k / 8) ((soakF L p o k).getD (k / 8) 0 ^^^ ((p.getD (o+k) 0).toNat * 2 ^ (8 * (k % 8)) % 18446744073709551616))
theorem soakF_len (L:List Nat) (p:List UInt8) (o k:Nat):(soakF L p o k).length=L.length:=by
 induction k with
 |zero=>rfl
 |succ k ih=>simp [soakF,ih]
theorem soakF_lt (L:List Nat) (p:List UInt8) (o:Nat) (hb:∀ i,L.getD i 0 < 18446744073709551616) (k:Nat):∀ i,(soakF L p o k).getD i 0 < 18446744073709551616:=by
 induction k with
 |zero=>exact hb
 |succ k ih=>exact getD_set_lt ih (xor_lt (ih _) (Nat.mod_lt _ (by decide)))
def sumF (p:List UInt8):Nat→List Nat
 |0=>List.replicate 25 0
 |c+1=>permL (soakF (sumF p c) p (136 * c) 136)
theorem sumF_len (p:List UInt8) (c:Nat):(sumF p c).length=25:=by
 induction c with
 |zero=>simp [sumF]
 |succ c ih=>exact permL_len _ (by rw [soakF_len,ih])
theorem sumF_lt (p:List UInt8) (c:Nat):∀ i,(sumF p c).getD i 0 < 18446744073709551616:=by
 induction c with
 |zero=>exact rep_lt 25
 |succ c ih=>exact permL_lt _ (soakF_lt _ _ _ ih _)
def idF (L:List Nat):Nat→List UInt8
 |0=>List.replicate 32 0
 |k+1=>(idF L k).set k (UInt8.ofNat (L.getD (k / 8) 0 / 2 ^ (8 * (k % 8)) % 256))
theorem idF_len (L:List Nat) (k:Nat):(idF L k).length=32:=by
 induction k with
 |zero=>simp [idF]
 |succ k ih=>simp [idF,ih]
def padC (n:Nat):Nat:=n / 136+1
def sumB (b:List UInt8):List UInt8:=idF (sumF (padB b) (padC b.length)) 32
theorem ValP.cut3o {P:Program} {e:Env} {T:TypeId} {x:Operand} {g o o' m n:Nat} {ik il im:IntKind} {E i j k c:Nat} {z:Value} {lo hi mx:Operand} (hU:UnI P T (.slice E)) (hI:InfoI P E 1 z) (hx:e.ev x=some (.slice (some ⟨g,o,none⟩) n c)) (hl:e.ev lo=some (.int il (i:Int))) (hh:e.ev hi=some (.int ik (j:Int))) (hm:e.ev mx=some (.int im (k:Int))) (h1:j=i+m) (h2:k=i+m) (h3:i+m≤c) (h4:0 < m) (h5:o'=o+i) :
  ValP P e [] (.slice T x (some lo) (some hi) (some mx)) (.slice (some ⟨g,o',none⟩) m m):=by
 subst h1 h2 h5
 have h:=ValP.cut3 (P:=P) (e:=e) hU hI hx hl hh hm (by omega) (by omega) h3 (by omega)
 have e1:i+m - i=m:=by omega
 have e2:(Option.map (fun x=>Addr.add x (i * 1)) (some ⟨g,o,none⟩))=some ⟨g,o+i,none⟩:=by simp [Addr.add]
 rw [e1] at h
 rw [← e2]
 exact h
theorem soakF_zero (L:List Nat) (p:List UInt8) (o:Nat):soakF L p o 0=L:=rfl
theorem sumF_zero (p:List UInt8):sumF p 0=List.replicate 25 0:=rfl
theorem soakF_succ (L:List Nat) (p:List UInt8) (o k:Nat):soakF L p o (k+1)=(soakF L p o k).set (k / 8) ((soakF L p o k).getD (k / 8) 0 ^^^ ((p.getD (o+k) 0).toNat * 2 ^ (8 * (k % 8)) % 18446744073709551616)):=rfl
theorem sumF_succ (p:List UInt8) (c:Nat):sumF p (c+1)=permL (soakF (sumF p c) p (136 * c) 136):=rfl
theorem idF_zero (L:List Nat):idF L 0=List.replicate 32 0:=rfl
theorem idF_succ (L:List Nat) (k:Nat):idF L (k+1)=(idF L k).set k (UInt8.ofNat (L.getD (k / 8) 0 / 2 ^ (8 * (k % 8)) % 256)):=rfl
attribute [local irreducible] permL padB soakF sumF idF
theorem Sum_calls (b:List UInt8) (v:Value) (w:World) (hv:RowAt w 1 v b.length (ucs b)) (hb:b.length≤100000) (hT:TurnAt w) (hN:NumAt w):Calls Tryz.prog 225 #[v] w (Ret w (.agg (uca (sumB b)))):=by
 have hPad:∀ w' {fs},St w [] fs w'→Calls Tryz.prog 234 #[v] w' (RetG w' [] (PadR b)):=fun w' fs hst=>Pad_calls b v w' (hv.st hst) hb
 have hP:∀ L:List Nat,L.length=25→(∀ i,L.getD i 0 < 18446744073709551616)→∀ w' {fs},St w [] fs w'→Calls Tryz.prog 235 #[.agg (nca L)] w' (Ret w' (.agg (nca (permL L)))):=fun L h1 h2 w' fs hst=>Permute_calls L h1 h2 w' (hT.st hst) (hN.st hst)
 obtain ⟨p0,c0,rfl,_,_⟩:=hv.form
 obtain ⟨P,hPe⟩:∃ P,P=padB b:=⟨_,rfl⟩
 obtain ⟨N,hNe⟩:∃ N,N=padC b.length:=⟨_,rfl⟩
 have hlP:P.length=136 * N:=by rw [hPe,hNe,padB_len,padN,padC];omega
 have hNb:N≤1000:=by rw [hNe,padC];omega
 refine enter (args:=[_]) _ [] [] Tryz.func225 rfl Tryz.ntmps225 rfl (by simp) .nil ?_
 (refine sRz ?_;apply zU;rfl;intro _;refine nSz ?_;apply zU;rfl;intro _;refine nNz<|zI<|sRz<|vMz ?_)
 refine LW.callR rfl rfl inferInstance (by (exact .cons rfl .nil)) (fun w hst=>hPad w hst) ?_
 rintro v1 gs1 ⟨g,rfl,rfl⟩
 rw [← hPe]
 skip
 refine LW.callR rfl rfl inferInstance (by (exact .cons rfl (.cons rfl .nil))) (fun w hst=>Chunk_calls _ _ _ w) ?_
 rintro v2 gs2 ⟨b1,b2,rfl,rfl⟩
 simp only [List.cons_append,List.nil_append]
 (refine nNz<|zM ?_)
 rename_i bi bl
 apply CW.rangeFunc
 rfl
 rfl
 infer_instance
 rfl
 exact Tryz.func242
 rfl
 exact Tryz.ntmps242
 rfl
 rfl
 intro l r rec hrec
 (refine sRz<|vAz<|nNz<|zM ?_)
 refine CW.loop (fun c:Nat=>([(4,.int .i64 ((136 * c:Nat):Int)),(0,.func (.yield l) #[] #[]),(1,.pointer (some ⟨b1,0,none⟩)),(2,.pointer (some ⟨b2,0,none⟩))],
  [(l,rdy rec),(r,.deferred (some [])),(b2,.cells #[.int .i64 136] 3 (0,0)),(b1,.cells #[.slice (some ⟨g,0,none⟩) P.length P.length] 22 (0,0)),(g,.cells (uca P) 5 (0,0)),
   (bl,.cells (nca (sumF P c)) 208 (0,0)),(bi,.cells (uca (List.replicate 32 0)) 196 (0,0))]))
  (fun c=>c≤N) (fun c=>N - c) 0 (Nat.zero_le _) ⟨rfl,rfl,rfl,rfl,trivial⟩ (by dsimp only;rw [sumF_zero];exact qO _) ?_
 intro c hc
 dsimp only at hc ⊢
 rcases Nat.lt_or_ge c N with hcN|hcN
 ·have hle:136 * c+136≤P.length:=by omega
  (refine zI<|sRz<|vMz<|ldz rfl (.tail (.tail (.tail .head))) (Rd.one' rfl)<|lvz (.lenR rfl inferInstance rfl) ?_;refine lvz (.lssT rfl rfl (by omega)) ?_;refine nNz<|cTz<|zJ<|thenN<|zI<|zM<|zI ?_;apply CW.pre;refine AnyW.any 5 mixed (by decide +kernel) ?_;(try simp only [tsOf_cons,tsOf_nil,tsOf_app]);apply qF;rfl;rfl;rfl;exact zC;rfl;apply zO;apply zO;apply zP;exact zN;exact Rd.one' rfl;apply qF;rfl;rfl;rfl;exact zC;rfl;apply zO;apply zO;apply zO;apply zP;exact zN;exact Rd.one' rfl;refine dvz (.move rfl) ?_;refine dvz (.cutFrom inferInstance inferInstance rfl rfl (by omega)) ?_;refine dvz (.lenR rfl inferInstance rfl) ?_;apply DW.nil;simp only [fsOf_cons,fsOf_nil,fsOf_app,fsOf_tsOf,fsOf_new];refine lvz (.minZ rfl rfl)<|vAz<|nSz<|vMz<|ldz rfl (.tail (.tail (.tail .head))) (Rd.one' rfl)<|vMz<|vMz<|vMz ?_;refine lvz (.addZ rfl rfl (by omega)) ?_;refine vMz<|vMz ?_;refine lvz (.addZ rfl rfl (by omega)) ?_)
  apply LW.v0
  rfl
  rfl
  refine ValP.cut3o (o':=136 * c) (m:=136) inferInstance inferInstance rfl rfl rfl rfl ?_ ?_ ?_ ?_ ?_
  ·show 136 * c+min 136 (P.length - 136 * c)=136 * c+136
   omega
  ·show 136 * c+min 136 (P.length - 136 * c)=136 * c+136
   omega
  ·omega
  ·omega
  ·omega
  apply LW.yield
  rfl
  rfl
  (exact .cons rfl .nil)
  exact hrec
  (apply zY)
  rfl
  rfl
  (refine zL<|vAz ?_;apply zV;apply beginI;apply qA;refine zM<|zI<|sRz<|vMz<|lvz (.lenR rfl inferInstance rfl)<|vMz<|nNz<|zM ?_)
  refine CW.loop (fun k:Nat=>([(14,.int .i64 (k:Int)),(13,.int .i64 136),(12,.slice (some ⟨g,136 * c,none⟩) 136 136),(3,.pointer (some ⟨bl,0,none⟩)),(2,.pointer (some ⟨bi,0,none⟩))],
   [(l,bsy rec),(r,.deferred (some [])),(b2,.cells #[.int .i64 136] 3 (0,0)),(b1,.cells #[.slice (some ⟨g,0,none⟩) P.length P.length] 22 (0,0)),(g,.cells (uca P) 5 (0,0)),
   (bl,.cells (nca (soakF (sumF P c) P (136 * c) k)) 208 (0,0)),(bi,.cells (uca (List.replicate 32 0)) 196 (0,0))]))
   (fun k=>k≤136) (fun k=>136 - k) 0 (Nat.zero_le _) ⟨rfl,rfl,rfl,rfl,rfl,trivial⟩ ?_ ?_
  ·dsimp only
   rw [soakF_zero]
   exact qO _
  intro k hk
  dsimp only at hk ⊢
  have hls:=soakF_len (sumF P c) P (136 * c) k
  have hls':=sumF_len P c
  have hsb:=soakF_lt _ P (136 * c) (sumF_lt P c) k
  rcases Nat.lt_or_ge k 136 with hk6|hk6
  ·have hbt:(P.getD (136 * c+k) 0).toNat < 256:=UInt8.toNat_lt _
   (refine sRz ?_;refine lvz (.lssT rfl rfl (by omega)) ?_;refine nNz<|zI<|cTz<|zJ<|thenN<|zI<|zM<|sRz<|vMz ?_;refine lvz (.indexAddrS rfl rfl rfl (by omega)) ?_;apply LW.load;rfl;rfl;apply qG;apply zX;apply zX;apply zX;apply zX;apply zY;apply rd_ucaO;omega;refine vAz<|vAz<|nNz ?_;apply CW.pre;refine AnyW.any 10 mixed (by decide +kernel) ?_;(try simp only [tsOf_cons,tsOf_nil,tsOf_app]);refine dvz (.move rfl) ?_;refine dvz (.quoZL rfl rfl (by decide) (by omega) (by omega)) ?_;refine dvz (.indexAddrA rfl rfl rfl (by omega)) ?_;apply qF;rfl;rfl;rfl;exact zC;rfl;apply zO;apply zO;apply zO;apply zO;apply zO;apply zP;exact zN;apply rd_nca;omega;refine dvz (.move rfl) ?_;refine dvz (.convN rfl (by omega) (by omega)) ?_;refine dvz (.move rfl) ?_;refine dvz (.remZL rfl rfl (by decide) (by omega)) ?_;refine dvz (.mulZK rfl rfl (by decide) (by omega)) ?_;refine dvz (.shlU rfl rfl (by omega)) ?_;apply DW.nil;simp only [fsOf_cons,fsOf_nil,fsOf_app,fsOf_tsOf,fsOf_new];apply LW.v0;rfl;rfl;apply ValP.xorU;rfl;rfl;exact hsb _;exact Nat.mod_lt _ (by decide);refine lvz (.indexAddrA rfl rfl rfl (by omega)) ?_;apply zR;rfl;rfl;apply qD;apply qD;apply qD;apply qD;apply qD;apply qA;apply wr_nca;omega;apply zV;refine blkN<|thenN<|zL ?_;refine lvz (.addZL rfl rfl (by decide) (by omega)) ?_;refine vMz ?_;apply zV)
   refine thenX ⟨rfl,k+1,hk6,by omega,⟨rfl,rfl,rfl,rfl,rfl,trivial⟩,?_⟩
   rw [soakF_succ]
   exact qO _
  ·obtain rfl:k=136:=by omega
   have hPerm:∀ w' {fs},St w [] fs w'→Calls Tryz.prog 235 #[.agg (nca (soakF (sumF P c) P (136 * c) 136))] w' (Ret w' (.agg (nca (permL (soakF (sumF P c) P (136 * c) 136))))):=hP _ (by rw [hls,hls']) hsb
   have hlp:=permL_len (soakF (sumF P c) P (136 * c) 136) (by rw [hls,hls'])
   have hls2:(soakF (sumF P c) P (136 * c) 136).length=25:=by rw [hls,hls']
   (refine sRz ?_;refine lvz (.lssF rfl rfl (by omega)) ?_;refine nNz<|zI<|cFz<|CW.exit<|thenE<|thenE<|blkE rfl<|thenN<|zL ?_;apply LW.load;rfl;rfl;apply qG;apply zX;apply zX;apply zX;apply zX;apply zX;apply zY;apply rd_ncaW;assumption;apply zS;rfl;rfl;infer_instance;exact .cons rfl .nil;intro w _;exact hPerm w (by assumption);apply zR;rfl;rfl;apply qD;apply qD;apply qD;apply qD;apply qD;apply qA;apply wr_ncaW;assumption;assumption;apply zV;refine blkN ?_;apply roundN;apply qA;refine lvz (.notT rfl (by with_reducible rfl)) ?_;refine nNz<|cFz<|zJ<|blkN<|thenN<|zL<|vMz<|ldz rfl (.tail (.tail .head)) (Rd.one' rfl) ?_;refine lvz (.addZL rfl rfl (by decide) (by omega)) ?_;refine vAz ?_;apply zV)
   refine thenX ⟨rfl,c+1,hcN,by omega,⟨rfl,rfl,rfl,rfl,trivial⟩,?_⟩
   rw [sumF_succ]
   exact qO _
 ·obtain rfl:c=N:=by omega
  have hls:=sumF_len P c
  have hsb:=sumF_lt P c
  (refine zI<|sRz<|vMz<|ldz rfl (.tail (.tail (.tail .head))) (Rd.one' rfl)<|lvz (.lenR rfl inferInstance rfl) ?_;refine lvz (.lssF rfl rfl (by omega)) ?_;refine nNz<|cFz<|CW.exit<|thenE<|thenE<|blkE rfl ?_)
  apply rangeN
  (exact .inr rfl)
  (exact Shut.nil)
  (apply qA)
  (refine blkN<|thenM<|zI<|sRz<|vMz<|nNz<|zM ?_)
  refine CW.loop (fun k:Nat=>([(34,.int .i64 (k:Int)),(3,.pointer (some ⟨bl,0,none⟩)),(2,.pointer (some ⟨bi,0,none⟩))],
   [(r,.deferred (some [])),(bl,.cells (nca (sumF P c)) 208 (0,0)),(bi,.cells (uca (idF (sumF P c) k)) 196 (0,0))]))
   (fun k=>k≤32) (fun k=>32 - k) 0 (Nat.zero_le _) ⟨rfl,rfl,rfl,trivial⟩ ?_ ?_
  ·dsimp only
   rw [idF_zero]
   (apply qS;apply List.Sublist.cons_cons;apply qS;apply qS;apply qS;exact qO _)
  intro k hk
  dsimp only at hk ⊢
  have hli:=idF_len (sumF P c) k
  rcases Nat.lt_or_ge k 32 with hk6|hk6
  ·(refine sRz ?_;refine lvz (.lssT rfl rfl (by omega)) ?_;refine nNz<|zI<|cTz<|zJ<|thenN<|zI<|zM<|sRz<|vMz<|vAz<|nNz<|zL<|vMz<|vMz ?_;refine lvz (.quoZL rfl rfl (by decide) (by omega) (by omega)) ?_;refine lvz (.indexAddrA rfl rfl rfl (by omega)) ?_;apply LW.load;rfl;rfl;apply qG;apply zX;apply zY;apply rd_nca;omega;refine vMz ?_;refine lvz (.remZL rfl rfl (by decide) (by omega)) ?_;refine lvz (.mulZK rfl rfl (by decide) (by omega)) ?_;refine lvz (.shrU rfl rfl (by omega)) ?_;refine lvz (.convB rfl) ?_;refine lvz (.indexAddrA rfl rfl rfl (by omega)) ?_;apply zR;rfl;rfl;apply qD;apply qD;apply qA;apply wr_uca;omega;exact Nat.mod_lt _ (by decide);apply zV;refine blkN<|thenN<|zL ?_;refine lvz (.addZL rfl rfl (by decide) (by omega)) ?_;refine vMz ?_;apply zV)
   refine thenX ⟨rfl,k+1,hk6,by omega,⟨rfl,rfl,rfl,trivial⟩,?_⟩
   rw [idF_succ]
   exact qO _
  ·obtain rfl:k=32:=by omega
   (refine sRz ?_;refine lvz (.lssF rfl rfl (by omega)) ?_;refine nNz<|zI<|cFz<|CW.exit<|thenE<|thenE<|blkE rfl<|thenN<|sRz ?_;apply LW.load;rfl;rfl;apply qG;apply zX;apply zX;apply zY;apply rd_ucaW;assumption;apply zR;rfl;rfl;apply qD;apply qD;apply qA;apply wr_ucaW;assumption;assumption;refine nNz<|zK ?_)
   (apply finRM;exact .inl rfl;apply Shut.cons;apply qA;exact Shut.nil;rfl;rfl;apply zD;apply zH;rfl;apply qG;apply zX;apply zX;apply zY;apply rd_ucaW;assumption;exact zF)
   rw [sumB,← hPe,← hNe]
   rfl
end

end Go.Proofs.YtdeggbkbblfpoaaGreatDoor.SK
namespace Go.Proofs.YtdeggbkbblfpoaaGreatDoor.SK
open Go Go.RowKit SL
set_option maxRecDepth 100000

end Go.Proofs.YtdeggbkbblfpoaaGreatDoor.SK
namespace Go.Proofs.YtdeggbkbblfpoaaGreatDoor.SK
open Go Go.RowKit SL
set_option maxRecDepth 8000
set_option maxHeartbeats 4000000
set_option linter.unusedSimpArgs false
set_option linter.unusedVariables false
attribute [local irreducible] SL.CW SL.LW SL.DW Calls SL.Ret SL.RetG SL.beginQ SL.roundQ SL.rangeQ SL.inQ SL.RW SL.AnyW SL.thenQ SL.thenC SL.thenW SL.blkQ SL.finQ SL.ValP SL.NewP SL.SetP SL.CallP SL.Rd SL.Wr SL.Known

theorem Clone_calls (l:List UInt8) (v:Value) (w:World) (hv:RowAt w 1 v l.length (ucs l)) (hl:l.length≤100000):Calls Tryz.prog 89 #[v] w (RetG w [] (fun v' gs=>IsRow 5 1 v' l.length (ucs l) gs)):=by
 obtain ⟨p,c,rfl,_,_⟩:=hv.form
 cases p with
 |none =>
  have h0:l.length=0:=by
   rcases Nat.eq_zero_or_pos l.length with h|h
   ·exact h
   ·obtain ⟨_,_,_,_,_,_,he,_,_⟩:=hv.pos h
    cases he
  have hn:l=[]:=List.length_eq_zero_iff.1 h0
  subst hn
  refine enter (args:=[_]) _ [] [] Tryz.func89 rfl Tryz.ntmps89 rfl (by simp) .nil ?_
  (refine sRz<|vAz<|nNz<|zI<|sRz<|vMz ?_;apply LW.v0;rfl;rfl;apply ValP.sliNilT;rfl;rfl;refine nNz<|cTz<|sRz<|vAz<|nNz<|zK<|thenR ?_)
  exact fin [] (.inl rfl) rfl rfl (by (apply zD;exact zG rfl;exact zF)) (qO _) .nil
 |some a =>
  refine enter (args:=[_]) _ [] [] Tryz.func89 rfl Tryz.ntmps89 rfl (by simp) .nil ?_
  (refine sRz<|vAz<|nNz<|zI<|sRz<|vMz ?_;apply LW.v0;rfl;rfl;apply ValP.sliNilF;rfl;rfl;refine nNz<|cFz<|zJ<|thenN<|sRz ?_)
  refine LW.lay0 rfl inferInstance inferInstance fun v0 seg hrow=>?_
  (refine vMz ?_)
  (apply LW.appendAny;(case hrow=>assumption);rfl;rfl;infer_instance;infer_instance;infer_instance;rfl;rfl;rfl;exact AtSeg.head)
  ·exact fun w hs=>hv.st hs
  ·exact ucs_cells l
  ·simp only [maxLen];omega
  ·omega
  intro v1 seg1 hrow1
  refine ⟨_,(by (exact AtSeg.head)),?_⟩
  simp only [List.nil_append,qP,List.append_nil] at hrow1 ⊢
  (refine vAz<|nNz<|zK ?_)
  refine fin (vs:=[v1]) seg1 (.inl rfl) rfl rfl (by (apply zD;exact zG rfl;exact zF)) ?_ hrow1
  (exact qO _)
end Go.Proofs.YtdeggbkbblfpoaaGreatDoor.SK
namespace Go.Proofs.YtdeggbkbblfpoaaGreatDoor
open Go Go.RowKit SL
set_option maxRecDepth 8000
set_option maxHeartbeats 4000000
set_option linter.unusedSimpArgs false
set_option linter.unusedVariables false
attribute [local irreducible] SL.CW SL.LW SL.DW Calls SL.Ret SL.RetG SL.beginQ SL.roundQ SL.rangeQ SL.inQ SL.RW SL.AnyW SL.thenQ SL.thenC SL.thenW SL.blkQ SL.finQ SL.ValP SL.NewP SL.SetP SL.CallP SL.Rd SL.Wr SL.Known
theorem CloneW_calls (l:List Nat) (v:Value) (w:World) (hv:RowAt w 4 v l.length (wcs l)) (hl:l.length≤100000):Calls Tryz.prog 27 #[v] w (RetG w [] (fun v' gs=>IsRow 29 4 v' l.length (wcs l) gs)):=by
 obtain ⟨p,c,rfl,_,_⟩:=hv.form
 cases p with
 |none =>
  have h0:l.length=0:=by
   rcases Nat.eq_zero_or_pos l.length with h|h
   ·exact h
   ·obtain ⟨_,_,_,_,_,_,he,_,_⟩:=hv.pos h
    cases he
  have hn:l=[]:=List.length_eq_zero_iff.1 h0
  subst hn
  refine enter (args:=[_]) _ [] [] Tryz.func27 rfl Tryz.ntmps27 rfl (by simp) .nil ?_
  (refine sRz<|vAz<|nNz<|zI<|sRz<|vMz ?_;apply LW.v0;rfl;rfl;apply ValP.sliNilT;rfl;rfl;refine nNz<|cTz<|sRz<|vAz<|nNz<|zK<|thenR ?_)
  exact fin [] (.inl rfl) rfl rfl (by (apply zD;exact zG rfl;exact zF)) (qO _) .nil
 |some a =>
  refine enter (args:=[_]) _ [] [] Tryz.func27 rfl Tryz.ntmps27 rfl (by simp) .nil ?_
  (refine sRz<|vAz<|nNz<|zI<|sRz<|vMz ?_;apply LW.v0;rfl;rfl;apply ValP.sliNilF;rfl;rfl;refine nNz<|cFz<|zJ<|thenN<|sRz ?_)
  refine LW.lay0 rfl inferInstance inferInstance fun v0 seg hrow=>?_
  (refine vMz ?_)
  (apply LW.appendAny;(case hrow=>assumption);rfl;rfl;infer_instance;infer_instance;infer_instance;rfl;rfl;rfl;exact AtSeg.head)
  ·exact fun w hs=>hv.st hs
  ·exact wcs_cells l
  ·simp only [maxLen];omega
  ·omega
  intro v1 seg1 hrow1
  refine ⟨_,(by (exact AtSeg.head)),?_⟩
  simp only [List.nil_append,qP,List.append_nil] at hrow1 ⊢
  (refine vAz<|nNz<|zK ?_)
  refine fin (vs:=[v1]) seg1 (.inl rfl) rfl rfl (by (apply zD;exact zG rfl;exact zF)) ?_ hrow1
  (exact qO _)
def wM (l:List Nat) (v:Value) (gs:Fs):Prop:=IsRow 29 4 v l.length (wcs l) gs
def bM (l:List UInt8) (v:Value) (gs:Fs):Prop:=IsRow 5 1 v l.length (ucs l) gs
def ScO (ws:List Nat) (ms:List UInt8) (v:Value) (gs:Fs):Prop:=∃ s m g1 g2,v=.agg #[s,m]∧gs=g2++g1∧wM ws s g1∧bM ms m g2
theorem copied_calls (ws:List Nat) (ms:List UInt8) (s m:Value) (w:World) (hs:RowAt w 4 s ws.length (wcs ws)) (hm:RowAt w 1 m ms.length (ucs ms)) (hl:ws.length≤100000) (hl2:ms.length≤100000) :
  Calls Tryz.prog 135 #[.agg #[s,m]] w (RetG w [] (ScO ws ms)):=by
 obtain ⟨p,c,rfl,_,_⟩:=hs.form
 obtain ⟨p2,c2,rfl,_,_⟩:=hm.form
 refine enter (args:=[_]) _ [] [] Tryz.func135 rfl Tryz.ntmps135 rfl (by simp) .nil ?_
 (refine sRz ?_;apply zT;rfl;rfl;intro _;apply zU;rfl;intro _;refine nNz<|zI ?_)
 rename_i b1 b2
 apply CW.pre
 (refine AnyW.anyM [(2,wM ws),(5,bM ms)] 5 mixed (by decide +kernel) ?_)
 ((try simp only [tsOf_cons,tsOf_nil,tsOf_app]);refine dvz (.fieldAddr rfl rfl) ?_;apply qF;rfl;rfl;rfl;exact zC;rfl;apply zO;apply zP;exact zN;exact sc_rd0)
 (apply DW.manyV;rfl;rfl;rfl;exact zC;rfl;infer_instance;exact .cons rfl .nil;apply RdV.ext;assumption;rfl;exact RdV.nil;intro w _ _)
 exact CloneW_calls _ _ w (hs.bel (by assumption)) hl
 intro v1 g1 h1
 ((try simp only [tsOf_cons,tsOf_nil,tsOf_app]);refine dvz (.fieldAddr rfl rfl) ?_;apply qF;rfl;rfl;rfl;exact zC;rfl;apply zQ;apply zO;apply zP;exact zN;exact sc_rd1;apply DW.nil;simp only [fsOf_cons,fsOf_nil,fsOf_app,fsOf_tsOf,fsOf_new,fsOf_tag])
 (apply LW.callR;rfl;rfl;infer_instance;exact .cons rfl .nil;intro w hs)
 exact SK.Clone_calls _ _ w (hm.st hs) hl2
 intro v2 g2 h2
 have h1':=h1
 have h2':=h2
 unfold wM at h1'
 unfold bM at h2'
 obtain ⟨q1,k1,rfl⟩:=h1'.form
 obtain ⟨q2,k2,rfl⟩:=h2'.form
 (apply LW.v0;rfl;rfl;apply zW;infer_instance;infer_instance;apply zA;rfl;apply zA;rfl;exact zB;rfl;simp only [fillP,wrCells,Value.cells,qJ,qK,qL,qI,qN,qM,Nat.reduceAdd,qP];rfl;refine zR rfl rfl (.app (.app .head)) (.whole rfl rfl rfl)<|nNz<|zK ?_)
 refine fin (vs:=[.agg #[.slice q1 ws.length k1,.slice q2 ms.length k2]]) (g2++g1) (.inl rfl) rfl rfl (by (apply zD;apply zH;rfl;apply qG;apply zZ;apply zZ;apply zY;exact qH rfl;exact zF)) ?_ ⟨_,_,g1,g2,rfl,rfl,h1,h2⟩
 exact List.Sublist.append_left (qR _ _) _
section
section wr
variable {P : Program} {T E : TypeId} {s m z : Value} {p : Option Addr} {n c : Nat}
theorem sc_wr0 [InfoI P T 1 z]:Wr P T (.cells #[s,m] E (0,0)) 0 (.slice p n c) (.cells #[.slice p n c,m] E (0,0)):=Wr.cells (n:=1) (z:=z) rfl rfl (by show 0+1≤2;omega) rfl
theorem sc_wr1 [InfoI P T 1 z]:Wr P T (.cells #[s,m] E (0,0)) 1 (.slice p n c) (.cells #[s,.slice p n c] E (0,0)):=Wr.cells (n:=1) (z:=z) rfl rfl (by show 1+1≤2;omega) rfl
end wr
theorem push_full (ws:List Nat) (ms:List UInt8) (l:List Nat) (s m v:Value) (w:World) (hs:RowAt w 4 s ws.length (wcs ws)) (hm:RowAt w 1 m ms.length (ucs ms)) (hv:RowAt w 4 v l.length (wcs l)) (hok:okSc ws.length ms.length) (hll:l.length≤100000) (hf:64 < ws.length+l.length) :
  Calls Tryz.prog 119 #[.agg #[s,m],v] w (Ret w (.tuple #[.agg #[.slice none 0 0,.slice none 0 0],.int .i64 6])):=by
 obtain ⟨p,c,rfl,_,hc⟩:=hs.form
 obtain ⟨p2,c2,rfl,_,hc2⟩:=hm.form
 obtain ⟨p3,c3,rfl,_,_⟩:=hv.form
 have hC:∀ w,Calls Tryz.prog 84 #[.agg #[.slice p ws.length c,.slice p2 ms.length c2]] w (Ret w (.int .i64 0)):=fun w=>by
  have h:=scCheck_calls p p2 ws.length c ms.length c2 (by omega) (by omega) w
  rwa [if_pos hok] at h
 have hok2:=hok
 unfold okSc at hok2
 obtain ⟨hn1,hk1,hk2⟩:=hok2
 refine enter (args:=[_,_]) _ [] [] Tryz.func119 rfl Tryz.ntmps119 rfl (by simp) .nil ?_
 (refine sRz ?_;apply zT;rfl;rfl;intro _;apply zU;rfl;intro _;refine vAz<|nNz<|zI<|sRz<|ldz rfl (.tail .head) (qH rfl) ?_;apply zS;rfl;rfl;infer_instance;exact .cons rfl .nil;intro w _;exact hC w;refine vAz<|nSz<|vMz ?_;refine lvz (.neF rfl rfl (by omega)) ?_;refine nNz<|cFz<|zJ<|thenN<|zI<|sRz<|vFz<|ldz rfl (.tail .head) sc_rd0<|lvz (.lenR rfl inferInstance rfl)<|vMz<|lvz (.lenR rfl inferInstance rfl) ?_;refine lvz (.addZ rfl rfl (by omega)) ?_;refine lvz (.gtrT rfl rfl (by omega)) ?_;refine nNz<|cTz<|sRz ?_;apply LW.v0;rfl;rfl;apply zW;infer_instance;infer_instance;exact zB;rfl;simp only [fillP,wrCells,Value.cells,qJ,qK,qL,qI,qN,qM,Nat.reduceAdd,qP];rfl;refine zR rfl rfl .head (.whole rfl rfl rfl)<|vAz<|nNz<|zK<|thenR ?_)
 (apply finR;exact .inl rfl;rfl;rfl;rfl;apply zD;apply zH;rfl;apply qG;apply zY;exact qH rfl;apply zD;exact zG rfl;exact zF)
 rfl
theorem push_ok (ws:List Nat) (ms:List UInt8) (l:List Nat) (s m v:Value) (w:World) (hs:RowAt w 4 s ws.length (wcs ws)) (hm:RowAt w 1 m ms.length (ucs ms)) (hv:RowAt w 4 v l.length (wcs l)) (hok:okSc ws.length ms.length) (hll:l.length≤100000) (hf:ws.length+l.length≤64) :
  Calls Tryz.prog 119 #[.agg #[s,m],v] w (RetG w [] (fun r gs=>∃ o,r=.tuple #[o,.int .i64 0]∧ScO (ws++l) ms o gs)):=by
 have hs0:=hs
 have hm0:=hm
 obtain ⟨p,c,rfl,_,hc⟩:=hs.form
 obtain ⟨p2,c2,rfl,_,hc2⟩:=hm.form
 obtain ⟨p3,c3,rfl,_,_⟩:=id hv.form
 have hC:∀ w,Calls Tryz.prog 84 #[.agg #[.slice p ws.length c,.slice p2 ms.length c2]] w (Ret w (.int .i64 0)):=fun w=>by
  have h:=scCheck_calls p p2 ws.length c ms.length c2 (by omega) (by omega) w
  rwa [if_pos hok] at h
 have hok2:=hok
 unfold okSc at hok2
 obtain ⟨hn1,hk1,hk2⟩:=hok2
 refine enter (args:=[_,_]) _ [] [] Tryz.func119 rfl Tryz.ntmps119 rfl (by simp) .nil ?_
 (refine sRz ?_;apply zT;rfl;rfl;intro _;apply zU;rfl;intro _;refine vAz<|nNz<|zI<|sRz<|ldz rfl (.tail .head) (qH rfl) ?_;apply zS;rfl;rfl;infer_instance;exact .cons rfl .nil;intro w _;exact hC w;refine vAz<|nSz<|vMz ?_;refine lvz (.neF rfl rfl (by omega)) ?_;refine nNz<|cFz<|zJ<|thenN<|zI<|sRz<|vFz<|ldz rfl (.tail .head) sc_rd0<|lvz (.lenR rfl inferInstance rfl)<|vMz<|lvz (.lenR rfl inferInstance rfl) ?_;refine lvz (.addZ rfl rfl (by omega)) ?_;refine lvz (.gtrF rfl rfl (by omega)) ?_;refine nNz<|cFz<|zJ<|thenN<|sRz<|ldz rfl (.tail .head) (qH rfl) ?_)
 (apply LW.callR;rfl;rfl;infer_instance;exact .cons rfl .nil;intro w hs)
 exact copied_calls ws ms _ _ w (hs0.st hs) (hm0.st hs) (by omega) (by omega)
 rintro vo gso ⟨s1,m1,g1,g2,rfl,rfl,h1,h2⟩
 have h1':=h1
 have h2':=h2
 unfold wM at h1'
 unfold bM at h2'
 obtain ⟨q1,k1,rfl⟩:=h1'.form
 obtain ⟨q2,k2,rfl⟩:=h2'.form
 (apply zU;rfl;intro _;refine zR rfl rfl .head (.whole rfl rfl rfl)<|nSz<|vFz<|ldz rfl .head sc_rd0<|vMz ?_)
 rw [List.append_assoc]
 (apply LW.appendAny;(case hrow=>exact h1');rfl;rfl;infer_instance;infer_instance;infer_instance;rfl;rfl;rfl;(apply AtSeg.cons;apply AtSeg.app;exact AtSeg.head))
 ·exact fun w hs=>hv.st hs
 ·exact wcs_cells l
 ·simp only [maxLen];omega
 ·omega
 intro v1 seg1 hrow1
 refine ⟨_,(by (apply AtSeg.cons;apply AtSeg.app;exact AtSeg.head)),?_⟩
 simp only [List.nil_append,qP,List.append_nil] at hrow1 ⊢
 obtain ⟨q3,k3,rfl⟩:=hrow1.form
 (refine vFz ?_;refine zR rfl rfl .head sc_wr0<|nSz<|ldz rfl .head (qH rfl) ?_;refine zR rfl rfl (.tail (.app (.app .head))) (.whole rfl rfl rfl)<|vAz<|nNz<|zK ?_)
 refine fin (vs:=[.agg #[.slice q3 (ws.length+l.length) k3,.slice q2 ms.length k2],.int .i64 0]) (g2++seg1) (.inl rfl) rfl rfl (by (apply zD;apply zH;rfl;apply qG;apply zX;apply zZ;apply zZ;apply zY;exact qH rfl;apply zD;exact zG rfl;exact zF)) ?_ ⟨_,rfl,_,_,seg1,g2,rfl,rfl,?_,h2⟩
 ·exact qS _ (List.Sublist.append_left (qR _ _) _)
 ·unfold wM
  rw [List.length_append,wcs_app]
  exact hrow1
end
section
attribute [local irreducible] SL.inP
theorem lay_ok (w0:World) (S:List Nat) (b:Nat) (m:MaV) (ws:List Nat) (ms:List UInt8) (l:List Nat) (v:Value) (rest:Fs) (w:World) (hs:St w0 S ((b,maO m)::rest) w)
  (h1:∀ w',St w0 S ((b,maO m)::rest) w'→RowAt w' 4 m.fr.stk ws.length (wcs ws)∧RowAt w' 1 m.fr.mem ms.length (ucs ms)∧RowAt w' 4 v l.length (wcs l)) (hok:okSc ws.length ms.length) (hll:l.length≤100000) (hf:ws.length+l.length≤64) :
  Calls Tryz.prog 74 #[.pointer (some ⟨b,0,none⟩),v] w (fun x w'=>∃ fs',(x=.returned (.tuple #[])∧∃ s k gs c4,ScO (ws++l) ms (.agg #[s,k]) gs∧fs'=c4::(gs++(b,maO (m.setSc s k))::rest))∧St w0 S fs' w'):=by
 refine calls_inlineP (K:=fun x fs'=>x=.returned (.tuple #[])∧∃ s k gs c4,ScO (ws++l) ms (.agg #[s,k]) gs∧fs'=c4::(gs++(b,maO (m.setSc s k))::rest)) (args:=[_,_]) Tryz.func74 rfl Tryz.ntmps74 rfl ?_ hs
 (refine sRz<|vMz<|vNz<|vFz<|vFz<|ldz rfl .head ma_rd2<|vMz ?_)
 (apply LW.callR;rfl;rfl;infer_instance;exact .cons rfl (.cons rfl .nil);intro w hs)
 exact push_ok ws ms l _ _ _ w (h1 w hs).1 (h1 w hs).2.1 (h1 w hs).2.2 hok hll hf
 rintro vo gso ⟨o,rfl,s1,m1,g1,g2,rfl,rfl,hw1,hb1⟩
 have hw1':=hw1
 have hb1':=hb1
 unfold wM at hw1'
 unfold bM at hb1'
 obtain ⟨q1,k1,rfl⟩:=hw1'.form
 obtain ⟨q2,k2,rfl⟩:=hb1'.form
 (refine vMz ?_;refine vEz ?_;refine vEz ?_;apply zU;rfl;intro _;refine zR rfl rfl .head (.whole rfl rfl rfl)<|vAz<|nSz<|vMz ?_;refine lvz (.eqT rfl rfl (by omega)) ?_;apply zS;rfl;rfl;infer_instance;exact .cons rfl .nil;intro w _;exact need_true w;refine nNz<|zL<|vMz<|ldz rfl .head (qH rfl)<|vNz<|vFz<|vFz ?_;refine zR rfl rfl (.tail (.app .head)) (ma_wr2 rfl rfl rfl rfl) ?_;apply zV)
 exact inPI (.inr rfl) .nil rfl .nil rfl ⟨rfl,_,_,g2++g1,_,⟨_,_,g1,g2,rfl,rfl,hw1,hb1⟩,rfl⟩
theorem lay_full (w0:World) (S:List Nat) (b:Nat) (m:MaV) (ws:List Nat) (ms:List UInt8) (l:List Nat) (v:Value) (rest:Fs) (w:World) (hs:St w0 S ((b,maO m)::rest) w)
  (h1:∀ w',St w0 S ((b,maO m)::rest) w'→RowAt w' 4 m.fr.stk ws.length (wcs ws)∧RowAt w' 1 m.fr.mem ms.length (ucs ms)∧RowAt w' 4 v l.length (wcs l)) (hok:okSc ws.length ms.length) (hll:l.length≤100000) (hf:64 < ws.length+l.length) :
  Calls Tryz.prog 74 #[.pointer (some ⟨b,0,none⟩),v] w (fun x w'=>∃ fs',(x=.panicked failC∧∃ c4,fs'=c4::(b,maO m)::rest)∧St w0 S fs' w'):=by
 have hP:∀ w',St w0 S ((b,maO m)::rest) w'→Calls Tryz.prog 119 #[.agg #[m.fr.stk,m.fr.mem],v] w' (Ret w' (.tuple #[.agg #[.slice none 0 0,.slice none 0 0],.int .i64 6])):=fun w' hst =>
  push_full ws ms l _ _ _ w' (h1 w' hst).1 (h1 w' hst).2.1 (h1 w' hst).2.2 hok hll hf
 refine calls_inlineP (K:=fun x fs'=>x=.panicked failC∧∃ c4,fs'=c4::(b,maO m)::rest) (args:=[_,_]) Tryz.func74 rfl Tryz.ntmps74 rfl ?_ hs
 (refine sRz<|vMz<|vNz<|vFz<|vFz<|ldz rfl .head ma_rd2<|vMz ?_;apply zS;rfl;rfl;infer_instance;exact .cons rfl (.cons rfl .nil);intro w _;exact hP w (by assumption);refine vMz ?_;refine vEz ?_;refine vEz ?_;apply zU;rfl;intro _;refine zR rfl rfl .head (.whole rfl rfl rfl)<|vAz<|nSz<|vMz ?_;refine lvz (.eqF rfl rfl (by omega)) ?_)
 rename_i b4
 refine LW.callP (K:=NeedK ((b4,.cells #[.slice none 0 0,.slice none 0 0] 25 (0,0))::(b,maO m)::rest)) rfl rfl inferInstance (by (exact .cons rfl .nil)) rfl (fun fs h=>by cases h.1) (fun w' hst=>need_false w0 S _ w' hst) ?_ ?_
 ·rintro v fs' ⟨h,_⟩
  cases h
 ·rintro ch fs' ⟨h,rfl⟩
  cases h
  refine thenP ?_
  exact inPP .nil ⟨rfl,_,rfl⟩
end
end Go.Proofs.YtdeggbkbblfpoaaGreatDoor
namespace Go.Proofs.YtdeggbkbblfpoaaGreatDoor.SL
set_option linter.unusedVariables false
open Go Go.RowKit
section mm
variable {P : Program} {e : Env} {x y : Operand} {tys : Array TypeId} {m n : Nat} {ik : IntKind}
theorem ValP.maxD (hx:e.ev x=some (.int ik ((m:Int) - (n:Int)))) (hy:e.ev y=some (.int ik 0)):ValP P e [] (.call { callee:=.builtin .max,args:=#[x,y],argTypes:=tys }) (.int ik ((m - n:Nat):Int)):=fun ρ w hρ _ d t pos af g=>by
 have h:(if (0:Int) > (m:Int) - (n:Int) then (0:Int) else (m:Int) - (n:Int))=((m - n:Nat):Int):=by split<;>omega
 have h2:=run_max_int2 (P:=P) (w:=w) tys t ik ik ((m:Int) - (n:Int)) 0
 rw [h] at h2
 simp [execOp,resolve,invoke,builtin,hρ x _ hx,hρ y _ hy,h2]
end mm
end Go.Proofs.YtdeggbkbblfpoaaGreatDoor.SL
namespace Go.Proofs.YtdeggbkbblfpoaaGreatDoor
open Go Go.RowKit SL
set_option maxRecDepth 8000
set_option maxHeartbeats 4000000
set_option linter.unusedSimpArgs false
set_option linter.unusedVariables false
attribute [local irreducible] SL.CW SL.LW SL.DW Calls SL.Ret SL.RetG SL.beginQ SL.roundQ SL.rangeQ SL.inQ SL.RW SL.AnyW SL.thenQ SL.thenC SL.thenW SL.blkQ SL.finQ SL.ValP SL.NewP SL.SetP SL.CallP SL.Rd SL.Wr SL.Known
def upW (n:Nat):Nat:=(n+31) / 32 * 32
theorem grow_ok (ws:List Nat) (ms:List UInt8) (n:Nat) (s m:Value) (w:World) (hs:RowAt w 4 s ws.length (wcs ws)) (hm:RowAt w 1 m ms.length (ucs ms)) (hok:okSc ws.length ms.length) (hn:0 < n) (hn2:n≤1024) :
  Calls Tryz.prog 122 #[.agg #[s,m],.int .u64 0,.int .u64 (n:Int)] w (RetG w [] (fun r gs=>∃ o,r=.tuple #[o,.int .i64 0]∧ScO ws (ms++List.replicate (upW n - ms.length) 0) o gs)):=by
 have hs0:=hs
 have hm0:=hm
 obtain ⟨p,c,rfl,_,hc⟩:=hs.form
 obtain ⟨p2,c2,rfl,_,hc2⟩:=hm.form
 have hC:∀ w,Calls Tryz.prog 84 #[.agg #[.slice p ws.length c,.slice p2 ms.length c2]] w (Ret w (.int .i64 0)):=fun w=>by
  have h:=scCheck_calls p p2 ws.length c ms.length c2 (by omega) (by omega) w
  rwa [if_pos hok] at h
 have hok2:=hok
 unfold okSc at hok2
 obtain ⟨hn1,hk1,hk2⟩:=hok2
 refine enter (args:=[_,_,_]) _ [] [] Tryz.func122 rfl Tryz.ntmps122 rfl (by simp) .nil ?_
 (refine sRz ?_;apply zT;rfl;rfl;intro _;apply zU;rfl;intro _;refine vAz<|nNz<|zI<|sRz<|ldz rfl (.tail .head) (qH rfl) ?_;apply zS;rfl;rfl;infer_instance;exact .cons rfl .nil;intro w _;exact hC w;refine vAz<|nSz<|vMz ?_;refine lvz (.neF rfl rfl (by omega)) ?_;refine nNz<|cFz<|zJ<|thenN<|sRz<|ldz rfl (.tail .head) (qH rfl) ?_)
 (apply LW.callR;rfl;rfl;infer_instance;exact .cons rfl .nil;intro w hs)
 exact copied_calls ws ms _ _ w (hs0.st hs) (hm0.st hs) (by omega) (by omega)
 rintro vo gso ⟨s1,m1,g1,g2,rfl,rfl,h1,h2⟩
 have h1':=h1
 have h2':=h2
 unfold wM at h1'
 unfold bM at h2'
 obtain ⟨q1,k1,rfl⟩:=h1'.form
 obtain ⟨q2,k2,rfl⟩:=h2'.form
 (apply zU;rfl;intro _;refine zR rfl rfl .head (.whole rfl rfl rfl)<|nNz<|zI<|sRz<|vMz ?_;refine lvz (.eqF rfl rfl (by omega)) ?_;refine nNz<|cFz<|zJ<|thenN<|zI<|sRz<|vMz ?_;refine lvz (.gtrF rfl rfl (by omega)) ?_;refine vMz<|gTz<|vMz<|gTz ?_;refine lvz (.gtrF rfl rfl (by omega)) ?_;refine pFz<|vMz<|gTz<|vMz<|gTz<|vMz<|gTz ?_;refine lvz (.addNK rfl rfl (by decide)) ?_;refine gTz ?_;refine lvz (.gtrF rfl rfl (by omega)) ?_;refine pFz<|nNz<|cFz<|zJ<|thenN<|sRz<|vMz<|vMz ?_;refine lvz (.addNK rfl rfl (by decide)) ?_;refine lvz (.convI rfl (by omega) (by omega)) ?_;refine lvz (.addZL rfl rfl (by decide) (by omega)) ?_;refine lvz (.subZL rfl rfl (by decide) (by omega) (by omega)) ?_;refine lvz (.quoZL rfl rfl (by decide) (by omega) (by omega)) ?_;refine lvz (.mulZL rfl rfl (by decide) (by omega)) ?_;refine vAz<|nNz<|zI<|sRz<|vMz<|vFz<|ldz rfl .head sc_rd1<|lvz (.lenR rfl inferInstance rfl) ?_;refine lvz (.subI rfl rfl (by omega) (by omega)) ?_;apply LW.v0;rfl;rfl;apply ValP.maxD;rfl;rfl;refine vMz<|nNz<|zM ?_)
 rename_i b3 b6 b9
 obtain ⟨D,hD⟩:∃ D,D=((0+n) % 18446744073709551616+32 - 1) / 32 * 32 - ms.length:=⟨_,rfl⟩
 have hDu:D=upW n - ms.length:=by unfold upW;omega
 rw [← hD]
 refine CW.loop (fun x:Nat × Option Addr × Nat × Fs=>([(9,.pointer (some ⟨b9,0,none⟩)),(6,.pointer (some ⟨b6,0,none⟩)),(48,.int .i64 (D:Int)),(49,.int .i64 (x.1:Int))],(b9,.cells #[.slice q1 ws.length k1,.slice x.2.1 (ms.length+x.1) x.2.2.1] 25 (0,0))::(x.2.2.2++(g1++[(b6,.cells #[.slice none 0 0,.slice none 0 0] 25 (0,0))]))))
  (fun x=>x.1≤D∧IsRow 5 1 (.slice x.2.1 (ms.length+x.1) x.2.2.1) (ms.length+x.1) (ucs (ms++List.replicate x.1 0)) x.2.2.2) (fun x=>D - x.1) (0,q2,k2,g2) ⟨Nat.zero_le _,by simpa using h2'⟩ ⟨rfl,rfl,rfl,rfl,trivial⟩ (by simp) ?_
 rintro ⟨k,q,kc,seg⟩ ⟨hk,hrow⟩
 dsimp only at hk hrow ⊢
 rcases Nat.lt_or_ge k D with hlt|hge
 ·(refine sRz ?_;refine lvz (.lssT rfl rfl (by omega)) ?_;refine nNz<|zI<|cTz<|zJ<|thenN<|zI<|zM<|zL<|vFz<|ldz rfl .head sc_rd1 ?_;apply LW.lay1;rfl;infer_instance;infer_instance;rfl;rfl;rfl;rfl;rfl;rfl;intro _)
  (apply LW.append;rfl;rfl;infer_instance;infer_instance;infer_instance;rfl;rfl;rfl;(case hrow=>assumption);apply AtSeg.cons;apply AtSeg.cons;exact AtSeg.head;apply qG;apply zY;rfl;rfl;rfl;omega;simp only [maxLen];omega;omega;intro v' seg' hrow';obtain ⟨p',c',rfl⟩:=hrow'.form;(refine ⟨_,(by (repeat (first|exact AtSeg.head|apply AtSeg.cons|apply AtSeg.app))),?_⟩);(try simp only [List.cons_append,List.nil_append]))
  (refine vFz ?_;refine zR rfl rfl (.tail .head) sc_wr1 ?_;apply zV;refine blkN<|thenN<|zL ?_;refine lvz (.addZL rfl rfl (by decide) (by omega)) ?_;refine vMz ?_;apply zV)
  apply thenX
  refine ⟨rfl,(k+1,p',c',seg'),⟨hlt,?_⟩,by show D - (k+1) < D - k;omega,⟨rfl,rfl,rfl,rfl,trivial⟩,qS _ (qO _)⟩
  have e:ucs (ms++List.replicate (k+1) 0)=ucs (ms++List.replicate k 0)++[.int .u8 0]:=by
   rw [List.replicate_succ',← List.append_assoc]
   simp [ucs]
  dsimp only
  rw [e]
  exact hrow'
 ·(refine sRz ?_;refine lvz (.lssF rfl rfl (by omega)) ?_;refine nNz<|zI<|cFz<|CW.exit<|thenE<|thenE<|blkE rfl<|thenN<|sRz<|ldz rfl .head (qH rfl) ?_;refine zR rfl rfl (.tail (.app (.app .head))) (.whole rfl rfl rfl)<|vAz<|nNz<|zK ?_)
  obtain rfl:k=D:=by omega
  rw [← hDu]
  refine fin (vs:=[.agg #[.slice q1 ws.length k1,.slice q (ms.length+k) kc],.int .i64 0]) (seg++g1) (.inl rfl) rfl rfl (by (apply zD;apply zH;rfl;apply qG;apply zX;apply zZ;apply zZ;apply zY;exact qH rfl;apply zD;exact zG rfl;exact zF)) ?_ ⟨_,rfl,_,_,g1,seg,rfl,rfl,h1,?_⟩
  ·exact qS _ (List.Sublist.append_left (qR _ _) _)
  ·unfold bM
   rw [List.length_append,List.length_replicate]
   exact hrow
section
theorem st_sub {w0 w:World} {S:List Nat} {fs gs:Fs} (h:St w0 S fs w) (hg:List.Sublist gs fs):St w0 S gs w:=⟨h.bel,fun p hp=>h.own p (hg.subset hp),h.nd.sublist hg⟩
attribute [local irreducible] SL.inP
theorem reach_gas (w0:World) (S:List Nat) (b:Nat) (m:MaV) (a n k:Nat) (p2:Option Addr) (c2:Nat) (ha:a < M256) (hn:n < M256) (hE:endV a n < 18446744073709551616) (hk:k≤1024) (hg:m.fr.gas < 18446744073709551616) (hm:m.fr.mem=.slice p2 k c2) (rest:Fs) (w:World) (hs:St w0 S ((b,maO m)::rest) w)
  (hcost:m.fr.gas < memV k (endV a n)) :
  Calls Tryz.prog 77 #[.pointer (some ⟨b,0,none⟩),wv a,wv n] w (fun x w'=>∃ fs',(x=.panicked failC∧∃ ex,fs'=(b,maO m)::(ex++rest))∧St w0 S fs' w'):=by
 have hmem:∀ {E fr},Rd Tryz.prog 22 (.cells (mca m) E fr) 3 (.slice p2 k c2):=fun {E fr}=>by rw [← hm];exact ma_rd3
 refine calls_inlineP (K:=fun x fs'=>x=.panicked failC∧∃ ex,fs'=(b,maO m)::(ex++rest)) (args:=[_,_,_]) Tryz.func77 rfl Tryz.ntmps77 rfl ?_ hs
 (refine sRz ?_;apply zT;rfl;rfl;intro _;apply zT;rfl;rfl;intro _;refine vAz<|vAz<|nSz<|ldz rfl (.tail .head) (qH rfl)<|ldz rfl .head (qH rfl) ?_;apply zS;rfl;rfl;infer_instance;exact .cons rfl (.cons rfl .nil);intro w _;exact End_calls a n ha hn w;refine vAz<|nSz<|vMz<|vMz<|vNz<|vFz<|vFz<|vFz<|ldz rfl (.tail (.tail .head)) hmem<|lvz (.lenR rfl inferInstance rfl) ?_;refine lvz (.convN rfl (by omega) (by omega)) ?_;refine vMz ?_;apply zS;rfl;rfl;infer_instance;exact .cons rfl (.cons rfl .nil);intro w _;exact Memory_calls _ _ (by omega) hE w;apply LW.lay1;rfl;infer_instance;infer_instance;rfl;rfl;rfl;rfl;rfl;rfl;intro _)
 rename_i b4 b5 b29
 obtain ⟨c,hc⟩:∃ c,c=memV k (endV a n):=⟨_,rfl⟩
 rw [← hc] at hcost ⊢
 have hsp:spendM m [c]=none:=by unfold spendM;rw [if_neg (by simp;omega)]
 refine LW.perm (fs':=(b,maO m)::(b29,.cells #[.int .u64 (c:Int)] 26 (0,0))::(b5,.cells (wc n) 29 (0,0))::(b4,.cells (wc a) 29 (0,0))::rest) (by exact (List.perm_middle (l₁:=[_,_,_])).symm) ?_
 refine LW.callP (K:=MaK b m (spendM m [c]) _) rfl rfl inferInstance (by (exact .cons rfl (.cons rfl .nil))) rfl (fun fs h=>?_) (fun w' hst=>spend_calls w0 S b m [c] hg _ _ w' hst (fun w2 h2=>row_cells (h2.own (b29,_) (List.Mem.tail _ (List.Mem.head _))).2 rfl rfl (by simp [maxLen]))) ?_ ?_
 ·rw [hsp] at h;cases h.1
 ·rintro v fs' h
  rw [hsp] at h;cases h.1
 ·rintro ch fs' h
  rw [hsp] at h
  obtain ⟨h,rfl⟩:=h
  cases h
  refine thenP ?_
  exact inPP .nil ⟨rfl,[_,_,_],rfl⟩
theorem reach_none (w0:World) (S:List Nat) (b:Nat) (m:MaV) (a n k:Nat) (hn0:n=0) (p2:Option Addr) (c2:Nat) (ha:a < M256) (hk:k≤1024) (hg:m.fr.gas < 18446744073709551616) (hm:m.fr.mem=.slice p2 k c2) (rest:Fs) (w:World) (hs:St w0 S ((b,maO m)::rest) w) :
  Calls Tryz.prog 77 #[.pointer (some ⟨b,0,none⟩),wv a,wv n] w (fun x w'=>∃ fs',(x=.returned (.tuple #[.int .u64 0,.int .u64 0])∧∃ ex,fs'=(b,maO m)::(ex++rest))∧St w0 S fs' w'):=by
 have hmem:∀ {E fr},Rd Tryz.prog 22 (.cells (mca m) E fr) 3 (.slice p2 k c2):=fun {E fr}=>by rw [← hm];exact ma_rd3
 have hE:endV a n < 18446744073709551616:=by simp [endV,hn0]
 have hn:n < M256:=by rw [hn0];decide
 have he:endV a n=0:=by simp [endV,hn0]
 refine calls_inlineP (K:=fun x fs'=>x=.returned (.tuple #[.int .u64 0,.int .u64 0])∧∃ ex,fs'=(b,maO m)::(ex++rest)) (args:=[_,_,_]) Tryz.func77 rfl Tryz.ntmps77 rfl ?_ hs
 (refine sRz ?_;apply zT;rfl;rfl;intro _;apply zT;rfl;rfl;intro _;refine vAz<|vAz<|nSz<|ldz rfl (.tail .head) (qH rfl)<|ldz rfl .head (qH rfl) ?_;apply zS;rfl;rfl;infer_instance;exact .cons rfl (.cons rfl .nil);intro w _;exact End_calls a n ha hn w;refine vAz<|nSz<|vMz<|vMz<|vNz<|vFz<|vFz<|vFz<|ldz rfl (.tail (.tail .head)) hmem<|lvz (.lenR rfl inferInstance rfl) ?_;refine lvz (.convN rfl (by omega) (by omega)) ?_;refine vMz ?_;apply zS;rfl;rfl;infer_instance;exact .cons rfl (.cons rfl .nil);intro w _;exact Memory_calls _ _ (by omega) hE w;apply LW.lay1;rfl;infer_instance;infer_instance;rfl;rfl;rfl;rfl;rfl;rfl;intro _)
 rename_i b4 b5 b29
 have hc:memV k (endV a n)=0:=by rw [he];simp [memV]
 rw [hc,he]
 have hsp:spendM m [0]=some m:=by unfold spendM;rw [if_pos (by simp)];rfl
 refine LW.perm (fs':=(b,maO m)::(b29,.cells #[.int .u64 ((0:Nat):Int)] 26 (0,0))::(b5,.cells (wc n) 29 (0,0))::(b4,.cells (wc a) 29 (0,0))::rest) (by exact (List.perm_middle (l₁:=[_,_,_])).symm) ?_
 refine LW.callP (K:=MaK b m (spendM m [0]) _) rfl rfl inferInstance (by (exact .cons rfl (.cons rfl .nil))) rfl (fun fs h=>?_) (fun w' hst=>spend_calls w0 S b m [0] hg _ _ w' hst (fun w2 h2=>row_cells (h2.own (b29,_) (List.Mem.tail _ (List.Mem.head _))).2 rfl rfl (by simp [maxLen]))) ?_ ?_
 ·rw [hsp] at h;cases h.1
 ·rintro v fs' h
  rw [hsp] at h
  obtain ⟨h,rfl⟩:=h
  (refine nNz<|zI<|sRz<|vMz ?_;refine lvz (.eqT rfl rfl (by omega)) ?_;refine nNz<|cTz<|sRz<|vAz<|vAz<|nNz<|zK<|thenR ?_)
  exact inPI (.inl rfl) .nil rfl (by (apply zD;exact zG rfl;apply zD;exact zG rfl;exact zF)) rfl ⟨rfl,[_,_,_],rfl⟩
 ·rintro ch fs' h
  rw [hsp] at h;cases h.1
end
end Go.Proofs.YtdeggbkbblfpoaaGreatDoor
namespace Go.Proofs.YtdeggbkbblfpoaaGreatDoor.CK
open Go Go.RowKit SL
set_option maxRecDepth 8000
set_option maxHeartbeats 4000000
set_option linter.unusedSimpArgs false
set_option linter.unusedVariables false
attribute [local irreducible] SL.CW SL.LW SL.DW Calls SL.Ret SL.RetG SL.beginQ SL.roundQ SL.rangeQ SL.inQ SL.RW SL.AnyW SL.thenQ SL.thenC SL.thenW SL.blkQ SL.finQ SL.ValP SL.NewP SL.SetP SL.CallP SL.Rd SL.Wr SL.Known


theorem ucs_app (a b:List UInt8):ucs (a++b)=ucs a++ucs b:=by simp [ucs]

section
attribute [local irreducible] opOf
def szOf (b:Nat):Nat:=match opOf b with
 |some x=>x.dt
 |none=>0
attribute [local irreducible] szOf
theorem CheckC_calls (v:Value) (n:Nat) (xs:List Value) (w:World) (hv:RowAt w 1 v n xs):Calls Tryz.prog 83 #[v] w (Ret w (.int .i64 (if n≤200 then 0 else 3))):=by
 obtain ⟨p,c,rfl,hc,hm⟩:=hv.form
 refine enter (args:=[_]) _ [] [] Tryz.func83 rfl Tryz.ntmps83 rfl (by simp) .nil ?_
 rcases Nat.lt_or_ge 200 n with h|h
 ·rw [if_neg (by omega)]
  (refine sRz<|vAz<|nNz<|zI<|sRz<|vMz<|lvz (.lenR rfl inferInstance rfl) ?_;refine lvz (.gtrT rfl rfl (by omega)) ?_;refine nNz<|cTz<|sRz<|vAz<|nNz<|zK<|thenR ?_)
  (apply finR;exact .inl rfl;rfl;rfl;rfl;apply zD;exact zG rfl;exact zF)
  rfl
 ·rw [if_pos h]
  (refine sRz<|vAz<|nNz<|zI<|sRz<|vMz<|lvz (.lenR rfl inferInstance rfl) ?_;refine lvz (.gtrF rfl rfl (by omega)) ?_;refine nNz<|cFz<|zJ<|thenN<|sRz<|vAz<|nNz<|zK ?_)
  (apply finR;exact .inl rfl;rfl;rfl;rfl;apply zD;exact zG rfl;exact zF)
  rfl
end
section
def opAt (b:Nat):OpV:=match opOf b with
 |some x=>x
 |none=>⟨b,[],0,0,0⟩
theorem opAt_dt (b:Nat):(opAt b).dt=szOf b:=by unfold opAt szOf;cases opOf b<;>rfl
theorem row_c {b:Nat} {x:OpV} (h:rowOp b=some x):x.c=b:=by
 unfold rowOp at h
 split at h
 ·cases h;rfl
 ·split at h
  ·cases h;rfl
  ·split at h
   ·cases h;rfl
   ·cases h
theorem opOf_c {b:Nat} {x:OpV} (h:opOf b=some x):x.c=b:=by
 unfold opOf at h
 cases hr:rowOp b with
 |some y=>rw [hr] at h;cases h;exact row_c hr
 |none=>rw [hr] at h;simpa using List.find?_some h
theorem opAt_c (b:Nat):(opAt b).c=b:=by
 unfold opAt
 cases h:opOf b with
 |none=>rfl
 |some x=>exact opOf_c h
theorem row_dt {b:Nat} {x:OpV} (h:rowOp b=some x):x.dt≤32:=by
 unfold rowOp at h
 split at h
 ·cases h;dsimp only;omega
 ·split at h
  ·cases h;exact Nat.zero_le _
  ·split at h
   ·cases h;exact Nat.zero_le _
   ·cases h
theorem plain_dt:∀ x∈plainOps,x.dt=0:=by decide
theorem opOf_dt {b:Nat} {x:OpV} (h:opOf b=some x):x.dt≤32:=by
 unfold opOf at h
 cases hr:rowOp b with
 |some y=>rw [hr] at h;cases h;exact row_dt hr
 |none=>rw [hr] at h;rw [plain_dt x (List.mem_of_find?_eq_some h)];exact Nat.zero_le _
theorem szOf_le (b:Nat):szOf b≤32:=by
 unfold szOf
 cases h:opOf b with
 |none=>exact Nat.zero_le _
 |some x=>exact opOf_dt h
attribute [local irreducible] opOf
def segsAt (p:Nat) (bs:List UInt8):List (Nat × UInt8 × List UInt8):=match bs with
 |[]=>[]
 |b::r=>(p,b,r.take (szOf b.toNat))::segsAt (p+1+szOf b.toNat) (r.drop (szOf b.toNat))
termination_by bs.length
decreasing_by simp [List.length_drop];omega
theorem segsAt_nil (p:Nat):segsAt p []=[]:=by rw [segsAt]
theorem segsAt_cons (p:Nat) (b:UInt8) (r:List UInt8):segsAt p (b::r)=(p,b,r.take (szOf b.toNat))::segsAt (p+1+szOf b.toNat) (r.drop (szOf b.toNat)):=by rw [segsAt]
theorem segs_step (bs:List UInt8) (p:Nat) (h:p < bs.length):segsAt p (bs.drop p)=(p,bs.getD p 0,(bs.drop (p+1)).take (szOf (bs.getD p 0).toNat))::segsAt (p+szOf (bs.getD p 0).toNat+1) (bs.drop (p+szOf (bs.getD p 0).toNat+1)):=by
 rw [List.drop_eq_getElem_cons h,segsAt_cons,List.drop_drop,show bs[p]=bs.getD p 0 by simp [h],Nat.add_right_comm p 1]
theorem segs_end (bs:List UInt8) (p q:Nat) (h:bs.length≤p):segsAt q (bs.drop p)=[]:=by rw [List.drop_eq_nil_of_le h,segsAt_nil]
def jmpOf (L:List (Nat × UInt8 × List UInt8)):List Nat:=L.filterMap fun s=>if s.2.1.toNat=91 then some s.1 else none
def jumpsL (bs:List UInt8):List Nat:=jmpOf (segsAt 0 bs)
theorem jmpOf_hit {p:Nat} {u:UInt8} {d:List UInt8} {L:List (Nat × UInt8 × List UInt8)} (h:u.toNat=91):jmpOf ((p,u,d)::L)=p::jmpOf L:=by unfold jmpOf;exact List.filterMap_cons_some (if_pos h)
theorem jmpOf_miss {p:Nat} {u:UInt8} {d:List UInt8} {L:List (Nat × UInt8 × List UInt8)} (h:¬ u.toNat=91):jmpOf ((p,u,d)::L)=jmpOf L:=by unfold jmpOf;exact List.filterMap_cons_none (if_neg h)
structure JX where
 p:Nat
 J:List Nat
 v:Value
 seg:Fs
def JumpsR (bs:List UInt8) (v:Value) (gs:Fs):Prop:=IsRow 3 1 v (if bs.length≤200 then jumpsL bs else []).length (ics (if bs.length≤200 then jumpsL bs else [])) gs
theorem Jumps_calls (bs:List UInt8) (v:Value) (w:World) (hv:RowAt w 1 v bs.length (ucs bs)):Calls Tryz.prog 227 #[v] w (RetG w [] (JumpsR bs)):=by
 have hCk0:∀ w' {fs},St w [] fs w'→Calls Tryz.prog 83 #[v] w' (Ret w' (.int .i64 (if bs.length≤200 then 0 else 3))):=fun w' fs hst=>CheckC_calls v bs.length (ucs bs) w' (hv.st hst)
 obtain ⟨p0,c0,rfl,_,_⟩:=hv.form
 unfold JumpsR
 refine enter (args:=[_]) _ [] [] Tryz.func227 rfl Tryz.ntmps227 rfl (by simp) .nil ?_
 rcases Nat.lt_or_ge 200 bs.length with hgt|hle
 ·rw [if_neg (by omega)]
  have hCk:∀ w' {fs},St w [] fs w'→Calls Tryz.prog 83 #[.slice p0 bs.length c0] w' (Ret w' (.int .i64 3)):=by rw [if_neg (by omega)] at hCk0;exact hCk0
  (refine sRz<|vAz<|nSz ?_;apply LW.alloc1;rfl;rfl;intro _;refine nNz<|zI<|sRz<|vMz ?_)
  apply LW.inline
  rfl
  rfl
  infer_instance
  (exact .cons rfl .nil)
  rfl
  exact Tryz.func200
  rfl
  exact Tryz.ntmps200
  rfl
  (refine sRz ?_;apply LW.box1;rfl;rfl;rfl;intro _;refine vAz<|nSz ?_;apply LW.v0;rfl;rfl;apply ValP.makeFunc;exact ArgsOk.nil;exact .cons rfl .nil;refine vAz<|nNz<|zK ?_)
  apply inI
  (exact .inl rfl)
  (exact Shut.nil)
  rfl
  (apply zD;exact zG rfl;exact zF)
  rfl
  (refine nNz<|zM ?_)
  apply CW.rangeFunc
  rfl
  rfl
  infer_instance
  rfl
  exact Tryz.func218
  rfl
  exact Tryz.ntmps218
  rfl
  rfl
  intro l r rec hrec
  (refine zI<|sRz<|ldz rfl (.tail (.tail .head)) (Rd.one' rfl) ?_;apply zS;rfl;rfl;infer_instance;exact .cons rfl .nil;intro w _;exact hCk w (by assumption);refine lvz (.neT rfl rfl (by omega)) ?_;refine nNz<|cTz<|zK<|thenR ?_)
  apply rangeN
  (exact .inl rfl)
  (exact Shut.nil)
  (apply qA)
  (refine blkN<|thenM<|sRz<|ldz rfl (.tail (.tail (.tail .head))) (Rd.one' rfl)<|vAz<|nNz<|zK ?_)
  apply finM [];(exact .inl rfl);(apply Shut.cons;apply qD;apply qA;exact Shut.nil);rfl;(apply zD;exact zG rfl;exact zF);exact List.nil_sublist _
  exact .nil
 ·rw [if_pos hle]
  have hCk:∀ w' {fs},St w [] fs w'→Calls Tryz.prog 83 #[.slice p0 bs.length c0] w' (Ret w' (.int .i64 0)):=by rw [if_pos hle] at hCk0;exact hCk0
  obtain ⟨T,hT⟩:∃ T,jumpsL bs=T:=⟨_,rfl⟩
  rw [hT]
  (refine sRz<|vAz<|nSz ?_;apply LW.alloc1;rfl;rfl;intro _;refine nNz<|zI<|sRz<|vMz ?_)
  apply LW.inline
  rfl
  rfl
  infer_instance
  (exact .cons rfl .nil)
  rfl
  exact Tryz.func200
  rfl
  exact Tryz.ntmps200
  rfl
  (refine sRz ?_;apply LW.box1;rfl;rfl;rfl;intro _;refine vAz<|nSz ?_;apply LW.v0;rfl;rfl;apply ValP.makeFunc;exact ArgsOk.nil;exact .cons rfl .nil;refine vAz<|nNz<|zK ?_)
  apply inI
  (exact .inl rfl)
  (exact Shut.nil)
  rfl
  (apply zD;exact zG rfl;exact zF)
  rfl
  (refine nNz<|zM ?_)
  apply CW.rangeFunc
  rfl
  rfl
  infer_instance
  rfl
  exact Tryz.func218
  rfl
  exact Tryz.ntmps218
  rfl
  rfl
  intro l r rec hrec
  (refine zI<|sRz<|ldz rfl (.tail (.tail .head)) (Rd.one' rfl) ?_;apply zS;rfl;rfl;infer_instance;exact .cons rfl .nil;intro w _;exact hCk w (by assumption);refine lvz (.neF rfl rfl (by omega)) ?_;refine nNz<|cFz<|zJ<|thenN<|sRz<|vAz<|nNz<|zM ?_)
  rename_i bo bb
  refine CW.loop (fun x:JX=>([(3,.int .i64 (x.p:Int)),(0,.func (.yield l) #[] #[]),(1,.pointer (some ⟨bb,0,none⟩))],
   x.seg++[(l,rdy rec),(r,.deferred (some [])),(bb,.cells #[.slice p0 bs.length c0] 22 (0,0)),(bo,.cells #[x.v] 176 (0,0))]))
   (fun x=>x.J++jmpOf (segsAt x.p (bs.drop x.p))=T∧x.p≤300∧x.J.length≤x.p∧IsRow 3 1 x.v x.J.length (ics x.J) x.seg) (fun x=>bs.length - x.p) ⟨0,[],.slice none 0 0,[]⟩ ⟨by rw [List.drop_zero];exact hT,by decide,by decide,.nil⟩ ⟨rfl,rfl,rfl,trivial⟩ (qO _) ?_
  rintro ⟨p,J,v,seg⟩ ⟨hJ,hp,hJl,hrow⟩
  dsimp only at hJ hp hJl hrow ⊢
  rcases Nat.lt_or_ge p bs.length with hlt|hge
  ·obtain ⟨b,off,c',cs,E,fr,heq,hbk,hx⟩:=hv.pos (by omega)
   cases heq
   have hst:=segs_step bs p hlt
   obtain ⟨u,hu⟩:∃ u,bs.getD p 0=u:=⟨_,rfl⟩
   rw [hu] at hst
   rw [hst] at hJ
   have hrd:Rd Tryz.prog 5 (.cells cs E fr) (off+p * 1) (.int .u8 (u.toNat:Int)):=Rd.elem1 hx (ucs_one bs) (List.getElem?_eq_getElem hlt) (by rw [← hu];simp [hlt])
   have hub:u.toNat < 256:=u.toNat_lt
   have hOf0:=Of_op_calls u.toNat hub
   have hzl:=szOf_le u.toNat
   have hxc:=opAt_c u.toNat
   have hxd:=opAt_dt u.toNat
   obtain ⟨x,hx0⟩:∃ x,opAt u.toNat=x:=⟨_,rfl⟩
   rw [hx0] at hxc hxd
   rw [← hxd] at hzl hJ
   unfold opAt at hx0
   cases ho:opOf u.toNat with
   |none =>
    rw [ho] at hx0 hOf0
    dsimp only at hx0
    subst hx0
    have hOf:∀ w,Calls Tryz.prog 91 #[.int .u8 (u.toNat:Int)] w (Ret w (.tuple #[.agg (opc zeroOp),.int .i64 4])):=hOf0
    (refine zI<|sRz<|vMz<|ldz rfl (.app (.tail (.tail .head))) (Rd.one' rfl)<|lvz (.lenR rfl inferInstance rfl) ?_;refine lvz (.lssT rfl rfl (by omega)) ?_;refine nNz<|cTz<|zJ<|thenN<|zI<|zM<|sRz<|ldz rfl (.app (.tail (.tail .head))) (Rd.one' rfl)<|vMz ?_;refine lvz (.indexAddrS rfl rfl rfl (by omega)) ?_;apply LW.load;rfl;rfl;exact Known.ext (by assumption) (by simp);assumption;apply zS;rfl;rfl;infer_instance;exact .cons rfl .nil;intro w _;exact hOf w;refine vMz ?_;refine vEz ?_;refine vEz ?_;apply zU;rfl;intro _;refine zR rfl rfl .head (.whole rfl rfl rfl)<|vAz<|nNz<|zI<|sRz<|vMz ?_;refine lvz (.neT rfl rfl (by omega)) ?_;refine nNz<|cTz<|zL<|ldz rfl (.tail (.app (.tail (.tail .head)))) (Rd.one' rfl)<|vMz ?_;refine lvz (.indexAddrS rfl rfl rfl (by omega)) ?_;apply LW.load;rfl;rfl;exact Known.ext (by assumption) (by simp);assumption;apply LW.v0;rfl;rfl;apply zW;infer_instance;infer_instance;apply zA;rfl;exact zB;rfl;simp only [fillP,wrCells,Value.cells,qJ,qK,qL,qI,qN,qM,Nat.reduceAdd,qP];rfl;refine zR rfl rfl .head (.whole rfl rfl rfl)<|nNz<|zI<|sRz<|vMz<|vMz<|ldz rfl .head (qH rfl) ?_)
    try dsimp only at hJ hzl
    by_cases h91:u.toNat=91
    ·rw [jmpOf_hit h91] at hJ
     apply LW.yield
     rfl
     rfl
     (exact .cons rfl (.cons rfl .nil))
     exact hrec
     (apply zX;apply zZ;apply zY)
     rfl
     rfl
     (refine sRz<|vAz<|nNz<|zL ?_;apply zU;rfl;intro _;refine zR rfl rfl .head (.whole rfl rfl rfl) ?_;apply zV;apply beginI;apply qD;apply qD;apply qE;apply qA;refine zM<|sRz<|vFz<|ldz rfl .head (Rd.one' rfl) ?_;refine lvz (.eqT rfl rfl (by omega)) ?_;refine nNz<|cTz<|zL<|ldz rfl (.tail (.tail (.app (.tail (.tail (.tail .head)))))) (Rd.one' rfl)<|vMz ?_;apply LW.lay1;rfl;infer_instance;infer_instance;rfl;rfl;rfl;rfl;rfl;rfl;intro _)
     (apply LW.append;rfl;rfl;infer_instance;infer_instance;infer_instance;rfl;rfl;rfl;(case hrow=>assumption);apply AtSeg.cons;apply AtSeg.cons;apply AtSeg.cons;exact AtSeg.head;apply qG;apply zY;rfl;rfl;rfl;omega;simp only [maxLen];omega;omega;intro v' seg' hrow';obtain ⟨p',c',rfl⟩:=hrow'.form;(refine ⟨_,(by (repeat (first|exact AtSeg.head|apply AtSeg.cons|apply AtSeg.app))),?_⟩);(try simp only [List.cons_append,List.nil_append]))
     (apply zR;rfl;rfl;apply qD;apply qD;apply qD;apply qE;apply qD;apply qD;apply qD;apply qA;apply Wr.cells;rfl;rfl;simp only [List.size_toArray,List.length_cons,List.length_nil];omega;simp only [fillC,wc,wrCells,Value.cells,qL,qI,qN,qM,Nat.reduceAdd,Nat.reduceMul,qP,Nat.mul_one];rfl;apply zV;refine blkN ?_;apply roundN;apply qD;apply qD;apply qD;apply qE;apply qA;refine lvz (.notT rfl (by with_reducible rfl)) ?_;refine nNz<|cFz<|zJ<|thenN<|zL<|vMz<|vFz<|ldz rfl (.tail (.tail .head)) (Rd.one' rfl) ?_;refine lvz (.addZL rfl rfl (by decide) (by omega)) ?_;refine vAz ?_;apply zV;refine blkN<|thenN<|zL<|vMz ?_;refine lvz (.addZL rfl rfl (by decide) (by omega)) ?_;refine vAz ?_;apply zV)
     apply thenX
     refine ⟨rfl,⟨_,J++[p],_,seg'⟩,⟨(List.append_assoc _ _ _).trans hJ,by dsimp only;omega,by rw [List.length_append];simp;omega,by rw [List.length_append,ics_app];exact hrow'⟩,by dsimp only;omega,⟨rfl,rfl,rfl,trivial⟩,by (apply qS;apply qS;apply qS;exact qO _)⟩
    ·rw [jmpOf_miss h91] at hJ
     apply LW.yield
     rfl
     rfl
     (exact .cons rfl (.cons rfl .nil))
     exact hrec
     (apply zX;apply zZ;apply zY)
     rfl
     rfl
     (refine sRz<|vAz<|nNz<|zL ?_;apply zU;rfl;intro _;refine zR rfl rfl .head (.whole rfl rfl rfl) ?_;apply zV;apply beginI;apply qD;apply qD;apply qE;apply qA;refine zM<|sRz<|vFz<|ldz rfl .head (Rd.one' rfl) ?_;refine lvz (.eqF rfl rfl (by omega)) ?_;refine nNz<|cFz<|zJ<|blkN ?_;apply roundN;apply qD;apply qD;apply qE;apply qA;refine lvz (.notT rfl (by with_reducible rfl)) ?_;refine nNz<|cFz<|zJ<|thenN<|zL<|vMz<|vFz<|ldz rfl (.tail .head) (Rd.one' rfl) ?_;refine lvz (.addZL rfl rfl (by decide) (by omega)) ?_;refine vAz ?_;apply zV;refine blkN<|thenN<|zL<|vMz ?_;refine lvz (.addZL rfl rfl (by decide) (by omega)) ?_;refine vAz ?_;apply zV)
     apply thenX
     refine ⟨rfl,⟨_,J,v,seg⟩,⟨hJ,by dsimp only;omega,by dsimp only;omega,hrow⟩,by dsimp only;omega,⟨rfl,rfl,rfl,trivial⟩,by (apply qS;apply qS;exact qO _)⟩
   |some y =>
    rw [ho] at hx0 hOf0
    dsimp only at hx0
    subst hx0
    have hOf:∀ w,Calls Tryz.prog 91 #[.int .u8 (u.toNat:Int)] w (Ret w (.tuple #[.agg (opc y),.int .i64 0])):=hOf0
    (refine zI<|sRz<|vMz<|ldz rfl (.app (.tail (.tail .head))) (Rd.one' rfl)<|lvz (.lenR rfl inferInstance rfl) ?_;refine lvz (.lssT rfl rfl (by omega)) ?_;refine nNz<|cTz<|zJ<|thenN<|zI<|zM<|sRz<|ldz rfl (.app (.tail (.tail .head))) (Rd.one' rfl)<|vMz ?_;refine lvz (.indexAddrS rfl rfl rfl (by omega)) ?_;apply LW.load;rfl;rfl;exact Known.ext (by assumption) (by simp);assumption;apply zS;rfl;rfl;infer_instance;exact .cons rfl .nil;intro w _;exact hOf w;refine vMz ?_;refine vEz ?_;refine vEz ?_;apply zU;rfl;intro _;refine zR rfl rfl .head (.whole rfl rfl rfl)<|vAz<|nNz<|zI<|sRz<|vMz ?_;refine lvz (.neF rfl rfl (by omega)) ?_;refine nNz<|cFz<|zJ<|thenN<|zI<|sRz<|vMz<|vMz<|ldz rfl .head (qH rfl) ?_)
    try dsimp only at hJ hzl
    by_cases h91:u.toNat=91
    ·rw [jmpOf_hit h91] at hJ
     apply LW.yield
     rfl
     rfl
     (exact .cons rfl (.cons rfl .nil))
     exact hrec
     (apply zX;apply zZ;apply zY)
     rfl
     rfl
     (refine sRz<|vAz<|nNz<|zL ?_;apply zU;rfl;intro _;refine zR rfl rfl .head (.whole rfl rfl rfl) ?_;apply zV;apply beginI;apply qD;apply qD;apply qE;apply qA;refine zM<|sRz<|vFz<|ldz rfl .head (Rd.one' rfl) ?_;refine lvz (.eqT rfl rfl (by omega)) ?_;refine nNz<|cTz<|zL<|ldz rfl (.tail (.tail (.app (.tail (.tail (.tail .head)))))) (Rd.one' rfl)<|vMz ?_;apply LW.lay1;rfl;infer_instance;infer_instance;rfl;rfl;rfl;rfl;rfl;rfl;intro _)
     (apply LW.append;rfl;rfl;infer_instance;infer_instance;infer_instance;rfl;rfl;rfl;(case hrow=>assumption);apply AtSeg.cons;apply AtSeg.cons;apply AtSeg.cons;exact AtSeg.head;apply qG;apply zY;rfl;rfl;rfl;omega;simp only [maxLen];omega;omega;intro v' seg' hrow';obtain ⟨p',c',rfl⟩:=hrow'.form;(refine ⟨_,(by (repeat (first|exact AtSeg.head|apply AtSeg.cons|apply AtSeg.app))),?_⟩);(try simp only [List.cons_append,List.nil_append]))
     (apply zR;rfl;rfl;apply qD;apply qD;apply qD;apply qE;apply qD;apply qD;apply qD;apply qA;apply Wr.cells;rfl;rfl;simp only [List.size_toArray,List.length_cons,List.length_nil];omega;simp only [fillC,wc,wrCells,Value.cells,qL,qI,qN,qM,Nat.reduceAdd,Nat.reduceMul,qP,Nat.mul_one];rfl;apply zV;refine blkN ?_;apply roundN;apply qD;apply qD;apply qD;apply qE;apply qA;refine lvz (.notT rfl (by with_reducible rfl)) ?_;refine nNz<|cFz<|zJ<|thenN<|zL<|vMz<|vFz<|ldz rfl (.tail (.tail .head)) (Rd.one' rfl) ?_;refine lvz (.addZ rfl rfl (by omega)) ?_;refine vAz ?_;apply zV;refine blkN<|thenN<|zL<|vMz ?_;refine lvz (.addZL rfl rfl (by decide) (by omega)) ?_;refine vAz ?_;apply zV)
     apply thenX
     refine ⟨rfl,⟨_,J++[p],_,seg'⟩,⟨(List.append_assoc _ _ _).trans hJ,by dsimp only;omega,by rw [List.length_append];simp;omega,by rw [List.length_append,ics_app];exact hrow'⟩,by dsimp only;omega,⟨rfl,rfl,rfl,trivial⟩,by (apply qS;apply qS;apply qS;exact qO _)⟩
    ·rw [jmpOf_miss h91] at hJ
     apply LW.yield
     rfl
     rfl
     (exact .cons rfl (.cons rfl .nil))
     exact hrec
     (apply zX;apply zZ;apply zY)
     rfl
     rfl
     (refine sRz<|vAz<|nNz<|zL ?_;apply zU;rfl;intro _;refine zR rfl rfl .head (.whole rfl rfl rfl) ?_;apply zV;apply beginI;apply qD;apply qD;apply qE;apply qA;refine zM<|sRz<|vFz<|ldz rfl .head (Rd.one' rfl) ?_;refine lvz (.eqF rfl rfl (by omega)) ?_;refine nNz<|cFz<|zJ<|blkN ?_;apply roundN;apply qD;apply qD;apply qE;apply qA;refine lvz (.notT rfl (by with_reducible rfl)) ?_;refine nNz<|cFz<|zJ<|thenN<|zL<|vMz<|vFz<|ldz rfl (.tail .head) (Rd.one' rfl) ?_;refine lvz (.addZ rfl rfl (by omega)) ?_;refine vAz ?_;apply zV;refine blkN<|thenN<|zL<|vMz ?_;refine lvz (.addZL rfl rfl (by decide) (by omega)) ?_;refine vAz ?_;apply zV)
     apply thenX
     refine ⟨rfl,⟨_,J,v,seg⟩,⟨hJ,by dsimp only;omega,by dsimp only;omega,hrow⟩,by dsimp only;omega,⟨rfl,rfl,rfl,trivial⟩,by (apply qS;apply qS;exact qO _)⟩
  ·rw [segs_end bs p p hge] at hJ
   have hJ':J=T:=by rw [← hJ];simp [jmpOf]
   subst hJ'
   (refine zI<|sRz<|vMz<|ldz rfl (.app (.tail (.tail .head))) (Rd.one' rfl)<|lvz (.lenR rfl inferInstance rfl) ?_;refine lvz (.lssF rfl rfl (by omega)) ?_;refine nNz<|cFz<|CW.exit<|thenE<|thenE<|blkE rfl ?_)
   apply rangeN
   (exact .inr rfl)
   (exact Shut.nil)
   (apply qE;apply qA)
   (refine blkN<|thenM<|sRz<|ldz rfl (.app (.tail (.tail (.tail .head)))) (Rd.one' rfl)<|vAz<|nNz<|zK ?_)
   apply finM seg;(exact .inl rfl);(apply Shut.cons;apply qE;apply qD;apply qA;exact Shut.nil);rfl;(apply zD;exact zG rfl;exact zF);exact qR _ _
   exact hrow
end
section
attribute [local irreducible] opOf
def idxN (l:List Nat) (x:Nat):Int:=match l.findIdx? (· == x) with
 |some i=>(i:Int)
 |none=>-1
theorem idxN_mem (l:List Nat) (x:Nat):decide (0≤idxN l x)=l.contains x:=by
 unfold idxN
 cases h:l.findIdx? (· == x) with
 |none =>
  have:=List.findIdx?_eq_none_iff.1 h
  rw [decide_eq_false (by decide)]
  symm
  rw [Bool.eq_false_iff]
  intro hc
  have hm:=List.contains_iff_mem.1 hc
  have:=this x hm
  simp at this
 |some i =>
  obtain ⟨hlt,hc,_⟩:=List.findIdx?_eq_some_iff_getElem.1 h
  rw [decide_eq_true (by dsimp only;omega)]
  symm
  have:l[i]=x:=by simpa using hc
  exact List.contains_iff_mem.2 (this ▸ List.getElem_mem hlt)
theorem Index_n_calls (l:List Nat) (x:Nat) (hx:x < 1000) (v:Value) (w:World) (hv:RowAt w 1 v l.length (ics l)):Calls Tryz.prog 236 #[v,.int .i64 (x:Int)] w (Ret w (.int .i64 (idxN l x))):=by
 obtain ⟨p0,c0,rfl,hc0,hm0⟩:=hv.form
 simp only [maxLen] at hm0
 refine enter (args:=[_,_]) _ [] [] Tryz.func236 rfl Tryz.ntmps236 rfl (by simp) .nil ?_
 (refine sRz<|vAz<|nNz<|zI<|sRz<|vMz<|lvz (.lenR rfl inferInstance rfl)<|vMz<|nNz<|zM ?_)
 refine CW.loop (fun k:Nat=>([(0,.slice p0 l.length c0),(1,.int .i64 (x:Int)),(4,.int .i64 0),(7,.int .i64 (l.length:Int)),(8,.int .i64 (k:Int))],[]))
  (fun k=>k≤l.length∧∀ j (hj:j < l.length),j < k→l[j] ≠ x) (fun k=>l.length - k) 0 ⟨Nat.zero_le _,fun j hj h=>absurd h (Nat.not_lt_zero _)⟩ ⟨rfl,rfl,rfl,rfl,rfl,trivial⟩ (qO _) ?_
 rintro k ⟨hk,hall⟩
 dsimp only
 rcases Nat.lt_or_ge k l.length with hlt|hge
 ·obtain ⟨b,off,c',cs,E,fr,heq,hbk,hx'⟩:=hv.pos (by omega)
  cases heq
  have hrd:Rd Tryz.prog 3 (.cells cs E fr) (off+k * 1) (.int .i64 (l[k]:Int)):=Rd.elem1 hx' (ics_len l) (List.getElem?_eq_getElem hlt) rfl
  by_cases he:l[k]=x
  ·have hi:idxN l x=(k:Int):=by
    unfold idxN
    rw [List.findIdx?_eq_some_iff_getElem.2 ⟨hlt,by simpa using he,fun j hj=>by simpa using hall j (by omega) hj⟩]
   rw [hi]
   have he':(x:Int)=(l[k]:Int):=by omega
   obtain ⟨y,hy⟩:∃ y,l[k]=y:=⟨_,rfl⟩
   rw [hy] at hrd he'
   (refine sRz ?_;refine lvz (.lssT rfl rfl (by omega)) ?_;refine nNz<|zI<|cTz<|zJ<|thenN<|zI<|zM<|sRz<|vMz<|vAz<|nSz<|vMz<|vMz<|vMz ?_;refine lvz (.indexAddrS rfl rfl rfl (by omega)) ?_;apply LW.load;rfl;rfl;exact Known.ext (by assumption) (by simp);assumption;refine lvz (.eqT rfl rfl (by omega)) ?_;refine nNz<|cTz<|sRz<|vMz<|vAz<|nNz<|zK<|blkR<|thenR<|thenR<|blkR<|thenR ?_)
   (apply finR;exact .inl rfl;rfl;rfl;rfl;apply zD;exact zG rfl;exact zF)
   rfl
  ·have he':¬ (x:Int)=(l[k]:Int):=by omega
   obtain ⟨y,hy⟩:∃ y,l[k]=y:=⟨_,rfl⟩
   rw [hy] at hrd he'
   (refine sRz ?_;refine lvz (.lssT rfl rfl (by omega)) ?_;refine nNz<|zI<|cTz<|zJ<|thenN<|zI<|zM<|sRz<|vMz<|vAz<|nSz<|vMz<|vMz<|vMz ?_;refine lvz (.indexAddrS rfl rfl rfl (by omega)) ?_;apply LW.load;rfl;rfl;exact Known.ext (by assumption) (by simp);assumption;refine lvz (.eqF rfl rfl (by omega)) ?_;refine nNz<|cFz<|zJ<|blkN<|thenN<|zL ?_;refine lvz (.addZL rfl rfl (by decide) (by omega)) ?_;refine vMz ?_;apply zV)
   apply thenX
   refine ⟨rfl,k+1,⟨hlt,fun j hj hjk=>?_⟩,by omega,⟨rfl,rfl,rfl,rfl,rfl,trivial⟩,qO _⟩
   rcases Nat.lt_or_ge j k with h|h
   ·exact hall j hj h
   ·obtain rfl:j=k:=by omega
    exact he
 ·have hi:idxN l x=-1:=by
   unfold idxN
   rw [List.findIdx?_eq_none_iff.2 fun y hy=>by
    obtain ⟨j,hj,rfl⟩:=List.mem_iff_getElem.1 hy
    simpa using hall j hj (by omega)]
  rw [hi]
  (refine sRz ?_;refine lvz (.lssF rfl rfl (by omega)) ?_;refine nNz<|zI<|cFz<|CW.exit<|thenE<|thenE<|blkE rfl<|thenN<|sRz<|vAz<|nNz<|zK ?_)
  (apply finR;exact .inl rfl;rfl;rfl;rfl;apply zD;exact zG rfl;exact zF)
  rfl
theorem Contains_calls (l:List Nat) (x:Nat) (hx:x < 1000) (v:Value) (w:World) (hv:RowAt w 1 v l.length (ics l)):Calls Tryz.prog 226 #[v,.int .i64 (x:Int)] w (Ret w (.bool (l.contains x))):=by
 have hIx:∀ w' {fs},St w [] fs w'→Calls Tryz.prog 236 #[v,.int .i64 (x:Int)] w' (Ret w' (.int .i64 (idxN l x))):=fun w' fs hst=>Index_n_calls l x hx v w' (hv.st hst)
 refine enter (args:=[_,_]) _ [] [] Tryz.func226 rfl Tryz.ntmps226 rfl (by simp) .nil ?_
 (refine sRz<|vAz<|nSz<|vMz<|vMz ?_;apply zS;rfl;rfl;infer_instance;exact .cons rfl (.cons rfl .nil);intro w _;exact hIx w (by assumption);refine lvz (.geq rfl rfl)<|vAz<|nNz<|zK ?_)
 (apply finR;exact .inl rfl;rfl;rfl;rfl;apply zD;exact zG rfl;exact zF)
 rw [← idxN_mem]
 rfl
def jumpsC (bs:List UInt8):List Nat:=if bs.length≤200 then jumpsL bs else []
def jumpC (bs:List UInt8) (n:Nat):Bool:=decide (n < 200) && (jumpsC bs).contains n
theorem Jump_calls (bs:List UInt8) (n:Nat) (hn:n < 18446744073709551616) (v:Value) (w:World) (hv:RowAt w 1 v bs.length (ucs bs)):Calls Tryz.prog 209 #[v,.int .u64 (n:Int)] w (Ret w (.bool (jumpC bs n))):=by
 unfold jumpC
 refine enter (args:=[_,_]) _ [] [] Tryz.func209 rfl Tryz.ntmps209 rfl (by simp) .nil ?_
 rcases Nat.lt_or_ge n 200 with h|h
 ·rw [decide_eq_true h,Bool.true_and]
  (refine sRz<|vAz<|nSz<|vMz ?_;refine lvz (.lssT rfl rfl (by omega)) ?_;refine vMz<|gTz<|vMz<|gTz ?_)
  refine LW.callR rfl rfl inferInstance (by (exact .cons rfl .nil)) (fun w' hst=>Jumps_calls bs v w' (hv.st hst)) ?_
  intro v1 gs1 hr1
  have hCo:∀ w',St w [] (gs1++[]) w'→Calls Tryz.prog 226 #[v1,.int .i64 (n:Int)] w' (Ret w' (.bool ((jumpsC bs).contains n))):=fun w' hst=>Contains_calls (jumpsC bs) n (by omega) v1 w' (IsRow.at (pre:=[]) (post:=[]) hr1 hst)
  (refine gTz<|vMz<|gTz ?_;refine lvz (.convI rfl (by omega) (by omega)) ?_;refine gTz ?_;apply zS;rfl;rfl;infer_instance;exact .cons rfl (.cons rfl .nil);intro w _;exact hCo w (by assumption);refine pTz<|vAz<|nNz<|zK ?_)
  (apply finR;exact .inl rfl;rfl;rfl;rfl;apply zD;exact zG rfl;exact zF)
  rfl
 ·rw [decide_eq_false (by omega),Bool.false_and]
  (refine sRz<|vAz<|nSz<|vMz ?_;refine lvz (.lssF rfl rfl (by omega)) ?_;refine vMz ?_;(iterate 5 refine gFz ?_);refine pFz<|vAz<|nNz<|zK ?_)
  (apply finR;exact .inl rfl;rfl;rfl;rfl;apply zD;exact zG rfl;exact zF)
  rfl
def readB (bs:List UInt8) (i:Int):Bool:=(segsAt 0 bs).any fun s=>decide ((s.1:Int)=i)
def readFrom (bs:List UInt8) (p:Nat) (i:Int):Bool:=(segsAt p (bs.drop p)).any fun s=>decide ((s.1:Int)=i)
theorem segsAt_ge (n:Nat):∀ (bs:List UInt8) (p:Nat),bs.length≤n→∀ s∈segsAt p bs,p≤s.1:=by
 induction n with
 |zero =>
  intro bs p h s hs
  rw [List.eq_nil_of_length_eq_zero (show bs.length=0 by omega),segsAt_nil] at hs
  cases hs
 |succ n ih =>
  intro bs p h s hs
  cases bs with
  |nil=>rw [segsAt_nil] at hs;cases hs
  |cons b r =>
   rw [segsAt_cons] at hs
   rcases List.mem_cons.1 hs with rfl|hs
   ·exact Nat.le_refl _
   ·have:=ih (r.drop (szOf b.toNat)) (p+1+szOf b.toNat) (by simp at h ⊢;omega) s hs
    omega
theorem readFrom_gt {bs:List UInt8} {p:Nat} {i:Int} (h:i < (p:Int)):readFrom bs p i=false:=by
 unfold readFrom
 refine List.any_eq_false.2 fun s hs=>?_
 have:=segsAt_ge _ _ p (Nat.le_refl _) s hs
 simp;omega
theorem readFrom_end {bs:List UInt8} {p:Nat} {i:Int} (h:bs.length≤p):readFrom bs p i=false:=by
 unfold readFrom;rw [segs_end bs p p h];rfl
theorem readFrom_hit {bs:List UInt8} {p:Nat} (h:p < bs.length):readFrom bs p (p:Int)=true:=by
 unfold readFrom;rw [segs_step bs p h,List.any_cons];simp
theorem readFrom_step {bs:List UInt8} {p:Nat} {i:Int} (h:p < bs.length) (hi:(p:Int) < i):readFrom bs (p+1+szOf (bs.getD p 0).toNat) i=readFrom bs p i:=by
 unfold readFrom
 rw [segs_step bs p h,List.any_cons,decide_eq_false (by dsimp only;omega),Bool.false_or,Nat.add_right_comm p 1]
end
end Go.Proofs.YtdeggbkbblfpoaaGreatDoor.CK
namespace Go.Proofs.YtdeggbkbblfpoaaGreatDoor
open Go Go.RowKit SL
set_option maxRecDepth 8000
set_option maxHeartbeats 4000000
set_option linter.unusedSimpArgs false
set_option linter.unusedVariables false
attribute [local irreducible] SL.CW SL.LW SL.DW Calls SL.Ret SL.RetG SL.beginQ SL.roundQ SL.rangeQ SL.inQ SL.RW SL.AnyW SL.thenQ SL.thenC SL.thenW SL.blkQ SL.finQ SL.ValP SL.NewP SL.SetP SL.CallP SL.Rd SL.Wr SL.Known
section
open CK (readB readFrom readFrom_step readFrom_hit readFrom_gt readFrom_end szOf szOf_le CheckC_calls)
attribute [local irreducible] opOf szOf
def opX (b:Nat):OpV:=(opOf b).getD zeroOp
theorem opX_dt (b:Nat):(opX b).dt=szOf b:=by
 unfold opX szOf
 cases opOf b<;>rfl
theorem OfX_calls (b:Nat) (hb:b < 256) (w:World):∃ e:Int,(∀ w,Calls Tryz.prog 91 #[.int .u8 (b:Int)] w (Ret w (.tuple #[.agg (opc (opX b)),.int .i64 e])))∧e=(if (opOf b).isSome then 0 else 4):=by
 cases ho:opOf b with
 |none=>exact ⟨4,fun w=>by have h:=Of_op_calls b hb w;rw [ho] at h;unfold opX;rw [ho];exact h,rfl⟩
 |some x=>exact ⟨0,fun w=>by have h:=Of_op_calls b hb w;rw [ho] at h;unfold opX;rw [ho];exact h,rfl⟩
attribute [local irreducible] opX
theorem fread_calls (bs:List UInt8) (hb:bs.length≤1000) (i:Int) (v:Value) (w:World) (hv:RowAt w 1 v bs.length (ucs bs)):Calls Tryz.prog 85 #[v,.int .i64 i] w (Ret w (.bool (readB bs i))):=by
 obtain ⟨p0,c0,rfl,hc0,hm0⟩:=hv.form
 have h0:readFrom bs 0 i=readB bs i:=by unfold readFrom readB;rw [List.drop_zero]
 refine enter (args:=[_,_]) _ [] [] Tryz.func85 rfl Tryz.ntmps85 rfl (by simp) .nil ?_
 (refine sRz<|vAz<|nSz<|vAz<|nNz<|zI<|zM ?_)
 refine CW.loop (fun k:Nat=>([(0,.slice p0 bs.length c0),(1,.int .i64 i),(4,.bool false),(5,.int .i64 (k:Int))],[]))
  (fun k=>k≤2000∧readFrom bs k i=readB bs i) (fun k=>bs.length - k) 0 ⟨Nat.zero_le _,h0⟩ ⟨rfl,rfl,rfl,rfl,trivial⟩ (qO _) ?_
 rintro k ⟨hk,hr⟩
 dsimp only
 rcases Nat.lt_or_ge k bs.length with hlt|hge
 ·rcases Int.lt_or_le (k:Int) i with hki|hki
  ·obtain ⟨b,off,c',cs,E,fr,heq,hbk,hx⟩:=hv.pos (by omega)
   cases heq
   have hst:=readFrom_step hlt hki
   obtain ⟨u,hu⟩:∃ u,bs.getD k 0=u:=⟨_,rfl⟩
   rw [hu,hr] at hst
   have hrd:Rd Tryz.prog 5 (.cells cs E fr) (off+k * 1) (.int .u8 (u.toNat:Int)):=Rd.elem1 hx (ucs_one bs) (List.getElem?_eq_getElem hlt) (by rw [← hu];simp [hlt])
   obtain ⟨e,hOf,_⟩:=OfX_calls u.toNat u.toNat_lt w
   have hzl:=szOf_le u.toNat
   rw [← opX_dt] at hst hzl
   rw [Nat.add_assoc] at hst
   (refine zI<|sRz<|vMz<|vMz ?_;refine lvz (.lssT rfl rfl (by omega)) ?_;refine vMz<|gTz<|vMz<|gTz<|vMz<|gTz<|lvz (.lenR rfl inferInstance rfl)<|gTz ?_;refine lvz (.lssT rfl rfl (by omega)) ?_;refine pTz<|nNz<|cTz<|zJ<|thenN<|zM<|sRz<|vMz<|vMz ?_;refine lvz (.indexAddrS rfl rfl rfl (by omega)) ?_;apply LW.load;rfl;rfl;exact Known.ext (by assumption) (by simp);assumption;apply zS;rfl;rfl;infer_instance;exact .cons rfl .nil;intro w _;exact hOf w;refine vMz ?_;refine vEz ?_;refine vEz ?_;apply zU;rfl;intro _;refine zR rfl rfl .head (.whole rfl rfl rfl)<|vAz<|nNz<|zL<|vMz<|vFz<|ldz rfl .head (Rd.one' rfl) ?_;refine lvz (.addZK rfl rfl (by decide) (by omega)) ?_;refine lvz (.addZ rfl rfl (by omega)) ?_;refine vAz ?_;apply zV;refine blkN ?_)
   apply thenX
   exact ⟨rfl,k+(1+(opX u.toNat).dt),⟨by omega,hst⟩,by omega,⟨rfl,rfl,rfl,rfl,trivial⟩,List.nil_sublist _⟩
  ·rcases Int.lt_or_eq_of_le hki with hlt'|heq
   ·rw [← hr,readFrom_gt hlt']
    have hne:¬ (k:Int)=i:=by omega
    (refine zI<|sRz<|vMz<|vMz ?_;refine lvz (.lssF rfl rfl (by omega)) ?_;refine vMz ?_;(iterate 4 refine gFz ?_);refine pFz<|nNz<|cFz<|CW.exit<|thenE<|thenE<|blkE rfl<|thenN<|sRz<|vMz<|vMz ?_;refine lvz (.eqF rfl rfl (by omega)) ?_;refine vMz ?_;(iterate 4 refine gFz ?_);refine pFz<|vAz<|nNz<|zK ?_)
    (apply finR;exact .inl rfl;rfl;rfl;rfl;apply zD;exact zG rfl;exact zF)
    rfl
   ·subst heq
    rw [← hr,readFrom_hit hlt]
    (refine zI<|sRz<|vMz<|vMz ?_;refine lvz (.lssF rfl rfl (by omega)) ?_;refine vMz ?_;(iterate 4 refine gFz ?_);refine pFz<|nNz<|cFz<|CW.exit<|thenE<|thenE<|blkE rfl<|thenN<|sRz<|vMz<|vMz ?_;refine lvz (.eqT rfl rfl (by omega)) ?_;refine vMz<|gTz<|vMz<|gTz<|vMz<|gTz<|lvz (.lenR rfl inferInstance rfl)<|gTz ?_;refine lvz (.lssT rfl rfl (by omega)) ?_;refine pTz<|vAz<|nNz<|zK ?_)
    (apply finR;exact .inl rfl;rfl;rfl;rfl;apply zD;exact zG rfl;exact zF)
    rfl
 ·rw [← hr,readFrom_end hge]
  rcases Int.lt_or_le (k:Int) i with hki|hki
  ·have hne:¬ (k:Int)=i:=by omega
   (refine zI<|sRz<|vMz<|vMz ?_;refine lvz (.lssT rfl rfl (by omega)) ?_;refine vMz<|gTz<|vMz<|gTz<|vMz<|gTz<|lvz (.lenR rfl inferInstance rfl)<|gTz ?_;refine lvz (.lssF rfl rfl (by omega)) ?_;refine pTz<|nNz<|cFz<|CW.exit<|thenE<|thenE<|blkE rfl<|thenN<|sRz<|vMz<|vMz ?_;refine lvz (.eqF rfl rfl (by omega)) ?_;refine vMz ?_;(iterate 4 refine gFz ?_);refine pFz<|vAz<|nNz<|zK ?_)
   (apply finR;exact .inl rfl;rfl;rfl;rfl;apply zD;exact zG rfl;exact zF)
   rfl
  ·by_cases heq:(k:Int)=i
   ·subst heq
    (refine zI<|sRz<|vMz<|vMz ?_;refine lvz (.lssF rfl rfl (by omega)) ?_;refine vMz ?_;(iterate 4 refine gFz ?_);refine pFz<|nNz<|cFz<|CW.exit<|thenE<|thenE<|blkE rfl<|thenN<|sRz<|vMz<|vMz ?_;refine lvz (.eqT rfl rfl (by omega)) ?_;refine vMz<|gTz<|vMz<|gTz<|vMz<|gTz<|lvz (.lenR rfl inferInstance rfl)<|gTz ?_;refine lvz (.lssF rfl rfl (by omega)) ?_;refine pTz<|vAz<|nNz<|zK ?_)
    (apply finR;exact .inl rfl;rfl;rfl;rfl;apply zD;exact zG rfl;exact zF)
    rfl
   ·(refine zI<|sRz<|vMz<|vMz ?_;refine lvz (.lssF rfl rfl (by omega)) ?_;refine vMz ?_;(iterate 4 refine gFz ?_);refine pFz<|nNz<|cFz<|CW.exit<|thenE<|thenE<|blkE rfl<|thenN<|sRz<|vMz<|vMz ?_;refine lvz (.eqF rfl rfl (by omega)) ?_;refine vMz ?_;(iterate 4 refine gFz ?_);refine pFz<|vAz<|nNz<|zK ?_)
    (apply finR;exact .inl rfl;rfl;rfl;rfl;apply zD;exact zG rfl;exact zF)
    rfl
structure FrL where
 cl:List UInt8
 ws:List Nat
 ms:List UInt8
 il:List UInt8
 bl:List UInt8
structure FrRows (w:World) (f:FrV) (L:FrL):Prop where
 c:RowAt w 1 f.code L.cl.length (ucs L.cl)
 s:RowAt w 4 f.stk L.ws.length (wcs L.ws)
 m:RowAt w 1 f.mem L.ms.length (ucs L.ms)
 i:RowAt w 1 f.inp L.il.length (ucs L.il)
 b:RowAt w 1 f.back L.bl.length (ucs L.bl)
theorem FrRows.st {w0 w:World} {f:FrV} {L:FrL} {fs:Fs} (h:FrRows w0 f L) (hs:St w0 [] fs w):FrRows w f L:=⟨h.c.st hs,h.s.st hs,h.m.st hs,h.i.st hs,h.b.st hs⟩
theorem FrRows.bel {w0 w:World} {f:FrV} {L:FrL} (h:FrRows w0 f L) (hb:Bel w0.heap.size [] w0 w):FrRows w f L:=⟨h.c.bel hb,h.s.bel hb,h.m.bel hb,h.i.bel hb,h.b.bel hb⟩
abbrev fra (f:FrV):Array Value:=(frc f).toArray
abbrev frv (f:FrV):Value:=.agg (fra f)
section rd
variable {P : Program} {T E : TypeId} {fr : Nat × Nat} {code stk mem inp back : Value} {pc : Int} {gas self frm val : Nat} {stat : Bool}
theorem fr_rd0 [AgI P T false]:Rd P T (.cells (fra ⟨code,pc,stk,mem,gas,self,frm,val,inp,back,stat⟩) E fr) 0 code:=Rd.one rfl
theorem fr_rd1 [AgI P T false]:Rd P T (.cells (fra ⟨code,pc,stk,mem,gas,self,frm,val,inp,back,stat⟩) E fr) 1 (.int .i64 pc):=Rd.one rfl
theorem fr_rd2 [AgI P T true] {z:Value} [InfoI P T 2 z]:Rd P T (.cells (fra ⟨code,pc,stk,mem,gas,self,frm,val,inp,back,stat⟩) E fr) 2 (.agg #[stk,mem]):=Rd.mid (cs:=[stk,mem]) rfl rfl
theorem fr_rd2s [AgI P T false]:Rd P T (.cells (fra ⟨code,pc,stk,mem,gas,self,frm,val,inp,back,stat⟩) E fr) 2 stk:=Rd.one rfl
theorem fr_rd3 [AgI P T false]:Rd P T (.cells (fra ⟨code,pc,stk,mem,gas,self,frm,val,inp,back,stat⟩) E fr) 3 mem:=Rd.one rfl
theorem fr_rd4 [AgI P T false]:Rd P T (.cells (fra ⟨code,pc,stk,mem,gas,self,frm,val,inp,back,stat⟩) E fr) 4 (.int .u64 (gas:Int)):=Rd.one rfl
theorem fr_rd5 [AgI P T false]:Rd P T (.cells (fra ⟨code,pc,stk,mem,gas,self,frm,val,inp,back,stat⟩) E fr) 5 (.int .u64 (self:Int)):=Rd.one rfl
theorem fr_rd11 [AgI P T false]:Rd P T (.cells (fra ⟨code,pc,stk,mem,gas,self,frm,val,inp,back,stat⟩) E fr) 11 inp:=Rd.one rfl
theorem fr_rd12 [AgI P T false]:Rd P T (.cells (fra ⟨code,pc,stk,mem,gas,self,frm,val,inp,back,stat⟩) E fr) 12 back:=Rd.one rfl
theorem fr_rdW {f:FrV} {z:Value} [AgI P T true] [InfoI P T 14 z]:Rd P T (.cells (fra f) E fr) 0 (frv f):=qH rfl
end rd
def okF (f:FrV) (L:FrL):Prop:=(L.il.length≤1024∧L.bl.length≤1024∧f.gas≤20000)∧¬ f.self=0∧L.cl.length≤200∧okSc L.ws.length L.ms.length∧(f.pc=(L.cl.length:Int)∨readB L.cl f.pc=true)
instance (f:FrV) (L:FrL):Decidable (okF f L):=by unfold okF;infer_instance
theorem fCheck_calls (f:FrV) (L:FrL) (w:World) (h:FrRows w f L):Calls Tryz.prog 34 #[frv f] w (Ret w (.int .i64 (if okF f L then 0 else 240))):=by
 obtain ⟨e,he⟩:∃ e:Int,e=if okF f L then 0 else 240:=⟨_,rfl⟩
 have hp:okF f L→e=0:=fun h=>by rw [he,if_pos h]
 have hn:¬ okF f L→e=240:=fun h=>by rw [he,if_neg h]
 rw [← he]
 clear he
 unfold okF at hp hn
 obtain ⟨code,pc,stk,mem,gas,self,frm,val,inp,back,stat⟩:=f
 obtain ⟨h0,h2,h3,h11,h12⟩:=h
 dsimp only at h0 h2 h3 h11 h12 hp hn
 obtain ⟨p0,c0,rfl,_,hm0⟩:=h0.form
 obtain ⟨p2,c2,rfl,_,hm2⟩:=h2.form
 obtain ⟨p3,c3,rfl,_,hm3⟩:=h3.form
 obtain ⟨p11,c11,rfl,_,hm11⟩:=h11.form
 obtain ⟨p12,c12,rfl,_,hm12⟩:=h12.form
 have hS0:=scCheck_calls p2 p3 L.ws.length c2 L.ms.length c3 (by omega) (by omega)
 have hC0:∀ w' {fs},St w [] fs w'→Calls Tryz.prog 83 #[.slice p0 L.cl.length c0] w' (Ret w' (.int .i64 (if L.cl.length≤200 then 0 else 3))):=fun w' fs hst=>CheckC_calls _ _ _ w' (h0.st hst)
 simp only [maxLen] at hm0 hm2 hm3 hm11 hm12
 refine enter (args:=[_]) _ [] [] Tryz.func34 rfl Tryz.ntmps34 rfl (by simp) .nil ?_
 by_cases hc:L.cl.length≤200
 ·have hRd0:∀ w' {fs},St w [] fs w'→Calls Tryz.prog 85 #[.slice p0 L.cl.length c0,.int .i64 pc] w' (Ret w' (.bool (readB L.cl pc))):=fun w' fs hst=>fread_calls _ (by omega) _ _ w' (h0.st hst)
  rw [if_pos hc] at hC0
  have hC:∀ w' {fs},St w [] fs w'→Calls Tryz.prog 83 #[.slice p0 L.cl.length c0] w' (Ret w' (.int .i64 0)):=hC0
  by_cases hs:okSc L.ws.length L.ms.length
  ·rw [if_pos hs] at hS0
   have hS:∀ w',Calls Tryz.prog 84 #[.agg #[.slice p2 L.ws.length c2,.slice p3 L.ms.length c3]] w' (Ret w' (.int .i64 0)):=hS0
   simp only [hs,true_and] at hp hn
   by_cases hpc:pc=(L.cl.length:Int)
   ·simp only [hpc,true_or,and_true] at hp hn
    subst hpc
    (refine sRz ?_;apply zT;rfl;rfl;intro _;refine vAz<|nSz<|vFz<|ldz rfl .head fr_rd11<|lvz (.lenR rfl inferInstance rfl)<|lvz (.gtr rfl rfl)<|vMz ?_)
    (refine LW.guardDF rfl rfl rfl (fun hsq hsp=>?_) (fun hsq hsp=>?_))
    (refine vFz<|gTaz<|ldz rfl .head fr_rd12<|gTaz<|lvz (.lenR rfl inferInstance rfl)<|gTaz<|lvz (.gtr rfl rfl)<|pFaz<|vMz ?_;refine LW.guardDF rfl rfl rfl (fun hsq hsp=>?_) (fun hsq hsp=>?_);refine vFz<|gTaz<|ldz rfl .head fr_rd4<|gTaz<|lvz (.gtr rfl rfl)<|pFaz<|vAz<|nNz<|zI<|sRz<|vMz<|vMz ?_;refine LW.guardDF rfl rfl rfl (fun hsq hsp=>?_) (fun hsq hsp=>?_);refine vFz<|gTaz<|ldz rfl .head fr_rd5<|gTaz<|lvz (.eq rfl rfl)<|pFaz<|vMz ?_;refine LW.guardDF rfl rfl rfl (fun hsq hsp=>?_) (fun hsq hsp=>?_);refine vFz<|gTaz<|ldz rfl .head fr_rd0<|gTaz ?_;apply zS;rfl;rfl;infer_instance;exact .cons rfl .nil;intro w _;exact hC w (by assumption);refine gTaz ?_;refine lvz (.neF rfl rfl (by omega)) ?_;refine pFaz<|vMz<|gTz<|vFz<|gTz<|ldz rfl .head fr_rd2<|gTz ?_;apply zS;rfl;rfl;infer_instance;exact .cons rfl .nil;intro w _;exact hS w;refine gTz ?_;refine lvz (.neF rfl rfl (by omega)) ?_;refine pFz<|nNz<|cFz<|zJ<|thenN<|zI<|sRz<|vFz<|ldz rfl .head fr_rd1<|vFz<|ldz rfl .head fr_rd0<|lvz (.lenR rfl inferInstance rfl) ?_;refine lvz (.neF rfl rfl (by omega)) ?_;refine vMz ?_;(iterate 6 refine gFz ?_);refine pFz<|nNz<|cFz<|zJ<|thenN<|sRz<|vAz<|nNz<|zK ?_;apply finR;exact .inl rfl;rfl;rfl;rfl;apply zD;exact zG rfl;exact zF;rw [hp (by omega)];rfl;(iterate 3 refine gFaz ?_);refine pTaz<|vMz ?_;(iterate 4 refine gFz ?_);refine pTz<|nNz<|cTz<|sRz<|vAz<|nNz<|zK ?_;refine thenR (finR (.inl rfl) rfl rfl rfl (.cons (.tmp rfl) .nil) ?_);rw [hn (by omega)];rfl;refine gFaz<|gFaz<|pTaz<|vMz ?_;(iterate 4 refine gFz ?_);refine pTz<|vMz ?_;(iterate 4 refine gFz ?_);refine pTz<|nNz<|cTz<|sRz<|vAz<|nNz<|zK ?_;refine thenR (finR (.inl rfl) rfl rfl rfl (.cons (.tmp rfl) .nil) ?_);rw [hn (by omega)];rfl;refine gFaz<|gFaz<|pTaz<|vAz<|nNz<|zI<|sRz<|vMz<|vMz ?_;(iterate 3 refine gFz ?_);refine pTz<|vMz ?_;(iterate 4 refine gFz ?_);refine pTz<|vMz ?_;(iterate 4 refine gFz ?_);refine pTz<|nNz<|cTz<|sRz<|vAz<|nNz<|zK ?_;refine thenR (finR (.inl rfl) rfl rfl rfl (.cons (.tmp rfl) .nil) ?_);rw [hn (by omega)];rfl;(iterate 3 refine gFaz ?_);refine pTaz<|vMz ?_;(iterate 3 refine gFz ?_);refine pTz<|vAz<|nNz<|zI<|sRz<|vMz<|vMz ?_;(iterate 3 refine gFz ?_);refine pTz<|vMz ?_;(iterate 4 refine gFz ?_);refine pTz<|vMz ?_;(iterate 4 refine gFz ?_);refine pTz<|nNz<|cTz<|sRz<|vAz<|nNz<|zK ?_;refine thenR (finR (.inl rfl) rfl rfl rfl (.cons (.tmp rfl) .nil) ?_);rw [hn (by omega)];rfl)
   ·cases hr:readB L.cl pc with
    |true =>
     rw [hr] at hRd0 hp hn
     have hRd:∀ w' {fs},St w [] fs w'→Calls Tryz.prog 85 #[.slice p0 L.cl.length c0,.int .i64 pc] w' (Ret w' (.bool true)):=hRd0
     simp only [or_true,and_true] at hp hn
     (refine sRz ?_;apply zT;rfl;rfl;intro _;refine vAz<|nSz<|vFz<|ldz rfl .head fr_rd11<|lvz (.lenR rfl inferInstance rfl)<|lvz (.gtr rfl rfl)<|vMz ?_)
     (refine LW.guardDF rfl rfl rfl (fun hsq hsp=>?_) (fun hsq hsp=>?_))
     (refine vFz<|gTaz<|ldz rfl .head fr_rd12<|gTaz<|lvz (.lenR rfl inferInstance rfl)<|gTaz<|lvz (.gtr rfl rfl)<|pFaz<|vMz ?_;refine LW.guardDF rfl rfl rfl (fun hsq hsp=>?_) (fun hsq hsp=>?_);refine vFz<|gTaz<|ldz rfl .head fr_rd4<|gTaz<|lvz (.gtr rfl rfl)<|pFaz<|vAz<|nNz<|zI<|sRz<|vMz<|vMz ?_;refine LW.guardDF rfl rfl rfl (fun hsq hsp=>?_) (fun hsq hsp=>?_);refine vFz<|gTaz<|ldz rfl .head fr_rd5<|gTaz<|lvz (.eq rfl rfl)<|pFaz<|vMz ?_;refine LW.guardDF rfl rfl rfl (fun hsq hsp=>?_) (fun hsq hsp=>?_);refine vFz<|gTaz<|ldz rfl .head fr_rd0<|gTaz ?_;apply zS;rfl;rfl;infer_instance;exact .cons rfl .nil;intro w _;exact hC w (by assumption);refine gTaz ?_;refine lvz (.neF rfl rfl (by omega)) ?_;refine pFaz<|vMz<|gTz<|vFz<|gTz<|ldz rfl .head fr_rd2<|gTz ?_;apply zS;rfl;rfl;infer_instance;exact .cons rfl .nil;intro w _;exact hS w;refine gTz ?_;refine lvz (.neF rfl rfl (by omega)) ?_;refine pFz<|nNz<|cFz<|zJ<|thenN<|zI<|sRz<|vFz<|ldz rfl .head fr_rd1<|vFz<|ldz rfl .head fr_rd0<|lvz (.lenR rfl inferInstance rfl) ?_;refine lvz (.neT rfl rfl (by omega)) ?_;refine vMz<|gTz<|vFz<|gTz<|ldz rfl .head fr_rd0<|gTz<|vFz<|gTz<|ldz rfl .head fr_rd1<|gTz ?_;apply zS;rfl;rfl;infer_instance;exact .cons rfl (.cons rfl .nil);intro w _;exact hRd w (by assumption);refine gTz ?_;refine lvz (.notT rfl (by with_reducible rfl)) ?_;refine pTz<|nNz<|cFz<|zJ<|thenN<|sRz<|vAz<|nNz<|zK ?_;apply finR;exact .inl rfl;rfl;rfl;rfl;apply zD;exact zG rfl;exact zF;rw [hp (by omega)];rfl;(iterate 3 refine gFaz ?_);refine pTaz<|vMz ?_;(iterate 4 refine gFz ?_);refine pTz<|nNz<|cTz<|sRz<|vAz<|nNz<|zK ?_;refine thenR (finR (.inl rfl) rfl rfl rfl (.cons (.tmp rfl) .nil) ?_);rw [hn (by omega)];rfl;refine gFaz<|gFaz<|pTaz<|vMz ?_;(iterate 4 refine gFz ?_);refine pTz<|vMz ?_;(iterate 4 refine gFz ?_);refine pTz<|nNz<|cTz<|sRz<|vAz<|nNz<|zK ?_;refine thenR (finR (.inl rfl) rfl rfl rfl (.cons (.tmp rfl) .nil) ?_);rw [hn (by omega)];rfl;refine gFaz<|gFaz<|pTaz<|vAz<|nNz<|zI<|sRz<|vMz<|vMz ?_;(iterate 3 refine gFz ?_);refine pTz<|vMz ?_;(iterate 4 refine gFz ?_);refine pTz<|vMz ?_;(iterate 4 refine gFz ?_);refine pTz<|nNz<|cTz<|sRz<|vAz<|nNz<|zK ?_;refine thenR (finR (.inl rfl) rfl rfl rfl (.cons (.tmp rfl) .nil) ?_);rw [hn (by omega)];rfl;(iterate 3 refine gFaz ?_);refine pTaz<|vMz ?_;(iterate 3 refine gFz ?_);refine pTz<|vAz<|nNz<|zI<|sRz<|vMz<|vMz ?_;(iterate 3 refine gFz ?_);refine pTz<|vMz ?_;(iterate 4 refine gFz ?_);refine pTz<|vMz ?_;(iterate 4 refine gFz ?_);refine pTz<|nNz<|cTz<|sRz<|vAz<|nNz<|zK ?_;refine thenR (finR (.inl rfl) rfl rfl rfl (.cons (.tmp rfl) .nil) ?_);rw [hn (by omega)];rfl)
    |false =>
     rw [hr] at hRd0 hp hn
     have hRd:∀ w' {fs},St w [] fs w'→Calls Tryz.prog 85 #[.slice p0 L.cl.length c0,.int .i64 pc] w' (Ret w' (.bool false)):=hRd0
     simp only [Bool.false_eq_true,or_false] at hp hn
     (refine sRz ?_;apply zT;rfl;rfl;intro _;refine vAz<|nSz<|vFz<|ldz rfl .head fr_rd11<|lvz (.lenR rfl inferInstance rfl)<|lvz (.gtr rfl rfl)<|vMz ?_)
     (refine LW.guardDF rfl rfl rfl (fun hsq hsp=>?_) (fun hsq hsp=>?_))
     (refine vFz<|gTaz<|ldz rfl .head fr_rd12<|gTaz<|lvz (.lenR rfl inferInstance rfl)<|gTaz<|lvz (.gtr rfl rfl)<|pFaz<|vMz ?_;refine LW.guardDF rfl rfl rfl (fun hsq hsp=>?_) (fun hsq hsp=>?_);refine vFz<|gTaz<|ldz rfl .head fr_rd4<|gTaz<|lvz (.gtr rfl rfl)<|pFaz<|vAz<|nNz<|zI<|sRz<|vMz<|vMz ?_;refine LW.guardDF rfl rfl rfl (fun hsq hsp=>?_) (fun hsq hsp=>?_);refine vFz<|gTaz<|ldz rfl .head fr_rd5<|gTaz<|lvz (.eq rfl rfl)<|pFaz<|vMz ?_;refine LW.guardDF rfl rfl rfl (fun hsq hsp=>?_) (fun hsq hsp=>?_);refine vFz<|gTaz<|ldz rfl .head fr_rd0<|gTaz ?_;apply zS;rfl;rfl;infer_instance;exact .cons rfl .nil;intro w _;exact hC w (by assumption);refine gTaz ?_;refine lvz (.neF rfl rfl (by omega)) ?_;refine pFaz<|vMz<|gTz<|vFz<|gTz<|ldz rfl .head fr_rd2<|gTz ?_;apply zS;rfl;rfl;infer_instance;exact .cons rfl .nil;intro w _;exact hS w;refine gTz ?_;refine lvz (.neF rfl rfl (by omega)) ?_;refine pFz<|nNz<|cFz<|zJ<|thenN<|zI<|sRz<|vFz<|ldz rfl .head fr_rd1<|vFz<|ldz rfl .head fr_rd0<|lvz (.lenR rfl inferInstance rfl) ?_;refine lvz (.neT rfl rfl (by omega)) ?_;refine vMz<|gTz<|vFz<|gTz<|ldz rfl .head fr_rd0<|gTz<|vFz<|gTz<|ldz rfl .head fr_rd1<|gTz ?_;apply zS;rfl;rfl;infer_instance;exact .cons rfl (.cons rfl .nil);intro w _;exact hRd w (by assumption);refine gTz ?_;refine lvz (.notF rfl (by with_reducible rfl)) ?_;refine pTz<|nNz<|cTz<|sRz<|vAz<|nNz<|zK ?_;refine thenR (finR (.inl rfl) rfl rfl rfl (.cons (.tmp rfl) .nil) ?_);rw [hn (by omega)];rfl;(iterate 3 refine gFaz ?_);refine pTaz<|vMz ?_;(iterate 4 refine gFz ?_);refine pTz<|nNz<|cTz<|sRz<|vAz<|nNz<|zK ?_;refine thenR (finR (.inl rfl) rfl rfl rfl (.cons (.tmp rfl) .nil) ?_);rw [hn (by omega)];rfl;refine gFaz<|gFaz<|pTaz<|vMz ?_;(iterate 4 refine gFz ?_);refine pTz<|vMz ?_;(iterate 4 refine gFz ?_);refine pTz<|nNz<|cTz<|sRz<|vAz<|nNz<|zK ?_;refine thenR (finR (.inl rfl) rfl rfl rfl (.cons (.tmp rfl) .nil) ?_);rw [hn (by omega)];rfl;refine gFaz<|gFaz<|pTaz<|vAz<|nNz<|zI<|sRz<|vMz<|vMz ?_;(iterate 3 refine gFz ?_);refine pTz<|vMz ?_;(iterate 4 refine gFz ?_);refine pTz<|vMz ?_;(iterate 4 refine gFz ?_);refine pTz<|nNz<|cTz<|sRz<|vAz<|nNz<|zK ?_;refine thenR (finR (.inl rfl) rfl rfl rfl (.cons (.tmp rfl) .nil) ?_);rw [hn (by omega)];rfl;(iterate 3 refine gFaz ?_);refine pTaz<|vMz ?_;(iterate 3 refine gFz ?_);refine pTz<|vAz<|nNz<|zI<|sRz<|vMz<|vMz ?_;(iterate 3 refine gFz ?_);refine pTz<|vMz ?_;(iterate 4 refine gFz ?_);refine pTz<|vMz ?_;(iterate 4 refine gFz ?_);refine pTz<|nNz<|cTz<|sRz<|vAz<|nNz<|zK ?_;refine thenR (finR (.inl rfl) rfl rfl rfl (.cons (.tmp rfl) .nil) ?_);rw [hn (by omega)];rfl)
  ·rw [if_neg hs] at hS0
   have hS:∀ w',Calls Tryz.prog 84 #[.agg #[.slice p2 L.ws.length c2,.slice p3 L.ms.length c3]] w' (Ret w' (.int .i64 230)):=hS0
   rw [hn (fun h=>hs h.2.2.2.1)] at *
   clear hp hn
   (refine sRz ?_;apply zT;rfl;rfl;intro _;refine vAz<|nSz<|vFz<|ldz rfl .head fr_rd11<|lvz (.lenR rfl inferInstance rfl)<|lvz (.gtr rfl rfl)<|vMz ?_)
   (refine LW.guardDF rfl rfl rfl (fun hsq hsp=>?_) (fun hsq hsp=>?_))
   (refine vFz<|gTaz<|ldz rfl .head fr_rd12<|gTaz<|lvz (.lenR rfl inferInstance rfl)<|gTaz<|lvz (.gtr rfl rfl)<|pFaz<|vMz ?_;refine LW.guardDF rfl rfl rfl (fun hsq hsp=>?_) (fun hsq hsp=>?_);refine vFz<|gTaz<|ldz rfl .head fr_rd4<|gTaz<|lvz (.gtr rfl rfl)<|pFaz<|vAz<|nNz<|zI<|sRz<|vMz<|vMz ?_;refine LW.guardDF rfl rfl rfl (fun hsq hsp=>?_) (fun hsq hsp=>?_);refine vFz<|gTaz<|ldz rfl .head fr_rd5<|gTaz<|lvz (.eq rfl rfl)<|pFaz<|vMz ?_;refine LW.guardDF rfl rfl rfl (fun hsq hsp=>?_) (fun hsq hsp=>?_);refine vFz<|gTaz<|ldz rfl .head fr_rd0<|gTaz ?_;apply zS;rfl;rfl;infer_instance;exact .cons rfl .nil;intro w _;exact hC w (by assumption);refine gTaz ?_;refine lvz (.neF rfl rfl (by omega)) ?_;refine pFaz<|vMz<|gTz<|vFz<|gTz<|ldz rfl .head fr_rd2<|gTz ?_;apply zS;rfl;rfl;infer_instance;exact .cons rfl .nil;intro w _;exact hS w;refine gTz ?_;refine lvz (.neT rfl rfl (by omega)) ?_;refine pFz<|nNz<|cTz<|sRz<|vAz<|nNz<|zK ?_;refine thenR (finR (.inl rfl) rfl rfl rfl (.cons (.tmp rfl) .nil) ?_);rfl;(iterate 3 refine gFaz ?_);refine pTaz<|vMz ?_;(iterate 4 refine gFz ?_);refine pTz<|nNz<|cTz<|sRz<|vAz<|nNz<|zK ?_;refine thenR (finR (.inl rfl) rfl rfl rfl (.cons (.tmp rfl) .nil) ?_);rfl;refine gFaz<|gFaz<|pTaz<|vMz ?_;(iterate 4 refine gFz ?_);refine pTz<|vMz ?_;(iterate 4 refine gFz ?_);refine pTz<|nNz<|cTz<|sRz<|vAz<|nNz<|zK ?_;refine thenR (finR (.inl rfl) rfl rfl rfl (.cons (.tmp rfl) .nil) ?_);rfl;refine gFaz<|gFaz<|pTaz<|vAz<|nNz<|zI<|sRz<|vMz<|vMz ?_;(iterate 3 refine gFz ?_);refine pTz<|vMz ?_;(iterate 4 refine gFz ?_);refine pTz<|vMz ?_;(iterate 4 refine gFz ?_);refine pTz<|nNz<|cTz<|sRz<|vAz<|nNz<|zK ?_;refine thenR (finR (.inl rfl) rfl rfl rfl (.cons (.tmp rfl) .nil) ?_);rfl;(iterate 3 refine gFaz ?_);refine pTaz<|vMz ?_;(iterate 3 refine gFz ?_);refine pTz<|vAz<|nNz<|zI<|sRz<|vMz<|vMz ?_;(iterate 3 refine gFz ?_);refine pTz<|vMz ?_;(iterate 4 refine gFz ?_);refine pTz<|vMz ?_;(iterate 4 refine gFz ?_);refine pTz<|nNz<|cTz<|sRz<|vAz<|nNz<|zK ?_;refine thenR (finR (.inl rfl) rfl rfl rfl (.cons (.tmp rfl) .nil) ?_);rfl)
 ·rw [if_neg hc] at hC0
  have hC:∀ w' {fs},St w [] fs w'→Calls Tryz.prog 83 #[.slice p0 L.cl.length c0] w' (Ret w' (.int .i64 3)):=hC0
  rw [hn (fun h=>hc h.2.2.1)] at *
  clear hp hn
  (refine sRz ?_;apply zT;rfl;rfl;intro _;refine vAz<|nSz<|vFz<|ldz rfl .head fr_rd11<|lvz (.lenR rfl inferInstance rfl)<|lvz (.gtr rfl rfl)<|vMz ?_)
  (refine LW.guardDF rfl rfl rfl (fun hsq hsp=>?_) (fun hsq hsp=>?_))
  (refine vFz<|gTaz<|ldz rfl .head fr_rd12<|gTaz<|lvz (.lenR rfl inferInstance rfl)<|gTaz<|lvz (.gtr rfl rfl)<|pFaz<|vMz ?_;refine LW.guardDF rfl rfl rfl (fun hsq hsp=>?_) (fun hsq hsp=>?_);refine vFz<|gTaz<|ldz rfl .head fr_rd4<|gTaz<|lvz (.gtr rfl rfl)<|pFaz<|vAz<|nNz<|zI<|sRz<|vMz<|vMz ?_;refine LW.guardDF rfl rfl rfl (fun hsq hsp=>?_) (fun hsq hsp=>?_);refine vFz<|gTaz<|ldz rfl .head fr_rd5<|gTaz<|lvz (.eq rfl rfl)<|pFaz<|vMz ?_;refine LW.guardDF rfl rfl rfl (fun hsq hsp=>?_) (fun hsq hsp=>?_);refine vFz<|gTaz<|ldz rfl .head fr_rd0<|gTaz ?_;apply zS;rfl;rfl;infer_instance;exact .cons rfl .nil;intro w _;exact hC w (by assumption);refine gTaz ?_;refine lvz (.neT rfl rfl (by omega)) ?_;refine pFaz<|vMz ?_;(iterate 4 refine gFz ?_);refine pTz<|nNz<|cTz<|sRz<|vAz<|nNz<|zK ?_;refine thenR (finR (.inl rfl) rfl rfl rfl (.cons (.tmp rfl) .nil) ?_);rfl;(iterate 3 refine gFaz ?_);refine pTaz<|vMz ?_;(iterate 4 refine gFz ?_);refine pTz<|nNz<|cTz<|sRz<|vAz<|nNz<|zK ?_;refine thenR (finR (.inl rfl) rfl rfl rfl (.cons (.tmp rfl) .nil) ?_);rfl;refine gFaz<|gFaz<|pTaz<|vMz ?_;(iterate 4 refine gFz ?_);refine pTz<|vMz ?_;(iterate 4 refine gFz ?_);refine pTz<|nNz<|cTz<|sRz<|vAz<|nNz<|zK ?_;refine thenR (finR (.inl rfl) rfl rfl rfl (.cons (.tmp rfl) .nil) ?_);rfl;refine gFaz<|gFaz<|pTaz<|vAz<|nNz<|zI<|sRz<|vMz<|vMz ?_;(iterate 3 refine gFz ?_);refine pTz<|vMz ?_;(iterate 4 refine gFz ?_);refine pTz<|vMz ?_;(iterate 4 refine gFz ?_);refine pTz<|nNz<|cTz<|sRz<|vAz<|nNz<|zK ?_;refine thenR (finR (.inl rfl) rfl rfl rfl (.cons (.tmp rfl) .nil) ?_);rfl;(iterate 3 refine gFaz ?_);refine pTaz<|vMz ?_;(iterate 3 refine gFz ?_);refine pTz<|vAz<|nNz<|zI<|sRz<|vMz<|vMz ?_;(iterate 3 refine gFz ?_);refine pTz<|vMz ?_;(iterate 4 refine gFz ?_);refine pTz<|vMz ?_;(iterate 4 refine gFz ?_);refine pTz<|nNz<|cTz<|sRz<|vAz<|nNz<|zK ?_;refine thenR (finR (.inl rfl) rfl rfl rfl (.cons (.tmp rfl) .nil) ?_);rfl)
end
section
def catI {α:Type} (env:List (List α)) (xs:List Nat) (tail:List α):List α:=xs.foldr (fun i acc=>env.getD i []++acc) tail
theorem perm_ix {α:Type} (env:List (List α)) {xs ys:List Nat} (tail:List α) (h:xs.isPerm ys=true):(catI env xs tail).Perm (catI env ys tail):=by
 have hp:xs.Perm ys:=List.isPerm_iff.1 h
 clear h
 unfold catI
 induction hp with
 |nil=>exact .refl _
 |cons x _ ih=>exact List.Perm.append_left _ ih
 |swap x y l =>
  simp only [List.foldr_cons,← List.append_assoc]
  exact List.Perm.append_right _ List.perm_append_comm
 |trans _ _ ih1 ih2=>exact ih1.trans ih2
def SubP {α:Type} (l l':List α):Prop:=∃ m,l.Sublist m∧m.Perm l'
theorem catI_tail {α:Type} (env:List (List α)) (zs:List Nat) (tail:List α):tail.Sublist (catI env zs tail):=by
 induction zs with
 |nil=>exact .refl _
 |cons z zs ih=>exact List.Sublist.trans ih (List.sublist_append_right _ _)
theorem catI_app {α:Type} (env:List (List α)) (xs zs:List Nat) (tail:List α):(catI env xs tail).Sublist (catI env (xs++zs) tail):=by
 induction xs with
 |nil=>exact catI_tail env zs tail
 |cons x xs ih=>exact List.Sublist.append_left ih _
theorem subp_ix {α:Type} (env:List (List α)) {xs ys:List Nat} (tail:List α) (h:(xs++ys.filter fun y=>!xs.contains y).isPerm ys=true):SubP (catI env xs tail) (catI env ys tail):=⟨_,catI_app env xs _ tail,perm_ix env tail h⟩
theorem SubP.st {w0 w:World} {S:List Nat} {fs gs:Fs} (h:SubP gs fs) (hs:St w0 S fs w):St w0 S gs w:=by
 obtain ⟨m,h1,h2⟩:=h
 exact st_sub (hs.perm h2) h1
theorem LW.subP {C:Cu} {ops:Array Oper} {Q:Post} {l:List Oper} {e:Env} {fs fs':Fs} (hp:SubP fs' fs) (h:LW C ops Q l e fs'):LW C ops Q l e fs:=by
 unfold LW at h ⊢
 exact fun a w hs=>h a w ⟨hs.env,hp.st hs.st⟩
def anyO (K:Out):Out:=fun x fs'=>∃ fs'',K x fs''∧SubP fs'' fs'
theorem calls_anyO {P:Program} {f:FuncId} {args:Array Value} {w0 w:World} {S:List Nat} {K:Out} (h:Calls P f args w (fun x w'=>∃ fs',anyO K x fs'∧St w0 S fs' w')):Calls P f args w (fun x w'=>∃ fs',K x fs'∧St w0 S fs' w') :=
 Calls.mono h fun x w' ⟨fs',⟨fs'',hk,hp⟩,hst⟩=>⟨fs'',hk,hp.st hst⟩
def FrO (f:FrV) (L:FrL) (gs:Fs):Prop:=∃ g1 g2 g3 g4 g5,(g1++(g2++(g3++(g4++g5)))).Perm gs∧bM L.cl f.code g1∧wM L.ws f.stk g2∧bM L.ms f.mem g3∧bM L.il f.inp g4∧bM L.bl f.back g5
theorem bM_at {l:List UInt8} {v:Value} {g:Fs} {w:World} (h:bM l v g) (hw:∀ p∈g,w.heap[p.1]?=some p.2):RowAt w 1 v l.length (ucs l):=IsRow.us h hw (qO _)
theorem wM_at {l:List Nat} {v:Value} {g:Fs} {w:World} (h:wM l v g) (hw:∀ p∈g,w.heap[p.1]?=some p.2):RowAt w 4 v l.length (wcs l):=IsRow.us h hw (qO _)
theorem FrO.rows {f:FrV} {L:FrL} {gs:Fs} {w:World} (h:FrO f L gs) (hw:∀ p∈gs,w.heap[p.1]?=some p.2):FrRows w f L:=by
 obtain ⟨g1,g2,g3,g4,g5,hp,h1,h2,h3,h4,h5⟩:=h
 replace hw:∀ p∈g1++(g2++(g3++(g4++g5))),w.heap[p.1]?=some p.2:=fun p h=>hw p (hp.subset h)
 exact ⟨bM_at h1 fun p hp=>hw p (by simp [hp]),wM_at h2 fun p hp=>hw p (by simp [hp]),bM_at h3 fun p hp=>hw p (by simp [hp]),bM_at h4 fun p hp=>hw p (by simp [hp]),bM_at h5 fun p hp=>hw p (by simp [hp])⟩
theorem FrO.st {f:FrV} {L:FrL} {gs fs:Fs} {w0 w:World} {S:List Nat} (h:FrO f L gs) (hs:St w0 S fs w) (hg:∀ p∈gs,p∈fs):FrRows w f L:=h.rows fun p hp=>(hs.own p (hg p hp)).2
attribute [local irreducible] SL.inP
def FrL.setM (L:FrL) (ms:List UInt8):FrL:={ L with ms:=ms }
def costR (L:FrL) (a n:Nat):Nat:=memV L.ms.length (endV a n)
def memR (L:FrL) (a n:Nat):FrL:=L.setM (L.ms++List.replicate (upW (endV a n) - L.ms.length) 0)
def frR (f:FrV) (L:FrL) (a n:Nat) (s k:Value):FrV:={ f with gas:=f.gas - costR L a n,stk:=s,mem:=k }
def MaV.setF (m:MaV) (f:FrV):MaV:={ m with fr:=f }
theorem memV_le {k E g:Nat} (hk:k≤1024) (hg:g≤20000) (h:memV k E≤g):E≤1024:=by
 unfold memV at h
 split at h
 ·omega
 ·split at h<;>omega
theorem endV_lt (a n:Nat):endV a n < 18446744073709551616:=by
 unfold endV NOG
 split<;>omega
end
section
def FrV.rows (f:FrV) (c s m i b:Value):FrV:=⟨c,f.pc,s,m,f.gas,f.self,f.frm,f.val,i,b,f.stat⟩
section wr
variable {P : Program} {T E : TypeId} {code stk mem inp back z : Value} {pc : Int} {gas self frm val n c : Nat} {stat : Bool} {p : Option Addr} {g : Nat}
theorem fr_wr0 [InfoI P T 1 z]:Wr P T (.cells (fra ⟨code,pc,stk,mem,gas,self,frm,val,inp,back,stat⟩) E (0,0)) (0+0) (.slice p n c) (.cells (fra ⟨.slice p n c,pc,stk,mem,gas,self,frm,val,inp,back,stat⟩) E (0,0)):=Wr.cells (n:=1) (z:=z) rfl rfl (by show 0+0+1≤14;omega) rfl
theorem fr_wr2 [InfoI P T 1 z]:Wr P T (.cells (fra ⟨code,pc,stk,mem,gas,self,frm,val,inp,back,stat⟩) E (0,0)) (0+2+0) (.slice p n c) (.cells (fra ⟨code,pc,.slice p n c,mem,gas,self,frm,val,inp,back,stat⟩) E (0,0)):=Wr.cells (n:=1) (z:=z) rfl rfl (by show 0+2+0+1≤14;omega) rfl
theorem fr_wr3 [InfoI P T 1 z]:Wr P T (.cells (fra ⟨code,pc,stk,mem,gas,self,frm,val,inp,back,stat⟩) E (0,0)) (0+2+1) (.slice p n c) (.cells (fra ⟨code,pc,stk,.slice p n c,gas,self,frm,val,inp,back,stat⟩) E (0,0)):=Wr.cells (n:=1) (z:=z) rfl rfl (by show 0+2+1+1≤14;omega) rfl
theorem fr_wr11 [InfoI P T 1 z]:Wr P T (.cells (fra ⟨code,pc,stk,mem,gas,self,frm,val,inp,back,stat⟩) E (0,0)) (0+11) (.slice p n c) (.cells (fra ⟨code,pc,stk,mem,gas,self,frm,val,.slice p n c,back,stat⟩) E (0,0)):=Wr.cells (n:=1) (z:=z) rfl rfl (by show 0+11+1≤14;omega) rfl
theorem fr_wr12 [InfoI P T 1 z]:Wr P T (.cells (fra ⟨code,pc,stk,mem,gas,self,frm,val,inp,back,stat⟩) E (0,0)) (0+12) (.slice p n c) (.cells (fra ⟨code,pc,stk,mem,gas,self,frm,val,inp,.slice p n c,stat⟩) E (0,0)):=Wr.cells (n:=1) (z:=z) rfl rfl (by show 0+12+1≤14;omega) rfl
end wr
structure FrSl (f:FrV):Prop where
 c:∃ p n c,f.code=.slice p n c
 s:∃ p n c,f.stk=.slice p n c
 m:∃ p n c,f.mem=.slice p n c
 i:∃ p n c,f.inp=.slice p n c
 b:∃ p n c,f.back=.slice p n c
theorem FrRows.sl {w:World} {f:FrV} {L:FrL} (h:FrRows w f L):FrSl f:=by
 obtain ⟨a,b,h1,_⟩:=h.c.form
 obtain ⟨a2,b2,h2,_⟩:=h.s.form
 obtain ⟨a3,b3,h3,_⟩:=h.m.form
 obtain ⟨a4,b4,h4,_⟩:=h.i.form
 obtain ⟨a5,b5,h5,_⟩:=h.b.form
 exact ⟨⟨_,_,_,h1⟩,⟨_,_,_,h2⟩,⟨_,_,_,h3⟩,⟨_,_,_,h4⟩,⟨_,_,_,h5⟩⟩
theorem fr_cells {f:FrV} (h:FrSl f):(fra f).toList.all Value.oneCell'=true:=by
 obtain ⟨⟨_,_,_,h1⟩,⟨_,_,_,h2⟩,⟨_,_,_,h3⟩,⟨_,_,_,h4⟩,⟨_,_,_,h5⟩⟩:=h
 simp only [fra,frc,wc,List.cons_append,List.nil_append,List.all_cons,List.all_nil,h1,h2,h3,h4,h5];rfl
theorem fr_wrW {P:Program} {T E:TypeId} {f:FrV} {z:Value} {cs:Array Value} [InfoI P T 14 z] (h:cs.size=14) (hf:FrSl f):Wr P T (.cells cs E (0,0)) 0 (frv f) (.cells (fra f) E (0,0)):=Wr.whole h rfl (fr_cells hf)
theorem perm5 {α:Type} (g1 g2 g3 g4 g5:List α):(g1++(g2++(g3++(g4++g5)))).Perm (g3++(g2++(g5++(g4++g1)))):=by
 have h:=perm_ix [g1,g2,g3,g4,g5] (xs:=[0,1,2,3,4]) (ys:=[2,1,4,3,0]) [] rfl
 simpa [catI] using h
def FrL.short (L:FrL):Prop:=L.cl.length≤100000∧L.ws.length≤100000∧L.ms.length≤100000∧L.il.length≤100000∧L.bl.length≤100000
def ma0 (f:FrV) (e0 e1 e2 e3:Nat):MaV:=⟨f,e0,e1,e2,e3,.slice none 0 0,0,0,.slice none 0 0,.slice none 0 0⟩
def OfR (f:FrV) (L:FrL) (e0 e1 e2 e3:Nat) (v:Value) (gs:Fs):Prop:=∃ bm c s m i b g,v=.pointer (some ⟨bm,0,none⟩)∧gs=(bm,maO (ma0 (f.rows c s m i b) e0 e1 e2 e3))::g∧FrO (f.rows c s m i b) L g
def enva (e0 e1 e2 e3:Nat):Array Value:=#[.int .u64 (e0:Int),.int .u64 (e1:Int),.int .u64 (e2:Int),.int .u64 (e3:Int)]
theorem fOf_calls (f:FrV) (L:FrL) (e0 e1 e2 e3:Nat) (hl:L.short) (w:World) (h:FrRows w f L):Calls Tryz.prog 40 #[frv f,.agg (enva e0 e1 e2 e3)] w (RetG w [] (OfR f L e0 e1 e2 e3)):=by
 obtain ⟨code,pc,stk,mem,gas,self,frm,val,inp,back,stat⟩:=f
 obtain ⟨h0,h2,h3,h11,h12⟩:=h
 dsimp only at h0 h2 h3 h11 h12
 obtain ⟨p0,c0,rfl,_,hm0⟩:=id h0.form
 obtain ⟨p2,c2,rfl,_,hm2⟩:=id h2.form
 obtain ⟨p3,c3,rfl,_,hm3⟩:=id h3.form
 obtain ⟨p11,c11,rfl,_,hm11⟩:=id h11.form
 obtain ⟨p12,c12,rfl,_,hm12⟩:=id h12.form
 refine enter (args:=[_,_]) _ [] [] Tryz.func40 rfl Tryz.ntmps40 rfl (by simp) .nil ?_
 (refine sRz ?_;apply zT;rfl;rfl;intro _;apply zT;rfl;rfl;intro _;refine vAz<|nNz<|zI ?_)
 rename_i b1 b2
 apply CW.pre
 (refine AnyW.anyM [(2,bM L.cl),(5,bM L.il),(8,bM L.bl)] 10 mixed (by decide +kernel) ?_)
 ((try simp only [tsOf_cons,tsOf_nil,tsOf_app]);refine dvz (.fieldAddr rfl rfl) ?_;apply qF;rfl;rfl;rfl;exact zC;rfl;apply zO;apply zP;exact zN;exact fr_rd0)
 (apply DW.manyV;rfl;rfl;rfl;exact zC;rfl;infer_instance;exact .cons rfl .nil;apply RdV.ext;assumption;rfl;exact RdV.nil;intro w _ _)
 exact SK.Clone_calls _ _ w (h0.bel (by assumption)) hl.1
 intro v1 g1 h1
 ((try simp only [tsOf_cons,tsOf_nil,tsOf_app]);refine dvz (.fieldAddr rfl rfl) ?_;apply qF;rfl;rfl;rfl;exact zC;rfl;apply zQ;apply zO;apply zP;exact zN;exact fr_rd11)
 (apply DW.manyV;rfl;rfl;rfl;exact zC;rfl;infer_instance;exact .cons rfl .nil;apply RdV.ext;assumption;rfl;exact RdV.nil;intro w _ _)
 exact SK.Clone_calls _ _ w (h11.bel (by assumption)) hl.2.2.2.1
 intro v4 g4 h4
 ((try simp only [tsOf_cons,tsOf_nil,tsOf_app]);refine dvz (.fieldAddr rfl rfl) ?_;apply qF;rfl;rfl;rfl;exact zC;rfl;apply zQ;apply zQ;apply zO;apply zP;exact zN;exact fr_rd12)
 (apply DW.manyV;rfl;rfl;rfl;exact zC;rfl;infer_instance;exact .cons rfl .nil;apply RdV.ext;assumption;rfl;exact RdV.nil;intro w _ _)
 exact SK.Clone_calls _ _ w (h12.bel (by assumption)) hl.2.2.2.2
 intro v5 g5 h5
 have h1':=h1
 have h4':=h4
 have h5':=h5
 unfold bM at h1' h4' h5'
 obtain ⟨q1,k1,rfl⟩:=h1'.form
 obtain ⟨q4,k4,rfl⟩:=h4'.form
 obtain ⟨q5,k5,rfl⟩:=h5'.form
 ((try simp only [tsOf_cons,tsOf_nil,tsOf_app]);refine dvz (.fieldAddr rfl rfl) ?_;apply DW.nil;simp only [fsOf_cons,fsOf_nil,fsOf_app,fsOf_tsOf,fsOf_new,fsOf_tag])
 (refine zR rfl rfl (.app (.app (.app (.tail .head)))) fr_wr0<|vFz ?_;refine zR rfl rfl (.app (.app (.app (.tail .head)))) fr_wr11<|vFz ?_;refine zR rfl rfl (.app (.app (.app (.tail .head)))) fr_wr12<|nNz<|zI ?_)
 apply CW.pre
 (refine AnyW.anyM [(3,wM L.ws),(7,bM L.ms)] 10 mixed (by decide +kernel) ?_)
 ((try simp only [tsOf_cons,tsOf_nil,tsOf_app]);refine dvz (.fieldAddr rfl rfl)<|dvz (.fieldAddr rfl rfl) ?_;apply qF;rfl;rfl;rfl;exact zC;rfl;apply zQ;apply zQ;apply zQ;apply zO;apply zP;exact zN;exact fr_rd2s)
 (apply DW.manyV;rfl;rfl;rfl;exact zC;rfl;infer_instance;exact .cons rfl .nil;apply RdV.ext;assumption;rfl;exact RdV.nil;intro w _ _)
 exact CloneW_calls _ _ w (h2.bel (by assumption)) hl.2.1
 intro v2 g2 hh2
 ((try simp only [tsOf_cons,tsOf_nil,tsOf_app]);refine dvz (.fieldAddr rfl rfl)<|dvz (.fieldAddr rfl rfl) ?_;apply qF;rfl;rfl;rfl;exact zC;rfl;apply zQ;apply zQ;apply zQ;apply zQ;apply zO;apply zP;exact zN;exact fr_rd3)
 (apply DW.manyV;rfl;rfl;rfl;exact zC;rfl;infer_instance;exact .cons rfl .nil;apply RdV.ext;assumption;rfl;exact RdV.nil;intro w _ _)
 exact SK.Clone_calls _ _ w (h3.bel (by assumption)) hl.2.2.1
 intro v3 g3 hh3
 have h2':=hh2
 have h3':=hh3
 unfold wM at h2'
 unfold bM at h3'
 obtain ⟨q2,k2,rfl⟩:=h2'.form
 obtain ⟨q3,k3,rfl⟩:=h3'.form
 ((try simp only [tsOf_cons,tsOf_nil,tsOf_app]);refine dvz (.fieldAddr rfl rfl)<|dvz (.fieldAddr rfl rfl) ?_;apply DW.nil;simp only [fsOf_cons,fsOf_nil,fsOf_app,fsOf_tsOf,fsOf_new,fsOf_tag])
 have hsl:FrSl ⟨.slice q1 L.cl.length k1,pc,.slice q2 L.ws.length k2,.slice q3 L.ms.length k3,gas,self,frm,val,.slice q4 L.il.length k4,.slice q5 L.bl.length k5,stat⟩:=⟨⟨_,_,_,rfl⟩,⟨_,_,_,rfl⟩,⟨_,_,_,rfl⟩,⟨_,_,_,rfl⟩,⟨_,_,_,rfl⟩⟩
 (refine zR rfl rfl (.app (.app (.app (.app (.app (.tail .head)))))) fr_wr2<|vFz<|vFz ?_;refine zR rfl rfl (.app (.app (.app (.app (.app (.tail .head)))))) fr_wr3<|nSz<|ldz rfl (.app (.app (.app (.app (.app (.tail .head)))))) fr_rdW<|ldz rfl (.app (.app (.app (.app (.app .head))))) (qH rfl) ?_;apply LW.v0;rfl;rfl;apply zW;infer_instance;infer_instance;apply zA;rfl;apply zA;rfl;exact zB;rfl;simp only [fillP,wrCells,fra,frc,enva,wc,Value.cells,qJ,qK,qL,qI,qN,qM,List.cons_append,List.nil_append,Nat.reduceAdd,qP];rfl;apply zT;rfl;rfl;intro _;refine vAz<|nNz<|zK ?_)
 rename_i bm
 refine fin (vs:=[.pointer (some ⟨bm,0,none⟩)]) ((bm,maO (ma0 ⟨.slice q1 L.cl.length k1,pc,.slice q2 L.ws.length k2,.slice q3 L.ms.length k3,gas,self,frm,val,.slice q4 L.il.length k4,.slice q5 L.bl.length k5,stat⟩ e0 e1 e2 e3))::(g3++(g2++(g5++(g4++g1))))) (.inl rfl) rfl rfl (by (apply zD;exact zG rfl;exact zF)) ?_ ⟨bm,_,_,_,_,_,_,rfl,rfl,g1,g2,g3,g4,g5,perm5 g1 g2 g3 g4 g5,h1,hh2,hh3,h4,h5⟩
 exact List.Sublist.cons_cons _ (List.Sublist.append_left (List.Sublist.append_left (List.Sublist.append_left (List.Sublist.append_left (qR _ _) _) _) _) _)
end
section
attribute [local irreducible] SL.inP
def FrV.setR (f:FrV) (g:Nat) (s k:Value):FrV:={ f with gas:=g,stk:=s,mem:=k }
def FrV.rowsG (f:FrV) (g:Nat) (c s m i b:Value):FrV:=⟨c,f.pc,s,m,g,f.self,f.frm,f.val,i,b,f.stat⟩
def FrL.setW (L:FrL) (ws:List Nat):FrL:={ L with ws:=ws }
theorem FrO.sl {f:FrV} {L:FrL} {gs:Fs} (h:FrO f L gs):FrSl f:=by
 obtain ⟨g1,g2,g3,g4,g5,_,h1,h2,h3,h4,h5⟩:=h
 unfold bM at h1 h3 h4 h5
 unfold wM at h2
 obtain ⟨_,_,h1⟩:=h1.form
 obtain ⟨_,_,h2⟩:=h2.form
 obtain ⟨_,_,h3⟩:=h3.form
 obtain ⟨_,_,h4⟩:=h4.form
 obtain ⟨_,_,h5⟩:=h5.form
 exact ⟨⟨_,_,_,h1⟩,⟨_,_,_,h2⟩,⟨_,_,_,h3⟩,⟨_,_,_,h4⟩,⟨_,_,_,h5⟩⟩
def LayK (b:Nat) (m:MaV) (L:FrL) (gs:Fs) (l:List Nat) (rest:Fs):Out:=fun x fs' =>
 (64 < L.ws.length+l.length∧x=.panicked failC∧fs'=(b,maO m)::(gs++rest)) ∨
 (L.ws.length+l.length≤64∧∃ s k gs',x=.returned (.tuple #[])∧FrO (m.fr.setR m.fr.gas s k) (L.setW (L.ws++l)) gs'∧fs'=(b,maO (m.setF (m.fr.setR m.fr.gas s k)))::(gs'++rest))
theorem lay_calls (w0:World) (S:List Nat) (b:Nat) (m:MaV) (L:FrL) (gs:Fs) (l:List Nat) (v:Value) (hok:okSc L.ws.length L.ms.length) (hll:l.length≤100000) (hfr:FrO m.fr L gs) (rest:Fs) (w:World)
  (hv:∀ w',St w0 S ((b,maO m)::(gs++rest)) w'→RowAt w' 4 v l.length (wcs l)) (hs:St w0 S ((b,maO m)::(gs++rest)) w) :
  Calls Tryz.prog 74 #[.pointer (some ⟨b,0,none⟩),v] w (fun x w'=>∃ fs',LayK b m L gs l rest x fs'∧St w0 S fs' w'):=by
 have h1:∀ w',St w0 S ((b,maO m)::(gs++rest)) w'→RowAt w' 4 m.fr.stk L.ws.length (wcs L.ws)∧RowAt w' 1 m.fr.mem L.ms.length (ucs L.ms)∧RowAt w' 4 v l.length (wcs l):=fun w' h=>by
  have hr:=hfr.st h fun p hp=>qQ _ (List.mem_append_left _ hp)
  exact ⟨hr.s,hr.m,hv w' h⟩
 rcases Nat.lt_or_ge 64 (L.ws.length+l.length) with hlt|hge
 ·refine Calls.mono (lay_full w0 S b m L.ws L.ms l v (gs++rest) w hs h1 hok hll hlt) ?_
  rintro x w' ⟨fs',⟨rfl,c4,rfl⟩,hst⟩
  exact ⟨_,.inl ⟨hlt,rfl,rfl⟩,st_sub hst (qS _ (qO _))⟩
 ·refine Calls.mono (lay_ok w0 S b m L.ws L.ms l v (gs++rest) w hs h1 hok hll hge) ?_
  rintro x w' ⟨fs',⟨rfl,s,k,gs2,c4,⟨s',k',gg1,gg2,he,rfl,hw1,hb1⟩,rfl⟩,hst⟩
  cases he
  obtain ⟨g1,g2,g3,g4,g5,hp,hall⟩:=hfr
  replace hst:=hst.perm (fs':=c4::((gg2++gg1)++(b,maO (m.setSc s k))::((g1++(g2++(g3++(g4++g5))))++rest))) (List.Perm.cons _ (List.Perm.append_left _ (List.Perm.cons _ (hp.append_right rest))))
  refine ⟨_,.inr ⟨hge,s,k,g1++(gg1++(gg2++(g4++g5))),rfl,⟨g1,gg1,gg2,g4,g5,.refl _,hall.1,hw1,hb1,hall.2.2.2.1,hall.2.2.2.2⟩,rfl⟩,SubP.st ?_ hst⟩
  simp only [List.append_assoc,List.cons_append,List.nil_append]
  exact subp_ix [[_],gg2,gg1,[_],g1,g2,g3,g4,g5] (xs:=[3,4,2,1,7,8]) (ys:=[0,1,2,3,4,5,6,7,8]) rest rfl
def DoK (b:Nat) (f:FrV) (R:Option (Nat × FrL)) (rest:Fs):Out:=fun x fs'=>match R with
 |none=>x=.panicked failC∧fs'=rest
 |some (g,L')=>∃ s k gs',x=.returned (.tuple #[])∧FrO (f.setR g s k) L' gs'∧fs'=(b,maO (ma0 (f.setR g s k) 0 0 0 0))::(gs'++rest)
def zeroF:FrV:=⟨.slice none 0 0,0,.slice none 0 0,.slice none 0 0,0,0,0,0,.slice none 0 0,.slice none 0 0,false⟩
def zeroL:FrL:=⟨[],[],[],[],[]⟩
theorem zero_frO:FrO zeroF zeroL []:=⟨[],[],[],[],[],.refl _,.nil,.nil,.nil,.nil,.nil⟩
def ToldK (f:FrV) (R:Option (Nat × FrL)) (fs:Fs):Out:=fun x fs'=>match R with
 |none=>x=.returned (.tuple #[frv zeroF,.bool false])∧fs'=fs
 |some (g,L')=>∃ c s m i b gs',x=.returned (.tuple #[frv (f.rowsG g c s m i b),.bool true])∧FrO (f.rowsG g c s m i b) L' gs'∧fs'=gs'++fs
def Does (w0:World) (S:List Nat) (f:FrV) (L:FrL) (fs:Fs) (fn:FuncId) (cap:Array Value) (R:Option (Nat × FrL)):Prop :=
 ∀ b c s m i b5 gs rest w',FrO (f.rows c s m i b5) L gs→(∀ p∈fs,p∈rest)→St w0 S ((b,maO (ma0 (f.rows c s m i b5) 0 0 0 0))::(gs++rest)) w' →
  Calls Tryz.prog fn (Value.pointer (some ⟨b,0,none⟩)::cap.toList).toArray w' (fun x w''=>∃ fs',DoK b (f.rows c s m i b5) R rest x fs'∧St w0 S fs' w'')
theorem told1_calls (w0:World) (S:List Nat) (f:FrV) (L:FrL) (fs:Fs) (fn:FuncId) (cap:Array Value) (R:Option (Nat × FrL)) (hF:FnI Tryz.prog fn) (hd:Does w0 S f L fs fn cap R) (b b3 b6:Nat) (c s m i b5:Value) (gs R0:Fs) (hfr:FrO (f.rows c s m i b5) L gs)
  (hsub:∀ p∈fs,p∈R0) (h3:(b3,Obj.cells #[.func (.func fn) #[] cap] 116 (0,0))∈R0) (h6:(b6,Obj.cells #[.pointer (some ⟨b,0,none⟩)] 74 (0,0))∈R0) (w:World) (hs:St w0 S ((b,maO (ma0 (f.rows c s m i b5) 0 0 0 0))::(gs++R0)) w) :
  Calls Tryz.prog 117 #[.pointer (some ⟨b3,0,none⟩),.pointer (some ⟨b6,0,none⟩)] w (fun x w'=>∃ fs',DoK b (f.rows c s m i b5) R R0 x fs'∧St w0 S fs' w'):=by
 have k3:(b3,Obj.cells #[.func (.func fn) #[] cap] 116 (0,0))∈(b,maO (ma0 (f.rows c s m i b5) 0 0 0 0))::(gs++R0):=qQ _ (List.mem_append_right _ h3)
 have k6:(b6,Obj.cells #[.pointer (some ⟨b,0,none⟩)] 74 (0,0))∈(b,maO (ma0 (f.rows c s m i b5) 0 0 0 0))::(gs++R0):=qQ _ (List.mem_append_right _ h6)
 refine calls_inlineP (K:=DoK b (f.rows c s m i b5) R R0) (args:=[_,_]) Tryz.func117 rfl Tryz.ntmps117 rfl ?_ hs
 (refine zL ?_;apply LW.load;rfl;rfl;exact Known.own k3;exact Rd.one' rfl;apply LW.load;rfl;rfl;exact Known.own k6;exact Rd.one' rfl)
 refine LW.callP (K:=DoK b (f.rows c s m i b5) R R0) (aas:=.pointer (some ⟨b,0,none⟩)::cap.toList) rfl rfl hF (by (exact .cons rfl .nil)) rfl (fun fs h=>?_) (fun w' hst=>hd b c s m i b5 gs R0 w' hfr hsub hst) ?_ ?_
 ·unfold DoK at h
  cases R with
  |none=>cases h.1
  |some x=>obtain ⟨_,_,_,h,_⟩:=h;cases h
 ·intro v fs' h
  cases R with
  |none=>cases h.1
  |some x =>
   obtain ⟨s',k',gs',h1,h2,h3⟩:=h
   cases h1
   (apply zV)
   exact inPI (.inr rfl) .nil rfl .nil rfl ⟨s',k',gs',rfl,h2,h3⟩
 ·intro ch fs' h
  cases R with
  |none =>
   obtain ⟨h1,h2⟩:=h
   cases h1
   exact inPP .nil ⟨rfl,h2⟩
  |some x=>obtain ⟨_,_,_,h,_⟩:=h;cases h
theorem DoK.try {b:Nat} {f:FrV} {R:Option (Nat × FrL)} {fs:Fs}:TryK (DoK b f R fs):=fun x fs' h=>by
 cases R with
 |none=>exact .inr h.1
 |some x=>obtain ⟨_,_,_,h,_⟩:=h;exact .inl h
theorem DoK.app {b:Nat} {f:FrV} {R:Option (Nat × FrL)} {R0 rest:Fs} {x:Ending} {fs':Fs} (h:DoK b f R (R0++rest) x fs'):∃ own',DoK b f R R0 x own'∧fs'=own'++rest:=by
 cases R with
 |none =>
  obtain ⟨h1,rfl⟩:=h
  exact ⟨R0,⟨h1,rfl⟩,rfl⟩
 |some x =>
  obtain ⟨s,k,gs',h1,h2,rfl⟩:=h
  exact ⟨_,⟨s,k,gs',h1,h2,rfl⟩,by simp⟩
section rd
variable {P : Program} {T E : TypeId} {fr : Nat × Nat} {m : MaV}
theorem ma_rdF [AgI P T true] {z:Value} [InfoI P T 14 z]:Rd P T (.cells (mca m) E fr) 0 (frv m.fr):=Rd.mid (cs:=frc m.fr) rfl rfl
end rd
theorem told_calls (w0:World) (S:List Nat) (f:FrV) (L:FrL) (fs:Fs) (fn:FuncId) (cap:Array Value) (R:Option (Nat × FrL)) (hl:L.short) (hF:FnI Tryz.prog fn) (hd:Does w0 S f L fs fn cap R) (hok:okF f L) (w:World) (hs:St w0 S fs w) (hf:∀ w',Bel w0.heap.size S w0 w'→FrRows w' f L) :
  Calls Tryz.prog 71 #[frv f,.func (.func fn) #[] cap] w (fun x w'=>∃ fs',ToldK f R fs x fs'∧St w0 S fs' w'):=by
 refine calls_anyO (calls_inlineP (K:=anyO (ToldK f R fs)) (args:=[_,_]) Tryz.func71 rfl Tryz.ntmps71 rfl ?_ hs)
 (refine sRz ?_;apply zT;rfl;rfl;intro _;apply LW.box1;rfl;rfl;rfl;intro _;apply zU;rfl;intro _;refine vAz<|nNz<|zI<|sRz<|ldz rfl (.tail (.tail .head)) (qH rfl) ?_)
 (apply zS;rfl;rfl;infer_instance;exact .cons rfl .nil;intro w _)
 rename_i hst
 have h0:=fCheck_calls f L w (hf w hst.bel)
 rw [if_pos hok] at h0
 exact h0
 (refine lvz (.neF rfl rfl (by omega)) ?_;refine nNz<|cFz<|zJ<|thenN<|sRz<|ldz rfl (.tail (.tail .head)) (qH rfl) ?_;apply LW.v0;rfl;rfl;apply zW;infer_instance;infer_instance;exact zB;rfl;simp only [fillP,wrCells,Value.cells,qJ,qK,qL,qI,qN,qM,Nat.reduceAdd,qP];rfl)
 (apply LW.callR;rfl;rfl;infer_instance;exact .cons rfl (.cons rfl .nil);intro w hs)
 exact fOf_calls f L 0 0 0 0 hl w (hf w hs.bel)
 rintro v gso ⟨bm,c,s,m,i,b5,g,rfl,rfl,hfr⟩
 rename_i b2 b3 b4
 (apply LW.alloc1;rfl;rfl;intro _;apply zR;rfl;rfl;apply qA;apply Wr.cells;rfl;rfl;simp only [wc,List.size_toArray,List.length_cons,List.length_nil];omega;simp only [fillC,wc,wrCells,Value.cells,qL,qI,qN,qM,Nat.reduceAdd,Nat.reduceMul,qP,Nat.mul_one];rfl;refine nNz<|zI<|sRz ?_;apply LW.v0;rfl;rfl;apply ValP.makeFunc;exact ArgsOk.nil;exact .cons rfl (.cons rfl .nil))
 rename_i b6
 refine LW.perm (fs':=(bm,maO (ma0 (f.rows c s m i b5) 0 0 0 0))::(g++((b6,.cells #[.pointer (some ⟨bm,0,none⟩)] 74 (0,0))::(b4,.cells #[.slice none 0 0,.int .i64 0,.slice none 0 0,.slice none 0 0,.int .u64 0,.int .u64 0,.int .u64 0,.int .u64 0,.int .u64 0,.int .u64 0,.int .u64 0,.slice none 0 0,.slice none 0 0,.bool false] 31 (0,0))::(b3,.cells #[.func (.func fn) #[] cap] 116 (0,0))::(b2,.cells (fra f) 31 (0,0))::fs))) ?_ ?_
 ·simp only [List.cons_append]
  exact perm_ix [[_],[_],g,[_],[_],[_]] (xs:=[1,2,0,3,4,5]) (ys:=[0,1,2,3,4,5]) fs rfl
 generalize hR0:((b6,Obj.cells #[.pointer (some ⟨bm,0,none⟩)] 74 (0,0))::(b4,Obj.cells #[.slice none 0 0,.int .i64 0,.slice none 0 0,.slice none 0 0,.int .u64 0,.int .u64 0,.int .u64 0,.int .u64 0,.int .u64 0,.int .u64 0,.int .u64 0,.slice none 0 0,.slice none 0 0,.bool false] 31 (0,0))::(b3,Obj.cells #[.func (.func fn) #[] cap] 116 (0,0))::(b2,Obj.cells (fra f) 31 (0,0))::fs)=R0
 refine LW.callP (K:=fun x fs'=>∃ ok own',x=.returned (.bool ok)∧DoK bm (f.rows c s m i b5) R R0 (match ok with|true=>.returned (.tuple #[])|false=>.panicked failC) own'∧fs'=own'++[]) rfl rfl inferInstance (by (exact .cons rfl .nil)) rfl (fun fs h=>by obtain ⟨_,_,h,_⟩:=h;cases h)
  (fun w' hst=>tries_calls w0 S 117 #[.pointer (some ⟨b3,0,none⟩),.pointer (some ⟨b6,0,none⟩)] (DoK bm (f.rows c s m i b5) R R0) DoK.try inferInstance ((bm,maO (ma0 (f.rows c s m i b5) 0 0 0 0))::(g++R0)) [] w' (fun rest w2 h2=>?_) (by rw [List.append_nil];exact hst)) ?_ ?_
 ·rw [List.cons_append,List.append_assoc] at h2
  refine Calls.mono (told1_calls w0 S f L fs fn cap R hF hd bm b3 b6 c s m i b5 g (R0++rest) hfr ?_ ?_ ?_ w2 h2) ?_
  ·intro p hp;rw [← hR0];simp [hp]
  ·rw [← hR0];simp
  ·rw [← hR0];simp
  ·rintro x w3 ⟨fs',hk,h3⟩
   obtain ⟨own',h4,rfl⟩:=hk.app
   exact ⟨_,⟨own',h4,rfl⟩,h3⟩
 ·rintro v fs' ⟨ok,own',h1,h2,rfl⟩
  cases h1
  rw [List.append_nil]
  cases R with
  |none =>
   obtain ⟨h3,rfl⟩:=h2
   cases ok with
   |true=>cases h3
   |false =>
    subst hR0
    (refine lvz (.notF rfl (by with_reducible rfl)) ?_;refine nNz<|cTz<|sRz ?_;apply LW.v0;rfl;rfl;apply zW;infer_instance;infer_instance;exact zB;rfl;simp only [fillP,wrCells,Value.cells,qJ,qK,qL,qI,qN,qM,Nat.reduceAdd,qP];rfl;refine zR rfl rfl (.tail .head) (.whole rfl rfl rfl)<|vAz<|nNz<|zK<|thenR ?_)
    refine inPI (.inl rfl) .nil rfl (by (apply zD;apply zH;rfl;apply qG;apply zX;apply zY;exact qH rfl;apply zD;exact zG rfl;exact zF)) rfl ⟨fs,⟨rfl,rfl⟩,subp_ix [[_],[_],[_],[_]] (xs:=[]) (ys:=[0,1,2,3]) fs rfl⟩
  |some x =>
   obtain ⟨gg,L'⟩:=x
   obtain ⟨s',k',gs',h3,h4,rfl⟩:=h2
   cases ok with
   |false=>cases h3
   |true =>
    subst hR0
    have hsl:FrSl (ma0 ((f.rows c s m i b5).setR gg s' k') 0 0 0 0).fr:=h4.sl
    (refine lvz (.notT rfl (by with_reducible rfl)) ?_;refine nNz<|cFz<|zJ<|thenN<|sRz<|ldz rfl (.tail (.app .head)) (Rd.one' rfl)<|vNz<|vFz<|ldz rfl .head ma_rdF ?_;apply zR;rfl;rfl;apply qD;apply qE;apply qD;apply qA;apply fr_wrW;rfl;assumption;refine vAz<|nNz<|zK ?_)
    refine inPI (.inl rfl) .nil rfl (by (apply zD;apply zH;rfl;apply qG;apply zX;apply zZ;apply zX;apply zY;exact qH rfl;apply zD;exact zG rfl;exact zF)) rfl ⟨gs'++fs,⟨c,s',k',i,b5,gs',rfl,h4,rfl⟩,subp_ix [[_],gs',[_],[_],[_],[_]] (xs:=[1]) (ys:=[0,1,2,3,4,5]) fs rfl⟩
 ·rintro ch fs' ⟨_,_,h,_⟩
  cases h
end
section
attribute [local irreducible] SL.inP
def ToldR (f:FrV) (R:Option (Nat × FrL)) (v:Value) (gs:Fs):Prop:=match R with
 |none=>v=.tuple #[frv zeroF,.bool false]∧gs=[]
 |some (g,L')=>∃ c s m i b,v=.tuple #[frv (f.rowsG g c s m i b),.bool true]∧FrO (f.rowsG g c s m i b) L' gs
def tellR (f:FrV) (L:FrL) (cost:Nat) (l:List Nat):Option (Nat × FrL):=if cost≤f.gas∧L.ws.length+l.length≤64 then some (f.gas - cost,L.setW (L.ws++l)) else none
theorem okF.short {f:FrV} {L:FrL} (h:okF f L):L.short:=by
 obtain ⟨⟨h1,h2,_⟩,_,h4,⟨h5,h6,_⟩,_⟩:=h
 exact ⟨by omega,by omega,by omega,by omega,by omega⟩
theorem told_bad (w0:World) (S:List Nat) (f:FrV) (L:FrL) (fs:Fs) (fn:FuncId) (cap:Array Value) (hok:¬ okF f L) (w:World) (hs:St w0 S fs w) (hf:∀ w',Bel w0.heap.size S w0 w'→FrRows w' f L) :
  Calls Tryz.prog 71 #[frv f,.func (.func fn) #[] cap] w (fun x w'=>∃ fs',ToldK f none fs x fs'∧St w0 S fs' w'):=by
 have hC:∀ w' {fs},St w0 S fs w'→Calls Tryz.prog 34 #[frv f] w' (Ret w' (.int .i64 240)):=fun w' fs hst=>by
  have h0:=fCheck_calls f L w' (hf w' hst.bel)
  rw [if_neg hok] at h0
  exact h0
 refine calls_anyO (calls_inlineP (K:=anyO (ToldK f none fs)) (args:=[_,_]) Tryz.func71 rfl Tryz.ntmps71 rfl ?_ hs)
 (refine sRz ?_;apply zT;rfl;rfl;intro _;apply LW.box1;rfl;rfl;rfl;intro _;apply zU;rfl;intro _;refine vAz<|nNz<|zI<|sRz<|ldz rfl (.tail (.tail .head)) (qH rfl) ?_;apply zS;rfl;rfl;infer_instance;exact .cons rfl .nil;intro w _;exact hC w (by assumption);refine lvz (.neT rfl rfl (by omega)) ?_;refine nNz<|cTz<|sRz ?_;apply LW.v0;rfl;rfl;apply zW;infer_instance;infer_instance;exact zB;rfl;simp only [fillP,wrCells,Value.cells,qJ,qK,qL,qI,qN,qM,Nat.reduceAdd,qP];rfl;refine zR rfl rfl .head (.whole rfl rfl rfl)<|vAz<|nNz<|zK<|thenR ?_)
 refine inPI (.inl rfl) .nil rfl (by (apply zD;apply zH;rfl;apply qG;apply zY;exact qH rfl;apply zD;exact zG rfl;exact zF)) rfl ⟨fs,⟨rfl,rfl⟩,subp_ix [[_],[_],[_]] (xs:=[]) (ys:=[0,1,2]) fs rfl⟩
theorem zero_sl:FrSl zeroF:=zero_frO.sl
theorem ToldK.ret {f:FrV} {R:Option (Nat × FrL)} {fs fs':Fs} {x:Ending} (h:ToldK f R fs x fs'):∃ v,x=.returned v:=by
 cases R with
 |none=>exact ⟨_,h.1⟩
 |some x=>obtain ⟨_,_,_,_,_,_,h,_⟩:=h;exact ⟨_,h⟩
theorem tell1_does (w0:World) (S:List Nat) (f:FrV) (L:FrL) (cost:Nat) (l:List Nat) (v:Value) (hll:l.length≤100000) (hv:∀ w',Bel w0.heap.size S w0 w'→RowAt w' 4 v l.length (wcs l)) (hok:okF f L) (fs:Fs) (b4 b5:Nat) (k4:(b4,Obj.cells #[.int .u64 (cost:Int)] 26 (0,0))∈fs) (k5:(b5,Obj.cells #[v] 23 (0,0))∈fs) :
  Does w0 S f L fs 72 #[.pointer (some ⟨b4,0,none⟩),.pointer (some ⟨b5,0,none⟩)] (tellR f L cost l):=by
 intro b c s m i b0 gs rest w hfr hsub hs
 have k4:=qQ (b,maO (ma0 (f.rows c s m i b0) 0 0 0 0)) (List.mem_append_right gs (hsub _ k4))
 have k50:=qQ (b,maO (ma0 (f.rows c s m i b0) 0 0 0 0)) (List.mem_append_right gs (hsub _ k5))
 refine calls_anyO (calls_inlineP (K:=anyO (DoK b (f.rows c s m i b0) (tellR f L cost l) rest)) (args:=[_,_,_]) Tryz.func72 rfl Tryz.ntmps72 rfl ?_ hs)
 (refine sRz<|vMz ?_;apply LW.load;rfl;rfl;exact Known.own k4;exact Rd.one' rfl;apply LW.lay1;rfl;infer_instance;infer_instance;rfl;rfl;rfl;rfl;rfl;rfl;intro _)
 rename_i b6
 refine LW.perm (fs':=(b,maO (ma0 (f.rows c s m i b0) 0 0 0 0))::(gs++((b6,.cells #[.int .u64 (cost:Int)] 26 (0,0))::rest))) ?_ ?_
 ·exact perm_ix [[_],[_],gs] (xs:=[1,2,0]) (ys:=[0,1,2]) rest rfl
 refine LW.callP (K:=MaK b (ma0 (f.rows c s m i b0) 0 0 0 0) (spendM (ma0 (f.rows c s m i b0) 0 0 0 0) [cost]) (gs++((b6,.cells #[.int .u64 (cost:Int)] 26 (0,0))::rest))) rfl rfl inferInstance (by (exact .cons rfl (.cons rfl .nil))) rfl (fun fs h=>?_) (fun w' hst=>spend_calls w0 S b _ [cost] (Nat.lt_of_le_of_lt hok.1.2.2 (by decide)) _ _ w' hst (fun w2 h2=>row_cells (h2.own (b6,_) (qQ _ (List.mem_append_right _ List.mem_cons_self))).2 rfl rfl (by simp [maxLen]))) ?_ ?_
 ·unfold MaK at h
  split at h<;>cases h.1
 ·rcases Nat.lt_or_ge f.gas cost with hlt|hge
  ·have hsp:spendM (ma0 (f.rows c s m i b0) 0 0 0 0) [cost]=none:=by unfold spendM;rw [if_neg (by simp;exact hlt)]
   rw [hsp]
   rintro v fs' ⟨h,_⟩
   cases h
  ·have hsp:spendM (ma0 (f.rows c s m i b0) 0 0 0 0) [cost]=some (ma0 ((f.rows c s m i b0).setR (f.gas - cost) s m) 0 0 0 0):=by unfold spendM;rw [if_pos (by simp;exact hge)];simp;rfl
   rw [hsp]
   rintro v fs' ⟨h,rfl⟩
   cases h
   have k5:(b5,Obj.cells #[v] 23 (0,0))∈(b,maO (ma0 ((f.rows c s m i b0).setR (f.gas - cost) s m) 0 0 0 0))::(gs++(b6,Obj.cells #[.int .u64 (cost:Int)] 26 (0,0))::rest):=qQ _ (List.mem_append_right _ (qQ _ (hsub _ k5)))
   (refine nNz<|zL<|vMz ?_;apply LW.load;rfl;rfl;exact Known.own k5;exact Rd.one' rfl)
   have hfr1:FrO ((f.rows c s m i b0).setR (f.gas - cost) s m) L gs:=hfr
   refine LW.callP (K:=LayK b (ma0 ((f.rows c s m i b0).setR (f.gas - cost) s m) 0 0 0 0) L gs l ((b6,Obj.cells #[.int .u64 (cost:Int)] 26 (0,0))::rest)) rfl rfl inferInstance (by (exact .cons rfl (.cons rfl .nil))) rfl (fun fs h=>by rcases h with ⟨_,h,_⟩|⟨_,_,_,_,h,_⟩<;>cases h) (fun w' hst=>lay_calls w0 S b _ L gs l v hok.2.2.2.1 hll hfr1 _ w' (fun w2 h2=>hv w2 h2.bel) hst) ?_ ?_
   ·rintro v fs' (⟨_,h,_⟩|⟨hc,s',k',gs',h,hfr',rfl⟩)
    ·cases h
    ·have hR:tellR f L cost l=some (f.gas - cost,L.setW (L.ws++l)):=by unfold tellR;exact if_pos ⟨hge,hc⟩
     rw [hR]
     cases h
     (apply zV)
     exact inPI (.inr rfl) .nil rfl .nil rfl ⟨_,⟨s',k',gs',rfl,hfr',rfl⟩,_,List.Sublist.cons_cons _ (List.Sublist.append_left (List.sublist_cons_self _ _) _),.refl _⟩
   ·rintro ch fs' (⟨hc,h,rfl⟩|⟨_,_,_,_,h,_⟩)
    ·have hR:tellR f L cost l=none:=by unfold tellR;exact if_neg (fun h=>by omega)
     rw [hR]
     cases h
     exact inPP .nil ⟨rest,⟨rfl,rfl⟩,_,qS _ (List.Sublist.trans (List.sublist_cons_self _ _) (List.sublist_append_right _ _)),.refl _⟩
    ·cases h
 ·rcases Nat.lt_or_ge f.gas cost with hlt|hge
  ·have hsp:spendM (ma0 (f.rows c s m i b0) 0 0 0 0) [cost]=none:=by unfold spendM;rw [if_neg (by simp;exact hlt)]
   rw [hsp]
   rintro ch fs' ⟨h,rfl⟩
   have hR:tellR f L cost l=none:=by unfold tellR;exact if_neg (fun h=>by omega)
   rw [hR]
   cases h
   refine thenP ?_
   exact inPP .nil ⟨rest,⟨rfl,rfl⟩,_,qS _ (List.Sublist.trans (List.sublist_cons_self _ _) (List.sublist_append_right _ _)),.refl _⟩
  ·have hsp:spendM (ma0 (f.rows c s m i b0) 0 0 0 0) [cost]=some (ma0 ((f.rows c s m i b0).setR (f.gas - cost) s m) 0 0 0 0):=by unfold spendM;rw [if_pos (by simp;exact hge)];simp;rfl
   rw [hsp]
   rintro ch fs' ⟨h,_⟩
   cases h
theorem Tell_calls (f:FrV) (L:FrL) (cost:Nat) (l:List Nat) (v:Value) (hll:l.length≤100000) (w:World) (hv:RowAt w 4 v l.length (wcs l)) (h:FrRows w f L):Calls Tryz.prog 28 #[frv f,.int .u64 (cost:Int),v] w (RetG w [] (ToldR f (if okF f L then tellR f L cost l else none))):=by
 obtain ⟨p,cc,rfl,_,_⟩:=id hv.form
 refine enter (args:=[_,_,_]) _ [] [] Tryz.func28 rfl Tryz.ntmps28 rfl (by simp) .nil ?_
 have hzs:=zero_sl
 (refine sRz ?_;apply zT;rfl;rfl;intro _;apply LW.box1;rfl;rfl;rfl;intro _;apply LW.box1;rfl;rfl;rfl;intro _;apply zU;rfl;intro _;refine vAz<|nSz<|ldz rfl (.tail (.tail (.tail .head))) (qH rfl) ?_;apply LW.v0;rfl;rfl;apply ValP.makeFunc;exact ArgsOk.nil;exact .cons rfl (.cons rfl .nil))
 rename_i b3 b4 b5 b6
 refine LW.callP (K:=ToldK f (if okF f L then tellR f L cost l else none) ((b6,Obj.cells (fra zeroF) 31 (0,0))::(b5,Obj.cells #[.slice p l.length cc] 23 (0,0))::(b4,Obj.cells #[.int .u64 (cost:Int)] 26 (0,0))::(b3,Obj.cells (fra f) 31 (0,0))::[])) rfl rfl inferInstance (by (exact .cons rfl (.cons rfl .nil))) rfl (fun fs h=>?_) (fun w' hst=>?_) ?_ ?_
 ·obtain ⟨_,h⟩:=h.ret;cases h
 ·by_cases hok:okF f L
  ·rw [if_pos hok]
   exact told_calls w [] f L _ _ _ _ hok.short inferInstance (tell1_does w [] f L cost l _ hll (fun w2 hb=>hv.bel hb) hok _ b4 b5 (by simp) (by simp)) hok w' hst fun w2 hb=>h.bel hb
  ·rw [if_neg hok]
   exact told_bad w [] f L _ _ _ hok w' hst fun w2 hb=>h.bel hb
 ·intro v fs' hk
  cases hR:(if okF f L then tellR f L cost l else none) with
  |none =>
   rw [hR] at hk
   obtain ⟨h1,rfl⟩:=hk
   cases h1
   (refine vEz ?_;refine vEz ?_;refine zR rfl rfl .head (.whole rfl rfl rfl)<|vAz<|nNz<|zK ?_)
   exact fin (vs:=[frv zeroF,.bool false]) [] (.inl rfl) rfl rfl (by (apply zD;apply zH;rfl;apply qG;apply zY;exact qH rfl;apply zD;exact zG rfl;exact zF)) (List.nil_sublist _) ⟨rfl,rfl⟩
  |some x =>
   rw [hR] at hk
   obtain ⟨g,L'⟩:=x
   obtain ⟨c,s,m,i,b,gs',h1,hfr,rfl⟩:=hk
   cases h1
   have hsl:=hfr.sl
   (refine vEz ?_;refine vEz ?_;apply zR;rfl;rfl;apply qE;apply qA;apply fr_wrW;rfl;assumption;refine vAz<|nNz<|zK ?_)
   exact fin (vs:=[frv (f.rowsG g c s m i b),.bool true]) gs' (.inl rfl) rfl rfl (by (apply zD;apply zH;rfl;apply qG;apply zZ;apply zY;exact qH rfl;apply zD;exact zG rfl;exact zF)) (qR _ _) ⟨c,s,m,i,b,rfl,hfr⟩
 ·intro ch fs' h
  obtain ⟨_,h⟩:=h.ret
  cases h
end
end Go.Proofs.YtdeggbkbblfpoaaGreatDoor
namespace Go.Proofs.YtdeggbkbblfpoaaGreatDoor.CK
open Go Go.RowKit SL
set_option maxRecDepth 8000
set_option maxHeartbeats 4000000
set_option linter.unusedSimpArgs false
set_option linter.unusedVariables false
attribute [local irreducible] SL.CW SL.LW SL.DW Calls SL.Ret SL.RetG SL.beginQ SL.roundQ SL.rangeQ SL.inQ SL.RW SL.AnyW SL.thenQ SL.thenC SL.thenW SL.blkQ SL.finQ SL.ValP SL.NewP SL.SetP SL.CallP SL.Rd SL.Wr SL.Known
section
attribute [local irreducible] opOf
theorem LW.copyFull {C:Cu} {ops:Array Oper} {Q:Post} {rest:List Oper} {e:Env} {fs:Fs} {d:Nat} {t:TypeId} {pos:String} {af:Array Edge} {x y:Operand} {tys:Array TypeId} {T E bytes:TypeId} {z vx:Value} {g off dLen dCap m:Nat} {cur:Array Value} {E':TypeId} {news:List Value} {fs':Fs} (hd:Nat.blt d C.N=true) (hT:tys=#[T,T]) (hU:UnI C.P T (.slice E)) (hI:InfoI C.P E 1 z) (hB:BytI C.P E bytes)
  (hx:e.ev x=some (.slice (some ⟨g,off,none⟩) dLen dCap)) (hy:e.ev y=some vx) (hat:∀ w,St C.w0 C.S fs w→RowAt w 1 vx m news) (h1:∀ u∈news,u.oneCell'=true) (h0:0 < dLen) (hm:dLen≤m) (hfit:off+dLen≤cur.size)
  (hset:SetAt fs g (.cells cur E' (0,0)) (.cells (cur.toList.take off++news.take dLen++cur.toList.drop (off+dLen)).toArray E' (0,0)) fs')
  (k:LW C ops Q rest ((d,.int .i64 (dLen:Int))::e) fs') :
  LW C ops Q (⟨some d,.call { callee:=.builtin .copy,args:=#[x,y],argTypes:=tys },t,pos,af,none⟩::rest) e fs:=by
 subst hT
 refine LW.valset hd (fun c h=>by cases h) hset (fun a w hs hg=>?_) k
 have hA:=hat w hs.st
 have hl:(news.take dLen).length=dLen:=by have:=hA.len;rw [List.length_take];omega
 have hsz:(C.P.info? E).map (·.size)=some 1:=by
  obtain ⟨i,i1,i2,i3,i4⟩:=info_all (P:=C.P) (T:=E);rw [i1];simp [i2]
 obtain ⟨b,o2,c,cs,E2,fr,rfl,hblk,hnx⟩:=hA.pos (by omega)
 have hrun:=run_copy_row (P:=C.P) w T T t E g off dLen dCap ⟨b,o2,none⟩ m c cur E' (news.take dLen) hU.un hsz hg (by rw [hl];exact (Nat.min_eq_right hm).symm) (fun j u hj=>by
  rw [addr_add,cell_of hblk]
  rw [List.getElem?_take] at hj
  split at hj
  ·exact cut_get hnx hj
  ·cases hj) (by rw [hl];exact hfit) (fun u hu=>h1 u (List.mem_of_mem_take hu))
 rw [hl] at hrun
 have hput:w.setRow g (cur.toList.take off++news.take dLen++cur.toList.drop (off+dLen)).toArray=w.putObj g (.cells (cur.toList.take off++news.take dLen++cur.toList.drop (off+dLen)).toArray E' (0,0)):=setRow_put hg
 rw [hput] at hrun
 simp [execOp,resolve,invoke,builtin,hs.env.ev hx,hs.env.ev hy,hrun,goInt]
def datF (bs:List UInt8) (n k:Nat):List UInt8:=(List.range k).map fun i=>bs.getD (n+1+i) 0
theorem datF_len (bs:List UInt8) (n k:Nat):(datF bs n k).length=k:=by simp [datF]
theorem datF_get (bs:List UInt8) (n k i:Nat):(datF bs n k)[i]?=if i < k then some (bs.getD (n+1+i) 0) else none:=by
 unfold datF
 rw [List.getElem?_map]
 split
 ·rename_i h;rw [List.getElem?_range h];rfl
 ·rename_i h;rw [List.getElem?_eq_none (by simp;omega)];rfl
theorem datF_eq (bs:List UInt8) (n k:Nat):datF bs n k=(bs.drop (n+1)).take k++List.replicate (k - (bs.length - (n+1))) 0:=by
 refine List.ext_getElem? fun i=>?_
 rw [datF_get,List.getElem?_append,List.length_take,List.length_drop]
 split
 ·rename_i h
  split
  ·rename_i h2
   rw [List.getElem?_take,if_pos h,List.getElem?_drop,List.getD_eq_getElem?_getD,List.getElem?_eq_getElem (show n+1+i < bs.length by omega)];rfl
  ·rename_i h2
   rw [List.getElem?_replicate,if_pos (by omega),List.getD_eq_getElem?_getD,List.getElem?_eq_none (by omega)];rfl
 ·rename_i h
  rw [if_neg (by omega),List.getElem?_replicate,if_neg (by omega)]
def dataL (bs:List UInt8) (i:Int):List UInt8:=if readB bs i=true then datF bs i.toNat (szOf (bs.getD i.toNat 0).toNat) else []
def dataC (bs:List UInt8) (i:Int):List UInt8:=if bs.length≤200 then dataL bs i else []
theorem readB_range {bs:List UInt8} {i:Int} (h:readB bs i=true):0≤i∧i < bs.length:=by
 unfold readB at h
 obtain ⟨s,hs,he⟩:=List.any_eq_true.1 h
 have he':(s.1:Int)=i:=by simpa using he
 refine ⟨by omega,?_⟩
 have key:∀ n (bs:List UInt8) p,bs.length≤n→∀ s∈segsAt p bs,s.1 < p+bs.length:=by
  intro n
  induction n with
  |zero =>
   intro bs p h s hs
   rw [List.eq_nil_of_length_eq_zero (show bs.length=0 by omega),segsAt_nil] at hs
   cases hs
  |succ n ih =>
   intro bs p h s hs
   cases bs with
   |nil=>rw [segsAt_nil] at hs;cases hs
   |cons b r =>
    rw [segsAt_cons] at hs
    rcases List.mem_cons.1 hs with rfl|hs
    ·simp
    ·have h1:=ih (r.drop (szOf b.toNat)) (p+1+szOf b.toNat) (by simp at h ⊢;omega) s hs
     have h2:=segsAt_ge _ _ _ (Nat.le_refl _) s hs
     simp at h1 ⊢
     omega
 have:=key _ bs 0 (Nat.le_refl _) s hs
 omega
theorem readFrom_step' {bs:List UInt8} {p:Nat} {i:Int} (h:p < bs.length) (hi:(p:Int) < i):readFrom bs (p+szOf (bs.getD p 0).toNat+1) i=readFrom bs p i:=by
 rw [← readFrom_step h hi,Nat.add_right_comm p 1]
theorem dataL_none {bs:List UInt8} {i:Int} (h:readB bs i=false):dataL bs i=[]:=by unfold dataL;rw [h];exact if_neg (by decide)
theorem dataL_some {bs:List UInt8} {n:Nat} (h:readB bs n=true):dataL bs n=datF bs n (szOf (bs.getD n 0).toNat):=by unfold dataL;rw [h];exact if_pos rfl
theorem Data_calls (bs:List UInt8) (i:Int) (v:Value) (w:World) (hv:RowAt w 1 v bs.length (ucs bs)):Calls Tryz.prog 132 #[v,.int .i64 i] w (RetG w [] fun v gs=>IsRow 5 1 v (dataC bs i).length (ucs (dataC bs i)) gs):=by
 have hCk0:∀ w' {fs},St w [] fs w'→Calls Tryz.prog 83 #[v] w' (Ret w' (.int .i64 (if bs.length≤200 then 0 else 3))):=fun w' fs hst=>CheckC_calls v bs.length (ucs bs) w' (hv.st hst)
 obtain ⟨p0,c0,rfl,_,_⟩:=hv.form
 unfold dataC
 refine enter (args:=[_,_]) _ [] [] Tryz.func132 rfl Tryz.ntmps132 rfl (by simp) .nil ?_
 rcases Nat.lt_or_ge 200 bs.length with hgt|hle
 ·rw [if_neg (by omega)]
  have hCk:∀ w' {fs},St w [] fs w'→Calls Tryz.prog 83 #[.slice p0 bs.length c0] w' (Ret w' (.int .i64 3)):=by rw [if_neg (by omega)] at hCk0;exact hCk0
  (refine zI<|zL ?_;apply LW.box1;rfl;rfl;rfl;intro _;apply LW.box1;rfl;rfl;rfl;intro _;apply LW.alloc1;rfl;rfl;intro _;apply zV;refine thenN<|zI<|zI<|zL ?_;apply LW.load;rfl;rfl;apply qG;apply zX;apply zX;apply zY;exact Rd.one' rfl)
  apply LW.inline
  rfl
  rfl
  infer_instance
  (apply ArgsOk.cons;rfl;exact ArgsOk.nil)
  rfl
  exact Tryz.func200
  rfl
  exact Tryz.ntmps200
  rfl
  (refine zI<|zL ?_;apply LW.box1;rfl;rfl;rfl;intro _;apply LW.v0;rfl;rfl;apply ValP.assign;rfl;apply zV;refine thenN<|zI<|zL ?_;apply LW.v0;rfl;rfl;apply ValP.makeFunc;exact ArgsOk.nil;apply ArgsOk.cons;rfl;exact ArgsOk.nil;apply LW.v0;rfl;rfl;apply ValP.assign;rfl;apply zV;refine thenN<|zK ?_)
  apply inI
  (exact .inl rfl)
  (exact Shut.nil)
  rfl
  (apply zD;exact zG rfl;exact zF)
  rfl
  (apply zV;refine thenN<|zM ?_)
  apply CW.rangeFunc
  rfl
  rfl
  infer_instance
  rfl
  exact Tryz.func218
  rfl
  exact Tryz.ntmps218
  rfl
  rfl
  intro l r rec hrec
  (refine zI<|zI<|zL ?_;apply LW.load;rfl;rfl;apply qG;apply zX;apply zX;apply zY;exact Rd.one' rfl;apply zS;rfl;rfl;infer_instance;apply ArgsOk.cons;rfl;exact ArgsOk.nil;intro w _;exact hCk w (by assumption);apply LW.v0;rfl;rfl;apply ValP.neT;rfl;rfl;omega;apply zV;refine thenN ?_;apply CW.condT;rfl;(with_reducible rfl);refine zK<|thenR ?_)
  apply rangeN
  (exact .inl rfl)
  (exact Shut.nil)
  (apply qA)
  (refine blkN<|thenM<|zI<|zL ?_;apply zR;rfl;rfl;apply qD;apply qD;apply qD;apply qA;apply Wr.cells;rfl;rfl;simp only [List.size_toArray,List.length_cons,List.length_nil];omega;simp only [fillC,wc,wrCells,Value.cells,qL,qI,qN,qM,Nat.reduceAdd,Nat.reduceMul,qP,Nat.mul_one];rfl;apply zV;refine thenN<|zK ?_)
  apply finM [];(exact .inl rfl);(apply Shut.cons;apply qD;apply qA;exact Shut.nil);rfl;(apply zD;apply zH;rfl;apply qG;apply zX;apply zX;apply zX;apply zY;exact Rd.one' rfl;exact zF);exact List.nil_sublist _
  exact .nil
 ·rw [if_pos hle]
  have hCk:∀ w' {fs},St w [] fs w'→Calls Tryz.prog 83 #[.slice p0 bs.length c0] w' (Ret w' (.int .i64 0)):=by rw [if_pos hle] at hCk0;exact hCk0
  obtain ⟨T,hT⟩:∃ T,dataL bs i=T:=⟨_,rfl⟩
  rw [hT]
  (refine zI<|zL ?_;apply LW.box1;rfl;rfl;rfl;intro _;apply LW.box1;rfl;rfl;rfl;intro _;apply LW.alloc1;rfl;rfl;intro _;apply zV;refine thenN<|zI<|zI<|zL ?_;apply LW.load;rfl;rfl;apply qG;apply zX;apply zX;apply zY;exact Rd.one' rfl)
  apply LW.inline
  rfl
  rfl
  infer_instance
  (apply ArgsOk.cons;rfl;exact ArgsOk.nil)
  rfl
  exact Tryz.func200
  rfl
  exact Tryz.ntmps200
  rfl
  (refine zI<|zL ?_;apply LW.box1;rfl;rfl;rfl;intro _;apply LW.v0;rfl;rfl;apply ValP.assign;rfl;apply zV;refine thenN<|zI<|zL ?_;apply LW.v0;rfl;rfl;apply ValP.makeFunc;exact ArgsOk.nil;apply ArgsOk.cons;rfl;exact ArgsOk.nil;apply LW.v0;rfl;rfl;apply ValP.assign;rfl;apply zV;refine thenN<|zK ?_)
  apply inI
  (exact .inl rfl)
  (exact Shut.nil)
  rfl
  (apply zD;exact zG rfl;exact zF)
  rfl
  (apply zV;refine thenN<|zM ?_)
  apply CW.rangeFunc
  rfl
  rfl
  infer_instance
  rfl
  exact Tryz.func218
  rfl
  exact Tryz.ntmps218
  rfl
  rfl
  intro l r rec hrec
  (refine zI<|zI<|zL ?_;apply LW.load;rfl;rfl;apply qG;apply zX;apply zX;apply zY;exact Rd.one' rfl;apply zS;rfl;rfl;infer_instance;apply ArgsOk.cons;rfl;exact ArgsOk.nil;intro w _;exact hCk w (by assumption);apply LW.v0;rfl;rfl;apply ValP.neF;rfl;rfl;omega;apply zV;refine thenN ?_;apply CW.condF;rfl;(with_reducible rfl);refine zJ<|thenN<|zI<|zL ?_;apply LW.v0;rfl;rfl;apply ValP.assign;rfl;apply zV;refine thenN<|zM ?_)
  rename_i b1 b2 b3 bb
  refine CW.loop (fun p:Nat=>([(3,.int .i64 (p:Int)),(0,.func (.yield l) #[] #[]),(1,.pointer (some ⟨bb,0,none⟩))],
   [(l,rdy rec),(r,.deferred (some [])),(bb,.cells #[.slice p0 bs.length c0] 22 (0,0)),(b3,.cells #[.slice none 0 0] 22 (0,0)),(b2,.cells #[.int .i64 i] 3 (0,0)),(b1,.cells #[.slice p0 bs.length c0] 22 (0,0))]))
   (fun p=>p≤300∧(readFrom bs p i=readB bs i∨(i < (p:Int)∧T=[]))) (fun p=>bs.length - p) 0 ⟨by decide,.inl (by unfold readFrom readB;rw [List.drop_zero])⟩ ⟨rfl,rfl,rfl,trivial⟩ (qO _) ?_
  rintro p ⟨hp,hinv⟩
  dsimp only at hp hinv ⊢
  rcases Nat.lt_or_ge p bs.length with hlt|hge
  ·obtain ⟨b,off,c',cs,E,fr,heq,hbk,hx⟩:=hv.pos (by omega)
   cases heq
   obtain ⟨u,hu⟩:∃ u,bs.getD p 0=u:=⟨_,rfl⟩
   have hrd:Rd Tryz.prog 5 (.cells cs E fr) (off+p * 1) (.int .u8 (u.toNat:Int)):=Rd.elem1 hx (ucs_one bs) (List.getElem?_eq_getElem hlt) (by rw [← hu];simp [hlt])
   have hub:u.toNat < 256:=u.toNat_lt
   have hOf0:=Of_op_calls u.toNat hub
   have hzl:=szOf_le u.toNat
   have hxd:=opAt_dt u.toNat
   obtain ⟨x,hx0⟩:∃ x,opAt u.toNat=x:=⟨_,rfl⟩
   rw [hx0] at hxd
   rw [← hxd] at hzl
   unfold opAt at hx0
   cases ho:opOf u.toNat with
   |none =>
    rw [ho] at hx0 hOf0
    dsimp only at hx0
    subst hx0
    have hOf:∀ w,Calls Tryz.prog 91 #[.int .u8 (u.toNat:Int)] w (Ret w (.tuple #[.agg (opc zeroOp),.int .i64 4])):=hOf0
    dsimp only at hzl hxd
    (refine zI<|zI<|zL ?_;apply LW.v0;rfl;rfl;apply ValP.move;rfl;apply LW.load;rfl;rfl;apply qG;apply zX;apply zX;apply zY;exact Rd.one' rfl;apply LW.v0;rfl;rfl;apply ValP.lenR;rfl;infer_instance;rfl;apply LW.v0;rfl;rfl;apply ValP.lssT;rfl;rfl;omega;apply zV;refine thenN ?_;apply CW.condT;rfl;(with_reducible rfl);refine zJ<|thenN<|zI<|zM<|zI<|zL ?_;apply LW.load;rfl;rfl;apply qG;apply zX;apply zX;apply zY;exact Rd.one' rfl;apply LW.v0;rfl;rfl;apply ValP.move;rfl;apply LW.v0;rfl;rfl;apply ValP.indexAddrS;rfl;rfl;rfl;omega;apply LW.load;rfl;rfl;exact Known.ext (by assumption) (by simp);assumption;apply zS;rfl;rfl;infer_instance;apply ArgsOk.cons;rfl;exact ArgsOk.nil;intro w _;exact hOf w;apply LW.v0;rfl;rfl;apply ValP.move;rfl;apply LW.v0;rfl;rfl;apply ValP.extractN;rfl;rfl;apply LW.v0;rfl;rfl;apply ValP.extractN;rfl;rfl;apply zU;rfl;intro _;apply zR;rfl;rfl;apply qA;apply Wr.whole;rfl;rfl;rfl;apply LW.v0;rfl;rfl;apply ValP.assign;rfl;apply zV;refine thenN<|zI<|zI<|zL ?_;apply LW.v0;rfl;rfl;apply ValP.move;rfl;apply LW.v0;rfl;rfl;apply ValP.neT;rfl;rfl;omega;apply zV;refine thenN ?_;apply CW.condT;rfl;(with_reducible rfl);refine zL ?_;apply LW.load;rfl;rfl;apply qG;apply zX;apply zX;apply zX;apply zY;exact Rd.one' rfl;apply LW.v0;rfl;rfl;apply ValP.move;rfl;apply LW.v0;rfl;rfl;apply ValP.indexAddrS;rfl;rfl;rfl;omega;apply LW.load;rfl;rfl;exact Known.ext (by assumption) (by simp);assumption;apply LW.v0;rfl;rfl;apply zW;infer_instance;infer_instance;apply zA;rfl;exact zB;rfl;simp only [fillP,wrCells,Value.cells,qJ,qK,qL,qI,qN,qM,Nat.reduceAdd,qP];rfl;apply zR;rfl;rfl;apply qA;apply Wr.whole;rfl;rfl;rfl;apply zV;refine thenN<|zI<|zI<|zL ?_;apply LW.v0;rfl;rfl;apply ValP.move;rfl;apply LW.v0;rfl;rfl;apply ValP.move;rfl;apply LW.load;rfl;rfl;apply qG;apply zY;exact qH rfl)
    by_cases hpi:(p:Int)=i
    ·have hno:¬ i < (p:Int):=by omega
     have hrb:readB bs i=true:=by
      rcases hinv with h|⟨h,_⟩
      ·rw [← h,← hpi];exact readFrom_hit hlt
      ·exact absurd h hno
     rcases Nat.eq_zero_or_pos 0 with hz|hz
     ·have hT0:T=[]:=by rw [← hT,← hpi,dataL_some (by rw [hpi];exact hrb),hu,← hxd];exact List.eq_nil_of_length_eq_zero ((datF_len _ _ _).trans hz)
      apply LW.yield
      rfl
      rfl
      (apply ArgsOk.cons;rfl;apply ArgsOk.cons;rfl;exact ArgsOk.nil)
      exact hrec
      (apply zX;apply zY)
      rfl
      rfl
      (refine zI<|zL ?_;apply LW.v0;rfl;rfl;apply ValP.assign;rfl;apply zV;refine thenN<|zL ?_;apply zU;rfl;intro _;apply zR;rfl;rfl;apply qA;apply Wr.whole;rfl;rfl;rfl;apply zV;apply beginI;apply qD;apply qD;apply qA;refine zM<|zI<|zL ?_;apply LW.v0;rfl;rfl;apply ValP.move;rfl;apply LW.load;rfl;rfl;apply qG;apply zX;apply zX;apply zX;apply zX;apply zX;apply zX;apply zY;exact Rd.one' rfl;apply LW.v0;rfl;rfl;apply ValP.eqT;rfl;rfl;omega;apply LW.v0;rfl;rfl;apply ValP.move;rfl;apply LW.guardT';rfl;rfl;(with_reducible rfl);apply LW.v0;rfl;rfl;apply ValP.fieldAddr;rfl;rfl;apply LW.guardT';rfl;rfl;(with_reducible rfl);apply LW.load;rfl;rfl;apply qG;apply zY;exact Rd.one' rfl;apply LW.guardT';rfl;rfl;(with_reducible rfl);apply LW.v0;rfl;rfl;apply ValP.gtrF;rfl;rfl;omega;apply LW.v0;rfl;rfl;apply ValP.pickT';rfl;(with_reducible rfl);rfl;apply zV;refine thenN ?_;apply CW.condF;rfl;(with_reducible rfl);refine zJ<|blkN ?_;apply roundN;apply qD;apply qD;apply qA;apply LW.v0;rfl;rfl;apply ValP.notT;rfl;(with_reducible rfl);apply zV;refine thenN ?_;apply CW.condF;rfl;(with_reducible rfl);refine zJ<|thenN<|zL ?_;apply LW.v0;rfl;rfl;apply ValP.move;rfl;apply LW.v0;rfl;rfl;apply ValP.fieldAddr;rfl;rfl;apply LW.load;rfl;rfl;apply qG;apply zX;apply zY;exact Rd.one' rfl;apply LW.v0;rfl;rfl;apply ValP.addZL;rfl;rfl;decide;omega;apply LW.v0;rfl;rfl;apply ValP.assign;rfl;apply zV;refine blkN<|thenN<|zL ?_;apply LW.v0;rfl;rfl;apply ValP.move;rfl;apply LW.v0;rfl;rfl;apply ValP.addZL;rfl;rfl;decide;omega;apply LW.v0;rfl;rfl;apply ValP.assign;rfl;apply zV)
      apply thenX
      exact ⟨rfl,p+0+1,⟨by omega,.inr ⟨by omega,hT0⟩⟩,by omega,⟨rfl,rfl,rfl,trivial⟩,by (apply qS;apply qS;exact qO _)⟩
     ·omega
    ·have hnext:readFrom bs (p+0+1) i=readB bs i∨(i < ((p+0+1:Nat):Int)∧T=[]):=by
      rcases Int.lt_or_gt_of_ne hpi with h|h
      ·rcases hinv with h'|⟨h',_⟩
       ·left;rw [← h',hxd,← hu];exact readFrom_step' hlt h
       ·omega
      ·right
       refine ⟨by omega,?_⟩
       rcases hinv with h'|⟨_,h'⟩
       ·rw [readFrom_gt h] at h';rw [← hT];exact dataL_none h'.symm
       ·exact h'
     apply LW.yield
     rfl
     rfl
     (apply ArgsOk.cons;rfl;apply ArgsOk.cons;rfl;exact ArgsOk.nil)
     exact hrec
     (apply zX;apply zY)
     rfl
     rfl
     (refine zI<|zL ?_;apply LW.v0;rfl;rfl;apply ValP.assign;rfl;apply zV;refine thenN<|zL ?_;apply zU;rfl;intro _;apply zR;rfl;rfl;apply qA;apply Wr.whole;rfl;rfl;rfl;apply zV;apply beginI;apply qD;apply qD;apply qA;refine zM<|zI<|zL ?_;apply LW.v0;rfl;rfl;apply ValP.move;rfl;apply LW.load;rfl;rfl;apply qG;apply zX;apply zX;apply zX;apply zX;apply zX;apply zX;apply zY;exact Rd.one' rfl;apply LW.v0;rfl;rfl;apply ValP.eqF;rfl;rfl;omega;apply LW.v0;rfl;rfl;apply ValP.move;rfl;apply LW.guardF';rfl;rfl;simp only [Bool.not_true,Bool.not_false];rfl;apply LW.guardF';rfl;rfl;simp only [Bool.not_true,Bool.not_false];rfl;apply LW.guardF';rfl;rfl;simp only [Bool.not_true,Bool.not_false];rfl;apply LW.v0;rfl;rfl;apply ValP.pickF';rfl;(with_reducible rfl);rfl;apply zV;refine thenN ?_;apply CW.condF;rfl;(with_reducible rfl);refine zJ<|blkN ?_;apply roundN;apply qD;apply qD;apply qA;apply LW.v0;rfl;rfl;apply ValP.notT;rfl;(with_reducible rfl);apply zV;refine thenN ?_;apply CW.condF;rfl;(with_reducible rfl);refine zJ<|thenN<|zL ?_;apply LW.v0;rfl;rfl;apply ValP.move;rfl;apply LW.v0;rfl;rfl;apply ValP.fieldAddr;rfl;rfl;apply LW.load;rfl;rfl;apply qG;apply zX;apply zY;exact Rd.one' rfl;apply LW.v0;rfl;rfl;apply ValP.addZL;rfl;rfl;decide;omega;apply LW.v0;rfl;rfl;apply ValP.assign;rfl;apply zV;refine blkN<|thenN<|zL ?_;apply LW.v0;rfl;rfl;apply ValP.move;rfl;apply LW.v0;rfl;rfl;apply ValP.addZL;rfl;rfl;decide;omega;apply LW.v0;rfl;rfl;apply ValP.assign;rfl;apply zV)
     apply thenX
     exact ⟨rfl,p+0+1,⟨by omega,hnext⟩,by omega,⟨rfl,rfl,rfl,trivial⟩,by (apply qS;apply qS;exact qO _)⟩
   |some y =>
    rw [ho] at hx0 hOf0
    dsimp only at hx0
    subst hx0
    have hOf:∀ w,Calls Tryz.prog 91 #[.int .u8 (u.toNat:Int)] w (Ret w (.tuple #[.agg (opc y),.int .i64 0])):=hOf0
    (refine zI<|zI<|zL ?_;apply LW.v0;rfl;rfl;apply ValP.move;rfl;apply LW.load;rfl;rfl;apply qG;apply zX;apply zX;apply zY;exact Rd.one' rfl;apply LW.v0;rfl;rfl;apply ValP.lenR;rfl;infer_instance;rfl;apply LW.v0;rfl;rfl;apply ValP.lssT;rfl;rfl;omega;apply zV;refine thenN ?_;apply CW.condT;rfl;(with_reducible rfl);refine zJ<|thenN<|zI<|zM<|zI<|zL ?_;apply LW.load;rfl;rfl;apply qG;apply zX;apply zX;apply zY;exact Rd.one' rfl;apply LW.v0;rfl;rfl;apply ValP.move;rfl;apply LW.v0;rfl;rfl;apply ValP.indexAddrS;rfl;rfl;rfl;omega;apply LW.load;rfl;rfl;exact Known.ext (by assumption) (by simp);assumption;apply zS;rfl;rfl;infer_instance;apply ArgsOk.cons;rfl;exact ArgsOk.nil;intro w _;exact hOf w;apply LW.v0;rfl;rfl;apply ValP.move;rfl;apply LW.v0;rfl;rfl;apply ValP.extractN;rfl;rfl;apply LW.v0;rfl;rfl;apply ValP.extractN;rfl;rfl;apply zU;rfl;intro _;apply zR;rfl;rfl;apply qA;apply Wr.whole;rfl;rfl;rfl;apply LW.v0;rfl;rfl;apply ValP.assign;rfl;apply zV;refine thenN<|zI<|zI<|zL ?_;apply LW.v0;rfl;rfl;apply ValP.move;rfl;apply LW.v0;rfl;rfl;apply ValP.neF;rfl;rfl;omega;apply zV;refine thenN ?_;apply CW.condF;rfl;(with_reducible rfl);refine zJ<|thenN<|zI<|zI<|zL ?_;apply LW.v0;rfl;rfl;apply ValP.move;rfl;apply LW.v0;rfl;rfl;apply ValP.move;rfl;apply LW.load;rfl;rfl;apply qG;apply zY;exact qH rfl)
    by_cases hpi:(p:Int)=i
    ·have hno:¬ i < (p:Int):=by omega
     have hrb:readB bs i=true:=by
      rcases hinv with h|⟨h,_⟩
      ·rw [← h,← hpi];exact readFrom_hit hlt
      ·exact absurd h hno
     rcases Nat.eq_zero_or_pos y.dt with hz|hz
     ·have hT0:T=[]:=by rw [← hT,← hpi,dataL_some (by rw [hpi];exact hrb),hu,← hxd];exact List.eq_nil_of_length_eq_zero ((datF_len _ _ _).trans hz)
      apply LW.yield
      rfl
      rfl
      (apply ArgsOk.cons;rfl;apply ArgsOk.cons;rfl;exact ArgsOk.nil)
      exact hrec
      (apply zX;apply zY)
      rfl
      rfl
      (refine zI<|zL ?_;apply LW.v0;rfl;rfl;apply ValP.assign;rfl;apply zV;refine thenN<|zL ?_;apply zU;rfl;intro _;apply zR;rfl;rfl;apply qA;apply Wr.whole;rfl;rfl;rfl;apply zV;apply beginI;apply qD;apply qD;apply qA;refine zM<|zI<|zL ?_;apply LW.v0;rfl;rfl;apply ValP.move;rfl;apply LW.load;rfl;rfl;apply qG;apply zX;apply zX;apply zX;apply zX;apply zX;apply zX;apply zY;exact Rd.one' rfl;apply LW.v0;rfl;rfl;apply ValP.eqT;rfl;rfl;omega;apply LW.v0;rfl;rfl;apply ValP.move;rfl;apply LW.guardT';rfl;rfl;(with_reducible rfl);apply LW.v0;rfl;rfl;apply ValP.fieldAddr;rfl;rfl;apply LW.guardT';rfl;rfl;(with_reducible rfl);apply LW.load;rfl;rfl;apply qG;apply zY;exact Rd.one' rfl;apply LW.guardT';rfl;rfl;(with_reducible rfl);apply LW.v0;rfl;rfl;apply ValP.gtrF;rfl;rfl;omega;apply LW.v0;rfl;rfl;apply ValP.pickT';rfl;(with_reducible rfl);rfl;apply zV;refine thenN ?_;apply CW.condF;rfl;(with_reducible rfl);refine zJ<|blkN ?_;apply roundN;apply qD;apply qD;apply qA;apply LW.v0;rfl;rfl;apply ValP.notT;rfl;(with_reducible rfl);apply zV;refine thenN ?_;apply CW.condF;rfl;(with_reducible rfl);refine zJ<|thenN<|zL ?_;apply LW.v0;rfl;rfl;apply ValP.move;rfl;apply LW.v0;rfl;rfl;apply ValP.fieldAddr;rfl;rfl;apply LW.load;rfl;rfl;apply qG;apply zX;apply zY;exact Rd.one' rfl;apply LW.v0;rfl;rfl;apply ValP.addZ;rfl;rfl;omega;apply LW.v0;rfl;rfl;apply ValP.assign;rfl;apply zV;refine blkN<|thenN<|zL ?_;apply LW.v0;rfl;rfl;apply ValP.move;rfl;apply LW.v0;rfl;rfl;apply ValP.addZL;rfl;rfl;decide;omega;apply LW.v0;rfl;rfl;apply ValP.assign;rfl;apply zV)
      apply thenX
      exact ⟨rfl,p+y.dt+1,⟨by omega,.inr ⟨by omega,hT0⟩⟩,by omega,⟨rfl,rfl,rfl,trivial⟩,by (apply qS;apply qS;exact qO _)⟩
     ·have hTe:T=datF bs p y.dt:=by rw [← hT,← hpi,dataL_some (by rw [hpi];exact hrb),hu,← hxd]
      have hTl:T.length=y.dt:=by rw [hTe,datF_len]
      have hcut:=RowAt.drop (k:=p+1) hv (by omega)
      rw [ucs_drop] at hcut
      apply LW.yield
      rfl
      rfl
      (apply ArgsOk.cons;rfl;apply ArgsOk.cons;rfl;exact ArgsOk.nil)
      exact hrec
      (apply zX;apply zY)
      rfl
      rfl
      (refine zI<|zL ?_;apply LW.v0;rfl;rfl;apply ValP.assign;rfl;apply zV;refine thenN<|zL ?_;apply zU;rfl;intro _;apply zR;rfl;rfl;apply qA;apply Wr.whole;rfl;rfl;rfl;apply zV;apply beginI;apply qD;apply qD;apply qA;refine zM<|zI<|zL ?_;apply LW.v0;rfl;rfl;apply ValP.move;rfl;apply LW.load;rfl;rfl;apply qG;apply zX;apply zX;apply zX;apply zX;apply zX;apply zX;apply zY;exact Rd.one' rfl;apply LW.v0;rfl;rfl;apply ValP.eqT;rfl;rfl;omega;apply LW.v0;rfl;rfl;apply ValP.move;rfl;apply LW.guardT';rfl;rfl;(with_reducible rfl);apply LW.v0;rfl;rfl;apply ValP.fieldAddr;rfl;rfl;apply LW.guardT';rfl;rfl;(with_reducible rfl);apply LW.load;rfl;rfl;apply qG;apply zY;exact Rd.one' rfl;apply LW.guardT';rfl;rfl;(with_reducible rfl);apply LW.v0;rfl;rfl;apply ValP.gtrT;rfl;rfl;omega;apply LW.v0;rfl;rfl;apply ValP.pickT';rfl;(with_reducible rfl);rfl;apply zV;refine thenN ?_;apply CW.condT;rfl;(with_reducible rfl);refine zI<|zL ?_;apply LW.v0;rfl;rfl;apply ValP.fieldAddr;rfl;rfl;apply LW.load;rfl;rfl;apply qG;apply zY;exact Rd.one' rfl)
      refine LW.makeOwn rfl inferInstance inferInstance inferInstance rfl rfl (by omega) (by simp only [maxLen];omega) fun g=>?_
      subst hpi
      (apply LW.v0;rfl;rfl;apply ValP.assign;rfl;apply zV;refine thenN<|zI<|zL ?_;apply LW.v0;rfl;rfl;apply ValP.move;rfl;apply LW.load;rfl;rfl;apply qG;apply zX;apply zX;apply zX;apply zX;apply zX;apply zX;apply zX;apply zX;apply zY;exact Rd.one' rfl;apply LW.load;rfl;rfl;apply qG;apply zX;apply zX;apply zX;apply zX;apply zX;apply zX;apply zX;apply zY;exact Rd.one' rfl;apply LW.v0;rfl;rfl;apply ValP.addZL;rfl;rfl;decide;omega;apply LW.v0;rfl;rfl;apply ValP.cutFrom;infer_instance;infer_instance;rfl;rfl;omega)
      have fin:∀ cur:Array Value,cur.toList=ucs T→IsRow 5 1 (.slice (some ⟨g,0,none⟩) y.dt y.dt) T.length (ucs T) [(g,.cells cur 5 (0,0))]:=fun cur hc=>by
       have h1:cur.size=y.dt:=by rw [← Array.length_toList,hc,ucs_len,hTl]
       have:=IsRow.own (E:=5) (size:=1) (g:=g) (n:=y.dt) (cap:=y.dt) (cur:=cur) (xs:=ucs T) (Nat.le_refl _) (by simp only [maxLen];omega) (by rw [h1,Nat.mul_one]) (by rw [hc];exact List.take_of_length_le (by rw [ucs_len,hTl,Nat.mul_one];exact Nat.le_refl _)) (by rw [ucs_len,hTl,Nat.mul_one])
       rw [hTl]
       exact this
      have hz0:(List.replicate y.dt (Value.int .u8 0))=ucs (List.replicate y.dt 0):=(ucs_zero _).symm
      rcases Nat.lt_or_ge (bs.length - (p+1)) y.dt with hsh|hfull
      ·refine LW.copyAt (cur:=(List.replicate y.dt (Value.int .u8 0)).toArray) (E':=5) (m:=bs.length - (p+1)) (news:=ucs (bs.drop (p+1))) rfl rfl inferInstance inferInstance inferInstance rfl rfl (fun w' hst=>hcut.st hst) (ucs_cells _) (by omega) (by simp;omega) (by (apply qA)) ?_
       have hc:((List.replicate y.dt (Value.int .u8 0)).toArray.toList.take 0++ucs (bs.drop (p+1))++(List.replicate y.dt (Value.int .u8 0)).toArray.toList.drop (0+(bs.length - (p+1)))).toArray.toList=ucs T:=by
        rw [hTe,datF_eq,ucs_app,ucs_zero,List.take_of_length_le (show (bs.drop (p+1)).length≤y.dt by rw [List.length_drop];omega)]
        simp
       (apply zV;refine thenN<|zI<|zL ?_;apply LW.v0;rfl;rfl;apply ValP.move;rfl;apply zR;rfl;rfl;apply qD;apply qD;apply qD;apply qD;apply qD;apply qD;apply qA;apply Wr.cells;rfl;rfl;simp only [List.size_toArray,List.length_cons,List.length_nil];omega;simp only [fillC,wc,wrCells,Value.cells,qL,qI,qN,qM,Nat.reduceAdd,Nat.reduceMul,qP,Nat.mul_one];rfl;apply zV;refine thenN<|zK<|blkR ?_)
       apply roundR
       (apply qD;apply qD;apply qD;apply qA)
       (apply LW.v0;rfl;rfl;apply ValP.notF;rfl;(with_reducible rfl);apply zV;refine thenN ?_;apply CW.condT;rfl;(with_reducible rfl);refine zK<|thenR<|blkR<|thenR<|thenR<|blkR ?_)
       apply rangeR
       (exact .inl rfl)
       (exact Shut.nil)
       (apply qD;apply qD;apply qD;apply qA)
       (refine blkR<|thenR ?_)
       have hfin:=fin _ hc
       apply finM [_];(exact .inl rfl);(apply Shut.cons;apply qD;apply qD;apply qD;apply qD;apply qA;exact Shut.nil);rfl;(apply zD;apply zH;rfl;apply qG;apply zX;apply zX;apply zX;apply zX;apply zX;apply zX;apply zY;exact Rd.one' rfl;exact zF)
       case hg=>exact List.singleton_sublist.2 (by (exact List.Mem.head _))
       exact hfin
      ·refine LW.copyFull (cur:=(List.replicate y.dt (Value.int .u8 0)).toArray) (E':=5) (m:=bs.length - (p+1)) (news:=ucs (bs.drop (p+1))) rfl rfl inferInstance inferInstance inferInstance rfl rfl (fun w' hst=>hcut.st hst) (ucs_cells _) hz (by omega) (by simp) (by (apply qA)) ?_
       have hc:((List.replicate y.dt (Value.int .u8 0)).toArray.toList.take 0++(ucs (bs.drop (p+1))).take y.dt++(List.replicate y.dt (Value.int .u8 0)).toArray.toList.drop (0+y.dt)).toArray.toList=ucs T:=by
        rw [hTe,datF_eq,ucs_app,ucs_zero,show y.dt - (bs.length - (p+1))=0 by omega,← ucs_take,Nat.mul_one]
        simp
       (apply zV;refine thenN<|zI<|zL ?_;apply LW.v0;rfl;rfl;apply ValP.move;rfl;apply zR;rfl;rfl;apply qD;apply qD;apply qD;apply qD;apply qD;apply qD;apply qA;apply Wr.cells;rfl;rfl;simp only [List.size_toArray,List.length_cons,List.length_nil];omega;simp only [fillC,wc,wrCells,Value.cells,qL,qI,qN,qM,Nat.reduceAdd,Nat.reduceMul,qP,Nat.mul_one];rfl;apply zV;refine thenN<|zK<|blkR ?_)
       apply roundR
       (apply qD;apply qD;apply qD;apply qA)
       (apply LW.v0;rfl;rfl;apply ValP.notF;rfl;(with_reducible rfl);apply zV;refine thenN ?_;apply CW.condT;rfl;(with_reducible rfl);refine zK<|thenR<|blkR<|thenR<|thenR<|blkR ?_)
       apply rangeR
       (exact .inl rfl)
       (exact Shut.nil)
       (apply qD;apply qD;apply qD;apply qA)
       (refine blkR<|thenR ?_)
       have hfin:=fin _ hc
       apply finM [_];(exact .inl rfl);(apply Shut.cons;apply qD;apply qD;apply qD;apply qD;apply qA;exact Shut.nil);rfl;(apply zD;apply zH;rfl;apply qG;apply zX;apply zX;apply zX;apply zX;apply zX;apply zX;apply zY;exact Rd.one' rfl;exact zF)
       case hg=>exact List.singleton_sublist.2 (by (exact List.Mem.head _))
       exact hfin
    ·have hnext:readFrom bs (p+y.dt+1) i=readB bs i∨(i < ((p+y.dt+1:Nat):Int)∧T=[]):=by
      rcases Int.lt_or_gt_of_ne hpi with h|h
      ·rcases hinv with h'|⟨h',_⟩
       ·left;rw [← h',hxd,← hu];exact readFrom_step' hlt h
       ·omega
      ·right
       refine ⟨by omega,?_⟩
       rcases hinv with h'|⟨_,h'⟩
       ·rw [readFrom_gt h] at h';rw [← hT];exact dataL_none h'.symm
       ·exact h'
     apply LW.yield
     rfl
     rfl
     (apply ArgsOk.cons;rfl;apply ArgsOk.cons;rfl;exact ArgsOk.nil)
     exact hrec
     (apply zX;apply zY)
     rfl
     rfl
     (refine zI<|zL ?_;apply LW.v0;rfl;rfl;apply ValP.assign;rfl;apply zV;refine thenN<|zL ?_;apply zU;rfl;intro _;apply zR;rfl;rfl;apply qA;apply Wr.whole;rfl;rfl;rfl;apply zV;apply beginI;apply qD;apply qD;apply qA;refine zM<|zI<|zL ?_;apply LW.v0;rfl;rfl;apply ValP.move;rfl;apply LW.load;rfl;rfl;apply qG;apply zX;apply zX;apply zX;apply zX;apply zX;apply zX;apply zY;exact Rd.one' rfl;apply LW.v0;rfl;rfl;apply ValP.eqF;rfl;rfl;omega;apply LW.v0;rfl;rfl;apply ValP.move;rfl;apply LW.guardF';rfl;rfl;simp only [Bool.not_true,Bool.not_false];rfl;apply LW.guardF';rfl;rfl;simp only [Bool.not_true,Bool.not_false];rfl;apply LW.guardF';rfl;rfl;simp only [Bool.not_true,Bool.not_false];rfl;apply LW.v0;rfl;rfl;apply ValP.pickF';rfl;(with_reducible rfl);rfl;apply zV;refine thenN ?_;apply CW.condF;rfl;(with_reducible rfl);refine zJ<|blkN ?_;apply roundN;apply qD;apply qD;apply qA;apply LW.v0;rfl;rfl;apply ValP.notT;rfl;(with_reducible rfl);apply zV;refine thenN ?_;apply CW.condF;rfl;(with_reducible rfl);refine zJ<|thenN<|zL ?_;apply LW.v0;rfl;rfl;apply ValP.move;rfl;apply LW.v0;rfl;rfl;apply ValP.fieldAddr;rfl;rfl;apply LW.load;rfl;rfl;apply qG;apply zX;apply zY;exact Rd.one' rfl;apply LW.v0;rfl;rfl;apply ValP.addZ;rfl;rfl;omega;apply LW.v0;rfl;rfl;apply ValP.assign;rfl;apply zV;refine blkN<|thenN<|zL ?_;apply LW.v0;rfl;rfl;apply ValP.move;rfl;apply LW.v0;rfl;rfl;apply ValP.addZL;rfl;rfl;decide;omega;apply LW.v0;rfl;rfl;apply ValP.assign;rfl;apply zV)
     apply thenX
     exact ⟨rfl,p+y.dt+1,⟨by omega,hnext⟩,by omega,⟨rfl,rfl,rfl,trivial⟩,by (apply qS;apply qS;exact qO _)⟩
  ·have hT0:T=[]:=by
    rcases hinv with h|⟨_,h⟩
    ·rw [readFrom_end hge] at h;rw [← hT];exact dataL_none h.symm
    ·exact h
   subst hT0
   (refine zI<|zI<|zL ?_;apply LW.v0;rfl;rfl;apply ValP.move;rfl;apply LW.load;rfl;rfl;apply qG;apply zX;apply zX;apply zY;exact Rd.one' rfl;apply LW.v0;rfl;rfl;apply ValP.lenR;rfl;infer_instance;rfl;apply LW.v0;rfl;rfl;apply ValP.lssF;rfl;rfl;omega;apply zV;refine thenN ?_;apply CW.condF;rfl;(with_reducible rfl);refine CW.exit<|thenE<|thenE<|blkE rfl ?_)
   apply rangeN
   (exact .inr rfl)
   (exact Shut.nil)
   (apply qA)
   (refine blkN<|thenM<|zI<|zL ?_;apply zR;rfl;rfl;apply qD;apply qD;apply qD;apply qA;apply Wr.cells;rfl;rfl;simp only [List.size_toArray,List.length_cons,List.length_nil];omega;simp only [fillC,wc,wrCells,Value.cells,qL,qI,qN,qM,Nat.reduceAdd,Nat.reduceMul,qP,Nat.mul_one];rfl;apply zV;refine thenN<|zK ?_)
   apply finM [];(exact .inl rfl);(apply Shut.cons;apply qD;apply qA;exact Shut.nil);rfl;(apply zD;apply zH;rfl;apply qG;apply zX;apply zX;apply zX;apply zY;exact Rd.one' rfl;exact zF);exact List.nil_sublist _
   exact .nil
end
end Go.Proofs.YtdeggbkbblfpoaaGreatDoor.CK
namespace Go.Proofs.YtdeggbkbblfpoaaGreatDoor
open Go Go.RowKit SL
set_option maxRecDepth 8000
set_option maxHeartbeats 4000000
set_option linter.unusedSimpArgs false
set_option linter.unusedVariables false
attribute [local irreducible] SL.CW SL.LW SL.DW Calls SL.Ret SL.RetG SL.beginQ SL.roundQ SL.rangeQ SL.inQ SL.RW SL.AnyW SL.thenQ SL.thenC SL.thenW SL.blkQ SL.finQ SL.ValP SL.NewP SL.SetP SL.CallP SL.Rd SL.Wr SL.Known
section
open CK (CheckC_calls)
def aska (kind:Int) (op:Nat) (ws dt:Value):Array Value:=#[.int .i64 kind,.int .u8 (op:Int),ws,dt]
section rd
variable {P : Program} {T E : TypeId} {fr : Nat × Nat} {kind : Int} {op : Nat} {ws dt : Value}
end rd
theorem word_rd {P:Program} {T E:TypeId} {fr:Nat × Nat} {cs:Array Value} {off m:Nat} {l:List Nat} [AgI P T true] {z:Value} [InfoI P T 4 z] (hx:(cs.toList.drop off).take m=wcs l) (i:Nat) (hi:i < l.length):Rd P T (.cells cs E fr) (off+i * 4) (wv (l.getD i 0)):=by
 have h:=Rd.elemA (P:=P) (T:=T) (E:=E) (fr:=fr) (g:=fun a=>(wc a).toList) (l:=l) (a:=l[i]) hx (wcs_len l) (List.getElem?_eq_getElem hi)
 rw [List.getD_eq_getElem?_getD,List.getElem?_eq_getElem hi]
 exact h
end
section
open CK (CheckC_calls)
structure ClV where
 op:Nat
 dst:Nat
 self:Nat
 frm:Nat
 val:Nat
 mv:Bool
 gas:Nat
 inp:Value
 code:Value
 pl:Nat
 n:Nat
 stat:Bool
section rd
variable {P : Program} {T E : TypeId} {fr : Nat × Nat} {op dst self frm val gas pl n : Nat} {inp code : Value} {mv stat : Bool}
end rd
end

end Go.Proofs.YtdeggbkbblfpoaaGreatDoor
namespace Go.Proofs.YtdeggbkbblfpoaaGreatDoor.SL
set_option linter.unusedVariables false
set_option linter.unusedSimpArgs false
open Go Go.RowKit
theorem row_append0 {P:Program} {T E ty:TypeId} {i:TypeInfo} {z:Value} {size:Nat} (ht:P.underlying T=some (.slice E)) (hi:P.info? E=some i) (hz:i.zero=some z) (hsz:i.size=size) (hzs:z.cells.size=size)
  {a0:Addr} {w0:World} {S:List Nat} {w:World} (hs:St w0 S [] w)
  (a:Addr) (m c:Nat) (news:List Value) (hl:news.length=m * size) (hnews:∀ j u,news[j]?=some u→w.cell? (a.add j)=some u) (hm:0 < m) (h63:m≤maxLen) (hbytes:m * i.bytes≤140737488355328) :
  ∃ v' seg' w',(Builtin.append_ #[T,T] ty #[.slice (some a0) 0 0,.slice (some a) m c]).run P w=.ok v' w'∧IsRow E size v' m news seg'∧St w0 S seg' w'∧w.heap.size≤w'.heap.size ∧
   (∀ b,b < w.heap.size→b ∉ seg'.map (·.1)→w'.heap[b]?=w.heap[b]?)∧(∀ q∈seg',w.heap.size≤q.1∨q.1∈([]:Fs).map (·.1)):=by
 subst hsz
 have h63':m≤9223372036854775807:=by simp only [maxLen] at h63;omega
 have hge:=grownCap_ge w m 0 E
 have hr:=run_append_grow (P:=P) w T ty E i z ht hi hz a0 0 0 [] (by simp) (fun j u hu=>by simp at hu) a m c news hl hnews (by omega) (by omega) (growslice_fits (by omega) (by simpa using hbytes))
 simp only [qP] at hr
 have hsize:((#[]:Array Value)++news.toArray++Builtin.zeroCells z.cells (grownCap w m 0 E - m)).size=grownCap w m 0 E * i.size:=by
  simp only [Array.size_append,List.size_toArray,size_zeroCells,hzs,hl,List.length_nil,qP,← Nat.add_mul]
  congr 1
  omega
 have htake:((#[]:Array Value)++news.toArray++Builtin.zeroCells z.cells (grownCap w m 0 E - m)).toList.take (m * i.size)=news:=by
  simp only [Array.toList_append,List.append_assoc,List.nil_append]
  rw [← hl]
  exact List.take_left
 refine ⟨_,[(w.heap.size,.cells (#[]++news.toArray++Builtin.zeroCells z.cells (grownCap w m 0 E - m)) E (0,0))],_,hr,.own hge (grownCap_le_maxLen w m 0 E h63) hsize htake hl,?_,?_,fun b hb _=>Below.heap_alloc w.drew _ b hb,fun q hq=>?_⟩
 ·exact St.lay (pre:=[]) (post:=[]) (w:=w) hs ((hs.bel.drew).alloc (by have:=hs.bel.size;simpa [World.drew] using this) _) (World.alloc_heap_new w.drew _) (Nat.le_refl _) (fun k hk=>Below.heap_alloc w.drew _ k hk)
 ·rw [World.size_alloc];exact Nat.le_succ _
 ·obtain rfl:q=_:=by simpa using hq
  exact .inl (Nat.le_refl _)
section dw
variable {C : Cu} {ops : Array Oper} {μ : Mu} {Q : Post} {tl rest : List Oper} {k d : Nat} {e : Env} {ts : Ts} {t : TypeId} {pos : String} {af : Array Edge} {g : Option (Nat × Bool)}
theorem DW.lay0 {T E sz:TypeId} {z:Value} (hk:ops[k]?=some ⟨some d,.buildSlice T 0 #[],t,pos,af,g⟩) (hm:μ k=none) (hd:Nat.blt d C.N=true) (hg:WantT ops e g) (hU:UnI C.P T (.slice E)) (hI:InfoI C.P E sz z)
  (kk:∀ b,DW C ops μ Q tl rest (k+1) ((d,.slice (some ⟨b,0,none⟩) 0 0)::e) ((b,.cells #[] E (0,0),[k],[])::ts)):DW C ops μ Q tl (⟨some d,.buildSlice T 0 #[],t,pos,af,g⟩::rest) k e ts :=
 DW.new hk hm hd hg rfl (NewP.build0 hU hI) kk
end dw
end Go.Proofs.YtdeggbkbblfpoaaGreatDoor.SL
namespace Go.Proofs.YtdeggbkbblfpoaaGreatDoor.SL
set_option linter.unusedVariables false
set_option linter.unusedSimpArgs false
open Go Go.RowKit
theorem upon_join {F:Fence} {n:Nat} {P:Program} {o:Oper} {a:Act} {w:World} {K K':Act→World→Prop} {Q Q':Exit→Act→World→Prop} (h:∀ a w,K a w→K' a w) (hp:∀ ch a w,Q (.panic ch) a w→Q' (.panic ch) a w) (hl:LetsOut Q→LetsOut Q')
  (hh:o.wpIn F n P a w K Q):o.wpIn F n P a w K' Q':=by
 unfold Oper.wpIn at *
 refine ⟨hh.1,?_⟩
 have hh:=hh.2
 generalize (o.semAt F.round a.eval).run P w=r at *
 cases r with
 |ok x w' =>
  cases x<;>simp only [Oper.uponIn] at hh ⊢ <;>
   first
    |exact h _ _ hh
    |exact ⟨hh.1,CallsIn.mono hh.2 (fun e w'' he=>by cases e<;>first|exact h _ _ he|exact hp _ _ _ he|exact hl he)⟩
    |exact ⟨hh.1,RowsIn.mono hh.2 (fun _ _ he=>h _ _ he)⟩
    |exact ⟨hh.1,RoundIn.mono hh.2 (fun e w'' he=>by cases e<;>first|exact h _ _ he|exact hp _ _ _ he|exact hl he)⟩
 |halt x w'=>cases x<;>simp only [Oper.uponIn] at hh ⊢<;>first|exact hp _ _ _ hh|exact hh
theorem list_join {F:Fence} {n:Nat} {P:Program} {ops:Array Oper} {Qm Q:Exit→Act→World→Prop} {l2:List Oper} (hn:∀ a w,Qm .normal a w→wpListIn F n P ops Q l2 a w) (hp:∀ ch a w,Qm (.panic ch) a w→Q (.panic ch) a w) (hl:LetsOut Qm→LetsOut Q) :
  ∀ (l1:List Oper) (a:Act) (w:World),wpListIn F n P ops Qm l1 a w→wpListIn F n P ops Q (l1++l2) a w
 |[],a,w,h=>hn a w h
 |o::r,a,w,h=>by
  rw [List.cons_append]
  unfold wpListIn at h ⊢
  split
  ·rename_i hw
   rw [if_pos hw] at h
   exact upon_join (fun a w h=>list_join hn hp hl r a w h) hp hl h
  ·rename_i hw
   rw [if_neg hw] at h
   exact ⟨h.1,list_join hn hp hl r _ _ h.2⟩
section hm
variable {P : Program} {e : Env} {T : TypeId} {x : Operand} {n : Nat}
theorem run_slice_hm {w:World} {a:Option Addr} {len cap:Nat} (ht:P.underlying T=some (.slice (P.elem T))) (kh km:IntKind) (h m:Int) (h0:0≤h) (h2:h≤m) (h3:m≤cap) :
  (Instr.slice T (.slice a len cap) none (some (.int kh h)) (some (.int km m))).run P w=((sizeOf (P.elem T)).run P w).andThen fun s w=>.ok (sliced a 0 h.toNat m.toNat s) w:=by
 have eh:(h.toNat:Int)=h:=Int.toNat_of_nonneg (by omega)
 have em:(m.toNat:Int)=m:=Int.toNat_of_nonneg (by omega)
 simp [Instr.slice,run_underlying ht,Instr.sliceBounds,run_sliceBound,sliced, *,eh,em,(by omega:0≤h),(by omega:0≤m)]
theorem ValP.cutMax {ik im:IntKind} {E j k c sz:Nat} {z:Value} {p:Option Addr} {hi mx:Operand} (hU:UnI P T (.slice E)) (hI:InfoI P E sz z) (hx:e.ev x=some (.slice p n c)) (hh:e.ev hi=some (.int ik (j:Int))) (hm:e.ev mx=some (.int im (k:Int))) (h2:j≤k) (h3:k≤c) :
  ValP P e [] (.slice T x none (some hi) (some mx)) (.slice p j k):=fun ρ w hρ _ d t pos af g=>by
 have hu:P.underlying T=some (.slice E):=hU.un
 have h1:=run_slice_hm (P:=P) (T:=T) (w:=w) (a:=p) (len:=n) (cap:=c) (elem_un hu) ik im (j:Int) (k:Int) (by omega) (by omega) (by omega)
 rw [elem_eq hu,run_size] at h1
 have h2:(Instr.sliceAt T (.slice p n c) none (some (.int ik (j:Int))) (some (.int im (k:Int)))).run P w=.ok (.slice p j k) w:=by
  rw [run_sliceAt_slice (w:=w) T _ _ _ _ (elem_un hu),h1]
  simp only [Result.andThen_ok,sliced,Int.toNat_natCast,Nat.sub_zero,Nat.zero_mul]
  cases p with
  |none=>simp
  |some a=>cases a with|mk b o s=>simp [addr_add,Addr.add]
 simp [execOp,hρ x _ hx,hρ hi _ hh,hρ mx _ hm,h2]
end hm
theorem LW.copyNone {C:Cu} {ops:Array Oper} {Q:Post} {rest:List Oper} {e:Env} {fs:Fs} {d:Nat} {t:TypeId} {pos:String} {af:Array Edge} {x y:Operand} {tys:Array TypeId} {T E bytes:TypeId} {z:Value} {p q:Option Addr} {n c m c':Nat} (hd:Nat.blt d C.N=true) (hT:tys=#[T,T]) (hU:UnI C.P T (.slice E)) (hI:InfoI C.P E 1 z) (hB:BytI C.P E bytes)
  (hx:e.ev x=some (.slice p n c)) (hy:e.ev y=some (.slice q m c')) (h0:Nat.min m n=0) (k:LW C ops Q rest ((d,.int .i64 0)::e) fs) :
  LW C ops Q (⟨some d,.call { callee:=.builtin .copy,args:=#[x,y],argTypes:=tys },t,pos,af,none⟩::rest) e fs:=by
 subst hT
 have hsz:(C.P.info? E).map (·.size)=some 1:=by
  obtain ⟨i,i1,i2,i3,i4⟩:=info_all (P:=C.P) (T:=E);rw [i1];simp [i2]
 refine LW.v0 hd rfl (fun ρ w hρ _ d t pos af g=>?_) k
 have hrun:=run_copy_none (P:=C.P) w T T t E p q n c m c' hU.un hsz h0
 simp [execOp,resolve,invoke,builtin,hρ x _ hx,hρ y _ hy,hrun,goInt]
section dv
variable {C : Cu} {ops : Array Oper} {Q : Post} {tl rest : List Oper} {e : Env} {ts : Ts} {μ : Mu} {k d : Nat} {t : TypeId} {pos : String} {af : Array Edge} {g : Option (Nat × Bool)} {fo : Operand} {args : Array Operand} {tys : Array TypeId} {f : FuncId} {vs vs' : List Value} {us : Fs} {ts' : Ts}
theorem DW.manyW {M:Rel1} (hk:ops[k]?=some ⟨some d,.call { callee:=.value fo,args:=args,argTypes:=tys },t,pos,af,g⟩) (hm:μ k=some (cst M,(false:Fl)))
  (hd:Nat.blt d C.N=true) (hg:WantT ops e g) (hf:e.ev fo=some (.func (.func f) #[] #[])) (hF:FnI C.P f) (ha:ArgsOk e args.toList vs) (hbl:vs.flatMap (blocksN 4)=vs'.flatMap (blocksN 4)) (hr:RdV C ops k vs' ts us ts')
  (hc:∀ w,Bel C.w0.heap.size C.S C.w0 w→(∀ p∈us,w.heap[p.1]?=some p.2)→Calls C.P f vs.toArray w (RetG w [] M)) (kk:∀ v gs,M v gs→DW C ops μ Q tl rest (k+1) ((d,v)::e) (tsNew k gs++ts')) :
  DW C ops μ Q tl (⟨some d,.call { callee:=.value fo,args:=args,argTypes:=tys },t,pos,af,g⟩::rest) k e ts:=by
 obtain ⟨us2,h1,h2⟩:=hr.all
 rw [← hbl] at h1
 exact DW.manyE hk hm hd hg hf hF ha (show _=vs.flatMap (blocksN 4) from rfl) h1 (fun w hb hu=>hc w hb fun p hp=>hu p (h2 p hp)) kk
theorem blocks_sl {x:Value} (h:∃ p n c,x=.slice p n c):blocksN 3 x=blocksN 4 x:=by
 obtain ⟨p,n,c,rfl⟩:=h
 cases p<;>rfl
end dv
section de
variable {C : Cu} {ops : Array Oper} {μ : Mu} {Q : Post} {tl rest : List Oper} {k d : Nat} {e : Env} {ts : Ts} {t : TypeId} {pos : String} {af : Array Edge} {g : Option (Nat × Bool)}
theorem DW.appendF {s x:Operand} {tys:Array TypeId} {T E size bytes m:Nat} {z vx:Value} {a0:Addr} {news:List Value} {M:Rel1} {us:Fs} {ts2:Ts}
  (hk:ops[k]?=some ⟨some d,.call { callee:=.builtin .append,args:=#[s,x],argTypes:=tys },t,pos,af,g⟩) (hm:μ k=some (cst M,(false:Fl))) (hd:Nat.blt d C.N=true) (hg:WantT ops e g)
  (hT:tys=#[T,T]) (hU:UnI C.P T (.slice E)) (hI:InfoI C.P E size z) (hB:BytI C.P E bytes) (hz:z.cells.size=size) (hs:e.ev s=some (.slice (some a0) 0 0)) (hx:e.ev x=some vx)
  (hr:RdV C ops k [vx] ts us ts2) (hat:∀ w,(∀ p∈us,w.heap[p.1]?=some p.2)→RowAt w size vx m news) (hm0:0 < m) (h63:m≤maxLen) (hb:m * bytes≤140737488355328) (hM:∀ v gs,IsRow E size v m news gs→M v gs)
  (kk:∀ v' seg',M v' seg'→DW C ops μ Q tl rest (k+1) ((d,v')::e) (tsTag (k::[]) (k::[]) seg'++ts2)) :
  DW C ops μ Q tl (⟨some d,.call { callee:=.builtin .append,args:=#[s,x],argTypes:=tys },t,pos,af,g⟩::rest) k e ts:=by
 subst hT
 refine DW.appendX (us:=us) (us3:=[]) (seg:=[]) hk hm hd hg hs hx ⟨rfl,rfl⟩ .nil hr (fun p hp=>by cases hp) (fun w hst hu=>?_) (fun ψ v' seg' _ hR=>kk v' seg' hR)
 obtain ⟨i,q1,q2,q3,q4⟩:=info_all (P:=C.P) (T:=E)
 have hA:RowAt w size vx m news:=hat w hu
 obtain ⟨b,off,c,cs,E',fr,rfl,hb1,hx1⟩:=hA.pos hm0
 obtain ⟨v',seg',w',hr,hrow',hst',g1,g2,g3⟩:=row_append0 (P:=C.P) (ty:=t) (a0:=a0) hU.un q1 q3 q2 hz hst ⟨b,off,none⟩ m c news hA.len (fun j u hj=>by
  rw [addr_add,cell_of hb1];exact cut_get hx1 hj) hm0 h63 (by rw [q4];exact hb)
 exact ⟨v',seg',w',hr,fun ψ _=>hM _ _ hrow',hst',g1,g2,g3⟩
end de
end Go.Proofs.YtdeggbkbblfpoaaGreatDoor.SL
namespace Go.Proofs.YtdeggbkbblfpoaaGreatDoor
open Go Go.RowKit SL
set_option maxRecDepth 8000
set_option maxHeartbeats 4000000
set_option linter.unusedSimpArgs false
set_option linter.unusedVariables false
attribute [local irreducible] SL.CW SL.LW SL.DW Calls SL.Ret SL.RetG SL.beginQ SL.roundQ SL.rangeQ SL.inQ SL.RW SL.AnyW SL.thenQ SL.thenC SL.thenW SL.blkQ SL.finQ SL.ValP SL.NewP SL.SetP SL.CallP SL.Rd SL.Wr SL.Known
structure FrNum (f:FrV) (L:FrL):Prop where
 gas:f.gas < 18446744073709551616
 self:f.self < 18446744073709551616
 frm:f.frm < 18446744073709551616
 val:f.val < M256
 ws:∀ x∈L.ws,x < M256
section
open CK (readB)
theorem IsRow.le {E:TypeId} {sz n n' c:Nat} {p:Option Addr} {xs:List Value} {seg:Fs} (h:IsRow E sz (.slice p n' c) n xs seg):n'≤c:=by
 cases h with
 |nil=>exact Nat.le_refl _
 |own hn _ _ _ _=>exact hn
end
end Go.Proofs.YtdeggbkbblfpoaaGreatDoor
namespace Go.Proofs.YtdeggbkbblfpoaaGreatDoor.SL
set_option linter.unusedVariables false
set_option linter.unusedSimpArgs false
open Go Go.RowKit
inductive MoreR:Ts→Ts→Prop
 |nil:MoreR [] []
 |cons {b:Nat} {o:Obj} {ws rs rs':List Nat} {r r':Ts} (h:∀ x∈rs,x∈rs') (t:MoreR r r'):MoreR ((b,o,ws,rs)::r) ((b,o,ws,rs')::r')
def markAll (k:Nat) (ts:Ts):Ts:=ts.map fun p=>(p.1,p.2.1,p.2.2.1,k::p.2.2.2)
theorem MoreR.keys {ts ts':Ts} (h:MoreR ts ts'):ts'.map (·.1)=ts.map (·.1):=by
 induction h with
 |nil=>rfl
 |cons _ _ ih=>simp [ih]
theorem MoreR.mem {ts ts':Ts} (h:MoreR ts ts'):∀ p'∈ts',∃ rs,(p'.1,p'.2.1,p'.2.2.1,rs)∈ts∧∀ x∈rs,x∈p'.2.2.2:=by
 induction h with
 |nil=>intro p hp;cases hp
 |@cons b o ws rs rs' r r' hx _ ih =>
  intro p hp
  rcases List.mem_cons.1 hp with rfl|hp
  ·exact ⟨rs,List.mem_cons_self,hx⟩
  ·obtain ⟨rs,h1,h2⟩:=ih p hp
   exact ⟨rs,qQ _ h1,h2⟩
theorem MoreR.refl:∀ ts:Ts,MoreR ts ts
 |[]=>.nil
 |(b,o,ws,rs)::r=>.cons (fun _ h=>h) (MoreR.refl r)
theorem MoreR.mark {k:Nat}:∀ ts:Ts,MoreR ts (markAll k ts)
 |[]=>.nil
 |(b,o,ws,rs)::r=>.cons (fun _ h=>qQ _ h) (MoreR.mark r)
theorem more_app:∀ (l:Ts) {ts ts':Ts},MoreR ts ts'→MoreR (l++ts) (l++ts')
 |[],_,_,h=>h
 |(b,o,ws,rs)::l,_,_,h=>.cons (fun _ h=>h) (more_app l h)
theorem fsOf_mark {k:Nat} (ts:Ts):fsOf (markAll k ts)=fsOf ts:=by simp [fsOf,markAll]
theorem DW.moreA {C:Cu} {ops:Array Oper} {μ:Mu} {Q:Post} {tl l:List Oper} {k:Nat} {e:Env} {ts ts':Ts} (hm:MoreR ts ts') (h:DW C ops μ Q tl l k e ts'):DW C ops μ Q tl l k e ts:=fun a φ tw tr ha hr hi=>by
 refine h a φ tw tr ha ⟨fun p hp=>?_,fun p hp j hj=>?_,fun p hp j hj=>?_,hr.old,hr.oldr,?_⟩ hi
 ·obtain ⟨rs,h1,_⟩:=hm.mem p hp
  exact hr.fsome (p.1,p.2.1,p.2.2.1,rs) h1
 ·obtain ⟨rs,h1,_⟩:=hm.mem p hp
  exact hr.ftw (p.1,p.2.1,p.2.2.1,rs) h1 j hj
 ·obtain ⟨rs,h1,h2⟩:=hm.mem p hp
  exact h2 _ (hr.ftr (p.1,p.2.1,p.2.2.1,rs) h1 j hj)
 ·have h1:(ts.map (·.1)).Pairwise (· ≠ ·):=List.pairwise_map.2 hr.nd
  rw [← hm.keys] at h1
  exact List.pairwise_map.1 h1
theorem read_one {ops:Array Oper} {k:Nat} {tsF:Ts}:∀ {ts:Ts},MoreR tsF ts→MoreR ts (markAll k tsF)→∀ {b:Nat} {o:Obj} {ws rs:List Nat},(b,o,ws,rs)∈tsF→ancB ops k ws=true→∃ ts',TRead ops k ts b o ts'∧MoreR tsF ts'∧MoreR ts' (markAll k tsF):=by
 induction tsF with
 |nil=>intro ts _ _ b o ws rs hm;cases hm
 |cons q r ih =>
  intro ts h0 h
  obtain ⟨qb,qo,qw,qr⟩:=q
  rw [show markAll k ((qb,qo,qw,qr)::r)=(qb,qo,qw,k::qr)::markAll k r from rfl] at h ⊢
  cases h with
  |@cons _ _ _ rs1 _ r1 _ hx ht =>
   cases h0 with
   |cons hy hu =>
    intro b o ws rs hm ha
    rcases List.mem_cons.1 hm with he|hm
    ·cases he
     exact ⟨_,.head ha,.cons (fun x hx'=>qQ _ (hy x hx')) hu,.cons (fun x hx'=>by
      rcases List.mem_cons.1 hx' with rfl|h'
      ·exact List.mem_cons_self
      ·exact hx x h') ht⟩
    ·obtain ⟨ts',h1,h2,h3⟩:=ih hu ht hm ha
     exact ⟨_,.tail h1,.cons hy h2,.cons hx h3⟩
def Lie (C:Cu) (ops:Array Oper) (k:Nat) (ts:Ts) (p:Nat × Obj):Prop:=(∃ ws rs,(p.1,p.2,ws,rs)∈ts∧ancB ops k ws=true)∨(C.w0.heap[p.1]?=some p.2∧p.1 ∉ C.S)
theorem read_all {C:Cu} {ops:Array Oper} {k:Nat} {tsF:Ts}:∀ (us:Fs) {ts:Ts},MoreR tsF ts→MoreR ts (markAll k tsF)→(∀ p∈us,Lie C ops k tsF p)→∃ ts',ReadAll C ops k (us.map (·.1)) ts us ts'∧MoreR ts' (markAll k tsF)
 |[],ts,_,h,_=>⟨ts,.nil,h⟩
 |(b,o)::us,ts,h0,h,hl=>by
  rcases hl (b,o) List.mem_cons_self with ⟨ws,rs,h1,h2⟩|⟨h1,h2⟩
  ·obtain ⟨ts1,h4,h5,h6⟩:=read_one h0 h h1 h2
   obtain ⟨ts',h7,h8⟩:=read_all us h5 h6 fun p hp=>hl p (qQ _ hp)
   exact ⟨ts',.own h4 h7,h8⟩
  ·obtain ⟨ts',h7,h8⟩:=read_all us h0 h fun p hp=>hl p (qQ _ hp)
   exact ⟨ts',.ext h1 h2 h7,h8⟩
theorem markAll_nil {k:Nat}:markAll k []=[]:=rfl
theorem markAll_cons {k b:Nat} {o:Obj} {ws rs:List Nat} {r:Ts}:markAll k ((b,o,ws,rs)::r)=(b,o,ws,k::rs)::markAll k r:=rfl
theorem markAll_app {k:Nat} {l r:Ts}:markAll k (l++r)=markAll k l++markAll k r:=by simp [markAll]
theorem markAll_tsOf {k:Nat} {g:Fs}:markAll k (tsOf g)=tsTag [] [k] g:=by simp [markAll,tsOf,tsTag]
section dw
variable {C : Cu} {ops : Array Oper} {Q : Post} {tl rest : List Oper} {e : Env} {ts : Ts} {μ : Mu} {k d : Nat} {t : TypeId} {pos : String} {af : Array Edge} {g : Option (Nat × Bool)} {fo : Operand} {args : Array Operand} {tys : Array TypeId} {f : FuncId} {vs : List Value} (us : Fs)
theorem DW.callA {v:Value} (hk:ops[k]?=some ⟨some d,.call { callee:=.value fo,args:=args,argTypes:=tys },t,pos,af,g⟩) (hm:μ k=none)
  (hd:Nat.blt d C.N=true) (hg:WantT ops e g) (hf:e.ev fo=some (.func (.func f) #[] #[])) (hF:FnI C.P f) (ha:ArgsOk e args.toList vs) (hbl:vs.flatMap (blocksN 4)=us.map (·.1)) (hl:∀ p∈us,Lie C ops k ts p)
  (hc:∀ w,Bel C.w0.heap.size C.S C.w0 w→(∀ p∈us,w.heap[p.1]?=some p.2)→Calls C.P f vs.toArray w (Ret w v)) (kk:DW C ops μ Q tl rest (k+1) ((d,v)::e) (markAll k ts)) :
  DW C ops μ Q tl (⟨some d,.call { callee:=.value fo,args:=args,argTypes:=tys },t,pos,af,g⟩::rest) k e ts:=by
 obtain ⟨ts',h1,h2⟩:=read_all us (MoreR.refl ts) (MoreR.mark ts) hl
 rw [← hbl] at h1
 exact DW.callE hk hm hd hg hf hF ha (show _=vs.flatMap (blocksN 4) from rfl) h1 hc (DW.moreA h2 kk)
theorem DW.manyA {M:Rel1} (hk:ops[k]?=some ⟨some d,.call { callee:=.value fo,args:=args,argTypes:=tys },t,pos,af,g⟩) (hm:μ k=some (cst M,(false:Fl)))
  (hd:Nat.blt d C.N=true) (hg:WantT ops e g) (hf:e.ev fo=some (.func (.func f) #[] #[])) (hF:FnI C.P f) (ha:ArgsOk e args.toList vs) (hbl:vs.flatMap (blocksN 4)=us.map (·.1)) (hl:∀ p∈us,Lie C ops k ts p)
  (hc:∀ w,Bel C.w0.heap.size C.S C.w0 w→(∀ p∈us,w.heap[p.1]?=some p.2)→Calls C.P f vs.toArray w (RetG w [] M)) (kk:∀ v gs,M v gs→DW C ops μ Q tl rest (k+1) ((d,v)::e) (tsNew k gs++markAll k ts)) :
  DW C ops μ Q tl (⟨some d,.call { callee:=.value fo,args:=args,argTypes:=tys },t,pos,af,g⟩::rest) k e ts:=by
 obtain ⟨ts',h1,h2⟩:=read_all us (MoreR.refl ts) (MoreR.mark ts) hl
 rw [← hbl] at h1
 refine DW.manyE hk hm hd hg hf hF ha (show _=vs.flatMap (blocksN 4) from rfl) h1 hc fun v gs hM=>DW.moreA ?_ (kk v gs hM)
 exact (more_app _ h2)
end dw
end Go.Proofs.YtdeggbkbblfpoaaGreatDoor.SL
namespace Go.Proofs.YtdeggbkbblfpoaaGreatDoor
open Go Go.RowKit SL
set_option maxRecDepth 8000
set_option maxHeartbeats 4000000
set_option linter.unusedSimpArgs false
set_option linter.unusedVariables false
attribute [local irreducible] SL.CW SL.LW SL.DW Calls SL.Ret SL.RetG SL.beginQ SL.roundQ SL.rangeQ SL.inQ SL.RW SL.AnyW SL.thenQ SL.thenC SL.thenW SL.blkQ SL.finQ SL.ValP SL.NewP SL.SetP SL.CallP SL.Rd SL.Wr SL.Known
section
section rd
variable {P : Program} {T E : TypeId} {fr : Nat × Nat} {kind : Int} {op : Nat} {u v : Value}
theorem aq_rd0 [AgI P T false]:Rd P T (.cells (aska kind op u v) E fr) 0 (.int .i64 kind):=Rd.one rfl
end rd
def opF (f:FrV) (L:FrL):Nat:=if f.pc=(L.cl.length:Int) then 0 else (L.cl.getD f.pc.toNat 0).toNat
theorem next_calls (f:FrV) (L:FrL) (hp:f.pc=(L.cl.length:Int)∨(0≤f.pc∧f.pc < (L.cl.length:Int))) (w:World) (h:FrRows w f L):Calls Tryz.prog 82 #[frv f] w (Ret w (.int .u8 ((opF f L:Nat):Int))):=by
 obtain ⟨code,pc,stk,mem,gas,self,frm,val,inp,back,stat⟩:=f
 obtain ⟨h0,h2,h3,h11,h12⟩:=h
 dsimp only at h0 hp
 unfold opF
 dsimp only
 by_cases he:pc=(L.cl.length:Int)
 ·obtain ⟨p0,c0,rfl,hl0,_⟩:=id h0.form
  rw [if_pos he]
  refine enter (args:=[_]) _ [] [] Tryz.func82 rfl Tryz.ntmps82 rfl (by simp) .nil ?_
  (refine sRz ?_;apply zT;rfl;rfl;intro _;refine vAz<|nNz<|zI<|sRz<|vFz<|ldz rfl .head fr_rd1<|vFz<|ldz rfl .head fr_rd0<|lvz (.lenR rfl inferInstance rfl) ?_;refine lvz (.eqT rfl rfl (by omega)) ?_;refine nNz<|cTz<|sRz<|vAz<|nNz<|zK<|thenR ?_)
  (apply finR;exact .inl rfl;rfl;rfl;rfl;apply zD;exact zG rfl;exact zF)
  rfl
 ·rw [if_neg he]
  obtain ⟨k,rfl⟩:∃ k:Nat,pc=(k:Int):=⟨pc.toNat,by omega⟩
  have hk:k < L.cl.length:=by omega
  obtain ⟨b0,o0,c0,cs,E,fr,rfl,hb,hx⟩:=h0.pos (by omega)
  obtain ⟨bk,hbk⟩:∃ bk,L.cl[k]?=some bk:=⟨_,List.getElem?_eq_getElem hk⟩
  have hrd:Rd Tryz.prog 5 (.cells cs E fr) (o0+k * 1) (.int .u8 (bk.toNat:Int)):=Rd.elem1 hx (ucs_one _) hbk rfl
  rw [Int.toNat_natCast,List.getD_eq_getElem?_getD,hbk]
  refine enter (args:=[_]) _ [] [] Tryz.func82 rfl Tryz.ntmps82 rfl (by simp) .nil ?_
  (refine sRz ?_;apply zT;rfl;rfl;intro _;refine vAz<|nNz<|zI<|sRz<|vFz<|ldz rfl .head fr_rd1<|vFz<|ldz rfl .head fr_rd0<|lvz (.lenR rfl inferInstance rfl) ?_;refine lvz (.eqF rfl rfl (by omega)) ?_;refine nNz<|cFz<|zJ<|thenN<|sRz<|vFz<|ldz rfl .head fr_rd0<|vFz<|ldz rfl .head fr_rd1 ?_;refine lvz (.indexAddrS rfl rfl rfl (by omega)) ?_;apply LW.load;rfl;rfl;exact Known.ext (by assumption) (by simp);exact hrd;refine vAz<|nNz<|zK ?_)
  (apply finR;exact .inl rfl;rfl;rfl;rfl;apply zD;exact zG rfl;exact zF)
  rfl
theorem okF_pc {f:FrV} {L:FrL} (h:okF f L):f.pc=(L.cl.length:Int)∨(0≤f.pc∧f.pc < (L.cl.length:Int)):=by
 rcases h.2.2.2.2 with h|h
 ·exact .inl h
 ·exact .inr (CK.readB_range h)
end
section
open CK (readB readFrom readFrom_hit)
section wr
variable {P : Program} {T E : TypeId} {code stk mem inp back z : Value} {pc : Int} {gas self frm val n c n2 c2 : Nat} {stat : Bool} {p p2 : Option Addr}
end wr
end
section
section rd
variable {P : Program} {T E : TypeId} {fr : Nat × Nat} {ok : Bool} {left : Nat} {out : Value}
end rd
theorem RowAt.cutMax {w:World} {sz n c k:Nat} {p:Option Addr} {xs:List Value} (h:RowAt w sz (.slice p n c) n xs) (hk:k≤n):RowAt w sz (.slice p k k) k (xs.take (k * sz)):=by
 have h1:=h.take hk
 obtain ⟨_,_,he,hle,hmx⟩:=h.form
 cases he
 refine ⟨⟨_,_,rfl,Nat.le_refl _,by omega⟩,h1.len,fun h0=>?_,fun p' n' c' he=>?_⟩
 ·obtain ⟨b,off,c2,cs,E,fr,he,hb,hx⟩:=h1.pos h0
  cases he
  exact ⟨b,off,k,cs,E,fr,rfl,hb,hx⟩
 ·cases he
  rcases Nat.eq_zero_or_pos k with h0|h0
  ·exact .inr (.inl h0)
  ·rcases h1.lies _ _ _ rfl with h2|h2|h2
   ·exact .inl h2
   ·omega
   ·exact .inr (.inr h2)
end
section
theorem rowU_own {E:TypeId} {sz n:Nat} {v:Value} {xs:List Value} {seg:Fs} (h:IsRow E sz v n xs seg):∃ us:Fs,blocksN 4 v=us.map (·.1)∧(∀ p∈us,p∈seg)∧∀ w:World,(∀ p∈us,w.heap[p.1]?=some p.2)→RowAt w sz v n xs:=by
 cases h with
 |nil=>exact ⟨[],rfl,(fun p h=>by cases h),fun w _=>.nil⟩
 |@own g _ cap cur _ hn hm hc ht hl =>
  rcases Nat.eq_zero_or_pos cap with h0|h0
  ·subst h0
   obtain rfl:n=0:=by omega
   refine ⟨[],by simp [blocksN],(fun p h=>by cases h),fun w _=>⟨⟨_,_,rfl,Nat.le_refl _,hm⟩,hl,(fun h=>by cases h),fun p n c he=>by cases he;exact .inr (.inl rfl)⟩⟩
  ·exact ⟨[(g,.cells cur E (0,0))],by simp [blocksN,Nat.ne_of_gt h0],fun p h=>h,fun w hw=>IsRow.us (.own hn hm hc ht hl) hw (qO _)⟩
theorem FrO.us {f:FrV} {L:FrL} {gs:Fs} {w:World} (h:FrO f L gs) (hw:∀ p∈gs,w.heap[p.1]?=some p.2):FrRows w f L:=h.rows hw
theorem anc_nil {ops:Array Oper} {k:Nat}:ancB ops k []=true:=rfl
theorem st_ou {w0 w:World} {S:List Nat} {fs gs:Fs} (hs:St w0 S fs w) (h:List.Sublist gs fs):∀ p∈gs,w.heap[p.1]?=some p.2:=fun p hp=>(hs.own p (h.subset hp)).2
theorem markAll_tag {k:Nat} {ws rs:List Nat} {g:Fs}:markAll k (tsTag ws rs g)=tsTag ws (k::rs) g:=by simp [markAll,tsTag]
theorem markAll_new {k j:Nat} {g:Fs}:markAll k (tsNew j g)=tsTag [j] [k] g:=by simp [markAll,tsTag,tsNew]
def AncT (ops:Array Oper) (k:Nat) (ts:Ts):Prop:=∀ q∈ts,ancB ops k q.2.2.1=true
section anc
variable {ops : Array Oper} {k j : Nat} {s ts : Ts} {gs : Fs} {b : Nat} {o : Obj} {ws rs : List Nat}
theorem AncT.cons (h:ancB ops k ws=true) (ht:AncT ops k ts):AncT ops k ((b,o,ws,rs)::ts):=fun q hq=>by
 rcases List.mem_cons.1 hq with rfl|hq
 ·exact h
 ·exact ht q hq
theorem AncT.app (h:AncT ops k s) (ht:AncT ops k ts):AncT ops k (s++ts):=fun q hq=>by
 rcases List.mem_append.1 hq with hq|hq
 ·exact h q hq
 ·exact ht q hq
theorem AncT.tsOf:AncT ops k (tsOf gs):=fun q hq=>by
 obtain ⟨p,_,rfl⟩:=List.mem_map.1 (show q∈gs.map _ from hq)
 exact anc_nil
theorem AncT.tag (h:ancB ops k ws=true):AncT ops k (tsTag ws rs gs):=fun q hq=>by
 obtain ⟨p,_,rfl⟩:=List.mem_map.1 (show q∈gs.map _ from hq)
 exact h
theorem AncT.new (h:ancB ops k [j]=true):AncT ops k (tsNew j gs):=fun q hq=>by
 obtain ⟨p,_,rfl⟩:=List.mem_map.1 (show q∈gs.map _ from hq)
 exact h
theorem AncT.lie {C:Cu} {p:Nat × Obj} (h:AncT ops k ts) (hp:p∈fsOf ts):Lie C ops k ts p:=by
 obtain ⟨q,hq,rfl⟩:=List.mem_map.1 (show p∈ts.map _ from hp)
 exact .inl ⟨q.2.2.1,q.2.2.2,hq,h q hq⟩
end anc
end
section
def revS (l L:List Nat) (k:Nat):Prop:=L.length=l.length∧∀ i,i < l.length→L[i]?=if i < k∨l.length - 1 - i < k then l[l.length - 1 - i]? else l[i]?
theorem revS_zero (l:List Nat):revS l l 0:=⟨rfl,fun i hi=>by rw [if_neg (by omega)]⟩
theorem revS_step {l L:List Nat} {k x y:Nat} (h:revS l L k) (hk:2 * k+1 < l.length) (hx:L[l.length - 1 - k]?=some x) (hy:L[k]?=some y):revS l ((L.set k x).set (l.length - 1 - k) y) (k+1):=by
 obtain ⟨h1,h2⟩:=h
 have hx0:=h2 (l.length - 1 - k) (by omega)
 rw [if_neg (by omega),hx] at hx0
 have hy0:=h2 k (by omega)
 rw [if_neg (by omega),hy] at hy0
 refine ⟨by rw [List.length_set,List.length_set,h1],fun i hi=>?_⟩
 by_cases e1:i=l.length - 1 - k
 ·subst e1
  rw [List.getElem?_set_self (by rw [List.length_set];omega),if_pos (by omega),show l.length - 1 - (l.length - 1 - k)=k by omega]
  exact hy0
 ·rw [List.getElem?_set_ne (fun h=>e1 h.symm)]
  by_cases e2:i=k
  ·subst e2
   rw [List.getElem?_set_self (by omega),if_pos (by omega)]
   exact hx0
  ·rw [List.getElem?_set_ne (fun h=>e2 h.symm),h2 i hi]
   by_cases c:i < k∨l.length - 1 - i < k
   ·rw [if_pos c,if_pos (by omega)]
   ·rw [if_neg c,if_neg (by omega)]
theorem revS_end {l L:List Nat} {k:Nat} (h:revS l L k) (hk:l.length≤2 * k+1):L=l.reverse:=by
 obtain ⟨h1,h2⟩:=h
 refine List.ext_getElem? fun i=>?_
 rcases Nat.lt_or_ge i l.length with hi|hi
 ·rw [h2 i hi,List.getElem?_reverse hi]
  by_cases c:i < k∨l.length - 1 - i < k
  ·rw [if_pos c]
  ·rw [if_neg c,show l.length - 1 - i=i by omega]
 ·rw [List.getElem?_eq_none (by omega),List.getElem?_eq_none (by rw [List.length_reverse];exact hi)]
theorem wcs_lenN (L:List Nat):(wcs L).length=L.length * 4:=by
 induction L with
 |nil=>rfl
 |cons x L ih =>
  show ((wc x).toList++wcs L).length=_
  rw [List.length_append,ih,List.length_cons]
  show 4+_=_
  omega
theorem wcs_set (L:List Nat) (i x:Nat) (hi:i < L.length):(wcs L).take (i * 4)++(wc x).toList++(wcs L).drop ((i+1) * 4)=wcs (L.set i x):=by
 rw [wcs_take,wcs_drop,List.set_eq_take_append_cons_drop,if_pos hi,wcs_app]
 show _++_++_=wcs (L.take i)++((wc x).toList++wcs (L.drop (i+1)))
 rw [List.append_assoc]
attribute [local irreducible] SL.inP
theorem reverse_calls (w0:World) (S:List Nat) (l:List Nat) (v:Value) (g rest:Fs) (hr:wM l v g) (hl:l.length≤100000) (w:World) (hs:St w0 S (g++rest) w) :
  Calls Tryz.prog 136 #[v] w (fun x w'=>∃ fs',(x=.returned (.tuple #[])∧∃ g',wM l.reverse v g'∧fs'=g'++rest)∧St w0 S fs' w'):=by
 unfold wM at hr ⊢
 obtain ⟨q,c,rfl⟩:=id hr.form
 refine calls_inlineP (K:=fun x fs'=>x=.returned (.tuple #[])∧∃ g',IsRow 29 4 (.slice q l.length c) l.reverse.length (wcs l.reverse) g'∧fs'=g'++rest) (args:=[_]) Tryz.func136 rfl Tryz.ntmps136 rfl ?_ hs
 (refine sRz<|vMz<|lvz (.lenR rfl inferInstance rfl) ?_;refine lvz (.subI rfl rfl (by omega) (by omega)) ?_;refine vAz<|vAz<|nNz<|zM ?_)
 refine CW.loop (fun x:Nat × List Nat × Fs=>([(3,.int .i64 ((l.length:Int) - 1 - (x.1:Int))),(2,.int .i64 (x.1:Int)),(0,.slice q l.length c)],x.2.2++rest))
  (fun x=>x.1≤l.length∧revS l x.2.1 x.1∧IsRow 29 4 (.slice q l.length c) l.length (wcs x.2.1) x.2.2) (fun x=>l.length - x.1) (0,l,g) ⟨Nat.zero_le _,revS_zero l,hr⟩ ⟨(by have h:(l.length:Int) - 1=(l.length:Int) - 1 - ((0:Nat):Int):=by { omega };exact congrArg (fun z=>some (Value.int .i64 z)) h),rfl,rfl,trivial⟩ (qO _) ?_
 rintro ⟨k,L,seg⟩ ⟨hk,hrev,hrow⟩
 dsimp only at hk hrev hrow ⊢
 rcases Nat.lt_or_ge (2 * k+1) l.length with hlt|hge
 ·obtain ⟨gm,cur,rfl,rfl,hn9,hm9,hsz9,htk9⟩:=hrow.pos (by omega)
  have hLl:L.length=l.length:=hrev.1
  obtain ⟨j,hj⟩:∃ j,l.length - 1 - k=j:=⟨_,rfl⟩
  rw [show (l.length:Int) - 1 - (k:Int)=(j:Int) by omega]
  have hrdK:Rd Tryz.prog 29 (.cells cur 29 (0,0)) (0+k * 4) (wv (L.getD k 0)):=word_rd (by rw [List.drop_zero];exact htk9) k (by omega)
  have hrdJ:Rd Tryz.prog 29 (.cells cur 29 (0,0)) (0+j * 4) (wv (L.getD j 0)):=word_rd (by rw [List.drop_zero];exact htk9) j (by omega)
  have hgk:L[k]?=some (L.getD k 0):=by rw [List.getD_eq_getElem?_getD,List.getElem?_eq_getElem (by omega)];rfl
  have hgj:L[l.length - 1 - k]?=some (L.getD j 0):=by rw [hj,List.getD_eq_getElem?_getD,List.getElem?_eq_getElem (by omega)];rfl
  have hstep:=revS_step hrev hlt hgj hgk
  rw [hj] at hstep
  obtain ⟨x,hx⟩:∃ x,L.getD j 0=x:=⟨_,rfl⟩
  obtain ⟨y,hy⟩:∃ y,L.getD k 0=y:=⟨_,rfl⟩
  rw [hx] at hrdJ hstep
  rw [hy] at hrdK hstep
  obtain ⟨w1,w2⟩:=wr_take (i:=k) (vs:=(wc x).toList) htk9 rfl (by omega) (by omega)
  rw [wcs_set L k x (by omega)] at w1
  obtain ⟨w3,w4⟩:=wr_take (i:=j) (vs:=(wc y).toList) w1 rfl (by omega) (by omega)
  rw [wcs_set _ j y (by rw [List.length_set];omega)] at w3
  have hW1:Wr Tryz.prog 29 (.cells cur 29 (0,0)) (0+k * 4) (wv x) (.cells (wrCells cur (k * 4) (wc x).toList) 29 (0,0)):=Wr.cells (z:=wv 0) (n:=4) rfl rfl (by rw [hsz9];show 0+k * 4+4≤c * 4;omega) (by rw [qP];rfl)
  have hW2:Wr Tryz.prog 29 (.cells (wrCells cur (k * 4) (wc x).toList) 29 (0,0)) (0+j * 4) (wv y) (.cells (wrCells (wrCells cur (k * 4) (wc x).toList) (j * 4) (wc y).toList) 29 (0,0)):=Wr.cells (z:=wv 0) (n:=4) rfl rfl (by rw [w2,hsz9];show 0+j * 4+4≤c * 4;omega) (by rw [qP];rfl)
  (refine zI<|sRz<|vMz<|vMz ?_;refine lvz (.lssT rfl rfl (by omega)) ?_;refine nNz<|cTz<|zJ<|thenN<|zI<|zM ?_)
  apply CW.pre
  (refine AnyW.anyM [] 14 mixed (by decide +kernel) ?_)
  ((try simp only [tsOf_cons,tsOf_nil,tsOf_app]);refine dvz (.move rfl)<|dvz (.move rfl)<|dvz (.move rfl)<|dvz (.move rfl)<|dvz (.move rfl)<|dvz (.move rfl) ?_;refine dvz (.indexAddrS rfl rfl rfl (by omega)) ?_;apply qF;rfl;rfl;rfl;exact zC;rfl;apply zP;exact zN;exact hrdJ;refine dvz (.move rfl)<|dvz (.move rfl) ?_;refine dvz (.indexAddrS rfl rfl rfl (by omega)) ?_;apply qF;rfl;rfl;rfl;exact zC;rfl;apply zP;exact zN;exact hrdK;refine dvz (.indexAddrS rfl rfl rfl (by omega)) ?_;apply DW.store;rfl;rfl;exact zC;rfl;rfl;apply TSet.head;exact zN;kernel_rfl;exact hW1;apply DW.nil;simp only [fsOf_cons,fsOf_nil,fsOf_app,fsOf_tsOf,fsOf_new])
  try simp only [fsOf_mark,fsOf_cons,fsOf_nil,fsOf_app,fsOf_tsOf,fsOf_new,fsOf_tag,List.append_eq,List.nil_append]
  (refine lvz (.indexAddrS rfl rfl rfl (by omega)) ?_;refine zR rfl rfl .head hW2 ?_;apply zV;refine blkN<|thenN<|zL<|vMz ?_;refine lvz (.addZL rfl rfl (by decide) (by omega)) ?_;refine vMz ?_;refine lvz (.subZL rfl rfl (by decide) (by omega) (by omega)) ?_;refine vAz<|vAz ?_;apply zV)
  apply thenX
  exact ⟨rfl,(k+1,_,_),⟨by omega,hstep,.own hn9 hm9 (by rw [w4,w2,hsz9]) w3 (by rw [wcs_lenN,List.length_set,List.length_set,hLl])⟩,by show l.length - (k+1) < l.length - k;omega,⟨(by have h:((j - 1:Nat):Int)=(l.length:Int) - 1 - ((k+1:Nat):Int):=by { omega };exact congrArg (fun z=>some (Value.int .i64 z)) h),rfl,rfl,trivial⟩,qO _⟩
 ·obtain rfl:=revS_end hrev hge
  (refine zI<|sRz<|vMz<|vMz ?_;refine lvz (.lssF rfl rfl (by omega)) ?_;refine nNz<|cFz<|CW.exit<|thenE<|thenE<|blkE rfl ?_)
  exact inPI (.inr rfl) .nil rfl .nil rfl ⟨rfl,seg,by rw [List.length_reverse];exact hrow,rfl⟩
def wP (l:List Nat) (v:Value) (gs:Fs):Prop:=wM l v gs∨∃ g cur,v=.slice (some ⟨g,0,none⟩) l.length l.length∧gs=[(g,.cells cur 29 (0,0))]∧l.length * 4≤cur.size∧cur.toList.take (l.length * 4)=wcs l∧l.length≤maxLen
theorem wP.form {l:List Nat} {v:Value} {gs:Fs} (h:wP l v gs):∃ p c,v=.slice p l.length c:=by
 rcases h with h|⟨g,cur,rfl,_⟩
 ·unfold wM at h
  exact h.form
 ·exact ⟨_,_,rfl⟩
theorem wP.at {l:List Nat} {v:Value} {g:Fs} {w:World} (h:wP l v g) (hw:∀ p∈g,w.heap[p.1]?=some p.2):RowAt w 4 v l.length (wcs l):=by
 rcases h with h|⟨b,cur,rfl,rfl,hsz,htk,hm⟩
 ·exact wM_at h hw
 ·exact RowAt.us (us:=[]) hw (Nat.le_refl _) hm htk (wcs_lenN l)
theorem wM_cut {l:List Nat} {p:Option Addr} {c k:Nat} {gs:Fs} (h:wM l (.slice p l.length c) gs) (hk:k≤l.length):wP (l.take k) (.slice p k k) gs:=by
 unfold wM at h
 have hlk:(l.take k).length=k:=by rw [List.length_take];omega
 rcases Nat.eq_zero_or_pos l.length with h0|h0
 ·have hl0:=List.length_eq_zero_iff.1 h0
  subst hl0
  obtain rfl:k=0:=by simpa using hk
  generalize hn:([]:List Nat).length=n at h
  generalize hx:wcs []=xs at h
  cases h with
  |nil=>exact .inl .nil
  |own hn hm hc ht hl=>exact .inr ⟨_,_,rfl,rfl,Nat.zero_le _,rfl,Nat.zero_le _⟩
 ·obtain ⟨g,cur,rfl,rfl,hn,hm,hsz,htk⟩:=IsRow.pos h h0
  refine .inr ⟨g,cur,by rw [hlk],rfl,by rw [hlk,hsz];omega,?_,by rw [hlk];omega⟩
  rw [hlk,← wcs_take,← htk,List.take_take,Nat.min_eq_left (by omega)]
def PopR (ws:List Nat) (ms:List UInt8) (n:Nat) (v:Value) (gs:Fs):Prop:=∃ s k t g1 g2 g3,v=.tuple #[.agg #[s,k],t,.int .i64 0]∧gs=g3++(g2++g1)∧wP (ws.take (ws.length - n)) s g1∧bM ms k g2∧wM ((ws.drop (ws.length - n)).reverse) t g3
theorem pop_calls (ws:List Nat) (ms:List UInt8) (n:Nat) (s m:Value) (hn:n≤ws.length) (w:World) (hs:RowAt w 4 s ws.length (wcs ws)) (hm:RowAt w 1 m ms.length (ucs ms)) (hok:okSc ws.length ms.length) :
  Calls Tryz.prog 95 #[.agg #[s,m],.int .i64 (n:Int)] w (RetG w [] (PopR ws ms n)):=by
 have hs0:=hs
 have hm0:=hm
 obtain ⟨p,c,rfl,_,hc⟩:=hs.form
 obtain ⟨p2,c2,rfl,_,hc2⟩:=hm.form
 have hC:∀ w,Calls Tryz.prog 84 #[.agg #[.slice p ws.length c,.slice p2 ms.length c2]] w (Ret w (.int .i64 0)):=fun w=>by
  have h:=scCheck_calls p p2 ws.length c ms.length c2 (by omega) (by omega) w
  rwa [if_pos hok] at h
 have hok2:=hok
 unfold okSc at hok2
 obtain ⟨hn1,hk1,hk2⟩:=hok2
 refine enter (args:=[_,_]) _ [] [] Tryz.func95 rfl Tryz.ntmps95 rfl (by simp) .nil ?_
 (refine sRz ?_;apply zT;rfl;rfl;intro _;apply zU;rfl;intro _;refine vAz<|vAz<|nNz<|zI<|sRz<|ldz rfl (.tail .head) (qH rfl) ?_;apply zS;rfl;rfl;infer_instance;exact .cons rfl .nil;intro w _;exact hC w;refine vAz<|nSz<|vMz ?_;refine lvz (.neF rfl rfl (by omega)) ?_;refine nNz<|cFz<|zJ<|thenN<|zI<|zM<|sRz<|vMz ?_;refine lvz (.lssF rfl rfl (by omega)) ?_;refine vAz<|nNz<|cFz<|sRz<|vMz<|vFz<|ldz rfl (.tail .head) sc_rd0<|lvz (.lenR rfl inferInstance rfl) ?_;refine lvz (.gtrF rfl rfl (by omega)) ?_;refine vAz<|nNz<|cFz<|zJ<|blkN<|thenN<|sRz<|ldz rfl (.tail .head) (qH rfl) ?_)
 (apply LW.callR;rfl;rfl;infer_instance;exact .cons rfl .nil;intro w hs)
 exact copied_calls ws ms _ _ w (hs0.st hs) (hm0.st hs) (by omega) (by omega)
 rintro vo gso ⟨s1,m1,g1,g2,rfl,rfl,h1,h2⟩
 have h1':=h1
 have h2':=h2
 unfold wM at h1'
 unfold bM at h2'
 obtain ⟨q1,k1,rfl⟩:=h1'.form
 obtain ⟨q2,k2,rfl⟩:=h2'.form
 rw [List.append_assoc]
 (apply zU;rfl;intro _;refine zR rfl rfl .head (.whole rfl rfl rfl)<|nSz<|vFz<|ldz rfl .head sc_rd0<|lvz (.lenR rfl inferInstance rfl)<|vMz ?_;refine lvz (.subZ rfl rfl (by omega) (by omega)) ?_;refine vAz<|nSz<|vFz<|ldz rfl .head sc_rd0<|vMz ?_;refine lvz (.cutFrom inferInstance inferInstance rfl rfl (by omega)) ?_)
 refine LW.callR rfl rfl inferInstance (by (exact .cons rfl .nil)) (fun w hst=>CloneW_calls (ws.drop (ws.length - n)) _ w (by
  have h:=(h1'.us (fun p hp=>(hst.own p (qQ _ (List.mem_append_right _ (List.mem_append_left _ hp)))).2) (qO _)).drop (k:=ws.length - n) (by omega)
  rw [wcs_drop] at h
  rw [List.length_drop]
  exact h) (by rw [List.length_drop];omega)) ?_
 intro v3 g3 h3
 have h3':=h3
 unfold wM at h3'
 obtain ⟨q3,k3,rfl⟩:=id h3'.form
 (refine vAz<|nSz<|vMz ?_)
 rename_i b2 b4 b8
 have hrl:(ws.drop (ws.length - n)).length≤100000:=by rw [List.length_drop];omega
 replace h3:wM (ws.drop (ws.length - n)) (.slice q3 (ws.drop (ws.length - n)).length k3) g3:=h3
 refine LW.callSt (K:=fun v fs'=>v=.tuple #[]∧∃ g',wM (ws.drop (ws.length - n)).reverse (.slice q3 (ws.drop (ws.length - n)).length k3) g'∧fs'=g'++((b8,.cells #[.slice q1 ws.length k1,.slice q2 ms.length k2] 25 (0,0))::(g2++(g1++[(b4,.cells #[.slice none 0 0,.slice none 0 0] 25 (0,0)),(b2,.cells #[.slice p ws.length c,.slice p2 ms.length c2] 25 (0,0))])))) rfl rfl inferInstance (by (exact .cons rfl .nil)) (fun w' hst=>Calls.mono (reverse_calls _ _ _ _ g3 _ h3 hrl w' hst) fun x w'' ⟨fs',⟨h1,h2⟩,hst⟩=>⟨_,_,h1,⟨rfl,h2⟩,hst⟩) ?_
 rintro _ _ ⟨rfl,g4,h4,rfl⟩
 have hroom:ws.length≤k1:=IsRow.le h1'
 (refine nSz<|vFz<|ldz rfl (.app .head) sc_rd0<|vMz<|vMz ?_;apply LW.v0;rfl;rfl;apply ValP.cutMax;infer_instance;infer_instance;rfl;rfl;rfl;omega;omega;refine vFz ?_;refine zR rfl rfl (.app .head) sc_wr0<|nSz<|ldz rfl (.app .head) (qH rfl)<|vMz ?_;refine zR rfl rfl (.app (.tail (.app (.app .head)))) (.whole rfl rfl rfl)<|vAz<|vAz<|nNz<|zK ?_)
 refine fin (vs:=[.agg #[.slice q1 (ws.length - n) (ws.length - n),.slice q2 ms.length k2],.slice q3 (ws.drop (ws.length - n)).length k3,.int .i64 0]) (g4++(g2++g1)) (.inl rfl) rfl rfl (by (apply zD;apply zH;rfl;apply qG;apply zZ;apply zX;apply zZ;apply zZ;apply zY;exact qH rfl;apply zD;exact zG rfl;apply zD;exact zG rfl;exact zF)) ?_ ⟨_,_,_,g1,g2,g4,rfl,rfl,wM_cut h1 (by omega),h2,h4⟩
 exact List.Sublist.append_left (List.Sublist.append_left (qR _ _) _ |>.cons _) _
end
end Go.Proofs.YtdeggbkbblfpoaaGreatDoor
