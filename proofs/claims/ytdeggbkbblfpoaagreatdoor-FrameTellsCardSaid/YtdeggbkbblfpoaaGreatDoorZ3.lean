/-
  Texts that were built apart, put behind one another (3 of 5): G14 W14 W15 W16 W17 W18 W19 W20 W22 W23 W26 P0 P1 P2 P3 P4 P5 P6 P7 P8 P9 PA PB PC PD PE U1 U2 U3 N3 K6 K7 K8 K1 K2 K3 K4 K5 K9 KA KB KD N4 N5 N6 Smx N7 N8 C1 C2 C3 C4 C5 C6 C7 N9 NA NB NC ND C8 NE NF NG Smy Smz NH.
  Conditions: none.
-/
import Derived.Test.YtdeggbkbblfpoaaGreatDoorZ2
import Derived.Lib.Mul64
import Derived.Laws.Externs
import Derived.Lib.BytesEntry
import Derived.Lib.Bytealg
import Derived.Laws.IdiomCopy
namespace Go.Proofs.YtdeggbkbblfpoaaGreatDoor
open Go Go.RowKit SL
set_option maxRecDepth 8000
set_option maxHeartbeats 4000000
set_option linter.unusedSimpArgs false
set_option linter.unusedVariables false
attribute [local irreducible] SL.CW SL.LW SL.DW Calls SL.Ret SL.RetG SL.beginQ SL.roundQ SL.rangeQ SL.inQ SL.RW SL.AnyW SL.thenQ SL.thenC SL.thenW SL.blkQ SL.finQ SL.ValP SL.NewP SL.SetP SL.CallP SL.Rd SL.Wr SL.Known
theorem rWords_calls (n:Nat) (hn:n < 18446744073709551616) (w:World):Calls Tryz.prog 81 #[.int .u64 (n:Int)] w (Ret w (.int .u64 (((n+31) / 32:Nat):Int))):=by
 refine enter (args:=[_]) _ [] [] Tryz.func81 rfl Tryz.ntmps81 rfl (by simp) .nil ?_
 rcases Nat.eq_zero_or_pos (n % 32) with h|h
 ·rw [show (n+31) / 32=n / 32 by omega]
  (refine sRz<|vAz<|nSz<|vMz ?_;refine lvz (.quoNL rfl rfl (by decide) (by omega) (by omega)) ?_;refine vAz<|nNz<|zI<|sRz<|vMz ?_;refine lvz (.remNL rfl rfl (by decide) (by omega)) ?_;refine lvz (.gtrF rfl rfl (by omega)) ?_;refine nNz<|cFz<|zJ<|thenN<|sRz<|vMz<|vAz<|nNz<|zK ?_)
  (apply finR;exact .inl rfl;rfl;rfl;rfl;apply zD;exact zG rfl;exact zF)
  rfl
 ·rw [show (n+31) / 32=(n / 32+1) % 18446744073709551616 by omega]
  (refine sRz<|vAz<|nSz<|vMz ?_;refine lvz (.quoNL rfl rfl (by decide) (by omega) (by omega)) ?_;refine vAz<|nNz<|zI<|sRz<|vMz ?_;refine lvz (.remNL rfl rfl (by decide) (by omega)) ?_;refine lvz (.gtrT rfl rfl (by omega)) ?_;refine nNz<|cTz<|zL<|vMz ?_;refine lvz (.addNL rfl rfl (by decide)) ?_;refine vAz<|nSz<|vMz<|vAz<|nNz<|zK ?_)
  (apply finR;exact .inl rfl;rfl;rfl;rfl;apply zD;exact zG rfl;exact zF)
  rfl
theorem rwords_calls (x:Nat) (hx:x≤1000) (w:World):Calls Tryz.prog 80 #[.int .u64 (x:Int)] w (Ret w (.int .u64 ((memW x:Nat):Int))):=by
 refine enter (args:=[_]) _ [] [] Tryz.func80 rfl Tryz.ntmps80 rfl (by simp) .nil ?_
 rw [← memW_eq x hx]
 (refine sRz<|vAz<|nSz<|vMz ?_;refine lvz (.mulNK rfl rfl (by decide)) ?_;refine vMz<|vMz<|lvz (.mulN rfl rfl) ?_;refine lvz (.quoNL rfl rfl (by decide) (by omega) (by omega)) ?_;refine lvz (.addN rfl rfl)<|vAz<|nNz<|zK ?_)
 (apply finR;exact .inl rfl;rfl;rfl;rfl;apply zD;exact zG rfl;exact zF)
 rfl
theorem rMemory_calls (a b:Nat) (ha:a < 18446744073709551616) (hb:b < 18446744073709551616) (w:World):Calls Tryz.prog 32 #[.int .u64 (a:Int),.int .u64 (b:Int)] w (Ret w (.int .u64 ((memV a b:Nat):Int))):=by
 refine enter (args:=[_,_]) _ [] [] Tryz.func32 rfl Tryz.ntmps32 rfl (by simp) .nil ?_
 unfold memV
 by_cases h1:b≤a
 ·rw [if_pos h1]
  (refine sRz<|vAz<|nNz<|zI<|zM<|sRz<|vMz<|vMz ?_;refine lvz (.leqT rfl rfl (by omega)) ?_;refine vAz<|nNz<|cTz<|sRz<|vAz<|nNz<|zK<|blkR<|thenR ?_)
  (apply finR;exact .inl rfl;rfl;rfl;rfl;apply zD;exact zG rfl;exact zF)
  rfl
 ·rw [if_neg h1]
  by_cases h2:1024 < b
  ·rw [if_pos h2]
   (refine sRz<|vAz<|nNz<|zI<|zM<|sRz<|vMz<|vMz ?_;refine lvz (.leqF rfl rfl (by omega)) ?_;refine vAz<|nNz<|cFz<|sRz<|vMz ?_;refine lvz (.gtrT rfl rfl (by omega)) ?_;refine vAz<|nNz<|cTz<|sRz<|vAz<|nNz<|zK<|blkR<|thenR ?_)
   (apply finR;exact .inl rfl;rfl;rfl;rfl;apply zD;exact zG rfl;exact zF)
   rfl
  ·rw [if_neg h2]
   have hm:=memW_mono (show (a+31) / 32≤(b+31) / 32 by omega)
   have hm2:=memW_mono (show (b+31) / 32≤32 by omega)
   have hm3:memW 32=98:=by decide
   (refine sRz<|vAz<|nNz<|zI<|zM<|sRz<|vMz<|vMz ?_;refine lvz (.leqF rfl rfl (by omega)) ?_;refine vAz<|nNz<|cFz<|sRz<|vMz ?_;refine lvz (.gtrF rfl rfl (by omega)) ?_;refine vAz<|nNz<|cFz<|zJ<|blkN<|thenN<|sRz<|vMz ?_;apply zS;rfl;rfl;infer_instance;exact .cons rfl .nil;intro w _;refine rWords_calls _ ?_ w;omega;apply zS;rfl;rfl;infer_instance;exact .cons rfl .nil;intro w _;refine rwords_calls _ ?_ w;omega;refine vMz ?_;apply zS;rfl;rfl;infer_instance;exact .cons rfl .nil;intro w _;refine rWords_calls _ ?_ w;omega;apply zS;rfl;rfl;infer_instance;exact .cons rfl .nil;intro w _;refine rwords_calls _ ?_ w;omega;refine lvz (.subN rfl rfl (by omega) (by omega)) ?_;refine vAz<|nNz<|zK ?_)
   (apply finR;exact .inl rfl;rfl;rfl;rfl;apply zD;exact zG rfl;exact zF)
   rfl
theorem rEnd_calls (a n:Nat) (ha:a < M256) (hn:n < M256) (w:World):Calls Tryz.prog 78 #[wv a,wv n] w (Ret w (.int .u64 ((endV a n:Nat):Int))):=by
 have hA0:=rAdd_calls a n ha hn
 have hz:(0:Nat) < M256:=by decide
 have hNM:(1099511627776:Nat) < M256:=by decide
 refine enter (args:=[_,_]) _ [] [] Tryz.func78 rfl Tryz.ntmps78 rfl (by simp) .nil ?_
 unfold endV
 by_cases h0:n=0
 ·subst h0
  rw [if_pos rfl]
  (refine sRz ?_;apply zT;rfl;rfl;intro _;apply zT;rfl;rfl;intro _;refine vAz<|nNz<|zI<|sRz<|ldz rfl .head (qF rfl) ?_;apply LW.v0;rfl;rfl;exact ValP.buildW0;refine lvz (.eqWT rfl rfl (by with_reducible rfl)) ?_;refine nNz<|cTz<|sRz<|vAz<|nNz<|zK<|thenR ?_)
  (apply finR;exact .inl rfl;rfl;rfl;rfl;apply zD;exact zG rfl;exact zF)
  rfl
 ·rw [if_neg h0]
  rcases Nat.lt_or_ge (a+n) M256 with h|h
  ·rw [Nat.mod_eq_of_lt h,decide_eq_false (Nat.not_le.2 h)] at hA0
   have hA:=hA0
   have hC0:=rCmp_calls (a+n) 1099511627776 h hNM
   rcases Nat.lt_or_ge (a+n) 1099511627776 with hs|hs
   ·rw [if_pos hs] at hC0
    have hC:=hC0
    rw [Nat.min_eq_left (Nat.le_of_lt hs),show a+n=(a+n) % 18446744073709551616 by omega]
    (refine sRz ?_;apply zT;rfl;rfl;intro _;apply zT;rfl;rfl;intro _;refine vAz<|nNz<|zI<|sRz<|ldz rfl .head (qF rfl) ?_;apply LW.v0;rfl;rfl;exact ValP.buildW0;refine lvz (.eqWF rfl rfl (by assumption) (by assumption) (by assumption)) ?_;refine nNz<|cFz<|zJ<|thenN<|sRz<|ldz rfl (.tail .head) (qF rfl)<|ldz rfl .head (qF rfl) ?_;apply zS;rfl;rfl;infer_instance;exact .cons rfl (.cons rfl .nil);intro w _;exact hA w;refine vMz ?_;refine vEz ?_;refine vEz ?_;apply LW.allocW;rfl;intro _;refine zR rfl rfl .head (.whole rfl rfl rfl)<|vAz<|nNz<|zI<|sRz<|vMz<|vMz<|gTz<|ldz rfl .head (qF rfl)<|gTz ?_;refine lvz (.buildW1L rfl (by decide) rfl) ?_;refine gTz ?_;apply zS;rfl;rfl;infer_instance;exact .cons rfl (.cons rfl .nil);intro w _;exact hC w;refine gTz ?_;refine lvz (.geqF rfl rfl (by omega)) ?_;refine pFz<|nNz<|cFz<|zJ<|thenN<|sRz<|lvz (.indexAddrL rfl rfl rfl)<|ldz rfl .head (Rd.one' rfl)<|vAz<|nNz<|zK ?_)
    (apply finR;exact .inl rfl;rfl;rfl;rfl;apply zD;exact zG rfl;exact zF)
    rfl
   ·rw [Nat.min_eq_right hs]
    rw [if_neg (Nat.not_lt.2 hs)] at hC0
    rcases Nat.lt_or_ge 1099511627776 (a+n) with hs2|hs2
    ·rw [if_pos hs2] at hC0
     have hC:=hC0
     (refine sRz ?_;apply zT;rfl;rfl;intro _;apply zT;rfl;rfl;intro _;refine vAz<|nNz<|zI<|sRz<|ldz rfl .head (qF rfl) ?_;apply LW.v0;rfl;rfl;exact ValP.buildW0;refine lvz (.eqWF rfl rfl (by assumption) (by assumption) (by assumption)) ?_;refine nNz<|cFz<|zJ<|thenN<|sRz<|ldz rfl (.tail .head) (qF rfl)<|ldz rfl .head (qF rfl) ?_;apply zS;rfl;rfl;infer_instance;exact .cons rfl (.cons rfl .nil);intro w _;exact hA w;refine vMz ?_;refine vEz ?_;refine vEz ?_;apply LW.allocW;rfl;intro _;refine zR rfl rfl .head (.whole rfl rfl rfl)<|vAz<|nNz<|zI<|sRz<|vMz<|vMz<|gTz<|ldz rfl .head (qF rfl)<|gTz ?_;refine lvz (.buildW1L rfl (by decide) rfl) ?_;refine gTz ?_;apply zS;rfl;rfl;infer_instance;exact .cons rfl (.cons rfl .nil);intro w _;exact hC w;refine gTz ?_;refine lvz (.geqT rfl rfl (by omega)) ?_;refine pFz<|nNz<|cTz<|sRz<|vAz<|nNz<|zK<|thenR ?_)
     (apply finR;exact .inl rfl;rfl;rfl;rfl;apply zD;exact zG rfl;exact zF)
     rfl
    ·rw [if_neg (Nat.not_lt.2 hs2)] at hC0
     have hC:=hC0
     (refine sRz ?_;apply zT;rfl;rfl;intro _;apply zT;rfl;rfl;intro _;refine vAz<|nNz<|zI<|sRz<|ldz rfl .head (qF rfl) ?_;apply LW.v0;rfl;rfl;exact ValP.buildW0;refine lvz (.eqWF rfl rfl (by assumption) (by assumption) (by assumption)) ?_;refine nNz<|cFz<|zJ<|thenN<|sRz<|ldz rfl (.tail .head) (qF rfl)<|ldz rfl .head (qF rfl) ?_;apply zS;rfl;rfl;infer_instance;exact .cons rfl (.cons rfl .nil);intro w _;exact hA w;refine vMz ?_;refine vEz ?_;refine vEz ?_;apply LW.allocW;rfl;intro _;refine zR rfl rfl .head (.whole rfl rfl rfl)<|vAz<|nNz<|zI<|sRz<|vMz<|vMz<|gTz<|ldz rfl .head (qF rfl)<|gTz ?_;refine lvz (.buildW1L rfl (by decide) rfl) ?_;refine gTz ?_;apply zS;rfl;rfl;infer_instance;exact .cons rfl (.cons rfl .nil);intro w _;exact hC w;refine gTz ?_;refine lvz (.geqT rfl rfl (by omega)) ?_;refine pFz<|nNz<|cTz<|sRz<|vAz<|nNz<|zK<|thenR ?_)
     (apply finR;exact .inl rfl;rfl;rfl;rfl;apply zD;exact zG rfl;exact zF)
     rfl
  ·rw [decide_eq_true h] at hA0
   have hA:=hA0
   rw [Nat.min_eq_right (by simp only [NOG];simp only [M256] at h;omega)]
   (refine sRz ?_;apply zT;rfl;rfl;intro _;apply zT;rfl;rfl;intro _;refine vAz<|nNz<|zI<|sRz<|ldz rfl .head (qF rfl) ?_;apply LW.v0;rfl;rfl;exact ValP.buildW0;refine lvz (.eqWF rfl rfl (by assumption) (by assumption) (by assumption)) ?_;refine nNz<|cFz<|zJ<|thenN<|sRz<|ldz rfl (.tail .head) (qF rfl)<|ldz rfl .head (qF rfl) ?_;apply zS;rfl;rfl;infer_instance;exact .cons rfl (.cons rfl .nil);intro w _;exact hA w;refine vMz ?_;refine vEz ?_;refine vEz ?_;apply LW.allocW;rfl;intro _;refine zR rfl rfl .head (.whole rfl rfl rfl)<|vAz<|nNz<|zI<|sRz<|vMz<|vMz ?_;(iterate 4 refine gFz ?_);refine pTz<|nNz<|cTz<|sRz<|vAz<|nNz<|zK<|thenR ?_)
   (apply finR;exact .inl rfl;rfl;rfl;rfl;apply zD;exact zG rfl;exact zF)
   rfl
theorem wcs_app (l r:List Nat):wcs (l++r)=wcs l++wcs r:=by simp [wcs]
theorem wcs_take (l:List Nat) (k:Nat):(wcs l).take (k * 4)=wcs (l.take k):=by
 induction l generalizing k with
 |nil=>simp [wcs]
 |cons a l ih =>
  cases k with
  |zero=>simp [wcs]
  |succ k =>
   have:=ih k
   simp only [wcs,List.flatMap_cons,List.take_succ_cons] at *
   rw [← this,show (k+1) * 4=(wc a).toList.length+k * 4 by show (k+1) * 4=4+k * 4;omega,List.take_length_add_append]
theorem wcs_drop (l:List Nat) (k:Nat):(wcs l).drop (k * 4)=wcs (l.drop k):=by
 induction l generalizing k with
 |nil=>simp [wcs]
 |cons a l ih =>
  cases k with
  |zero=>simp [wcs]
  |succ k =>
   have:=ih k
   simp only [wcs,List.flatMap_cons,List.drop_succ_cons] at *
   rw [← this,show (k+1) * 4=(wc a).toList.length+k * 4 by show (k+1) * 4=4+k * 4;omega,List.drop_length_add_append]
theorem wcs_cells (l:List Nat):∀ u∈wcs l,u.oneCell'=true:=fun u hu=>by
 obtain ⟨a,_,hb⟩:=List.mem_flatMap.1 hu
 simp only [wc,List.mem_cons,List.not_mem_nil,or_false] at hb
 rcases hb with rfl|rfl|rfl|rfl<;>rfl

theorem and32 (n:Nat):n &&& 4294967295=n % 4294967296:=Nat.and_two_pow_sub_one_eq_mod n 32
theorem Mul64_calls (x y:Nat) (hx:x < 18446744073709551616) (hy:y < 18446744073709551616) (w:World):Calls Tryz.prog 63 #[.int .u64 (x:Int),.int .u64 (y:Int)] w (Ret w (.tuple #[.int .u64 ((x * y / 18446744073709551616:Nat):Int),.int .u64 ((x * y % 18446744073709551616:Nat):Int)])):=by
 refine enter (args:=[_,_]) _ [] [] Tryz.func63 rfl Tryz.ntmps63 rfl (by simp) .nil ?_
 (refine sRz<|vAz<|vAz<|nSz<|vMz ?_;refine lvz (.andUL rfl rfl (by decide) (by omega) (by omega)) ?_;refine vAz<|nSz<|vMz ?_;refine lvz (.shrUL rfl rfl (by decide) (by omega)) ?_;refine vAz<|nSz<|vMz ?_;refine lvz (.andUL rfl rfl (by decide) (by omega) (by omega)) ?_;refine vAz<|nSz<|vMz ?_;refine lvz (.shrUL rfl rfl (by decide) (by omega)) ?_;refine vAz<|nSz<|vMz<|vMz<|lvz (.mulN rfl rfl)<|vAz<|nSz<|vMz<|vMz<|lvz (.mulN rfl rfl)<|vMz ?_;refine lvz (.shrUL rfl rfl (by decide) (by omega)) ?_;refine lvz (.addN rfl rfl)<|vAz<|nSz<|vMz ?_;refine lvz (.andUL rfl rfl (by decide) (by omega) (by omega)) ?_;refine vAz<|nSz<|vMz ?_;refine lvz (.shrUL rfl rfl (by decide) (by omega)) ?_;refine vAz<|nSz<|vMz<|vMz<|vMz<|lvz (.mulN rfl rfl)<|lvz (.addN rfl rfl)<|vAz<|nSz<|vMz<|vMz<|lvz (.mulN rfl rfl)<|vMz<|lvz (.addN rfl rfl) ?_;refine vMz ?_;refine lvz (.shrUL rfl rfl (by decide) (by omega)) ?_;refine lvz (.addN rfl rfl)<|vAz<|nSz<|vMz<|vMz<|lvz (.mulN rfl rfl)<|vAz<|nNz<|zK ?_)
 (apply finR;exact .inl rfl;rfl;rfl;rfl;apply zD;exact zG rfl;apply zD;exact zG rfl;exact zF)
 refine congrArg (fun z:Nat=>Value.tuple #[.int .u64 (z:Int),.int .u64 ((x * y % 18446744073709551616:Nat):Int)]) ?_
 simp only [and32,Nat.reducePow]
 have e:x * y=(x / 4294967296) * (y / 4294967296) * (4294967296 * 4294967296)+((x / 4294967296) * (y % 4294967296)+(x % 4294967296) * (y / 4294967296)) * 4294967296+(x % 4294967296) * (y % 4294967296):=by
  rw [← Lib.split_mul,Nat.div_add_mod' x 4294967296,Nat.div_add_mod' y 4294967296]
 have ha:=Lib.half_mul_le (a:=x / 4294967296) (b:=y / 4294967296) (by omega) (by omega)
 have hb:=Lib.half_mul_le (a:=x / 4294967296) (b:=y % 4294967296) (by omega) (by omega)
 have hc:=Lib.half_mul_le (a:=x % 4294967296) (b:=y / 4294967296) (by omega) (by omega)
 have hd:=Lib.half_mul_le (a:=x % 4294967296) (b:=y % 4294967296) (by omega) (by omega)
 rw [e]
 generalize (x / 4294967296) * (y / 4294967296)=a at ha ⊢
 generalize (x / 4294967296) * (y % 4294967296)=b at hb ⊢
 generalize (x % 4294967296) * (y / 4294967296)=c at hc ⊢
 generalize (x % 4294967296) * (y % 4294967296)=d at hd ⊢
 clear e hx hy
 omega
def val:List Nat→Nat
 |[]=>0
 |x::r=>x+18446744073709551616 * val r
theorem val_set:∀ (L:List Nat) (j v:Nat) (hj:j < L.length),val (L.set j v)+L[j] * 18446744073709551616 ^ j=val L+v * 18446744073709551616 ^ j
 |x::r,0,v,_=>by simp [val];omega
 |x::r,j+1,v,hj=>by
  have:=val_set r j v (by simpa using hj)
  simp only [qM,val,List.getElem_cons_succ,Nat.pow_succ]
  have e:∀ y,y * (18446744073709551616 ^ j * 18446744073709551616)=18446744073709551616 * (y * 18446744073709551616 ^ j):=fun y=>by rw [← Nat.mul_assoc,Nat.mul_comm]
  rw [e,e]
  omega
theorem mul_step (x y l c:Nat) (hx:x < 18446744073709551616) (hy:y < 18446744073709551616) (hl:l < 18446744073709551616) (hc:c < 18446744073709551616) :
  let lo:=x * y % 18446744073709551616;let hi:=x * y / 18446744073709551616
  let l1:=(lo+l+0) % 18446744073709551616;let c1:=(lo+l+0) / 18446744073709551616
  let l2:=(l1+c+0) % 18446744073709551616;let c2:=(l1+c+0) / 18446744073709551616
  (hi+c1) % 18446744073709551616=hi+c1∧(hi+c1+c2) % 18446744073709551616=hi+c1+c2∧l2+18446744073709551616 * (hi+c1+c2)=x * y+l+c∧l2 < 18446744073709551616∧hi+c1+c2 < 18446744073709551616:=by
 have hxy:x * y≤18446744073709551615 * 18446744073709551615:=Nat.mul_le_mul (by omega) (by omega)
 generalize x * y=p at *
 dsimp only
 omega
theorem inv_step (v v' l lo c c' xy P:Nat) (h1:v'+l * P=v+lo * P) (h2:lo+18446744073709551616 * c'=xy+l+c):v'+c' * (P * 18446744073709551616)=v+c * P+xy * P:=by
 have h3:(lo+18446744073709551616 * c') * P=(xy+l+c) * P:=by rw [h2]
 rw [Nat.add_mul,Nat.add_mul,Nat.add_mul] at h3
 have e:c' * (P * 18446744073709551616)=18446744073709551616 * c' * P:=by rw [Nat.mul_comm P,← Nat.mul_assoc,Nat.mul_comm c']
 rw [e];omega
theorem mul_last (l0 l1 l2 l3 l4 l5 l6 l7 n:Nat) (h0:l0 < 18446744073709551616) (h1:l1 < 18446744073709551616) (h2:l2 < 18446744073709551616) (h3:l3 < 18446744073709551616) (h:val [l0,l1,l2,l3,l4,l5,l6,l7]=n) :
  n % 115792089237316195423570985008687907853269984665640564039457584007913129639936=l0+18446744073709551616 * l1+340282366920938463463374607431768211456 * l2+6277101735386680763835789423207666416102355444464034512896 * l3 ∧
  (115792089237316195423570985008687907853269984665640564039457584007913129639936≤n↔(l4 ≠ 0∨l5 ≠ 0∨l6 ≠ 0∨l7 ≠ 0)):=by
 simp only [val] at h
 constructor<;>omega
def lcs (L:List Nat):Array Value:=(L.map fun x=>Value.int .u64 ((x:Nat):Int)).toArray
theorem Add64_run (x y:Nat) (w:World):(callFunc 61 #[.int .u64 x,.int .u64 y,.int .u64 (0:Int)]).run Tryz.prog w=.ok (.value (.tuple #[.int .u64 (((x+y+0) % 18446744073709551616:Nat):Int),.int .u64 (((x+y+0) / 18446744073709551616:Nat):Int)])) w:=add64_run x y 0 (by decide) w
theorem lcs_get (L:List Nat) (j:Nat) (h:j < L.length):(lcs L)[j]?=some (.int .u64 ((L[j]:Nat):Int)):=by simp [lcs,h]
theorem lcs_set (L:List Nat) (j v:Nat):wrCells (lcs L) j [.int .u64 ((v:Nat):Int)]=lcs (L.set j v):=by
 simp only [wrCells,lcs]
 rw [qH,List.map_set]
theorem lcs_rd (L:List Nat) (j:Nat) (h:j < L.length) {E:TypeId} {fr:Nat × Nat}:Rd Tryz.prog 26 (.cells (lcs L) E fr) (0+j * 1) (.int .u64 ((L[j]:Nat):Int)):=Rd.one (by rw [qO,Nat.mul_one];exact lcs_get L j h)
theorem lcs_wr (L:List Nat) (j v:Nat) (h:j < L.length) {E:TypeId}:Wr Tryz.prog 26 (.cells (lcs L) E (0,0)) (0+j * 1) (.int .u64 ((v:Nat):Int)) (.cells (lcs (L.set j v)) E (0,0)) :=
 Wr.cells rfl rfl (by show 0+j * 1+1≤(lcs L).size;simp [lcs];omega) (by rw [qO,Nat.mul_one];exact lcs_set L j v)
structure MO where
 i:Nat
 L:List Nat
structure MI where
 k:Nat
 c:Nat
 L:List Nat
def limb (a i:Nat):Nat:=a / 2 ^ (64 * i) % 18446744073709551616
theorem B_pow (i:Nat):(18446744073709551616:Nat) ^ i=2 ^ (64 * i):=by rw [show (18446744073709551616:Nat)=2 ^ 64 from rfl,← Nat.pow_mul]
theorem limb_step (a i:Nat):a % 2 ^ (64 * (i+1))=a % 2 ^ (64 * i)+limb a i * 18446744073709551616 ^ i:=by
 rw [Nat.mul_add,Nat.mul_one,Nat.pow_add,Nat.mod_mul,limb,B_pow,Nat.mul_comm (2 ^ (64 * i))]
theorem nth_limb (a k:Nat) (h:k < 4):nth (wc a).toList k=some (.int .u64 ((limb a k:Nat):Int)):=nth_wc a k h
theorem limb_lt (a i:Nat):limb a i < 18446744073709551616:=Nat.mod_lt _ (by decide)
theorem getElem_mem_lt {L:List Nat} (h:∀ y∈L,y < 18446744073709551616) (j:Nat) (hj:j < L.length):L[j] < 18446744073709551616:=h _ (List.getElem_mem hj)
theorem set_lt {L:List Nat} (h:∀ y∈L,y < 18446744073709551616) (j v:Nat) (hv:v < 18446744073709551616):∀ y∈L.set j v,y < 18446744073709551616:=fun y hy=>by
 rcases List.mem_or_eq_of_mem_set hy with h1|rfl
 ·exact h y h1
 ·exact hv
theorem Mul_calls (a b:Nat) (ha:a < M256) (hb:b < M256) (w:World):Calls Tryz.prog 19 #[wv a,wv b] w (Ret w (.tuple #[wv (a * b % M256),.bool (decide (M256≤a * b))])):=by
 refine enter (args:=[_,_]) _ [] [] Tryz.func19 rfl Tryz.ntmps19 rfl (by simp) .nil ?_
 (refine sRz ?_;apply zT;rfl;rfl;intro _;apply zT;rfl;rfl;intro _;apply LW.allocW;rfl;intro _;refine vAz<|nSz ?_;apply zU;rfl;intro _;refine nNz<|zI<|sRz<|ldz rfl (.tail (.tail (.tail .head))) (qF rfl)<|vMz<|nNz<|zM ?_)
 rename_i ba bb bc bd
 refine CW.loop (fun x:MO=>([(16,.int .i64 (x.i:Int)),(15,.agg (wc a)),(6,.pointer (some ⟨bd,0,none⟩)),(5,.bool false),(4,.pointer (some ⟨bc,0,none⟩)),(3,.pointer (some ⟨bb,0,none⟩))],
   [(bd,.cells (lcs x.L) 103 (0,0)),(bc,.cells (wc 0) 29 (0,0)),(bb,.cells (wc b) 29 (0,0)),(ba,.cells (wc a) 29 (0,0))]))
  (fun x=>x.i≤4∧x.L.length=8∧(∀ y∈x.L,y < 18446744073709551616)∧val x.L=a % 2 ^ (64 * x.i) * b∧∀ j (h:j < x.L.length),x.i+4≤j→x.L[j]=0) (fun x=>4 - x.i) ⟨0,[0,0,0,0,0,0,0,0]⟩ ⟨Nat.zero_le _,rfl,by decide,by simp [val,Nat.mod_one],by decide⟩ ⟨rfl,rfl,rfl,rfl,rfl,rfl,trivial⟩ (qN _) ?_
 rintro ⟨i,L⟩ ⟨hi,hL,hLb,hval,hz⟩
 dsimp only at hi hL hLb hval hz ⊢
 rcases Nat.lt_or_ge i 4 with hlt|hge
 ·have hx0:=limb_lt a i
  (refine sRz ?_;refine lvz (.lssT rfl rfl (by omega)) ?_;refine nNz<|zI<|cTz<|zJ<|thenN<|zI<|zM<|sRz<|vMz ?_;apply LW.v0;rfl;rfl;apply ValP.indexA;rfl;rfl;rfl;rfl;omega;apply nth_limb;omega;refine vAz<|vAz<|nSz<|vAz<|nNz<|zI<|sRz<|ldz rfl (.tail (.tail .head)) (qF rfl)<|vMz<|nNz<|zM ?_)
  refine CW.loop (fun x:MI=>([(21,.int .i64 (x.k:Int)),(20,.agg (wc b)),(9,.int .u64 ((x.c:Nat):Int)),(8,.int .u64 ((limb a i:Nat):Int)),(7,.int .i64 (i:Int)),(16,.int .i64 (i:Int)),(15,.agg (wc a)),(6,.pointer (some ⟨bd,0,none⟩)),(5,.bool false),(4,.pointer (some ⟨bc,0,none⟩)),(3,.pointer (some ⟨bb,0,none⟩))],
    [(bd,.cells (lcs x.L) 103 (0,0)),(bc,.cells (wc 0) 29 (0,0)),(bb,.cells (wc b) 29 (0,0)),(ba,.cells (wc a) 29 (0,0))]))
   (fun x=>x.k≤4∧x.c < 18446744073709551616∧x.L.length=8∧(∀ y∈x.L,y < 18446744073709551616)∧val x.L+x.c * 18446744073709551616 ^ (i+x.k)=a % 2 ^ (64 * i) * b+limb a i * (b % 2 ^ (64 * x.k)) * 18446744073709551616 ^ i∧∀ j (h:j < x.L.length),i+4≤j→x.L[j]=0) (fun x=>4 - x.k) ⟨0,0,L⟩
   ⟨Nat.zero_le _,(show 0 < 18446744073709551616 by decide),hL,hLb,by simp [hval,Nat.mod_one],hz⟩ ⟨rfl,rfl,rfl,rfl,rfl,rfl,rfl,rfl,rfl,rfl,rfl,trivial⟩ (qN _) ?_
  clear hL hLb hval hz L
  rintro ⟨k,c,L⟩ ⟨hk,hc,hL,hLb,hval,hz⟩
  dsimp only at hk hc hL hLb hval hz ⊢
  rcases Nat.lt_or_ge k 4 with hkl|hkg
  ·have hy0:=limb_lt b k
   have hj:i+k < L.length:=by omega
   obtain ⟨l,hl⟩:∃ l,l=L[i+k]:=⟨_,rfl⟩
   have hl0:l < 18446744073709551616:=by rw [hl];exact getElem_mem_lt hLb _ hj
   have hrd:=lcs_rd L (i+k) hj (E:=103) (fr:=(0,0))
   rw [← hl] at hrd
   obtain ⟨s1,s2,s3,s4,s5⟩:=mul_step (limb a i) (limb b k) l c hx0 hy0 hl0 hc
   have hW:=lcs_wr L (i+k) (((limb a i * limb b k % 18446744073709551616+l+0) % 18446744073709551616+c+0) % 18446744073709551616) hj (E:=103)
   have hv:=val_set L (i+k) (((limb a i * limb b k % 18446744073709551616+l+0) % 18446744073709551616+c+0) % 18446744073709551616) hj
   rw [← hl] at hv
   have hinv:=inv_step _ _ _ _ _ _ _ _ hv s3
   (refine sRz ?_;refine lvz (.lssT rfl rfl (by omega)) ?_;refine nNz<|zI<|cTz<|zJ<|thenN<|zI<|zM<|sRz<|vMz ?_;apply LW.v0;rfl;rfl;apply ValP.indexA;rfl;rfl;rfl;rfl;omega;apply nth_limb;omega;refine vAz<|vAz<|nSz<|vMz<|vMz ?_;apply zS;rfl;rfl;infer_instance;exact .cons rfl (.cons rfl .nil);intro w _;refine Mul64_calls _ _ ?_ ?_ w;assumption;assumption;refine vMz ?_;refine vEz ?_;refine vEz ?_;refine vAz<|vAz<|nSz<|vMz<|vMz<|vMz ?_;refine lvz (.addZ rfl rfl (by omega)) ?_;refine lvz (.indexAddrA rfl rfl rfl (by omega)) ?_;refine ldz rfl .head (by assumption) ?_;apply LW.v0;rfl;rfl;apply ValP.callX;rfl;exact .cons rfl (.cons rfl (.cons rfl .nil));exact Add64_run _ _;refine vMz ?_;refine vEz ?_;refine vEz ?_;refine vAz<|vAz<|nSz<|vMz<|vMz<|lvz (.addN rfl rfl)<|vAz<|nSz<|vMz<|vMz ?_;apply LW.v0;rfl;rfl;apply ValP.callX;rfl;exact .cons rfl (.cons rfl (.cons rfl .nil));exact Add64_run _ _;refine vMz ?_;refine vEz ?_;refine vEz ?_;refine vAz<|vAz<|nNz<|zL<|vMz<|vMz ?_;refine lvz (.addZ rfl rfl (by omega)) ?_;refine vMz<|vMz<|vMz<|lvz (.addN rfl rfl) ?_;refine lvz (.indexAddrA rfl rfl rfl (by omega)) ?_;apply zR;rfl;rfl;apply qA;assumption;refine vAz ?_;apply zV;refine blkN<|thenN<|zL ?_;refine lvz (.addZL rfl rfl (by decide) (by omega)) ?_;refine vMz ?_;apply zV)
   apply thenX
   refine ⟨rfl,⟨k+1,_,_⟩,⟨hkl,?_,?_,?_,?_,?_⟩,by show 4 - (k+1) < 4 - k;omega,⟨rfl,rfl,rfl,rfl,rfl,rfl,rfl,rfl,rfl,rfl,rfl,trivial⟩,qN _⟩
   ·exact Nat.mod_lt _ (by decide)
   ·simpa using hL
   ·exact set_lt hLb _ _ s4
   ·dsimp only
    rw [s1,s2,← Nat.add_assoc,Nat.pow_succ,hinv,hval,limb_step,Nat.mul_add,Nat.add_mul,Nat.pow_add,Nat.add_assoc]
    congr 2
    rw [Nat.mul_assoc,Nat.mul_assoc,Nat.mul_assoc,Nat.mul_comm (18446744073709551616 ^ i)]
   ·intro j hjl hji
    dsimp only at hjl ⊢
    rw [List.getElem_set_ne (by omega)]
    exact hz j (by simpa using hjl) hji
  ·obtain rfl:k=4:=by omega
   have hj:i+4 < L.length:=by omega
   have hb4:b % 2 ^ (64 * 4)=b:=Nat.mod_eq_of_lt hb
   have hW:=lcs_wr L (i+4) c hj (E:=103)
   have hv:=val_set L (i+4) c hj
   rw [hz (i+4) hj (Nat.le_refl _),Nat.zero_mul,Nat.add_zero,hval,hb4] at hv
   (refine sRz ?_;refine lvz (.lssF rfl rfl (by omega)) ?_;refine nNz<|zI<|cFz<|CW.exit<|thenE<|thenE<|blkE rfl<|thenN<|zL<|vMz ?_;refine lvz (.addZL rfl rfl (by decide) (by omega)) ?_;refine vMz ?_;refine lvz (.indexAddrA rfl rfl rfl (by omega)) ?_;apply zR;rfl;rfl;apply qA;assumption;apply zV;refine blkN<|thenN<|zL ?_;refine lvz (.addZL rfl rfl (by decide) (by omega)) ?_;refine vMz ?_;apply zV)
   apply thenX
   refine ⟨rfl,⟨i+1,_⟩,⟨hlt,?_,?_,?_,?_⟩,by show 4 - (i+1) < 4 - i;omega,⟨rfl,rfl,rfl,rfl,rfl,rfl,trivial⟩,qN _⟩
   ·simpa using hL
   ·exact set_lt hLb _ _ hc
   ·dsimp only
    rw [hv,limb_step,Nat.add_mul,Nat.mul_right_comm]
   ·intro j hjl hji
    dsimp only at hjl hji ⊢
    rw [List.getElem_set_ne (by omega)]
    exact hz j (by simpa using hjl) (by omega)
 ·obtain rfl:i=4:=by omega
  have ha4:a % 2 ^ (64 * 4)=a:=Nat.mod_eq_of_lt ha
  rw [ha4] at hval
  match L,hL with
  |[l0,l1,l2,l3,l4,l5,l6,l7],_ =>
   have h0:=hLb l0 (by simp)
   have h1:=hLb l1 (by simp)
   have h2:=hLb l2 (by simp)
   have h3:=hLb l3 (by simp)
   have h4:=hLb l4 (by simp)
   have h5:=hLb l5 (by simp)
   have h6:=hLb l6 (by simp)
   have h7:=hLb l7 (by simp)
   obtain ⟨m1,m2⟩:=mul_last l0 l1 l2 l3 l4 l5 l6 l7 (a * b) h0 h1 h2 h3 hval
   have hrw:Rd Tryz.prog 29 (.cells (lcs [l0,l1,l2,l3,l4,l5,l6,l7]) 103 (0,0)) 0 (wv (a * b % M256)):=by
    rw [wv,← wc_val h0 h1 h2 h3 m1]
    exact Rd.mid (cs:=[.int .u64 (l0:Int),.int .u64 (l1:Int),.int .u64 (l2:Int),.int .u64 (l3:Int)]) rfl rfl
   have hbool:(!decide (((l4 |||l5 |||l6 |||l7:Nat):Int)=0))=decide (M256≤a * b):=by
    rw [Bool.eq_iff_iff,Bool.not_eq_true',decide_eq_false_iff_not,decide_eq_true_iff,Int.natCast_eq_zero,Nat.or_eq_zero_iff,Nat.or_eq_zero_iff,Nat.or_eq_zero_iff,m2];omega
   (refine sRz ?_;refine lvz (.lssF rfl rfl (by omega)) ?_;refine nNz<|zI<|cFz<|CW.exit<|thenE<|thenE<|blkE rfl<|thenN<|zI ?_;apply CW.pre;refine AnyW.any 16 mixed (by decide +kernel) ?_;(try simp only [tsOf_cons,tsOf_nil,tsOf_app]);refine dvz (.cutArr inferInstance inferInstance rfl rfl rfl)<|dvz (.asArr inferInstance rfl rfl) ?_;apply qD;rfl;rfl;rfl;exact zC;rfl;apply zP;exact zN;assumption;refine dvz (.indexAddrL rfl rfl rfl) ?_;apply qD;rfl;rfl;rfl;exact zC;rfl;apply zP;exact zN;exact Rd.one' rfl;refine dvz (.indexAddrL rfl rfl rfl) ?_;apply qD;rfl;rfl;rfl;exact zC;rfl;apply zP;exact zN;exact Rd.one' rfl;refine dvz (.orU rfl rfl (by omega) (by omega)) ?_;refine dvz (.indexAddrL rfl rfl rfl) ?_;apply qD;rfl;rfl;rfl;exact zC;rfl;apply zP;exact zN;exact Rd.one' rfl;apply DW.v0;rfl;rfl;rfl;exact zC;rfl;apply ValP.orU;rfl;rfl;apply or64;omega;omega;omega;refine dvz (.indexAddrL rfl rfl rfl) ?_;apply qD;rfl;rfl;rfl;exact zC;rfl;apply zP;exact zN;exact Rd.one' rfl;apply DW.v0;rfl;rfl;rfl;exact zC;rfl;apply ValP.orU;rfl;rfl;apply or64;apply or64;omega;omega;omega;omega;refine dvz (.ne rfl rfl) ?_;apply DW.store;rfl;rfl;exact zC;rfl;rfl;apply TSet.tail;apply TSet.head;exact zN;exact zN;apply Wr.whole;rfl;rfl;rfl;apply DW.nil;simp only [fsOf_cons,fsOf_nil,fsOf_app,fsOf_tsOf,fsOf_new];refine vAz<|nNz<|zK ?_)
   (apply finR;exact .inl rfl;rfl;rfl;rfl;apply zD;apply zH;rfl;apply qE;apply zX;apply zY;exact qF rfl;apply zD;exact zG rfl;exact zF)
   rw [← hbool];rfl


theorem limb_top (N i:Nat):N / 2 ^ (64 * i) * 2 ^ (64 * i)=N / 2 ^ (64 * (i+1)) * 2 ^ (64 * (i+1))+limb N i * 2 ^ (64 * i):=by
 unfold limb
 rw [Nat.mul_add,Nat.mul_one,Nat.pow_add,← Nat.div_div_eq_div_mul]
 have h:=Nat.div_add_mod (N / 2 ^ (64 * i)) 18446744073709551616
 generalize N / 2 ^ (64 * i)=M at *
 generalize 2 ^ (64 * i)=P at *
 rw [show (2:Nat) ^ 64=18446744073709551616 from rfl]
 conv=>lhs;rw [← h]
 rw [Nat.add_mul,Nat.mul_comm 18446744073709551616 (M / _),Nat.mul_assoc,Nat.mul_comm P]
theorem limb_shift (a r j:Nat) (hr:r < 64):limb (a * 2 ^ r) (j+1)=limb a (j+1) * 2 ^ r % 18446744073709551616+limb a j / 2 ^ (64 - r)∧limb a j / 2 ^ (64 - r) < 2 ^ r:=by
 have hB:2 ^ (64 - r) * 2 ^ r=18446744073709551616:=by rw [← Nat.pow_add,show 64 - r+r=64 by omega]
 have hK:0 < 2 ^ (64 - r):=Nat.pow_pos (by decide)
 have hR:0 < 2 ^ r:=Nat.pow_pos (by decide)
 unfold limb
 rw [Nat.mul_add,Nat.mul_one,Nat.pow_add,← Nat.div_div_eq_div_mul a,show (2:Nat) ^ 64=18446744073709551616 from rfl]
 have h1:a * 2 ^ r / (2 ^ (64 * j) * 18446744073709551616)=a / 2 ^ (64 * j) / 2 ^ (64 - r):=by
  rw [← hB,← Nat.mul_assoc,Nat.mul_div_mul_right _ _ hR,Nat.div_div_eq_div_mul]
 rw [h1]
 generalize a / 2 ^ (64 * j)=A
 generalize 2 ^ (64 - r)=K at *
 generalize 2 ^ r=R at *
 have h2:=Nat.div_add_mod A 18446744073709551616
 have hm:A % 18446744073709551616 < 18446744073709551616:=Nat.mod_lt _ (by decide)
 have ht:A % 18446744073709551616 / K < R:=Nat.div_lt_of_lt_mul (by rw [hB];exact hm)
 refine ⟨?_,ht⟩
 have h3:A / K=A / 18446744073709551616 * R+A % 18446744073709551616 / K:=by
  conv=>lhs;rw [← h2,← hB,Nat.mul_assoc,Nat.mul_add_div hK]
  rw [hB,Nat.mul_comm R]
 rw [h3,Nat.mod_mul_mod]
 have h4:A / 18446744073709551616 * R % 18446744073709551616=A / 18446744073709551616 % K * R:=by rw [← hB,Nat.mul_mod_mul_right]
 have h5:A / 18446744073709551616 % K * R+A % 18446744073709551616 / K < 18446744073709551616:=by
  have h6:A / 18446744073709551616 % K < K:=Nat.mod_lt _ hK
  have h7:(A / 18446744073709551616 % K+1) * R≤K * R:=Nat.mul_le_mul_right _ h6
  rw [Nat.succ_mul,hB] at h7
  omega
 rw [Nat.add_mod,h4,Nat.mod_eq_of_lt (show A % 18446744073709551616 / K < 18446744073709551616 by omega),Nat.mod_eq_of_lt h5]
theorem limb_shift0 (a r:Nat):limb (a * 2 ^ r) 0=limb a 0 * 2 ^ r % 18446744073709551616:=by
 unfold limb;simp [Nat.mod_mul_mod]
theorem limb_down (a r j:Nat) (hr:r < 64):limb (a / 2 ^ r) j=limb a j / 2 ^ r+limb a (j+1) * 2 ^ (64 - r) % 18446744073709551616∧limb a j / 2 ^ r < 2 ^ (64 - r):=by
 have hB:2 ^ r * 2 ^ (64 - r)=18446744073709551616:=by rw [← Nat.pow_add,show r+(64 - r)=64 by omega]
 have hK:0 < 2 ^ (64 - r):=Nat.pow_pos (by decide)
 have hR:0 < 2 ^ r:=Nat.pow_pos (by decide)
 unfold limb
 rw [Nat.mul_add,Nat.mul_one,Nat.pow_add,← Nat.div_div_eq_div_mul a,show (2:Nat) ^ 64=18446744073709551616 from rfl,Nat.div_div_eq_div_mul a,Nat.mul_comm (2 ^ r) (2 ^ (64 * j)),← Nat.div_div_eq_div_mul a]
 generalize a / 2 ^ (64 * j)=A
 generalize 2 ^ (64 - r)=K at *
 generalize 2 ^ r=R at *
 have h2:=Nat.div_add_mod A 18446744073709551616
 have hm:A % 18446744073709551616 < 18446744073709551616:=Nat.mod_lt _ (by decide)
 have ht:A % 18446744073709551616 / R < K:=Nat.div_lt_of_lt_mul (by rw [hB];exact hm)
 refine ⟨?_,ht⟩
 have h3:A / R=A / 18446744073709551616 * K+A % 18446744073709551616 / R:=by
  conv=>lhs;rw [← h2,← hB,Nat.mul_assoc,Nat.mul_add_div hR]
  rw [hB,Nat.mul_comm K]
 rw [h3,Nat.mod_mul_mod]
 have h4:A / 18446744073709551616 * K % 18446744073709551616=A / 18446744073709551616 % R * K:=by rw [← hB,Nat.mul_mod_mul_right]
 have h5:A / 18446744073709551616 % R * K+A % 18446744073709551616 / R < 18446744073709551616:=by
  have h6:A / 18446744073709551616 % R < R:=Nat.mod_lt _ hR
  have h7:(A / 18446744073709551616 % R+1) * K≤R * K:=Nat.mul_le_mul_right _ h6
  rw [Nat.succ_mul,hB] at h7
  omega
 rw [Nat.add_mod,h4,Nat.mod_eq_of_lt (show A % 18446744073709551616 / R < 18446744073709551616 by omega),Nat.mod_eq_of_lt h5,Nat.add_comm]
theorem or_low {R A t:Nat} {r:Nat} (hR:R=2 ^ r) (hA:R ∣ A) (ht:t < R):A |||t=A+t:=by
 obtain ⟨q,rfl⟩:=hA
 subst hR
 rw [Nat.mul_comm,← Nat.shiftLeft_eq,Nat.shiftLeft_add_eq_or_of_lt ht]
theorem limb_mod (N j:Nat) (hj:j < 4):limb (N % M256) j=limb N j:=by
 unfold limb
 rcases (show j=0∨j=1∨j=2∨j=3 by omega) with rfl|rfl|rfl|rfl<;>simp only [Nat.mul_zero,Nat.pow_zero,Nat.div_one,Nat.mul_one,Nat.reduceMul,Nat.reducePow,M256]<;>omega
theorem limb_mul (Y q j:Nat):limb (Y * 2 ^ (64 * q)) (q+j)=limb Y j:=by
 unfold limb
 rw [Nat.mul_add,Nat.pow_add,Nat.mul_comm (2 ^ (64 * q)),Nat.mul_div_mul_right _ _ (pow_pos2 _)]
theorem wc_setlimb (X i v1 v2:Nat) (hi:i < 4) (hX:X+18446744073709551615 * 2 ^ (64 * i) < M256) (h1:v1 < 18446744073709551616) (h2:v2 < 18446744073709551616) (hz:limb X i=0) :
  ((wc (X+v1 * 2 ^ (64 * i))).toList.set i (.int .u64 ((v2:Nat):Int))).toArray=wc (X+v2 * 2 ^ (64 * i)):=by
 unfold limb at hz
 rcases (show i=0∨i=1∨i=2∨i=3 by omega) with rfl|rfl|rfl|rfl<;>simp only [wc,qL,qM,Nat.mul_zero,Nat.pow_zero,Nat.div_one,Nat.mul_one,Nat.reduceMul,Nat.reducePow,M256] at hz hX ⊢
 ·exact wc_val (by omega) (by omega) (by omega) (by omega) (by omega)
 ·exact wc_val (by omega) (by omega) (by omega) (by omega) (by omega)
 ·exact wc_val (by omega) (by omega) (by omega) (by omega) (by omega)
 ·exact wc_val (by omega) (by omega) (by omega) (by omega) (by omega)
theorem limb_rd (a j:Nat) (h:j < 4) {E:TypeId} {fr:Nat × Nat}:Rd Tryz.prog 26 (.cells (wc a) E fr) (0+j * 1) (.int .u64 ((limb a j:Nat):Int)) :=
 Rd.one (by rw [qO,Nat.mul_one];have:=nth_limb a j h;rw [nth_eq] at this;simpa using this)
theorem limb_wr (X i v1 v2:Nat) (hi:i < 4) (hX:X+18446744073709551615 * 2 ^ (64 * i) < M256) (h1:v1 < 18446744073709551616) (h2:v2 < 18446744073709551616) (hz:limb X i=0) {E:TypeId} :
  Wr Tryz.prog 26 (.cells (wc (X+v1 * 2 ^ (64 * i))) E (0,0)) (0+i * 1) (.int .u64 ((v2:Nat):Int)) (.cells (wc (X+v2 * 2 ^ (64 * i))) E (0,0)) :=
 Wr.cells rfl rfl (by show 0+i * 1+1≤4;omega) (by
  rw [qO,Nat.mul_one,← wc_setlimb X i v1 v2 hi hX h1 h2 hz]
  apply Array.toList_inj.1
  simp [wrCells,Value.cells])
theorem limb_zero (Y k:Nat):limb (Y * 2 ^ (64 * (k+1))) k=0:=by
 unfold limb
 rw [Nat.mul_add,Nat.mul_one,Nat.pow_add,← Nat.mul_assoc,Nat.mul_right_comm,Nat.mul_div_cancel _ (pow_pos2 _),show (2:Nat) ^ 64=18446744073709551616 from rfl,Nat.mul_mod_left]
theorem limb_put (X k v:Nat) (hz:limb X k=0) (hv:v < 18446744073709551616):limb (X+v * 2 ^ (64 * k)) k=v:=by
 unfold limb at *
 rw [Nat.add_mul_div_right _ _ (pow_pos2 _),Nat.add_mod,hz,qO,Nat.mod_mod,Nat.mod_eq_of_lt hv]
theorem top_lt (N k:Nat) (hk:k < 4) (hN:N < M256):N / 2 ^ (64 * (k+1)) * 2 ^ (64 * (k+1))+18446744073709551615 * 2 ^ (64 * k) < M256:=by
 simp only [M256] at *
 rcases (show k=0∨k=1∨k=2∨k=3 by omega) with rfl|rfl|rfl|rfl<;>simp only [Nat.reduceAdd,Nat.reduceMul,Nat.reducePow,Nat.mul_zero,Nat.pow_zero]<;>omega
theorem dvd_low (L r:Nat) (hr:r < 64):2 ^ r ∣ L * 2 ^ r % 18446744073709551616:=by
 rw [← show 2 ^ (64 - r) * 2 ^ r=18446744073709551616 by rw [← Nat.pow_add,show 64 - r+r=64 by omega],Nat.mul_mod_mul_right]
 exact ⟨_,Nat.mul_comm _ _⟩
theorem Shl_calls (a n:Nat) (ha:a < M256) (hn:n < M256) (w:World):Calls Tryz.prog 24 #[wv a,wv n] w (Ret w (wv (a * 2 ^ min n 256 % M256))):=by
 refine enter (args:=[_,_]) _ [] [] Tryz.func24 rfl Tryz.ntmps24 rfl (by simp) .nil ?_
 (refine sRz ?_;apply zT;rfl;rfl;intro _;apply zT;rfl;rfl;intro _;apply LW.allocW;rfl;intro _;refine nSz ?_;apply LW.allocW;rfl;intro _;refine nNz<|zI ?_;apply CW.pre;refine AnyW.any 7 mixed (by decide +kernel) ?_;(try simp only [tsOf_cons,tsOf_nil,tsOf_app]);apply qD;rfl;rfl;rfl;exact zC;rfl;apply zO;apply zO;apply zP;exact zN;exact qF rfl;apply DW.callE;rfl;rfl;rfl;exact zC;rfl;infer_instance;exact .cons rfl .nil;rfl;exact ReadAll.nil;intro w _ _;refine moves_calls _ ?_ w;assumption;refine dvz (.quoZL rfl rfl (by decide) (by omega) (by omega)) ?_;apply qD;rfl;rfl;rfl;exact zC;rfl;apply zO;apply zO;apply zP;exact zN;exact qF rfl;apply DW.callE;rfl;rfl;rfl;exact zC;rfl;infer_instance;exact .cons rfl .nil;rfl;exact ReadAll.nil;intro w _ _;refine moves_calls _ ?_ w;assumption;refine dvz (.remZL rfl rfl (by decide) (by omega)) ?_;refine dvz (.assign rfl) ?_;apply DW.nil;simp only [fsOf_cons,fsOf_nil,fsOf_app,fsOf_tsOf,fsOf_new];refine vAz<|nNz<|zI<|sRz<|vAz<|nNz<|zM ?_)
 rename_i ba b3 b4 b5
 obtain ⟨s,hs⟩:∃ s,s=min n 256:=⟨_,rfl⟩
 rw [← hs]
 have hs256:s≤256:=by omega
 obtain ⟨q,hq⟩:∃ q,q=s / 64:=⟨_,rfl⟩
 obtain ⟨r,hr⟩:∃ r,r=s % 64:=⟨_,rfl⟩
 rw [← hq,← hr]
 have hr64:r < 64:=by omega
 have hs2:s=r+64 * q:=by omega
 obtain ⟨N,hN⟩:∃ N,N=a * 2 ^ s % M256:=⟨_,rfl⟩
 rw [← hN]
 have hNM:N < M256:=by rw [hN];exact Nat.mod_lt _ (by decide)
 have hlimb:∀ j,q+j < 4→limb N (q+j)=limb (a * 2 ^ r) j:=fun j hj=>by
  rw [hN,limb_mod _ _ hj,hs2,Nat.pow_add,← Nat.mul_assoc,limb_mul]
 refine CW.loop (fun m:Nat=>([(8,.int .i64 ((m:Int) - 1)),(7,.int .i64 (r:Int)),(6,.int .i64 (q:Int)),(5,.pointer (some ⟨b5,0,none⟩)),(4,.pointer (some ⟨b4,0,none⟩)),(2,.pointer (some ⟨ba,0,none⟩))],
   [(b5,.cells (wc (N / 2 ^ (64 * m) * 2 ^ (64 * m))) 29 (0,0)),(b4,.cells (wc 0) 29 (0,0)),(b3,.cells (wc n) 29 (0,0)),(ba,.cells (wc a) 29 (0,0))]))
  (fun m=>m≤4∧q≤m) (fun m=>m) 4 ⟨Nat.le_refl _,by omega⟩ ⟨rfl,rfl,rfl,rfl,rfl,rfl,trivial⟩ ?_ ?_
 ·rw [show N / 2 ^ (64 * 4)=0 from Nat.div_eq_of_lt hNM,Nat.zero_mul];exact qN _
 ·rintro m ⟨hm4,hqm⟩
  dsimp only
  rcases Nat.lt_or_ge q m with hlt|hge
  ·obtain ⟨k,rfl⟩:∃ k,m=k+1:=⟨m - 1,by omega⟩
   have e0:(((k+1:Nat):Int) - 1)=(k:Int):=by omega
   rw [e0]
   obtain ⟨X,hX⟩:∃ X,X=N / 2 ^ (64 * (k+1)) * 2 ^ (64 * (k+1)):=⟨_,rfl⟩
   have hz:limb X k=0:=by rw [hX];exact limb_zero _ k
   have hXM:X+18446744073709551615 * 2 ^ (64 * k) < M256:=by rw [hX];exact top_lt N k (by omega) hNM
   have htop:=limb_top N k
   rw [← hX] at htop
   rw [← hX]
   have hv1:limb a (k - q) * 2 ^ r % 18446744073709551616 < 18446744073709551616:=Nat.mod_lt _ (by decide)
   have hrd1:=limb_rd a (k - q) (by omega) (E:=29) (fr:=(0,0))
   have hW1:=limb_wr X k 0 (limb a (k - q) * 2 ^ r % 18446744073709551616) (by omega) hXM (by decide) hv1 hz (E:=29)
   rw [Nat.zero_mul,Nat.add_zero] at hW1
   rcases Nat.lt_or_ge q k with hqk|hqk
   ·obtain ⟨j,hj⟩:∃ j,k - q=j+1:=⟨k - q - 1,by omega⟩
    have hl:=hlimb (j+1) (by omega)
    rw [show q+(j+1)=k by omega] at hl
    obtain ⟨s1,s2⟩:=limb_shift a r j hr64
    rw [← hl,← hj] at s1
    rcases Nat.eq_zero_or_pos r with hr0|hr0
    ·have hl0:limb a j / 2 ^ (64 - r)=0:=by rw [hr0];exact Nat.div_eq_of_lt (limb_lt a j)
     rw [hl0,Nat.add_zero] at s1
     (refine zI<|sRz<|vMz<|vMz ?_;refine lvz (.geqT rfl rfl (by omega)) ?_;refine nNz<|cTz<|zJ<|thenN<|zI<|zM<|sRz<|vMz<|vMz<|vMz ?_;refine lvz (.subZ rfl rfl (by omega) (by omega)) ?_;refine lvz (.indexAddrA rfl rfl rfl (by omega)) ?_;refine ldz rfl (.tail (.tail (.tail .head))) (by assumption) ?_;refine vMz ?_;refine lvz (.shlU rfl rfl (by omega)) ?_;refine lvz (.indexAddrA rfl rfl rfl (by omega)) ?_;apply zR;rfl;rfl;apply qA;assumption;refine nSz<|vMz<|vMz ?_;refine lvz (.gtrT rfl rfl (by omega)) ?_;refine vMz<|gTz<|vMz<|gTz ?_;refine lvz (.gtrF rfl rfl (by omega)) ?_;refine pTz<|nNz<|cFz<|zJ<|blkN<|thenN<|zL<|vMz ?_;refine lvz (.subZL rfl rfl (by decide) (by omega) (by omega)) ?_;refine vAz ?_;apply zV)
     apply thenX
     refine ⟨rfl,k,⟨by omega,by omega⟩,Nat.lt_succ_self k,⟨congrArg (fun z=>some (Value.int .i64 z)) (show ((k - 1:Nat):Int)=(k:Int) - 1 by omega),rfl,rfl,rfl,rfl,rfl,trivial⟩,?_⟩
     rw [htop,s1]
     exact qN _
    ·have hrd2:=limb_rd (X+limb a (k - q) * 2 ^ r % 18446744073709551616 * 2 ^ (64 * k)) k (by omega) (E:=29) (fr:=(0,0))
     rw [limb_put X k _ hz hv1] at hrd2
     have hrd3:=limb_rd a (k - q - 1) (by omega) (E:=29) (fr:=(0,0))
     have ht0:limb a (k - q - 1) / 2 ^ (64 - r) < 18446744073709551616:=div64 (limb_lt _ _)
     have hor:(limb a (k - q) * 2 ^ r % 18446744073709551616 |||limb a (k - q - 1) / 2 ^ (64 - r))=limb N k:=by
      rw [s1,show k - q - 1=j by omega]
      exact or_low rfl (dvd_low _ _ hr64) s2
     have hW2:=limb_wr X k (limb a (k - q) * 2 ^ r % 18446744073709551616) (limb a (k - q) * 2 ^ r % 18446744073709551616 |||limb a (k - q - 1) / 2 ^ (64 - r)) (by omega) hXM hv1 (by rw [hor];exact limb_lt _ _) hz (E:=29)
     (refine zI<|sRz<|vMz<|vMz ?_;refine lvz (.geqT rfl rfl (by omega)) ?_;refine nNz<|cTz<|zJ<|thenN<|zI<|zM<|sRz<|vMz<|vMz<|vMz ?_;refine lvz (.subZ rfl rfl (by omega) (by omega)) ?_;refine lvz (.indexAddrA rfl rfl rfl (by omega)) ?_;refine ldz rfl (.tail (.tail (.tail .head))) (by assumption) ?_;refine vMz ?_;refine lvz (.shlU rfl rfl (by omega)) ?_;refine lvz (.indexAddrA rfl rfl rfl (by omega)) ?_;apply zR;rfl;rfl;apply qA;assumption;refine nSz<|vMz<|vMz ?_;refine lvz (.gtrT rfl rfl (by omega)) ?_;refine vMz<|gTz<|vMz<|gTz ?_;refine lvz (.gtrT rfl rfl (by omega)) ?_;refine pTz<|nNz<|cTz ?_;apply CW.pre;refine AnyW.any 12 mixed (by decide +kernel) ?_;(try simp only [tsOf_cons,tsOf_nil,tsOf_app]);refine dvz (.move rfl) ?_;refine dvz (.indexAddrA rfl rfl rfl (by omega)) ?_;apply qD;rfl;rfl;rfl;exact zC;rfl;apply zP;exact zN;assumption;refine dvz (.move rfl)<|dvz (.move rfl) ?_;refine dvz (.subZ rfl rfl (by omega) (by omega)) ?_;refine dvz (.subZL rfl rfl (by decide) (by omega) (by omega)) ?_;refine dvz (.indexAddrA rfl rfl rfl (by omega)) ?_;apply qD;rfl;rfl;rfl;exact zC;rfl;apply zO;apply zO;apply zO;apply zP;exact zN;assumption;refine dvz (.move rfl) ?_;refine dvz (.subZK rfl rfl (by decide) (by omega) (by omega)) ?_;refine dvz (.shrU rfl rfl (by omega)) ?_;apply DW.nil;simp only [fsOf_cons,fsOf_nil,fsOf_app,fsOf_tsOf,fsOf_new];refine lvz (.orU rfl rfl (by omega) (by omega)) ?_;refine lvz (.indexAddrA rfl rfl rfl (by omega)) ?_;apply zR;rfl;rfl;apply qA;assumption;apply zV;refine blkN<|thenN<|zL<|vMz ?_;refine lvz (.subZL rfl rfl (by decide) (by omega) (by omega)) ?_;refine vAz ?_;apply zV)
     apply thenX
     refine ⟨rfl,k,⟨by omega,by omega⟩,Nat.lt_succ_self k,⟨congrArg (fun z=>some (Value.int .i64 z)) (show ((k - 1:Nat):Int)=(k:Int) - 1 by omega),rfl,rfl,rfl,rfl,rfl,trivial⟩,?_⟩
     rw [htop,← hor]
     exact qN _
   ·have hl:=hlimb 0 (by omega)
    rw [limb_shift0,show q+0=k by omega] at hl
    (refine zI<|sRz<|vMz<|vMz ?_;refine lvz (.geqT rfl rfl (by omega)) ?_;refine nNz<|cTz<|zJ<|thenN<|zI<|zM<|sRz<|vMz<|vMz<|vMz ?_;refine lvz (.subZ rfl rfl (by omega) (by omega)) ?_;refine lvz (.indexAddrA rfl rfl rfl (by omega)) ?_;refine ldz rfl (.tail (.tail (.tail .head))) (by assumption) ?_;refine vMz ?_;refine lvz (.shlU rfl rfl (by omega)) ?_;refine lvz (.indexAddrA rfl rfl rfl (by omega)) ?_;apply zR;rfl;rfl;apply qA;assumption;refine nSz<|vMz<|vMz ?_;refine lvz (.gtrF rfl rfl (by omega)) ?_;refine vMz<|gFz<|gFz<|pFz<|nNz<|cFz<|zJ<|blkN<|thenN<|zL<|vMz ?_;refine lvz (.subI rfl rfl (by omega) (by omega)) ?_;refine vAz ?_;apply zV)
    apply thenX
    refine ⟨rfl,k,⟨by omega,by omega⟩,Nat.lt_succ_self k,⟨rfl,rfl,rfl,rfl,rfl,rfl,trivial⟩,?_⟩
    rw [htop,hl,show k - q=0 by omega]
    exact qN _
  ·obtain rfl:m=q:=by omega
   have hfin:N / 2 ^ (64 * m) * 2 ^ (64 * m)=N:=by
    refine Nat.div_mul_cancel ?_
    rw [hN]
    refine (Nat.dvd_mod_iff (show 2 ^ (64 * m) ∣ 2 ^ 256 from Nat.pow_dvd_pow 2 (by omega))).2 ?_
    rw [hs2,Nat.pow_add,← Nat.mul_assoc]
    exact ⟨_,Nat.mul_comm _ _⟩
   rw [hfin]
   (refine zI<|sRz<|vMz<|vMz ?_;refine lvz (.geqF rfl rfl (by omega)) ?_;refine nNz<|cFz<|CW.exit<|thenE<|thenE<|blkE rfl<|thenN<|sRz<|ldz rfl .head (qF rfl) ?_;refine zR rfl rfl (.tail .head) (.whole rfl rfl rfl)<|nNz<|zK ?_)
   (apply finR;exact .inl rfl;rfl;rfl;rfl;apply zD;apply zH;rfl;apply qE;apply zX;apply zY;exact qF rfl;exact zF)
   rfl
theorem limb_div (Y q j:Nat):limb (Y / 2 ^ (64 * q)) j=limb Y (j+q):=by
 unfold limb
 rw [Nat.div_div_eq_div_mul,← Nat.pow_add,← Nat.mul_add,Nat.add_comm]
theorem low_zero (N m:Nat):limb (N % 2 ^ (64 * m)) m=0:=by
 unfold limb
 rw [Nat.div_eq_of_lt (Nat.mod_lt _ (pow_pos2 _))]
theorem low_lt (N m:Nat) (hm:m < 4):N % 2 ^ (64 * m)+18446744073709551615 * 2 ^ (64 * m) < M256:=by
 have h:=Nat.mod_lt N (pow_pos2 (64 * m))
 simp only [M256]
 rcases (show m=0∨m=1∨m=2∨m=3 by omega) with rfl|rfl|rfl|rfl<;>simp only [Nat.reduceMul,Nat.reducePow,Nat.mul_zero,Nat.pow_zero] at h ⊢<;>omega
theorem Shr_calls (a n:Nat) (ha:a < M256) (hn:n < M256) (w:World):Calls Tryz.prog 25 #[wv a,wv n] w (Ret w (wv (a / 2 ^ min n 256))):=by
 refine enter (args:=[_,_]) _ [] [] Tryz.func25 rfl Tryz.ntmps25 rfl (by simp) .nil ?_
 (refine sRz ?_;apply zT;rfl;rfl;intro _;apply zT;rfl;rfl;intro _;apply LW.allocW;rfl;intro _;refine nSz ?_;apply LW.allocW;rfl;intro _;refine nNz<|zI ?_;apply CW.pre;refine AnyW.any 7 mixed (by decide +kernel) ?_;(try simp only [tsOf_cons,tsOf_nil,tsOf_app]);apply qD;rfl;rfl;rfl;exact zC;rfl;apply zO;apply zO;apply zP;exact zN;exact qF rfl;apply DW.callE;rfl;rfl;rfl;exact zC;rfl;infer_instance;exact .cons rfl .nil;rfl;exact ReadAll.nil;intro w _ _;refine moves_calls _ ?_ w;assumption;refine dvz (.quoZL rfl rfl (by decide) (by omega) (by omega)) ?_;apply qD;rfl;rfl;rfl;exact zC;rfl;apply zO;apply zO;apply zP;exact zN;exact qF rfl;apply DW.callE;rfl;rfl;rfl;exact zC;rfl;infer_instance;exact .cons rfl .nil;rfl;exact ReadAll.nil;intro w _ _;refine moves_calls _ ?_ w;assumption;refine dvz (.remZL rfl rfl (by decide) (by omega)) ?_;refine dvz (.assign rfl) ?_;apply DW.nil;simp only [fsOf_cons,fsOf_nil,fsOf_app,fsOf_tsOf,fsOf_new];refine vAz<|nNz<|zI<|sRz<|vAz<|nNz<|zM ?_)
 rename_i ba b3 b4 b5
 obtain ⟨s,hs⟩:∃ s,s=min n 256:=⟨_,rfl⟩
 rw [← hs]
 have hs256:s≤256:=by omega
 obtain ⟨q,hq⟩:∃ q,q=s / 64:=⟨_,rfl⟩
 obtain ⟨r,hr⟩:∃ r,r=s % 64:=⟨_,rfl⟩
 rw [← hq,← hr]
 have hr64:r < 64:=by omega
 have hs2:s=r+64 * q:=by omega
 obtain ⟨N,hN⟩:∃ N,N=a / 2 ^ s:=⟨_,rfl⟩
 rw [← hN]
 have hN2:N=a / 2 ^ r / 2 ^ (64 * q):=by rw [hN,hs2,Nat.pow_add,Nat.div_div_eq_div_mul]
 have hlimb:∀ j,limb N j=limb (a / 2 ^ r) (j+q):=fun j=>by rw [hN2,limb_div]
 refine CW.loop (fun m:Nat=>([(8,.int .i64 (m:Int)),(7,.int .i64 (r:Int)),(6,.int .i64 (q:Int)),(5,.pointer (some ⟨b5,0,none⟩)),(4,.pointer (some ⟨b4,0,none⟩)),(2,.pointer (some ⟨ba,0,none⟩))],
   [(b5,.cells (wc (N % 2 ^ (64 * m))) 29 (0,0)),(b4,.cells (wc 0) 29 (0,0)),(b3,.cells (wc n) 29 (0,0)),(ba,.cells (wc a) 29 (0,0))]))
  (fun m=>m+q≤4) (fun m=>4 - m) 0 (by omega) ⟨rfl,rfl,rfl,rfl,rfl,rfl,trivial⟩ (by rw [Nat.mul_zero,Nat.pow_zero,Nat.mod_one];exact qN _) ?_
 intro m hmq
 dsimp only
 rcases Nat.lt_or_ge (m+q) 4 with hlt|hge
 ·obtain ⟨X,hX⟩:∃ X,X=N % 2 ^ (64 * m):=⟨_,rfl⟩
  have hz:limb X m=0:=by rw [hX];exact low_zero N m
  have hXM:X+18446744073709551615 * 2 ^ (64 * m) < M256:=by rw [hX];exact low_lt N m (by omega)
  have htop:=limb_step N m
  rw [B_pow,← hX,hlimb] at htop
  rw [← hX]
  obtain ⟨s1,s2⟩:=limb_down a r (m+q) hr64
  have hv1:limb a (m+q) / 2 ^ r < 18446744073709551616:=div64 (limb_lt _ _)
  have hrd1:=limb_rd a (m+q) hlt (E:=29) (fr:=(0,0))
  have hW1:=limb_wr X m 0 (limb a (m+q) / 2 ^ r) (by omega) hXM (by decide) hv1 hz (E:=29)
  rw [Nat.zero_mul,Nat.add_zero] at hW1
  rcases Nat.lt_or_ge (m+q+1) 4 with h3|h3
  ·rcases Nat.eq_zero_or_pos r with hr0|hr0
   ·have hl0:limb a (m+q+1) * 2 ^ (64 - r) % 18446744073709551616=0:=by rw [hr0];exact Nat.mul_mod_left _ _
    rw [hl0,Nat.add_zero] at s1
    (refine zI<|sRz<|vMz<|vMz ?_;refine lvz (.addZ rfl rfl (by omega)) ?_;refine lvz (.lssT rfl rfl (by omega)) ?_;refine nNz<|cTz<|zJ<|thenN<|zI<|zM<|sRz<|vMz<|vMz<|vMz ?_;refine lvz (.addZ rfl rfl (by omega)) ?_;refine lvz (.indexAddrA rfl rfl rfl (by omega)) ?_;refine ldz rfl (.tail (.tail (.tail .head))) (by assumption) ?_;refine vMz ?_;refine lvz (.shrU rfl rfl (by omega)) ?_;refine lvz (.indexAddrA rfl rfl rfl (by omega)) ?_;apply zR;rfl;rfl;apply qA;assumption;refine nSz<|vMz<|vMz ?_;refine lvz (.addZ rfl rfl (by omega)) ?_;refine lvz (.addZL rfl rfl (by decide) (by omega)) ?_;refine lvz (.lssT rfl rfl (by omega)) ?_;refine vMz<|gTz<|vMz<|gTz ?_;refine lvz (.gtrF rfl rfl (by omega)) ?_;refine pTz<|nNz<|cFz<|zJ<|blkN<|thenN<|zL<|vMz ?_;refine lvz (.addZL rfl rfl (by decide) (by omega)) ?_;refine vAz ?_;apply zV)
    apply thenX
    refine ⟨rfl,m+1,(by omega),by omega,⟨rfl,rfl,rfl,rfl,rfl,rfl,trivial⟩,?_⟩
    rw [htop,s1]
    exact qN _
   ·have hrd2:=limb_rd (X+limb a (m+q) / 2 ^ r * 2 ^ (64 * m)) m (by omega) (E:=29) (fr:=(0,0))
    rw [limb_put X m _ hz hv1] at hrd2
    have hrd3:=limb_rd a (m+q+1) h3 (E:=29) (fr:=(0,0))
    have ht0:limb a (m+q+1) * 2 ^ (64 - r) % 18446744073709551616 < 18446744073709551616:=Nat.mod_lt _ (by decide)
    have hor:(limb a (m+q) / 2 ^ r |||limb a (m+q+1) * 2 ^ (64 - r) % 18446744073709551616)=limb (a / 2 ^ r) (m+q):=by
     rw [s1,Nat.or_comm,Nat.add_comm (limb a (m+q) / 2 ^ r)]
     exact or_low rfl (dvd_low _ _ (by omega)) s2
    have hW2:=limb_wr X m (limb a (m+q) / 2 ^ r) (limb a (m+q) / 2 ^ r |||limb a (m+q+1) * 2 ^ (64 - r) % 18446744073709551616) (by omega) hXM hv1 (by rw [hor];exact limb_lt _ _) hz (E:=29)
    (refine zI<|sRz<|vMz<|vMz ?_;refine lvz (.addZ rfl rfl (by omega)) ?_;refine lvz (.lssT rfl rfl (by omega)) ?_;refine nNz<|cTz<|zJ<|thenN<|zI<|zM<|sRz<|vMz<|vMz<|vMz ?_;refine lvz (.addZ rfl rfl (by omega)) ?_;refine lvz (.indexAddrA rfl rfl rfl (by omega)) ?_;refine ldz rfl (.tail (.tail (.tail .head))) (by assumption) ?_;refine vMz ?_;refine lvz (.shrU rfl rfl (by omega)) ?_;refine lvz (.indexAddrA rfl rfl rfl (by omega)) ?_;apply zR;rfl;rfl;apply qA;assumption;refine nSz<|vMz<|vMz ?_;refine lvz (.addZ rfl rfl (by omega)) ?_;refine lvz (.addZL rfl rfl (by decide) (by omega)) ?_;refine lvz (.lssT rfl rfl (by omega)) ?_;refine vMz<|gTz<|vMz<|gTz ?_;refine lvz (.gtrT rfl rfl (by omega)) ?_;refine pTz<|nNz<|cTz ?_;apply CW.pre;refine AnyW.any 12 mixed (by decide +kernel) ?_;(try simp only [tsOf_cons,tsOf_nil,tsOf_app]);refine dvz (.move rfl) ?_;refine dvz (.indexAddrA rfl rfl rfl (by omega)) ?_;apply qD;rfl;rfl;rfl;exact zC;rfl;apply zP;exact zN;assumption;refine dvz (.move rfl)<|dvz (.move rfl) ?_;refine dvz (.addZ rfl rfl (by omega)) ?_;refine dvz (.addZL rfl rfl (by decide) (by omega)) ?_;refine dvz (.indexAddrA rfl rfl rfl (by omega)) ?_;apply qD;rfl;rfl;rfl;exact zC;rfl;apply zO;apply zO;apply zO;apply zP;exact zN;assumption;refine dvz (.move rfl) ?_;refine dvz (.subZK rfl rfl (by decide) (by omega) (by omega)) ?_;refine dvz (.shlU rfl rfl (by omega)) ?_;apply DW.nil;simp only [fsOf_cons,fsOf_nil,fsOf_app,fsOf_tsOf,fsOf_new];refine lvz (.orU rfl rfl (by omega) (by omega)) ?_;refine lvz (.indexAddrA rfl rfl rfl (by omega)) ?_;apply zR;rfl;rfl;apply qA;assumption;apply zV;refine blkN<|thenN<|zL<|vMz ?_;refine lvz (.addZL rfl rfl (by decide) (by omega)) ?_;refine vAz ?_;apply zV)
    apply thenX
    refine ⟨rfl,m+1,(by omega),by omega,⟨rfl,rfl,rfl,rfl,rfl,rfl,trivial⟩,?_⟩
    rw [htop,← hor]
    exact qN _
  ·have hl4:limb a (m+q+1)=0:=by
    rw [show m+q+1=4 by omega];unfold limb;rw [Nat.div_eq_of_lt (show a < 2 ^ (64 * 4) from ha)]
   rw [hl4,Nat.zero_mul,Nat.zero_mod,Nat.add_zero] at s1
   (refine zI<|sRz<|vMz<|vMz ?_;refine lvz (.addZ rfl rfl (by omega)) ?_;refine lvz (.lssT rfl rfl (by omega)) ?_;refine nNz<|cTz<|zJ<|thenN<|zI<|zM<|sRz<|vMz<|vMz<|vMz ?_;refine lvz (.addZ rfl rfl (by omega)) ?_;refine lvz (.indexAddrA rfl rfl rfl (by omega)) ?_;refine ldz rfl (.tail (.tail (.tail .head))) (by assumption) ?_;refine vMz ?_;refine lvz (.shrU rfl rfl (by omega)) ?_;refine lvz (.indexAddrA rfl rfl rfl (by omega)) ?_;apply zR;rfl;rfl;apply qA;assumption;refine nSz<|vMz<|vMz ?_;refine lvz (.addZ rfl rfl (by omega)) ?_;refine lvz (.addZL rfl rfl (by decide) (by omega)) ?_;refine lvz (.lssF rfl rfl (by omega)) ?_;refine vMz<|gFz<|gFz<|pFz<|nNz<|cFz<|zJ<|blkN<|thenN<|zL<|vMz ?_;refine lvz (.addZL rfl rfl (by decide) (by omega)) ?_;refine vAz ?_;apply zV)
   apply thenX
   refine ⟨rfl,m+1,(by omega),by omega,⟨rfl,rfl,rfl,rfl,rfl,rfl,trivial⟩,?_⟩
   rw [htop,s1]
   exact qN _
 ·have hfin:N % 2 ^ (64 * m)=N:=by
   refine Nat.mod_eq_of_lt ?_
   rw [hN2]
   refine Nat.div_lt_of_lt_mul (Nat.lt_of_le_of_lt (Nat.div_le_self _ _) ?_)
   rw [← Nat.pow_add,show 64 * q+64 * m=256 by omega];exact ha
  rw [hfin]
  (refine zI<|sRz<|vMz<|vMz ?_;refine lvz (.addZ rfl rfl (by omega)) ?_;refine lvz (.lssF rfl rfl (by omega)) ?_;refine nNz<|cFz<|CW.exit<|thenE<|thenE<|blkE rfl<|thenN<|sRz<|ldz rfl .head (qF rfl) ?_;refine zR rfl rfl (.tail .head) (.whole rfl rfl rfl)<|nNz<|zK ?_)
  (apply finR;exact .inl rfl;rfl;rfl;rfl;apply zD;apply zH;rfl;apply qE;apply zX;apply zY;exact qF rfl;exact zF)
  rfl
def bev (l:List UInt8):Nat:=l.foldl (fun n u=>256 * n+u.toNat) 0
theorem bev_snoc (l:List UInt8) (u:UInt8):bev (l++[u])=256 * bev l+u.toNat:=by simp [bev,List.foldl_append]
def bup (l:List UInt8) (m:Nat):Nat:=bev (l.take m) * 2 ^ (8 * (l.length - m))
theorem bup_step (l:List UInt8) (m:Nat) (h:m < l.length):bup l m |||l[m].toNat * 2 ^ (8 * (l.length - 1 - m))=bup l (m+1):=by
 have hu:=l[m].toNat_lt
 have e:2 ^ (8 * (l.length - m))=256 * 2 ^ (8 * (l.length - 1 - m)):=by rw [show 8 * (l.length - m)=8+8 * (l.length - 1 - m) by omega,Nat.pow_add]
 have hp:=pow_pos2 (8 * (l.length - 1 - m))
 unfold bup
 rw [or_low (R:=2 ^ (8 * (l.length - m))) rfl ⟨bev (l.take m),Nat.mul_comm _ _⟩ (by rw [e];exact Nat.mul_lt_mul_of_pos_right hu hp)]
 rw [List.take_succ_eq_append_getElem h,bev_snoc,Nat.add_mul,e,show l.length - (m+1)=l.length - 1 - m by omega,← Nat.mul_assoc,Nat.mul_comm (bev _) 256]
theorem or_limb (X Z k:Nat):(X |||Z) / 2 ^ k % 18446744073709551616=X / 2 ^ k % 18446744073709551616 |||Z / 2 ^ k % 18446744073709551616:=by
 rw [Nat.or_div_two_pow,show (18446744073709551616:Nat)=2 ^ 64 from rfl,Nat.or_mod_two_pow]
theorem wc_or (X Z:Nat):wc (X |||Z)=#[.int .u64 ((X % 18446744073709551616 |||Z % 18446744073709551616:Nat):Int),.int .u64 ((X / 18446744073709551616 % 18446744073709551616 |||Z / 18446744073709551616 % 18446744073709551616:Nat):Int),
  .int .u64 ((X / 340282366920938463463374607431768211456 % 18446744073709551616 |||Z / 340282366920938463463374607431768211456 % 18446744073709551616:Nat):Int),.int .u64 ((X / 6277101735386680763835789423207666416102355444464034512896 % 18446744073709551616 |||Z / 6277101735386680763835789423207666416102355444464034512896 % 18446744073709551616:Nat):Int)]:=by
 have h0:=or_limb X Z 0
 have h1:=or_limb X Z 64
 have h2:=or_limb X Z 128
 have h3:=or_limb X Z 192
 simp only [Nat.pow_zero,Nat.div_one,Nat.reducePow] at h0 h1 h2 h3
 rw [wc,h0,h1,h2,h3]
theorem wc_setor (X i v:Nat) (hi:i < 4) (hv:v < 18446744073709551616):((wc X).toList.set i (.int .u64 ((limb X i |||v:Nat):Int))).toArray=wc (X |||v * 2 ^ (64 * i)):=by
 rw [wc_or]
 have e0:v % 18446744073709551616=v:=Nat.mod_eq_of_lt hv
 unfold limb
 rcases (show i=0∨i=1∨i=2∨i=3 by omega) with rfl|rfl|rfl|rfl<;>simp only [wc,qL,qM,Nat.mul_zero,Nat.pow_zero,Nat.div_one,Nat.mul_one,Nat.reduceMul,Nat.reducePow]
 ·rw [e0,show v / 18446744073709551616 % 18446744073709551616=0 by omega,show v / 340282366920938463463374607431768211456 % 18446744073709551616=0 by omega,show v / 6277101735386680763835789423207666416102355444464034512896 % 18446744073709551616=0 by omega,Nat.or_zero,Nat.or_zero,Nat.or_zero]
 ·rw [show v * 18446744073709551616 / 18446744073709551616 % 18446744073709551616=v by omega,show v * 18446744073709551616 % 18446744073709551616=0 by omega,show v * 18446744073709551616 / 340282366920938463463374607431768211456 % 18446744073709551616=0 by omega,show v * 18446744073709551616 / 6277101735386680763835789423207666416102355444464034512896 % 18446744073709551616=0 by omega,Nat.or_zero,Nat.or_zero,Nat.or_zero]
 ·rw [show v * 340282366920938463463374607431768211456 / 18446744073709551616 % 18446744073709551616=0 by omega,show v * 340282366920938463463374607431768211456 % 18446744073709551616=0 by omega,show v * 340282366920938463463374607431768211456 / 340282366920938463463374607431768211456 % 18446744073709551616=v by omega,show v * 340282366920938463463374607431768211456 / 6277101735386680763835789423207666416102355444464034512896 % 18446744073709551616=0 by omega,Nat.or_zero,Nat.or_zero,Nat.or_zero]
 ·rw [show v * 6277101735386680763835789423207666416102355444464034512896 / 18446744073709551616 % 18446744073709551616=0 by omega,show v * 6277101735386680763835789423207666416102355444464034512896 % 18446744073709551616=0 by omega,show v * 6277101735386680763835789423207666416102355444464034512896 / 340282366920938463463374607431768211456 % 18446744073709551616=0 by omega,show v * 6277101735386680763835789423207666416102355444464034512896 / 6277101735386680763835789423207666416102355444464034512896 % 18446744073709551616=v by omega,Nat.or_zero,Nat.or_zero,Nat.or_zero]
theorem byte_wr (X n u:Nat) (hn:n < 32) (hu:u < 256) {E:TypeId}:Wr Tryz.prog 26 (.cells (wc X) E (0,0)) (0+n / 8 * 1) (.int .u64 ((limb X (n / 8) |||u * 2 ^ (8 * (n % 8)) % 18446744073709551616:Nat):Int)) (.cells (wc (X |||u * 2 ^ (8 * n))) E (0,0)) :=
 Wr.cells rfl rfl (by show 0+n / 8 * 1+1≤4;omega) (by
  have h7:2 ^ (8 * (n % 8))≤2 ^ 56:=Nat.pow_le_pow_right (by decide) (by omega)
  have hlt:u * 2 ^ (8 * (n % 8)) < 18446744073709551616:=by
   have:=Nat.mul_le_mul (show u≤255 by omega) h7
   have:(255:Nat) * 2 ^ 56 < 18446744073709551616:=by decide
   omega
  have h:=wc_setor X (n / 8) (u * 2 ^ (8 * (n % 8))) (by omega) hlt
  rw [Nat.mul_assoc,← Nat.pow_add,show 8 * (n % 8)+64 * (n / 8)=8 * n by omega] at h
  rw [qO,Nat.mul_one,Nat.mod_eq_of_lt hlt,← h]
  apply Array.toList_inj.1
  simp [wrCells,Value.cells])
theorem Read_calls (v:Value) (l:List UInt8) (w:World) (hv:RowAt w 1 v l.length (ucs l)) (hl:l.length≤32):Calls Tryz.prog 199 #[v] w (Ret w (.tuple #[wv (bev l),.int .i64 0])):=by
 obtain ⟨p,c,rfl,hc,hm⟩:=hv.form
 simp only [maxLen] at hm
 refine enter (args:=[_]) _ [] [] Tryz.func199 rfl Tryz.ntmps199 rfl (by simp) .nil ?_
 (refine sRz ?_;apply LW.allocW;rfl;intro _;refine vAz<|nSz ?_;apply LW.allocW;rfl;intro _;refine nNz<|zI<|sRz<|vMz<|lvz (.lenR rfl inferInstance rfl) ?_;refine lvz (.gtrF rfl rfl (by omega)) ?_;refine nNz<|cFz<|zJ<|thenN<|zI<|sRz<|vMz<|lvz (.lenR rfl inferInstance rfl)<|vMz<|nNz<|zM ?_)
 rename_i b2 b4
 refine CW.loop (fun m:Nat=>([(14,.int .i64 (m:Int)),(13,.int .i64 (l.length:Int)),(12,.slice p l.length c),(0,.slice p l.length c),(4,.pointer (some ⟨b4,0,none⟩)),(2,.pointer (some ⟨b2,0,none⟩))],
   [(b4,.cells (wc (bup l m)) 29 (0,0)),(b2,.cells (wc 0) 29 (0,0))]))
  (fun m=>m≤l.length) (fun m=>l.length - m) 0 (Nat.zero_le _) ⟨rfl,rfl,rfl,rfl,rfl,rfl,trivial⟩ (by simp [bup,bev]) ?_
 intro m hml
 dsimp only at hml ⊢
 rcases Nat.lt_or_ge m l.length with hlt|hge
 ·obtain ⟨b,off,c',cs,E,fr,heq,hb,hx⟩:=hv.pos (by omega)
  cases heq
  obtain ⟨u,hu⟩:∃ u,u=l[m]:=⟨_,rfl⟩
  have hrd:Rd Tryz.prog 5 (.cells cs E fr) (off+m * 1) (.int .u8 (u.toNat:Int)):=Rd.elem1 hx (ucs_one l) (by rw [hu];exact List.getElem?_eq_getElem hlt) rfl
  have hu8:=u.toNat_lt
  have hst:=bup_step l m hlt
  rw [← hu] at hst
  have hn32:l.length - 1 - m < 32:=by omega
  obtain ⟨X,hX⟩:∃ X,X=bup l m:=⟨_,rfl⟩
  rw [← hX] at hst ⊢
  have hlm:=limb_lt X ((l.length - 1 - m) / 8)
  have hrl:=limb_rd X ((l.length - 1 - m) / 8) (by omega) (E:=29) (fr:=(0,0))
  have hW:=byte_wr X (l.length - 1 - m) u.toNat hn32 hu8 (E:=29)
  have hv8:u.toNat * 2 ^ (8 * ((l.length - 1 - m) % 8)) % 18446744073709551616 < 18446744073709551616:=Nat.mod_lt _ (by decide)
  rw [hst] at hW
  (refine sRz ?_;refine lvz (.lssT rfl rfl (by omega)) ?_;refine nNz<|zI<|cTz<|zJ<|thenN<|zI<|zM<|sRz<|vMz ?_;refine lvz (.indexAddrS rfl rfl rfl (by omega)) ?_;apply LW.load;rfl;rfl;exact Known.ext (by assumption) (by simp);assumption;refine vAz<|vAz<|nSz<|vMz<|lvz (.lenR rfl inferInstance rfl) ?_;refine lvz (.subZL rfl rfl (by decide) (by omega) (by omega)) ?_;refine vMz ?_;refine lvz (.subZ rfl rfl (by omega) (by omega)) ?_;refine vAz<|nNz ?_;apply CW.pre;refine AnyW.any 10 mixed (by decide +kernel) ?_;(try simp only [tsOf_cons,tsOf_nil,tsOf_app]);refine dvz (.move rfl) ?_;refine dvz (.quoZL rfl rfl (by decide) (by omega) (by omega)) ?_;refine dvz (.indexAddrA rfl rfl rfl (by omega)) ?_;apply qD;rfl;rfl;rfl;exact zC;rfl;apply zP;exact zN;assumption;refine dvz (.move rfl) ?_;refine dvz (.convN rfl (by omega) (by omega)) ?_;refine dvz (.move rfl) ?_;refine dvz (.remZL rfl rfl (by decide) (by omega)) ?_;refine dvz (.mulZK rfl rfl (by decide) (by omega)) ?_;refine dvz (.shlU rfl rfl (by omega)) ?_;apply DW.nil;simp only [fsOf_cons,fsOf_nil,fsOf_app,fsOf_tsOf,fsOf_new];refine lvz (.orU rfl rfl (by omega) (by omega)) ?_;refine lvz (.indexAddrA rfl rfl rfl (by omega)) ?_;apply zR;rfl;rfl;apply qA;assumption;apply zV;refine blkN<|thenN<|zL ?_;refine lvz (.addZL rfl rfl (by decide) (by omega)) ?_;refine vMz ?_;apply zV)
  apply thenX
  exact ⟨rfl,m+1,hlt,by omega,⟨rfl,rfl,rfl,rfl,rfl,rfl,trivial⟩,qN _⟩
 ·obtain rfl:m=l.length:=by omega
  rw [show bup l l.length=bev l by simp [bup]]
  (refine sRz ?_;refine lvz (.lssF rfl rfl (by omega)) ?_;refine nNz<|zI<|cFz<|CW.exit<|thenE<|thenE<|blkE rfl<|thenN<|sRz<|ldz rfl .head (qF rfl) ?_;refine zR rfl rfl (.tail .head) (.whole rfl rfl rfl)<|vAz<|nNz<|zK ?_)
  (apply finR;exact .inl rfl;rfl;rfl;rfl;apply zD;apply zH;rfl;apply qE;apply zX;apply zY;exact qF rfl;apply zD;exact zG rfl;exact zF)
  rfl
end Go.Proofs.YtdeggbkbblfpoaaGreatDoor
namespace Go.Proofs.YtdeggbkbblfpoaaGreatDoor.UK
open Go Go.RowKit SL

end Go.Proofs.YtdeggbkbblfpoaaGreatDoor.UK
namespace Go.Proofs.YtdeggbkbblfpoaaGreatDoor.UK
open Go Go.RowKit SL
set_option maxRecDepth 8000
set_option maxHeartbeats 4000000
set_option linter.unusedSimpArgs false
set_option linter.unusedVariables false
attribute [local irreducible] SL.CW SL.LW SL.DW Calls SL.Ret SL.RetG SL.beginQ SL.roundQ SL.rangeQ SL.inQ SL.RW SL.AnyW SL.thenQ SL.thenC SL.thenW SL.blkQ SL.finQ SL.ValP SL.NewP SL.SetP SL.CallP SL.Rd SL.Wr SL.Known
section
structure PartV where
 lg:Bool
 wd:Nat
 dv:Value
 db:List UInt8
section rd
variable {P : Program} {T E : TypeId} {fr : Nat × Nat} {p : PartV}
end rd
end




section
section lw
variable {w0 : World} {S : List Nat} {N : Nat} {ds : List Deferred} {r : Option Nat} {ops : Array Oper} {Q : Post} {rest : List Oper} {e : Env} {fs : Fs} {d : Nat} {t : TypeId} {pos : String} {af : Array Edge}
end lw
end







end Go.Proofs.YtdeggbkbblfpoaaGreatDoor.UK
namespace Go.Proofs.YtdeggbkbblfpoaaGreatDoor.UK
open Go Go.RowKit SL

end Go.Proofs.YtdeggbkbblfpoaaGreatDoor.UK
namespace Go.Proofs.YtdeggbkbblfpoaaGreatDoor.UK
open Go Go.RowKit SL
set_option maxRecDepth 8000
set_option maxHeartbeats 4000000
set_option linter.unusedSimpArgs false
set_option linter.unusedVariables false
attribute [local irreducible] SL.CW SL.LW SL.DW Calls SL.Ret SL.RetG SL.beginQ SL.roundQ SL.rangeQ SL.inQ SL.RW SL.AnyW SL.thenQ SL.thenC SL.thenW SL.blkQ SL.finQ SL.ValP SL.NewP SL.SetP SL.CallP SL.Rd SL.Wr SL.Known
section
structure OpV where
 sd:Nat
 no:Nat
 iv:Value
 ib:List UInt8
 cv:Value
 cb:List UInt8
 vg:Nat
 cg:Nat
 pg:Nat
 mf:Nat
 mp:Nat
 py:Nat
 pv:Nat
 pp:Nat
 dv:Value
 db:List UInt8
 gv:Value
 gb:List UInt8
section rd
variable {P : Program} {T E : TypeId} {fr : Nat × Nat} {u : OpV}
end rd
end


end Go.Proofs.YtdeggbkbblfpoaaGreatDoor.UK
namespace Go.Proofs.YtdeggbkbblfpoaaGreatDoor
open Go Go.RowKit SL
set_option maxRecDepth 8000
set_option maxHeartbeats 4000000
set_option linter.unusedSimpArgs false
set_option linter.unusedVariables false
attribute [local irreducible] SL.CW SL.LW SL.DW Calls SL.Ret SL.RetG SL.beginQ SL.roundQ SL.rangeQ SL.inQ SL.RW SL.AnyW SL.thenQ SL.thenC SL.thenW SL.blkQ SL.finQ SL.ValP SL.NewP SL.SetP SL.CallP SL.Rd SL.Wr SL.Known
section
structure FrV where
 code:Value
 pc:Int
 stk:Value
 mem:Value
 gas:Nat
 self:Nat
 frm:Nat
 val:Nat
 inp:Value
 back:Value
 stat:Bool
def frc (f:FrV):List Value:=f.code::.int .i64 f.pc::f.stk::f.mem::.int .u64 (f.gas:Int)::.int .u64 (f.self:Int)::.int .u64 (f.frm:Int)::((wc f.val).toList++[f.inp,f.back,.bool f.stat])
structure MaV where
 fr:FrV
 e0:Nat
 e1:Nat
 e2:Nat
 e3:Nat
 took:Value
 kind:Int
 op:Nat
 words:Value
 data:Value
def mcl (m:MaV):List Value:=frc m.fr++[.int .u64 (m.e0:Int),.int .u64 (m.e1:Int),.int .u64 (m.e2:Int),.int .u64 (m.e3:Int),m.took,.int .i64 m.kind,.int .u8 (m.op:Int),m.words,m.data]
def mca (m:MaV):Array Value:=(mcl m).toArray
abbrev maO (m:MaV):Obj:=.cells (mca m) 78 (0,0)
def MaV.setGas (m:MaV) (g:Nat):MaV:={ m with fr:={ m.fr with gas:=g } }
def MaV.setSc (m:MaV) (s k:Value):MaV:={ m with fr:={ m.fr with stk:=s,mem:=k } }
section rd
variable {P : Program} {T E : TypeId} {fr : Nat × Nat} {m : MaV}
theorem ma_rd4 [AgI P T false]:Rd P T (.cells (mca m) E fr) 4 (.int .u64 (m.fr.gas:Int)):=Rd.one rfl
theorem ma_rd3 [AgI P T false]:Rd P T (.cells (mca m) E fr) 3 m.fr.mem:=Rd.one rfl
theorem ma_rd2 [AgI P T true] {z:Value} [InfoI P T 2 z]:Rd P T (.cells (mca m) E fr) 2 (.agg #[m.fr.stk,m.fr.mem]):=Rd.mid (cs:=[m.fr.stk,m.fr.mem]) rfl rfl
theorem ma_wr4 {z:Value} {g:Nat} [InfoI P T 1 z]:Wr P T (.cells (mca m) E (0,0)) 4 (.int .u64 (g:Int)) (.cells (mca (m.setGas g)) E (0,0)):=Wr.cells (n:=1) (z:=z) rfl rfl (by show 4+1≤23;omega) rfl
theorem ma_wr2 {z s k:Value} [InfoI P T 2 z] (hs:s.oneCell'=true) (hk:k.oneCell'=true) (hsc:s.cells=#[s]) (hkc:k.cells=#[k]):Wr P T (.cells (mca m) E (0,0)) 2 (.agg #[s,k]) (.cells (mca (m.setSc s k)) E (0,0)) :=
 Wr.cells (n:=2) (z:=z) rfl (by show (s.oneCell' && (k.oneCell' && true))=true;rw [hs,hk];rfl) (by show 2+2≤23;omega) rfl
end rd
attribute [local irreducible] SL.inP
def MaK (b:Nat) (m:MaV) (r:Option MaV) (rest:Fs):Out:=fun x fs'=>match r with
 |some m'=>x=.returned (.tuple #[])∧fs'=(b,maO m')::rest
 |none=>x=.panicked failC∧fs'=(b,maO m)::rest
def spendM (m:MaV) (l:List Nat):Option MaV:=if l.sum≤m.fr.gas then some (m.setGas (m.fr.gas - l.sum)) else none
theorem spend_calls (w0:World) (S:List Nat) (b:Nat) (m:MaV) (l:List Nat) (hg:m.fr.gas < 18446744073709551616) (v:Value) (rest:Fs) (w:World) (hs:St w0 S ((b,maO m)::rest) w) (hv:∀ w',St w0 S ((b,maO m)::rest) w'→RowAt w' 1 v l.length (ncs l)) :
  Calls Tryz.prog 73 #[.pointer (some ⟨b,0,none⟩),v] w (fun x w'=>∃ fs',MaK b m (spendM m l) rest x fs'∧St w0 S fs' w'):=by
 by_cases hle:l.sum≤m.fr.gas
 ·have hSp:∀ w',St w0 S ((b,maO m)::rest) w'→Calls Tryz.prog 118 #[.int .u64 (m.fr.gas:Int),v] w' (Ret w' (.tuple #[.int .u64 ((m.fr.gas - l.sum:Nat):Int),.bool true])):=fun w' hw=>by
   have h:=Spend_calls m.fr.gas l hg v w' (hv w' hw)
   rwa [spendV,if_pos hle] at h
  refine calls_inlineP (args:=[_,_]) Tryz.func73 rfl Tryz.ntmps73 rfl ?_ hs
  (refine sRz<|vMz<|vNz<|vFz<|vFz<|ldz rfl .head ma_rd4<|vMz ?_;apply zS;rfl;rfl;infer_instance;exact .cons rfl (.cons rfl .nil);intro w _;exact hSp w (by assumption);refine vMz ?_;refine vEz ?_;refine vEz ?_;refine vAz<|vAz<|nSz<|vMz ?_;apply zS;rfl;rfl;infer_instance;exact .cons rfl .nil;intro w _;exact need_true w;refine nNz<|zL<|vMz<|vMz<|vNz<|vFz<|vFz ?_;apply zR;rfl;rfl;apply qA;apply ma_wr4 (z:=.int .u64 0);apply zV)
  exact inPI (.inr rfl) .nil rfl .nil rfl (by unfold spendM;rw [if_pos hle];exact ⟨rfl,rfl⟩)
 ·have hSp:∀ w',St w0 S ((b,maO m)::rest) w'→Calls Tryz.prog 118 #[.int .u64 (m.fr.gas:Int),v] w' (Ret w' (.tuple #[.int .u64 0,.bool false])):=fun w' hw=>by
   have h:=Spend_calls m.fr.gas l hg v w' (hv w' hw)
   rwa [spendV,if_neg hle] at h
  refine calls_inlineP (args:=[_,_]) Tryz.func73 rfl Tryz.ntmps73 rfl ?_ hs
  (refine sRz<|vMz<|vNz<|vFz<|vFz<|ldz rfl .head ma_rd4<|vMz ?_;apply zS;rfl;rfl;infer_instance;exact .cons rfl (.cons rfl .nil);intro w _;exact hSp w (by assumption);refine vMz ?_;refine vEz ?_;refine vEz ?_;refine vAz<|vAz<|nSz<|vMz ?_)
  refine LW.callP (K:=NeedK ((b,maO m)::rest)) rfl rfl inferInstance (by (exact .cons rfl .nil)) rfl (fun fs h=>by cases h.1) (fun w' hst=>need_false w0 S _ w' hst) ?_ ?_
  ·rintro v fs' ⟨h,_⟩
   cases h
  ·rintro ch fs' ⟨h,rfl⟩
   cases h
   refine thenP ?_
   exact inPP .nil (by unfold spendM;rw [if_neg hle];exact ⟨rfl,rfl⟩)
end
end Go.Proofs.YtdeggbkbblfpoaaGreatDoor
namespace Go.Proofs.YtdeggbkbblfpoaaGreatDoor.SK
open Go Go.RowKit SL
set_option maxRecDepth 8000
set_option maxHeartbeats 4000000
set_option linter.unusedSimpArgs false
set_option linter.unusedVariables false
attribute [local irreducible] SL.CW SL.LW SL.DW Calls SL.Ret SL.RetG SL.beginQ SL.roundQ SL.rangeQ SL.inQ SL.RW SL.AnyW SL.thenQ SL.thenC SL.thenW SL.blkQ SL.finQ SL.ValP SL.NewP SL.SetP SL.CallP SL.Rd SL.Wr SL.Known
def bev (l:List UInt8):Nat:=l.foldl (fun n u=>256 * n+u.toNat) 0
theorem bev_snoc (l:List UInt8) (u:UInt8):bev (l++[u])=256 * bev l+u.toNat:=by simp [bev,List.foldl_append]
def hexdigits:List UInt8:=[48,49,50,51,52,53,54,55,56,57,97,98,99,100,101,102]








end Go.Proofs.YtdeggbkbblfpoaaGreatDoor.SK
namespace Go.Proofs.YtdeggbkbblfpoaaGreatDoor.SK
open Go Go.RowKit SL
set_option maxRecDepth 100000

end Go.Proofs.YtdeggbkbblfpoaaGreatDoor.SK
namespace Go.Proofs.YtdeggbkbblfpoaaGreatDoor.SK
open Go Go.RowKit SL
set_option maxRecDepth 8000
set_option maxHeartbeats 4000000
set_option linter.unusedSimpArgs false
set_option linter.unusedVariables false
attribute [local irreducible] SL.CW SL.LW SL.DW Calls SL.Ret SL.RetG SL.beginQ SL.roundQ SL.rangeQ SL.inQ SL.RW SL.AnyW SL.thenQ SL.thenC SL.thenW SL.blkQ SL.finQ SL.ValP SL.NewP SL.SetP SL.CallP SL.Rd SL.Wr SL.Known

theorem Clone_calls (l:List UInt8) (v:Value) (w:World) (hv:RowAt w 1 v l.length (ucs l)) (hl:l.length≤100000):Calls Tryz.prog 89 #[v] w (RetG w [] (fun v' gs=>IsRow 5 1 v' l.length (ucs l) gs)):=by
 obtain ⟨p,c,rfl,_,_⟩:=hv.form
 cases p with
 |none =>
  have h0:l.length=0:=by
   rcases Nat.eq_zero_or_pos l.length with h|h
   ·exact h
   ·obtain ⟨_,_,_,_,_,_,he,_,_⟩:=hv.pos h
    cases he
  have hn:l=[]:=List.length_eq_zero_iff.1 h0
  subst hn
  refine enter (args:=[_]) _ [] [] Tryz.func89 rfl Tryz.ntmps89 rfl (by simp) .nil ?_
  (refine sRz<|vAz<|nNz<|zI<|sRz<|vMz ?_;apply LW.v0;rfl;rfl;apply ValP.sliNilT;rfl;rfl;refine nNz<|cTz<|sRz<|vAz<|nNz<|zK<|thenR ?_)
  exact fin [] (.inl rfl) rfl rfl (by (apply zD;exact zG rfl;exact zF)) (qN _) .nil
 |some a =>
  refine enter (args:=[_]) _ [] [] Tryz.func89 rfl Tryz.ntmps89 rfl (by simp) .nil ?_
  (refine sRz<|vAz<|nNz<|zI<|sRz<|vMz ?_;apply LW.v0;rfl;rfl;apply ValP.sliNilF;rfl;rfl;refine nNz<|cFz<|zJ<|thenN<|sRz ?_)
  refine LW.lay0 rfl inferInstance inferInstance fun v0 seg hrow=>?_
  (refine vMz ?_)
  (apply LW.appendAny;(case hrow=>assumption);rfl;rfl;infer_instance;infer_instance;infer_instance;rfl;rfl;rfl;exact AtSeg.head)
  ·exact fun w hs=>hv.st hs
  ·exact ucs_cells l
  ·simp only [maxLen];omega
  ·omega
  intro v1 seg1 hrow1
  refine ⟨_,(by (exact AtSeg.head)),?_⟩
  simp only [List.nil_append,qO,List.append_nil] at hrow1 ⊢
  (refine vAz<|nNz<|zK ?_)
  refine fin (vs:=[v1]) seg1 (.inl rfl) rfl rfl (by (apply zD;exact zG rfl;exact zF)) ?_ hrow1
  (exact qN _)
end Go.Proofs.YtdeggbkbblfpoaaGreatDoor.SK
namespace Go.Proofs.YtdeggbkbblfpoaaGreatDoor
open Go Go.RowKit SL
set_option maxRecDepth 8000
set_option maxHeartbeats 4000000
set_option linter.unusedSimpArgs false
set_option linter.unusedVariables false
attribute [local irreducible] SL.CW SL.LW SL.DW Calls SL.Ret SL.RetG SL.beginQ SL.roundQ SL.rangeQ SL.inQ SL.RW SL.AnyW SL.thenQ SL.thenC SL.thenW SL.blkQ SL.finQ SL.ValP SL.NewP SL.SetP SL.CallP SL.Rd SL.Wr SL.Known
theorem CloneW_calls (l:List Nat) (v:Value) (w:World) (hv:RowAt w 4 v l.length (wcs l)) (hl:l.length≤100000):Calls Tryz.prog 27 #[v] w (RetG w [] (fun v' gs=>IsRow 29 4 v' l.length (wcs l) gs)):=by
 obtain ⟨p,c,rfl,_,_⟩:=hv.form
 cases p with
 |none =>
  have h0:l.length=0:=by
   rcases Nat.eq_zero_or_pos l.length with h|h
   ·exact h
   ·obtain ⟨_,_,_,_,_,_,he,_,_⟩:=hv.pos h
    cases he
  have hn:l=[]:=List.length_eq_zero_iff.1 h0
  subst hn
  refine enter (args:=[_]) _ [] [] Tryz.func27 rfl Tryz.ntmps27 rfl (by simp) .nil ?_
  (refine sRz<|vAz<|nNz<|zI<|sRz<|vMz ?_;apply LW.v0;rfl;rfl;apply ValP.sliNilT;rfl;rfl;refine nNz<|cTz<|sRz<|vAz<|nNz<|zK<|thenR ?_)
  exact fin [] (.inl rfl) rfl rfl (by (apply zD;exact zG rfl;exact zF)) (qN _) .nil
 |some a =>
  refine enter (args:=[_]) _ [] [] Tryz.func27 rfl Tryz.ntmps27 rfl (by simp) .nil ?_
  (refine sRz<|vAz<|nNz<|zI<|sRz<|vMz ?_;apply LW.v0;rfl;rfl;apply ValP.sliNilF;rfl;rfl;refine nNz<|cFz<|zJ<|thenN<|sRz ?_)
  refine LW.lay0 rfl inferInstance inferInstance fun v0 seg hrow=>?_
  (refine vMz ?_)
  (apply LW.appendAny;(case hrow=>assumption);rfl;rfl;infer_instance;infer_instance;infer_instance;rfl;rfl;rfl;exact AtSeg.head)
  ·exact fun w hs=>hv.st hs
  ·exact wcs_cells l
  ·simp only [maxLen];omega
  ·omega
  intro v1 seg1 hrow1
  refine ⟨_,(by (exact AtSeg.head)),?_⟩
  simp only [List.nil_append,qO,List.append_nil] at hrow1 ⊢
  (refine vAz<|nNz<|zK ?_)
  refine fin (vs:=[v1]) seg1 (.inl rfl) rfl rfl (by (apply zD;exact zG rfl;exact zF)) ?_ hrow1
  (exact qN _)
def wM (l:List Nat) (v:Value) (gs:Fs):Prop:=IsRow 29 4 v l.length (wcs l) gs
def bM (l:List UInt8) (v:Value) (gs:Fs):Prop:=IsRow 5 1 v l.length (ucs l) gs
def ScO (ws:List Nat) (ms:List UInt8) (v:Value) (gs:Fs):Prop:=∃ s m g1 g2,v=.agg #[s,m]∧gs=g2++g1∧wM ws s g1∧bM ms m g2
theorem copied_calls (ws:List Nat) (ms:List UInt8) (s m:Value) (w:World) (hs:RowAt w 4 s ws.length (wcs ws)) (hm:RowAt w 1 m ms.length (ucs ms)) (hl:ws.length≤100000) (hl2:ms.length≤100000) :
  Calls Tryz.prog 135 #[.agg #[s,m]] w (RetG w [] (ScO ws ms)):=by
 obtain ⟨p,c,rfl,_,_⟩:=hs.form
 obtain ⟨p2,c2,rfl,_,_⟩:=hm.form
 refine enter (args:=[_]) _ [] [] Tryz.func135 rfl Tryz.ntmps135 rfl (by simp) .nil ?_
 (refine sRz ?_;apply zT;rfl;rfl;intro _;apply zU;rfl;intro _;refine nNz<|zI ?_)
 rename_i b1 b2
 apply CW.pre
 (refine AnyW.anyM [(2,wM ws),(5,bM ms)] 5 mixed (by decide +kernel) ?_)
 ((try simp only [tsOf_cons,tsOf_nil,tsOf_app]);refine dvz (.fieldAddr rfl rfl) ?_;apply qD;rfl;rfl;rfl;exact zC;rfl;apply zO;apply zP;exact zN;exact sc_rd0)
 (apply DW.manyV;rfl;rfl;rfl;exact zC;rfl;infer_instance;exact .cons rfl .nil;apply RdV.ext;assumption;rfl;exact RdV.nil;intro w _ _)
 exact CloneW_calls _ _ w (hs.bel (by assumption)) hl
 intro v1 g1 h1
 ((try simp only [tsOf_cons,tsOf_nil,tsOf_app]);refine dvz (.fieldAddr rfl rfl) ?_;apply qD;rfl;rfl;rfl;exact zC;rfl;apply zQ;apply zO;apply zP;exact zN;exact sc_rd1;apply DW.nil;simp only [fsOf_cons,fsOf_nil,fsOf_app,fsOf_tsOf,fsOf_new,fsOf_tag])
 (apply LW.callR;rfl;rfl;infer_instance;exact .cons rfl .nil;intro w hs)
 exact SK.Clone_calls _ _ w (hm.st hs) hl2
 intro v2 g2 h2
 have h1':=h1
 have h2':=h2
 unfold wM at h1'
 unfold bM at h2'
 obtain ⟨q1,k1,rfl⟩:=h1'.form
 obtain ⟨q2,k2,rfl⟩:=h2'.form
 (apply LW.v0;rfl;rfl;apply zW;infer_instance;infer_instance;apply zA;rfl;apply zA;rfl;exact zB;rfl;simp only [fillP,wrCells,Value.cells,qI,qJ,qK,qH,qM,qL,Nat.reduceAdd,qO];rfl;refine zR rfl rfl (.app (.app .head)) (.whole rfl rfl rfl)<|nNz<|zK ?_)
 refine fin (vs:=[.agg #[.slice q1 ws.length k1,.slice q2 ms.length k2]]) (g2++g1) (.inl rfl) rfl rfl (by (apply zD;apply zH;rfl;apply qE;apply zZ;apply zZ;apply zY;exact qF rfl;exact zF)) ?_ ⟨_,_,g1,g2,rfl,rfl,h1,h2⟩
 exact List.Sublist.append_left (qQ _ _) _
section
section wr
variable {P : Program} {T E : TypeId} {s m z : Value} {p : Option Addr} {n c : Nat}
theorem sc_wr0 [InfoI P T 1 z]:Wr P T (.cells #[s,m] E (0,0)) 0 (.slice p n c) (.cells #[.slice p n c,m] E (0,0)):=Wr.cells (n:=1) (z:=z) rfl rfl (by show 0+1≤2;omega) rfl
theorem sc_wr1 [InfoI P T 1 z]:Wr P T (.cells #[s,m] E (0,0)) 1 (.slice p n c) (.cells #[s,.slice p n c] E (0,0)):=Wr.cells (n:=1) (z:=z) rfl rfl (by show 1+1≤2;omega) rfl
end wr
theorem push_full (ws:List Nat) (ms:List UInt8) (l:List Nat) (s m v:Value) (w:World) (hs:RowAt w 4 s ws.length (wcs ws)) (hm:RowAt w 1 m ms.length (ucs ms)) (hv:RowAt w 4 v l.length (wcs l)) (hok:okSc ws.length ms.length) (hll:l.length≤100000) (hf:64 < ws.length+l.length) :
  Calls Tryz.prog 119 #[.agg #[s,m],v] w (Ret w (.tuple #[.agg #[.slice none 0 0,.slice none 0 0],.int .i64 6])):=by
 obtain ⟨p,c,rfl,_,hc⟩:=hs.form
 obtain ⟨p2,c2,rfl,_,hc2⟩:=hm.form
 obtain ⟨p3,c3,rfl,_,_⟩:=hv.form
 have hC:∀ w,Calls Tryz.prog 84 #[.agg #[.slice p ws.length c,.slice p2 ms.length c2]] w (Ret w (.int .i64 0)):=fun w=>by
  have h:=scCheck_calls p p2 ws.length c ms.length c2 (by omega) (by omega) w
  rwa [if_pos hok] at h
 have hok2:=hok
 unfold okSc at hok2
 obtain ⟨hn1,hk1,hk2⟩:=hok2
 refine enter (args:=[_,_]) _ [] [] Tryz.func119 rfl Tryz.ntmps119 rfl (by simp) .nil ?_
 (refine sRz ?_;apply zT;rfl;rfl;intro _;apply zU;rfl;intro _;refine vAz<|nNz<|zI<|sRz<|ldz rfl (.tail .head) (qF rfl) ?_;apply zS;rfl;rfl;infer_instance;exact .cons rfl .nil;intro w _;exact hC w;refine vAz<|nSz<|vMz ?_;refine lvz (.neF rfl rfl (by omega)) ?_;refine nNz<|cFz<|zJ<|thenN<|zI<|sRz<|vFz<|ldz rfl (.tail .head) sc_rd0<|lvz (.lenR rfl inferInstance rfl)<|vMz<|lvz (.lenR rfl inferInstance rfl) ?_;refine lvz (.addZ rfl rfl (by omega)) ?_;refine lvz (.gtrT rfl rfl (by omega)) ?_;refine nNz<|cTz<|sRz ?_;apply LW.v0;rfl;rfl;apply zW;infer_instance;infer_instance;exact zB;rfl;simp only [fillP,wrCells,Value.cells,qI,qJ,qK,qH,qM,qL,Nat.reduceAdd,qO];rfl;refine zR rfl rfl .head (.whole rfl rfl rfl)<|vAz<|nNz<|zK<|thenR ?_)
 (apply finR;exact .inl rfl;rfl;rfl;rfl;apply zD;apply zH;rfl;apply qE;apply zY;exact qF rfl;apply zD;exact zG rfl;exact zF)
 rfl
theorem push_ok (ws:List Nat) (ms:List UInt8) (l:List Nat) (s m v:Value) (w:World) (hs:RowAt w 4 s ws.length (wcs ws)) (hm:RowAt w 1 m ms.length (ucs ms)) (hv:RowAt w 4 v l.length (wcs l)) (hok:okSc ws.length ms.length) (hll:l.length≤100000) (hf:ws.length+l.length≤64) :
  Calls Tryz.prog 119 #[.agg #[s,m],v] w (RetG w [] (fun r gs=>∃ o,r=.tuple #[o,.int .i64 0]∧ScO (ws++l) ms o gs)):=by
 have hs0:=hs
 have hm0:=hm
 obtain ⟨p,c,rfl,_,hc⟩:=hs.form
 obtain ⟨p2,c2,rfl,_,hc2⟩:=hm.form
 obtain ⟨p3,c3,rfl,_,_⟩:=id hv.form
 have hC:∀ w,Calls Tryz.prog 84 #[.agg #[.slice p ws.length c,.slice p2 ms.length c2]] w (Ret w (.int .i64 0)):=fun w=>by
  have h:=scCheck_calls p p2 ws.length c ms.length c2 (by omega) (by omega) w
  rwa [if_pos hok] at h
 have hok2:=hok
 unfold okSc at hok2
 obtain ⟨hn1,hk1,hk2⟩:=hok2
 refine enter (args:=[_,_]) _ [] [] Tryz.func119 rfl Tryz.ntmps119 rfl (by simp) .nil ?_
 (refine sRz ?_;apply zT;rfl;rfl;intro _;apply zU;rfl;intro _;refine vAz<|nNz<|zI<|sRz<|ldz rfl (.tail .head) (qF rfl) ?_;apply zS;rfl;rfl;infer_instance;exact .cons rfl .nil;intro w _;exact hC w;refine vAz<|nSz<|vMz ?_;refine lvz (.neF rfl rfl (by omega)) ?_;refine nNz<|cFz<|zJ<|thenN<|zI<|sRz<|vFz<|ldz rfl (.tail .head) sc_rd0<|lvz (.lenR rfl inferInstance rfl)<|vMz<|lvz (.lenR rfl inferInstance rfl) ?_;refine lvz (.addZ rfl rfl (by omega)) ?_;refine lvz (.gtrF rfl rfl (by omega)) ?_;refine nNz<|cFz<|zJ<|thenN<|sRz<|ldz rfl (.tail .head) (qF rfl) ?_)
 (apply LW.callR;rfl;rfl;infer_instance;exact .cons rfl .nil;intro w hs)
 exact copied_calls ws ms _ _ w (hs0.st hs) (hm0.st hs) (by omega) (by omega)
 rintro vo gso ⟨s1,m1,g1,g2,rfl,rfl,h1,h2⟩
 have h1':=h1
 have h2':=h2
 unfold wM at h1'
 unfold bM at h2'
 obtain ⟨q1,k1,rfl⟩:=h1'.form
 obtain ⟨q2,k2,rfl⟩:=h2'.form
 (apply zU;rfl;intro _;refine zR rfl rfl .head (.whole rfl rfl rfl)<|nSz<|vFz<|ldz rfl .head sc_rd0<|vMz ?_)
 rw [List.append_assoc]
 (apply LW.appendAny;(case hrow=>exact h1');rfl;rfl;infer_instance;infer_instance;infer_instance;rfl;rfl;rfl;(apply AtSeg.cons;apply AtSeg.app;exact AtSeg.head))
 ·exact fun w hs=>hv.st hs
 ·exact wcs_cells l
 ·simp only [maxLen];omega
 ·omega
 intro v1 seg1 hrow1
 refine ⟨_,(by (apply AtSeg.cons;apply AtSeg.app;exact AtSeg.head)),?_⟩
 simp only [List.nil_append,qO,List.append_nil] at hrow1 ⊢
 obtain ⟨q3,k3,rfl⟩:=hrow1.form
 (refine vFz ?_;refine zR rfl rfl .head sc_wr0<|nSz<|ldz rfl .head (qF rfl) ?_;refine zR rfl rfl (.tail (.app (.app .head))) (.whole rfl rfl rfl)<|vAz<|nNz<|zK ?_)
 refine fin (vs:=[.agg #[.slice q3 (ws.length+l.length) k3,.slice q2 ms.length k2],.int .i64 0]) (g2++seg1) (.inl rfl) rfl rfl (by (apply zD;apply zH;rfl;apply qE;apply zX;apply zZ;apply zZ;apply zY;exact qF rfl;apply zD;exact zG rfl;exact zF)) ?_ ⟨_,rfl,_,_,seg1,g2,rfl,rfl,?_,h2⟩
 ·exact qR _ (List.Sublist.append_left (qQ _ _) _)
 ·unfold wM
  rw [List.length_append,wcs_app]
  exact hrow1
end
section
attribute [local irreducible] SL.inP
theorem lay_ok (w0:World) (S:List Nat) (b:Nat) (m:MaV) (ws:List Nat) (ms:List UInt8) (l:List Nat) (v:Value) (rest:Fs) (w:World) (hs:St w0 S ((b,maO m)::rest) w)
  (h1:∀ w',St w0 S ((b,maO m)::rest) w'→RowAt w' 4 m.fr.stk ws.length (wcs ws)∧RowAt w' 1 m.fr.mem ms.length (ucs ms)∧RowAt w' 4 v l.length (wcs l)) (hok:okSc ws.length ms.length) (hll:l.length≤100000) (hf:ws.length+l.length≤64) :
  Calls Tryz.prog 74 #[.pointer (some ⟨b,0,none⟩),v] w (fun x w'=>∃ fs',(x=.returned (.tuple #[])∧∃ s k gs c4,ScO (ws++l) ms (.agg #[s,k]) gs∧fs'=c4::(gs++(b,maO (m.setSc s k))::rest))∧St w0 S fs' w'):=by
 refine calls_inlineP (K:=fun x fs'=>x=.returned (.tuple #[])∧∃ s k gs c4,ScO (ws++l) ms (.agg #[s,k]) gs∧fs'=c4::(gs++(b,maO (m.setSc s k))::rest)) (args:=[_,_]) Tryz.func74 rfl Tryz.ntmps74 rfl ?_ hs
 (refine sRz<|vMz<|vNz<|vFz<|vFz<|ldz rfl .head ma_rd2<|vMz ?_)
 (apply LW.callR;rfl;rfl;infer_instance;exact .cons rfl (.cons rfl .nil);intro w hs)
 exact push_ok ws ms l _ _ _ w (h1 w hs).1 (h1 w hs).2.1 (h1 w hs).2.2 hok hll hf
 rintro vo gso ⟨o,rfl,s1,m1,g1,g2,rfl,rfl,hw1,hb1⟩
 have hw1':=hw1
 have hb1':=hb1
 unfold wM at hw1'
 unfold bM at hb1'
 obtain ⟨q1,k1,rfl⟩:=hw1'.form
 obtain ⟨q2,k2,rfl⟩:=hb1'.form
 (refine vMz ?_;refine vEz ?_;refine vEz ?_;apply zU;rfl;intro _;refine zR rfl rfl .head (.whole rfl rfl rfl)<|vAz<|nSz<|vMz ?_;refine lvz (.eqT rfl rfl (by omega)) ?_;apply zS;rfl;rfl;infer_instance;exact .cons rfl .nil;intro w _;exact need_true w;refine nNz<|zL<|vMz<|ldz rfl .head (qF rfl)<|vNz<|vFz<|vFz ?_;refine zR rfl rfl (.tail (.app .head)) (ma_wr2 rfl rfl rfl rfl) ?_;apply zV)
 exact inPI (.inr rfl) .nil rfl .nil rfl ⟨rfl,_,_,g2++g1,_,⟨_,_,g1,g2,rfl,rfl,hw1,hb1⟩,rfl⟩
theorem lay_full (w0:World) (S:List Nat) (b:Nat) (m:MaV) (ws:List Nat) (ms:List UInt8) (l:List Nat) (v:Value) (rest:Fs) (w:World) (hs:St w0 S ((b,maO m)::rest) w)
  (h1:∀ w',St w0 S ((b,maO m)::rest) w'→RowAt w' 4 m.fr.stk ws.length (wcs ws)∧RowAt w' 1 m.fr.mem ms.length (ucs ms)∧RowAt w' 4 v l.length (wcs l)) (hok:okSc ws.length ms.length) (hll:l.length≤100000) (hf:64 < ws.length+l.length) :
  Calls Tryz.prog 74 #[.pointer (some ⟨b,0,none⟩),v] w (fun x w'=>∃ fs',(x=.panicked failC∧∃ c4,fs'=c4::(b,maO m)::rest)∧St w0 S fs' w'):=by
 have hP:∀ w',St w0 S ((b,maO m)::rest) w'→Calls Tryz.prog 119 #[.agg #[m.fr.stk,m.fr.mem],v] w' (Ret w' (.tuple #[.agg #[.slice none 0 0,.slice none 0 0],.int .i64 6])):=fun w' hst =>
  push_full ws ms l _ _ _ w' (h1 w' hst).1 (h1 w' hst).2.1 (h1 w' hst).2.2 hok hll hf
 refine calls_inlineP (K:=fun x fs'=>x=.panicked failC∧∃ c4,fs'=c4::(b,maO m)::rest) (args:=[_,_]) Tryz.func74 rfl Tryz.ntmps74 rfl ?_ hs
 (refine sRz<|vMz<|vNz<|vFz<|vFz<|ldz rfl .head ma_rd2<|vMz ?_;apply zS;rfl;rfl;infer_instance;exact .cons rfl (.cons rfl .nil);intro w _;exact hP w (by assumption);refine vMz ?_;refine vEz ?_;refine vEz ?_;apply zU;rfl;intro _;refine zR rfl rfl .head (.whole rfl rfl rfl)<|vAz<|nSz<|vMz ?_;refine lvz (.eqF rfl rfl (by omega)) ?_)
 rename_i b4
 refine LW.callP (K:=NeedK ((b4,.cells #[.slice none 0 0,.slice none 0 0] 25 (0,0))::(b,maO m)::rest)) rfl rfl inferInstance (by (exact .cons rfl .nil)) rfl (fun fs h=>by cases h.1) (fun w' hst=>need_false w0 S _ w' hst) ?_ ?_
 ·rintro v fs' ⟨h,_⟩
  cases h
 ·rintro ch fs' ⟨h,rfl⟩
  cases h
  refine thenP ?_
  exact inPP .nil ⟨rfl,_,rfl⟩
end
end Go.Proofs.YtdeggbkbblfpoaaGreatDoor
namespace Go.Proofs.YtdeggbkbblfpoaaGreatDoor.SL
set_option linter.unusedVariables false
open Go Go.RowKit
section mm
variable {P : Program} {e : Env} {x y : Operand} {tys : Array TypeId} {m n : Nat} {ik : IntKind}
theorem ValP.maxD (hx:e.ev x=some (.int ik ((m:Int) - (n:Int)))) (hy:e.ev y=some (.int ik 0)):ValP P e [] (.call { callee:=.builtin .max,args:=#[x,y],argTypes:=tys }) (.int ik ((m - n:Nat):Int)):=fun ρ w hρ _ d t pos af g=>by
 have h:(if (0:Int) > (m:Int) - (n:Int) then (0:Int) else (m:Int) - (n:Int))=((m - n:Nat):Int):=by split<;>omega
 have h2:=run_max_int2 (P:=P) (w:=w) tys t ik ik ((m:Int) - (n:Int)) 0
 rw [h] at h2
 simp [execOp,resolve,invoke,builtin,hρ x _ hx,hρ y _ hy,h2]
end mm
end Go.Proofs.YtdeggbkbblfpoaaGreatDoor.SL
namespace Go.Proofs.YtdeggbkbblfpoaaGreatDoor
open Go Go.RowKit SL
set_option maxRecDepth 8000
set_option maxHeartbeats 4000000
set_option linter.unusedSimpArgs false
set_option linter.unusedVariables false
attribute [local irreducible] SL.CW SL.LW SL.DW Calls SL.Ret SL.RetG SL.beginQ SL.roundQ SL.rangeQ SL.inQ SL.RW SL.AnyW SL.thenQ SL.thenC SL.thenW SL.blkQ SL.finQ SL.ValP SL.NewP SL.SetP SL.CallP SL.Rd SL.Wr SL.Known
def upW (n:Nat):Nat:=(n+31) / 32 * 32
theorem grow_ok (ws:List Nat) (ms:List UInt8) (n:Nat) (s m:Value) (w:World) (hs:RowAt w 4 s ws.length (wcs ws)) (hm:RowAt w 1 m ms.length (ucs ms)) (hok:okSc ws.length ms.length) (hn:0 < n) (hn2:n≤1024) :
  Calls Tryz.prog 122 #[.agg #[s,m],.int .u64 0,.int .u64 (n:Int)] w (RetG w [] (fun r gs=>∃ o,r=.tuple #[o,.int .i64 0]∧ScO ws (ms++List.replicate (upW n - ms.length) 0) o gs)):=by
 have hs0:=hs
 have hm0:=hm
 obtain ⟨p,c,rfl,_,hc⟩:=hs.form
 obtain ⟨p2,c2,rfl,_,hc2⟩:=hm.form
 have hC:∀ w,Calls Tryz.prog 84 #[.agg #[.slice p ws.length c,.slice p2 ms.length c2]] w (Ret w (.int .i64 0)):=fun w=>by
  have h:=scCheck_calls p p2 ws.length c ms.length c2 (by omega) (by omega) w
  rwa [if_pos hok] at h
 have hok2:=hok
 unfold okSc at hok2
 obtain ⟨hn1,hk1,hk2⟩:=hok2
 refine enter (args:=[_,_,_]) _ [] [] Tryz.func122 rfl Tryz.ntmps122 rfl (by simp) .nil ?_
 (refine sRz ?_;apply zT;rfl;rfl;intro _;apply zU;rfl;intro _;refine vAz<|nNz<|zI<|sRz<|ldz rfl (.tail .head) (qF rfl) ?_;apply zS;rfl;rfl;infer_instance;exact .cons rfl .nil;intro w _;exact hC w;refine vAz<|nSz<|vMz ?_;refine lvz (.neF rfl rfl (by omega)) ?_;refine nNz<|cFz<|zJ<|thenN<|sRz<|ldz rfl (.tail .head) (qF rfl) ?_)
 (apply LW.callR;rfl;rfl;infer_instance;exact .cons rfl .nil;intro w hs)
 exact copied_calls ws ms _ _ w (hs0.st hs) (hm0.st hs) (by omega) (by omega)
 rintro vo gso ⟨s1,m1,g1,g2,rfl,rfl,h1,h2⟩
 have h1':=h1
 have h2':=h2
 unfold wM at h1'
 unfold bM at h2'
 obtain ⟨q1,k1,rfl⟩:=h1'.form
 obtain ⟨q2,k2,rfl⟩:=h2'.form
 (apply zU;rfl;intro _;refine zR rfl rfl .head (.whole rfl rfl rfl)<|nNz<|zI<|sRz<|vMz ?_;refine lvz (.eqF rfl rfl (by omega)) ?_;refine nNz<|cFz<|zJ<|thenN<|zI<|sRz<|vMz ?_;refine lvz (.gtrF rfl rfl (by omega)) ?_;refine vMz<|gTz<|vMz<|gTz ?_;refine lvz (.gtrF rfl rfl (by omega)) ?_;refine pFz<|vMz<|gTz<|vMz<|gTz<|vMz<|gTz ?_;refine lvz (.addNK rfl rfl (by decide)) ?_;refine gTz ?_;refine lvz (.gtrF rfl rfl (by omega)) ?_;refine pFz<|nNz<|cFz<|zJ<|thenN<|sRz<|vMz<|vMz ?_;refine lvz (.addNK rfl rfl (by decide)) ?_;refine lvz (.convI rfl (by omega) (by omega)) ?_;refine lvz (.addZL rfl rfl (by decide) (by omega)) ?_;refine lvz (.subZL rfl rfl (by decide) (by omega) (by omega)) ?_;refine lvz (.quoZL rfl rfl (by decide) (by omega) (by omega)) ?_;refine lvz (.mulZL rfl rfl (by decide) (by omega)) ?_;refine vAz<|nNz<|zI<|sRz<|vMz<|vFz<|ldz rfl .head sc_rd1<|lvz (.lenR rfl inferInstance rfl) ?_;refine lvz (.subI rfl rfl (by omega) (by omega)) ?_;apply LW.v0;rfl;rfl;apply ValP.maxD;rfl;rfl;refine vMz<|nNz<|zM ?_)
 rename_i b3 b6 b9
 obtain ⟨D,hD⟩:∃ D,D=((0+n) % 18446744073709551616+32 - 1) / 32 * 32 - ms.length:=⟨_,rfl⟩
 have hDu:D=upW n - ms.length:=by unfold upW;omega
 rw [← hD]
 refine CW.loop (fun x:Nat × Option Addr × Nat × Fs=>([(9,.pointer (some ⟨b9,0,none⟩)),(6,.pointer (some ⟨b6,0,none⟩)),(48,.int .i64 (D:Int)),(49,.int .i64 (x.1:Int))],(b9,.cells #[.slice q1 ws.length k1,.slice x.2.1 (ms.length+x.1) x.2.2.1] 25 (0,0))::(x.2.2.2++(g1++[(b6,.cells #[.slice none 0 0,.slice none 0 0] 25 (0,0))]))))
  (fun x=>x.1≤D∧IsRow 5 1 (.slice x.2.1 (ms.length+x.1) x.2.2.1) (ms.length+x.1) (ucs (ms++List.replicate x.1 0)) x.2.2.2) (fun x=>D - x.1) (0,q2,k2,g2) ⟨Nat.zero_le _,by simpa using h2'⟩ ⟨rfl,rfl,rfl,rfl,trivial⟩ (by simp) ?_
 rintro ⟨k,q,kc,seg⟩ ⟨hk,hrow⟩
 dsimp only at hk hrow ⊢
 rcases Nat.lt_or_ge k D with hlt|hge
 ·(refine sRz ?_;refine lvz (.lssT rfl rfl (by omega)) ?_;refine nNz<|zI<|cTz<|zJ<|thenN<|zI<|zM<|zL<|vFz<|ldz rfl .head sc_rd1 ?_;apply LW.lay1;rfl;infer_instance;infer_instance;rfl;rfl;rfl;rfl;rfl;rfl;intro _)
  (apply LW.append;rfl;rfl;infer_instance;infer_instance;infer_instance;rfl;rfl;rfl;(case hrow=>assumption);apply AtSeg.cons;apply AtSeg.cons;exact AtSeg.head;apply qE;apply zY;rfl;rfl;rfl;omega;simp only [maxLen];omega;omega;intro v' seg' hrow';obtain ⟨p',c',rfl⟩:=hrow'.form;(refine ⟨_,(by (repeat (first|exact AtSeg.head|apply AtSeg.cons|apply AtSeg.app))),?_⟩);(try simp only [List.cons_append,List.nil_append]))
  (refine vFz ?_;refine zR rfl rfl (.tail .head) sc_wr1 ?_;apply zV;refine blkN<|thenN<|zL ?_;refine lvz (.addZL rfl rfl (by decide) (by omega)) ?_;refine vMz ?_;apply zV)
  apply thenX
  refine ⟨rfl,(k+1,p',c',seg'),⟨hlt,?_⟩,by show D - (k+1) < D - k;omega,⟨rfl,rfl,rfl,rfl,trivial⟩,qR _ (qN _)⟩
  have e:ucs (ms++List.replicate (k+1) 0)=ucs (ms++List.replicate k 0)++[.int .u8 0]:=by
   rw [List.replicate_succ',← List.append_assoc]
   simp [ucs]
  dsimp only
  rw [e]
  exact hrow'
 ·(refine sRz ?_;refine lvz (.lssF rfl rfl (by omega)) ?_;refine nNz<|zI<|cFz<|CW.exit<|thenE<|thenE<|blkE rfl<|thenN<|sRz<|ldz rfl .head (qF rfl) ?_;refine zR rfl rfl (.tail (.app (.app .head))) (.whole rfl rfl rfl)<|vAz<|nNz<|zK ?_)
  obtain rfl:k=D:=by omega
  rw [← hDu]
  refine fin (vs:=[.agg #[.slice q1 ws.length k1,.slice q (ms.length+k) kc],.int .i64 0]) (seg++g1) (.inl rfl) rfl rfl (by (apply zD;apply zH;rfl;apply qE;apply zX;apply zZ;apply zZ;apply zY;exact qF rfl;apply zD;exact zG rfl;exact zF)) ?_ ⟨_,rfl,_,_,g1,seg,rfl,rfl,h1,?_⟩
  ·exact qR _ (List.Sublist.append_left (qQ _ _) _)
  ·unfold bM
   rw [List.length_append,List.length_replicate]
   exact hrow
section
theorem st_sub {w0 w:World} {S:List Nat} {fs gs:Fs} (h:St w0 S fs w) (hg:List.Sublist gs fs):St w0 S gs w:=⟨h.bel,fun p hp=>h.own p (hg.subset hp),h.nd.sublist hg⟩
attribute [local irreducible] SL.inP
theorem reach_gas (w0:World) (S:List Nat) (b:Nat) (m:MaV) (a n k:Nat) (p2:Option Addr) (c2:Nat) (ha:a < M256) (hn:n < M256) (hE:endV a n < 18446744073709551616) (hk:k≤1024) (hg:m.fr.gas < 18446744073709551616) (hm:m.fr.mem=.slice p2 k c2) (rest:Fs) (w:World) (hs:St w0 S ((b,maO m)::rest) w)
  (hcost:m.fr.gas < memV k (endV a n)) :
  Calls Tryz.prog 77 #[.pointer (some ⟨b,0,none⟩),wv a,wv n] w (fun x w'=>∃ fs',(x=.panicked failC∧∃ ex,fs'=(b,maO m)::(ex++rest))∧St w0 S fs' w'):=by
 have hmem:∀ {E fr},Rd Tryz.prog 22 (.cells (mca m) E fr) 3 (.slice p2 k c2):=fun {E fr}=>by rw [← hm];exact ma_rd3
 refine calls_inlineP (K:=fun x fs'=>x=.panicked failC∧∃ ex,fs'=(b,maO m)::(ex++rest)) (args:=[_,_,_]) Tryz.func77 rfl Tryz.ntmps77 rfl ?_ hs
 (refine sRz ?_;apply zT;rfl;rfl;intro _;apply zT;rfl;rfl;intro _;refine vAz<|vAz<|nSz<|ldz rfl (.tail .head) (qF rfl)<|ldz rfl .head (qF rfl) ?_;apply zS;rfl;rfl;infer_instance;exact .cons rfl (.cons rfl .nil);intro w _;exact End_calls a n ha hn w;refine vAz<|nSz<|vMz<|vMz<|vNz<|vFz<|vFz<|vFz<|ldz rfl (.tail (.tail .head)) hmem<|lvz (.lenR rfl inferInstance rfl) ?_;refine lvz (.convN rfl (by omega) (by omega)) ?_;refine vMz ?_;apply zS;rfl;rfl;infer_instance;exact .cons rfl (.cons rfl .nil);intro w _;exact Memory_calls _ _ (by omega) hE w;apply LW.lay1;rfl;infer_instance;infer_instance;rfl;rfl;rfl;rfl;rfl;rfl;intro _)
 rename_i b4 b5 b29
 obtain ⟨c,hc⟩:∃ c,c=memV k (endV a n):=⟨_,rfl⟩
 rw [← hc] at hcost ⊢
 have hsp:spendM m [c]=none:=by unfold spendM;rw [if_neg (by simp;omega)]
 refine LW.perm (fs':=(b,maO m)::(b29,.cells #[.int .u64 (c:Int)] 26 (0,0))::(b5,.cells (wc n) 29 (0,0))::(b4,.cells (wc a) 29 (0,0))::rest) (by exact (List.perm_middle (l₁:=[_,_,_])).symm) ?_
 refine LW.callP (K:=MaK b m (spendM m [c]) _) rfl rfl inferInstance (by (exact .cons rfl (.cons rfl .nil))) rfl (fun fs h=>?_) (fun w' hst=>spend_calls w0 S b m [c] hg _ _ w' hst (fun w2 h2=>row_cells (h2.own (b29,_) (List.Mem.tail _ (List.Mem.head _))).2 rfl rfl (by simp [maxLen]))) ?_ ?_
 ·rw [hsp] at h;cases h.1
 ·rintro v fs' h
  rw [hsp] at h;cases h.1
 ·rintro ch fs' h
  rw [hsp] at h
  obtain ⟨h,rfl⟩:=h
  cases h
  refine thenP ?_
  exact inPP .nil ⟨rfl,[_,_,_],rfl⟩
theorem reach_none (w0:World) (S:List Nat) (b:Nat) (m:MaV) (a n k:Nat) (hn0:n=0) (p2:Option Addr) (c2:Nat) (ha:a < M256) (hk:k≤1024) (hg:m.fr.gas < 18446744073709551616) (hm:m.fr.mem=.slice p2 k c2) (rest:Fs) (w:World) (hs:St w0 S ((b,maO m)::rest) w) :
  Calls Tryz.prog 77 #[.pointer (some ⟨b,0,none⟩),wv a,wv n] w (fun x w'=>∃ fs',(x=.returned (.tuple #[.int .u64 0,.int .u64 0])∧∃ ex,fs'=(b,maO m)::(ex++rest))∧St w0 S fs' w'):=by
 have hmem:∀ {E fr},Rd Tryz.prog 22 (.cells (mca m) E fr) 3 (.slice p2 k c2):=fun {E fr}=>by rw [← hm];exact ma_rd3
 have hE:endV a n < 18446744073709551616:=by simp [endV,hn0]
 have hn:n < M256:=by rw [hn0];decide
 have he:endV a n=0:=by simp [endV,hn0]
 refine calls_inlineP (K:=fun x fs'=>x=.returned (.tuple #[.int .u64 0,.int .u64 0])∧∃ ex,fs'=(b,maO m)::(ex++rest)) (args:=[_,_,_]) Tryz.func77 rfl Tryz.ntmps77 rfl ?_ hs
 (refine sRz ?_;apply zT;rfl;rfl;intro _;apply zT;rfl;rfl;intro _;refine vAz<|vAz<|nSz<|ldz rfl (.tail .head) (qF rfl)<|ldz rfl .head (qF rfl) ?_;apply zS;rfl;rfl;infer_instance;exact .cons rfl (.cons rfl .nil);intro w _;exact End_calls a n ha hn w;refine vAz<|nSz<|vMz<|vMz<|vNz<|vFz<|vFz<|vFz<|ldz rfl (.tail (.tail .head)) hmem<|lvz (.lenR rfl inferInstance rfl) ?_;refine lvz (.convN rfl (by omega) (by omega)) ?_;refine vMz ?_;apply zS;rfl;rfl;infer_instance;exact .cons rfl (.cons rfl .nil);intro w _;exact Memory_calls _ _ (by omega) hE w;apply LW.lay1;rfl;infer_instance;infer_instance;rfl;rfl;rfl;rfl;rfl;rfl;intro _)
 rename_i b4 b5 b29
 have hc:memV k (endV a n)=0:=by rw [he];simp [memV]
 rw [hc,he]
 have hsp:spendM m [0]=some m:=by unfold spendM;rw [if_pos (by simp)];rfl
 refine LW.perm (fs':=(b,maO m)::(b29,.cells #[.int .u64 ((0:Nat):Int)] 26 (0,0))::(b5,.cells (wc n) 29 (0,0))::(b4,.cells (wc a) 29 (0,0))::rest) (by exact (List.perm_middle (l₁:=[_,_,_])).symm) ?_
 refine LW.callP (K:=MaK b m (spendM m [0]) _) rfl rfl inferInstance (by (exact .cons rfl (.cons rfl .nil))) rfl (fun fs h=>?_) (fun w' hst=>spend_calls w0 S b m [0] hg _ _ w' hst (fun w2 h2=>row_cells (h2.own (b29,_) (List.Mem.tail _ (List.Mem.head _))).2 rfl rfl (by simp [maxLen]))) ?_ ?_
 ·rw [hsp] at h;cases h.1
 ·rintro v fs' h
  rw [hsp] at h
  obtain ⟨h,rfl⟩:=h
  (refine nNz<|zI<|sRz<|vMz ?_;refine lvz (.eqT rfl rfl (by omega)) ?_;refine nNz<|cTz<|sRz<|vAz<|vAz<|nNz<|zK<|thenR ?_)
  exact inPI (.inl rfl) .nil rfl (by (apply zD;exact zG rfl;apply zD;exact zG rfl;exact zF)) rfl ⟨rfl,[_,_,_],rfl⟩
 ·rintro ch fs' h
  rw [hsp] at h;cases h.1
end
end Go.Proofs.YtdeggbkbblfpoaaGreatDoor
namespace Go.Proofs.YtdeggbkbblfpoaaGreatDoor.CK
open Go Go.RowKit SL
set_option maxRecDepth 8000
set_option maxHeartbeats 4000000
set_option linter.unusedSimpArgs false
set_option linter.unusedVariables false
attribute [local irreducible] SL.CW SL.LW SL.DW Calls SL.Ret SL.RetG SL.beginQ SL.roundQ SL.rangeQ SL.inQ SL.RW SL.AnyW SL.thenQ SL.thenC SL.thenW SL.blkQ SL.finQ SL.ValP SL.NewP SL.SetP SL.CallP SL.Rd SL.Wr SL.Known


theorem ucs_app (a b:List UInt8):ucs (a++b)=ucs a++ucs b:=by simp [ucs]
theorem digit_ucs (n:Nat) (h:n < 10):[Value.int .u8 (((48+n) % 256:Nat):Int)]=ucs [UInt8.ofNat (48+n)]:=by
 have:((UInt8.ofNat (48+n)).toNat:Nat)=(48+n) % 256:=by simp
 show _=[Value.int .u8 (((UInt8.ofNat (48+n)).toNat:Nat):Int)]
 rw [this]
theorem number1_calls (n:Nat) (hn:n < 10) (w:World):Calls Tryz.prog 104 #[.int .i64 (n:Int)] w (Ret w (sv [UInt8.ofNat (48+n)])):=by
 have hd:=digit_ucs n hn
 refine enter (args:=[_]) _ [] [] Tryz.func104 rfl Tryz.ntmps104 rfl (by simp) .nil ?_
 (refine sRz<|vAz<|nNz<|zI<|sRz<|vMz ?_;refine lvz (.lssT rfl rfl (by omega)) ?_;refine nNz<|cTz<|sRz<|vMz ?_;refine lvz (.addZK rfl rfl (by decide) (by omega)) ?_;refine lvz (.convB rfl) ?_;apply LW.lay1;rfl;infer_instance;infer_instance;rfl;rfl;rfl;rfl;rfl;rfl;intro _)
 rename_i b
 have hrow:∀ w',w'.heap[b]?=some (.cells #[.int .u8 (((48+n) % 256:Nat):Int)] 5 (0,0))→RowAt w' 1 (.slice (some ⟨b,0,none⟩) 1 1) 1 (ucs [UInt8.ofNat (48+n)]):=fun w' h =>
  RowAt.us (us:=[]) (cur:=#[.int .u8 (((48+n) % 256:Nat):Int)]) (E:=5) (fr:=(0,0)) (fun p hp=>by rcases List.mem_singleton.1 hp with rfl;exact h) (Nat.le_refl _) (by decide) hd rfl
 refine LW.toStr rfl inferInstance inferInstance inferInstance rfl (fun w' hs=>hrow w' (hs.own (b,_) (by (exact List.Mem.head _))).2) ?_
 (refine vAz<|nNz<|zK<|thenR ?_)
 (apply finR;exact .inl rfl;rfl;rfl;rfl;apply zD;exact zG rfl;exact zF)
 rfl
theorem number_calls (n:Nat) (hn:n < 100) (w:World):Calls Tryz.prog 104 #[.int .i64 (n:Int)] w (Ret w (sv (itoa n))):=by
 unfold itoa
 split
 ·rename_i h;exact number1_calls n h w
 ·rename_i h
  have h1:=number1_calls (n / 10) (by omega)
  have h2:=number1_calls (n % 10) (by omega)
  have l1:[UInt8.ofNat (48+n / 10)].length=1:=rfl
  have l2:[UInt8.ofNat (48+n % 10)].length=1:=rfl
  refine enter (args:=[_]) _ [] [] Tryz.func104 rfl Tryz.ntmps104 rfl (by simp) .nil ?_
  obtain ⟨x,hx⟩:∃ x,[UInt8.ofNat (48+n / 10)]=x:=⟨_,rfl⟩
  obtain ⟨y,hy⟩:∃ y,[UInt8.ofNat (48+n % 10)]=y:=⟨_,rfl⟩
  rw [hx] at h1 l1
  rw [hy] at h2 l2
  rw [show [UInt8.ofNat (48+n / 10),UInt8.ofNat (48+n % 10)]=x++y by rw [← hx,← hy];rfl]
  (refine sRz<|vAz<|nNz<|zI<|sRz<|vMz ?_;refine lvz (.lssF rfl rfl (by omega)) ?_;refine nNz<|cFz<|zJ<|thenN<|sRz<|vMz ?_;refine lvz (.quoZL rfl rfl (by decide) (by omega) (by omega)) ?_;apply zS;rfl;rfl;infer_instance;exact .cons rfl .nil;intro w _;exact h1 w;refine vMz ?_;refine lvz (.remZL rfl rfl (by decide) (by omega)) ?_;apply zS;rfl;rfl;infer_instance;exact .cons rfl .nil;intro w _;exact h2 w;apply LW.v0;rfl;rfl;apply ValP.addStr;rfl;rfl;omega;refine vAz<|nNz<|zK ?_)
  (apply finR;exact .inl rfl;rfl;rfl;rfl;apply zD;exact zG rfl;exact zF)
  rfl
def PlainR (v:Value) (gs:Fs):Prop:=∃ b,v=.slice (some ⟨b,0,none⟩) 50 50∧gs=[(b,.cells (opcs plainOps).toArray 86 (0,0))]
theorem rPlain_calls (w:World):Calls Tryz.prog 105 #[] w (RetG w [] PlainR):=by
 refine enter (args:=[]) _ [] [] Tryz.func105 rfl Tryz.ntmps105 rfl (by simp) .nil ?_
 (refine sRz<|vAz<|nSz ?_;apply LW.v0;rfl;rfl;apply zW;infer_instance;infer_instance;apply zA;rfl;apply zA;rfl;exact zB;rfl;simp only [fillP,wrCells,Value.cells,qI,qJ,qK,qH,qM,qL,Nat.reduceAdd,qO];rfl;apply LW.v0;rfl;rfl;apply zW;infer_instance;infer_instance;apply zA;rfl;apply zA;rfl;apply zA;rfl;apply zA;rfl;exact zB;rfl;simp only [fillP,wrCells,Value.cells,qI,qJ,qK,qH,qM,qL,Nat.reduceAdd,qO];rfl;apply LW.v0;rfl;rfl;apply zW;infer_instance;infer_instance;apply zA;rfl;apply zA;rfl;apply zA;rfl;apply zA;rfl;exact zB;rfl;simp only [fillP,wrCells,Value.cells,qI,qJ,qK,qH,qM,qL,Nat.reduceAdd,qO];rfl;apply LW.v0;rfl;rfl;apply zW;infer_instance;infer_instance;apply zA;rfl;apply zA;rfl;apply zA;rfl;apply zA;rfl;exact zB;rfl;simp only [fillP,wrCells,Value.cells,qI,qJ,qK,qH,qM,qL,Nat.reduceAdd,qO];rfl;apply LW.v0;rfl;rfl;apply zW;infer_instance;infer_instance;apply zA;rfl;apply zA;rfl;apply zA;rfl;apply zA;rfl;exact zB;rfl;simp only [fillP,wrCells,Value.cells,qI,qJ,qK,qH,qM,qL,Nat.reduceAdd,qO];rfl;apply LW.v0;rfl;rfl;apply zW;infer_instance;infer_instance;apply zA;rfl;apply zA;rfl;apply zA;rfl;apply zA;rfl;exact zB;rfl;simp only [fillP,wrCells,Value.cells,qI,qJ,qK,qH,qM,qL,Nat.reduceAdd,qO];rfl;apply LW.v0;rfl;rfl;apply zW;infer_instance;infer_instance;apply zA;rfl;apply zA;rfl;apply zA;rfl;apply zA;rfl;exact zB;rfl;simp only [fillP,wrCells,Value.cells,qI,qJ,qK,qH,qM,qL,Nat.reduceAdd,qO];rfl;apply LW.v0;rfl;rfl;apply zW;infer_instance;infer_instance;apply zA;rfl;apply zA;rfl;apply zA;rfl;apply zA;rfl;exact zB;rfl;simp only [fillP,wrCells,Value.cells,qI,qJ,qK,qH,qM,qL,Nat.reduceAdd,qO];rfl;apply LW.v0;rfl;rfl;apply zW;infer_instance;infer_instance;apply zA;rfl;apply zA;rfl;apply zA;rfl;apply zA;rfl;exact zB;rfl;simp only [fillP,wrCells,Value.cells,qI,qJ,qK,qH,qM,qL,Nat.reduceAdd,qO];rfl;apply LW.v0;rfl;rfl;apply zW;infer_instance;infer_instance;apply zA;rfl;apply zA;rfl;apply zA;rfl;apply zA;rfl;exact zB;rfl;simp only [fillP,wrCells,Value.cells,qI,qJ,qK,qH,qM,qL,Nat.reduceAdd,qO];rfl;apply LW.v0;rfl;rfl;apply zW;infer_instance;infer_instance;apply zA;rfl;apply zA;rfl;apply zA;rfl;apply zA;rfl;exact zB;rfl;simp only [fillP,wrCells,Value.cells,qI,qJ,qK,qH,qM,qL,Nat.reduceAdd,qO];rfl;apply LW.v0;rfl;rfl;apply zW;infer_instance;infer_instance;apply zA;rfl;apply zA;rfl;apply zA;rfl;apply zA;rfl;exact zB;rfl;simp only [fillP,wrCells,Value.cells,qI,qJ,qK,qH,qM,qL,Nat.reduceAdd,qO];rfl;apply LW.v0;rfl;rfl;apply zW;infer_instance;infer_instance;apply zA;rfl;apply zA;rfl;apply zA;rfl;apply zA;rfl;exact zB;rfl;simp only [fillP,wrCells,Value.cells,qI,qJ,qK,qH,qM,qL,Nat.reduceAdd,qO];rfl;apply LW.v0;rfl;rfl;apply zW;infer_instance;infer_instance;apply zA;rfl;apply zA;rfl;apply zA;rfl;apply zA;rfl;exact zB;rfl;simp only [fillP,wrCells,Value.cells,qI,qJ,qK,qH,qM,qL,Nat.reduceAdd,qO];rfl;apply LW.v0;rfl;rfl;apply zW;infer_instance;infer_instance;apply zA;rfl;apply zA;rfl;apply zA;rfl;apply zA;rfl;exact zB;rfl;simp only [fillP,wrCells,Value.cells,qI,qJ,qK,qH,qM,qL,Nat.reduceAdd,qO];rfl;apply LW.v0;rfl;rfl;apply zW;infer_instance;infer_instance;apply zA;rfl;apply zA;rfl;apply zA;rfl;apply zA;rfl;exact zB;rfl;simp only [fillP,wrCells,Value.cells,qI,qJ,qK,qH,qM,qL,Nat.reduceAdd,qO];rfl;apply LW.v0;rfl;rfl;apply zW;infer_instance;infer_instance;apply zA;rfl;apply zA;rfl;apply zA;rfl;apply zA;rfl;exact zB;rfl;simp only [fillP,wrCells,Value.cells,qI,qJ,qK,qH,qM,qL,Nat.reduceAdd,qO];rfl;apply LW.v0;rfl;rfl;apply zW;infer_instance;infer_instance;apply zA;rfl;apply zA;rfl;apply zA;rfl;exact zB;rfl;simp only [fillP,wrCells,Value.cells,qI,qJ,qK,qH,qM,qL,Nat.reduceAdd,qO];rfl;apply LW.v0;rfl;rfl;apply zW;infer_instance;infer_instance;apply zA;rfl;apply zA;rfl;apply zA;rfl;apply zA;rfl;exact zB;rfl;simp only [fillP,wrCells,Value.cells,qI,qJ,qK,qH,qM,qL,Nat.reduceAdd,qO];rfl;apply LW.v0;rfl;rfl;apply zW;infer_instance;infer_instance;apply zA;rfl;apply zA;rfl;apply zA;rfl;exact zB;rfl;simp only [fillP,wrCells,Value.cells,qI,qJ,qK,qH,qM,qL,Nat.reduceAdd,qO];rfl;apply LW.v0;rfl;rfl;apply zW;infer_instance;infer_instance;apply zA;rfl;apply zA;rfl;apply zA;rfl;exact zB;rfl;simp only [fillP,wrCells,Value.cells,qI,qJ,qK,qH,qM,qL,Nat.reduceAdd,qO];rfl;apply LW.v0;rfl;rfl;apply zW;infer_instance;infer_instance;apply zA;rfl;apply zA;rfl;apply zA;rfl;exact zB;rfl;simp only [fillP,wrCells,Value.cells,qI,qJ,qK,qH,qM,qL,Nat.reduceAdd,qO];rfl;apply LW.v0;rfl;rfl;apply zW;infer_instance;infer_instance;apply zA;rfl;apply zA;rfl;apply zA;rfl;apply zA;rfl;exact zB;rfl;simp only [fillP,wrCells,Value.cells,qI,qJ,qK,qH,qM,qL,Nat.reduceAdd,qO];rfl;apply LW.v0;rfl;rfl;apply zW;infer_instance;infer_instance;apply zA;rfl;apply zA;rfl;apply zA;rfl;exact zB;rfl;simp only [fillP,wrCells,Value.cells,qI,qJ,qK,qH,qM,qL,Nat.reduceAdd,qO];rfl;apply LW.v0;rfl;rfl;apply zW;infer_instance;infer_instance;apply zA;rfl;apply zA;rfl;apply zA;rfl;exact zB;rfl;simp only [fillP,wrCells,Value.cells,qI,qJ,qK,qH,qM,qL,Nat.reduceAdd,qO];rfl;apply LW.v0;rfl;rfl;apply zW;infer_instance;infer_instance;apply zA;rfl;apply zA;rfl;apply zA;rfl;exact zB;rfl;simp only [fillP,wrCells,Value.cells,qI,qJ,qK,qH,qM,qL,Nat.reduceAdd,qO];rfl;apply LW.v0;rfl;rfl;apply zW;infer_instance;infer_instance;apply zA;rfl;apply zA;rfl;apply zA;rfl;exact zB;rfl;simp only [fillP,wrCells,Value.cells,qI,qJ,qK,qH,qM,qL,Nat.reduceAdd,qO];rfl;apply LW.v0;rfl;rfl;apply zW;infer_instance;infer_instance;apply zA;rfl;apply zA;rfl;apply zA;rfl;exact zB;rfl;simp only [fillP,wrCells,Value.cells,qI,qJ,qK,qH,qM,qL,Nat.reduceAdd,qO];rfl;apply LW.v0;rfl;rfl;apply zW;infer_instance;infer_instance;apply zA;rfl;apply zA;rfl;apply zA;rfl;exact zB;rfl;simp only [fillP,wrCells,Value.cells,qI,qJ,qK,qH,qM,qL,Nat.reduceAdd,qO];rfl;apply LW.v0;rfl;rfl;apply zW;infer_instance;infer_instance;apply zA;rfl;apply zA;rfl;apply zA;rfl;exact zB;rfl;simp only [fillP,wrCells,Value.cells,qI,qJ,qK,qH,qM,qL,Nat.reduceAdd,qO];rfl;apply LW.v0;rfl;rfl;apply zW;infer_instance;infer_instance;apply zA;rfl;apply zA;rfl;apply zA;rfl;exact zB;rfl;simp only [fillP,wrCells,Value.cells,qI,qJ,qK,qH,qM,qL,Nat.reduceAdd,qO];rfl;apply LW.v0;rfl;rfl;apply zW;infer_instance;infer_instance;apply zA;rfl;apply zA;rfl;apply zA;rfl;exact zB;rfl;simp only [fillP,wrCells,Value.cells,qI,qJ,qK,qH,qM,qL,Nat.reduceAdd,qO];rfl;apply LW.v0;rfl;rfl;apply zW;infer_instance;infer_instance;apply zA;rfl;apply zA;rfl;apply zA;rfl;apply zA;rfl;exact zB;rfl;simp only [fillP,wrCells,Value.cells,qI,qJ,qK,qH,qM,qL,Nat.reduceAdd,qO];rfl;apply LW.v0;rfl;rfl;apply zW;infer_instance;infer_instance;apply zA;rfl;apply zA;rfl;apply zA;rfl;exact zB;rfl;simp only [fillP,wrCells,Value.cells,qI,qJ,qK,qH,qM,qL,Nat.reduceAdd,qO];rfl;apply LW.v0;rfl;rfl;apply zW;infer_instance;infer_instance;apply zA;rfl;apply zA;rfl;apply zA;rfl;exact zB;rfl;simp only [fillP,wrCells,Value.cells,qI,qJ,qK,qH,qM,qL,Nat.reduceAdd,qO];rfl;apply LW.v0;rfl;rfl;apply zW;infer_instance;infer_instance;apply zA;rfl;apply zA;rfl;apply zA;rfl;apply zA;rfl;exact zB;rfl;simp only [fillP,wrCells,Value.cells,qI,qJ,qK,qH,qM,qL,Nat.reduceAdd,qO];rfl;apply LW.v0;rfl;rfl;apply zW;infer_instance;infer_instance;apply zA;rfl;apply zA;rfl;apply zA;rfl;exact zB;rfl;simp only [fillP,wrCells,Value.cells,qI,qJ,qK,qH,qM,qL,Nat.reduceAdd,qO];rfl;apply LW.v0;rfl;rfl;apply zW;infer_instance;infer_instance;apply zA;rfl;apply zA;rfl;apply zA;rfl;exact zB;rfl;simp only [fillP,wrCells,Value.cells,qI,qJ,qK,qH,qM,qL,Nat.reduceAdd,qO];rfl;apply LW.v0;rfl;rfl;apply zW;infer_instance;infer_instance;apply zA;rfl;apply zA;rfl;apply zA;rfl;exact zB;rfl;simp only [fillP,wrCells,Value.cells,qI,qJ,qK,qH,qM,qL,Nat.reduceAdd,qO];rfl;apply LW.v0;rfl;rfl;apply zW;infer_instance;infer_instance;apply zA;rfl;apply zA;rfl;apply zA;rfl;exact zB;rfl;simp only [fillP,wrCells,Value.cells,qI,qJ,qK,qH,qM,qL,Nat.reduceAdd,qO];rfl;apply LW.v0;rfl;rfl;apply zW;infer_instance;infer_instance;apply zA;rfl;apply zA;rfl;exact zB;rfl;simp only [fillP,wrCells,Value.cells,qI,qJ,qK,qH,qM,qL,Nat.reduceAdd,qO];rfl;apply LW.v0;rfl;rfl;apply zW;infer_instance;infer_instance;apply zA;rfl;apply zA;rfl;apply zA;rfl;apply zA;rfl;exact zB;rfl;simp only [fillP,wrCells,Value.cells,qI,qJ,qK,qH,qM,qL,Nat.reduceAdd,qO];rfl;apply LW.v0;rfl;rfl;apply zW;infer_instance;infer_instance;apply zA;rfl;apply zA;rfl;apply zA;rfl;exact zB;rfl;simp only [fillP,wrCells,Value.cells,qI,qJ,qK,qH,qM,qL,Nat.reduceAdd,qO];rfl;apply LW.v0;rfl;rfl;apply zW;infer_instance;infer_instance;apply zA;rfl;apply zA;rfl;apply zA;rfl;apply zA;rfl;exact zB;rfl;simp only [fillP,wrCells,Value.cells,qI,qJ,qK,qH,qM,qL,Nat.reduceAdd,qO];rfl;apply LW.v0;rfl;rfl;apply zW;infer_instance;infer_instance;apply zA;rfl;apply zA;rfl;apply zA;rfl;exact zB;rfl;simp only [fillP,wrCells,Value.cells,qI,qJ,qK,qH,qM,qL,Nat.reduceAdd,qO];rfl;apply LW.v0;rfl;rfl;apply zW;infer_instance;infer_instance;apply zA;rfl;apply zA;rfl;apply zA;rfl;apply zA;rfl;exact zB;rfl;simp only [fillP,wrCells,Value.cells,qI,qJ,qK,qH,qM,qL,Nat.reduceAdd,qO];rfl;apply LW.v0;rfl;rfl;apply zW;infer_instance;infer_instance;apply zA;rfl;apply zA;rfl;apply zA;rfl;apply zA;rfl;exact zB;rfl;simp only [fillP,wrCells,Value.cells,qI,qJ,qK,qH,qM,qL,Nat.reduceAdd,qO];rfl;apply LW.v0;rfl;rfl;apply zW;infer_instance;infer_instance;apply zA;rfl;apply zA;rfl;apply zA;rfl;apply zA;rfl;exact zB;rfl;simp only [fillP,wrCells,Value.cells,qI,qJ,qK,qH,qM,qL,Nat.reduceAdd,qO];rfl;apply LW.v0;rfl;rfl;apply zW;infer_instance;infer_instance;apply zA;rfl;apply zA;rfl;apply zA;rfl;exact zB;rfl;simp only [fillP,wrCells,Value.cells,qI,qJ,qK,qH,qM,qL,Nat.reduceAdd,qO];rfl;apply LW.v0;rfl;rfl;apply zW;infer_instance;infer_instance;apply zA;rfl;apply zA;rfl;exact zB;rfl;simp only [fillP,wrCells,Value.cells,qI,qJ,qK,qH,qM,qL,Nat.reduceAdd,qO];rfl)
 refine LW.n0 rfl rfl (NewP.buildSN (vs:=plainOps.zipIdx.map fun p=>(p.2,.agg (opc p.1))) (c:=(opcs plainOps).toArray) inferInstance inferInstance (by (apply zA;rfl;apply zA;rfl;apply zA;rfl;apply zA;rfl;apply zA;rfl;apply zA;rfl;apply zA;rfl;apply zA;rfl;apply zA;rfl;apply zA;rfl;apply zA;rfl;apply zA;rfl;apply zA;rfl;apply zA;rfl;apply zA;rfl;apply zA;rfl;apply zA;rfl;apply zA;rfl;apply zA;rfl;apply zA;rfl;apply zA;rfl;apply zA;rfl;apply zA;rfl;apply zA;rfl;apply zA;rfl;apply zA;rfl;apply zA;rfl;apply zA;rfl;apply zA;rfl;apply zA;rfl;apply zA;rfl;apply zA;rfl;apply zA;rfl;apply zA;rfl;apply zA;rfl;apply zA;rfl;apply zA;rfl;apply zA;rfl;apply zA;rfl;apply zA;rfl;apply zA;rfl;apply zA;rfl;apply zA;rfl;apply zA;rfl;apply zA;rfl;apply zA;rfl;apply zA;rfl;apply zA;rfl;apply zA;rfl;apply zA;rfl;exact zB)) rfl rfl (by kernel_rfl) (by kernel_rfl)) fun g=>?_
 (refine vAz<|nNz<|zK ?_)
 apply finM [(g,.cells (opcs plainOps).toArray 86 (0,0))];(exact .inl rfl);(exact Shut.nil);rfl;(apply zD;exact zG rfl;exact zF);exact qN _
 exact ⟨g,rfl,rfl⟩
theorem opOf_none {b:Nat} (hr:rowOp b=none) (h:∀ i (hi:i < plainOps.length),plainOps[i].c ≠ b):opOf b=none:=by
 unfold opOf
 rw [hr]
 refine List.find?_eq_none.2 fun x hx=>?_
 obtain ⟨i,hi,rfl⟩:=List.mem_iff_getElem.1 hx
 simpa using h i hi
theorem opOf_plain {b i:Nat} (hr:rowOp b=none) (hi:i < plainOps.length) (h:∀ j (hj:j < i),plainOps[j].c ≠ b) (he:plainOps[i].c=b):opOf b=some plainOps[i]:=by
 unfold opOf
 rw [hr]
 exact List.find?_eq_some_iff_getElem.2 ⟨by simpa using he,i,hi,rfl,fun j hj=>by simpa using h j hj⟩
theorem plain_rdc (i:Nat) (hi:i < plainOps.length) {E:TypeId} {fr:Nat × Nat}:Rd Tryz.prog 5 (.cells (opcs plainOps).toArray E fr) (0+i * 5+0) (.int .u8 (plainOps[i].c:Int)):=by
 refine Rd.one' ?_
 rw [nth_eq,qO]
 exact flat_get (g:=opl) (opl_len plainOps) (List.getElem?_eq_getElem hi) rfl
theorem rOf_calls (b:Nat) (hb:b < 256) (w:World):Calls Tryz.prog 50 #[.int .u8 (b:Int)] w (Ret w (tupOp (opOf b))):=by
 have hl:=itoa_len
 refine enter (args:=[_]) _ [] [] Tryz.func50 rfl Tryz.ntmps50 rfl (by simp) .nil ?_
 have hlow:∀ x,rowOp b=some x→opOf b=some x:=fun x h=>by unfold opOf;rw [h]
 rcases Nat.lt_or_ge b 96 with h1|h1
 ·have hr:rowOp b=none:=by unfold rowOp;rw [if_neg (by omega),if_neg (by omega),if_neg (by omega)]
  (refine sRz ?_;apply zU;rfl;intro _;refine vAz<|nSz<|vMz ?_;refine lvz (.convI rfl (by omega) (by omega)) ?_;refine vAz<|nNz<|zI<|sRz<|vMz ?_;refine lvz (.geqF rfl rfl (by omega)) ?_;refine vMz<|gFz<|gFz<|pFz<|nNz<|cFz<|zJ<|thenN<|zI<|sRz<|vMz ?_;refine lvz (.geqF rfl rfl (by omega)) ?_;refine vMz<|gFz<|gFz<|pFz<|nNz<|cFz<|zJ<|thenN<|zI<|sRz<|vMz ?_;refine lvz (.geqF rfl rfl (by omega)) ?_;refine vMz<|gFz<|gFz<|pFz<|nNz<|cFz<|zJ<|thenN<|sRz ?_)
  (apply LW.callR;rfl;rfl;infer_instance;exact ArgsOk.nil;intro w hs)
  exact rPlain_calls w
  intro vp gp hpl
  obtain ⟨bp,rfl,rfl⟩:=hpl
  rename_i bo
  (refine vAz<|nNz<|zI<|sRz<|vAz<|nNz<|zM ?_)
  refine CW.loop (fun i:Nat=>([(0,.int .u8 (b:Int)),(2,.pointer (some ⟨bo,0,none⟩)),(3,.bool false),(5,.slice (some ⟨bp,0,none⟩) 50 50),(6,.int .i64 (i:Int))],[(bp,.cells (opcs plainOps).toArray 86 (0,0)),(bo,.cells (opc zeroOp) 86 (0,0))]))
   (fun i=>i≤50∧∀ j (hj:j < plainOps.length),j < i→plainOps[j].c ≠ b) (fun i=>50 - i) 0 ⟨Nat.zero_le _,fun j hj h=>absurd h (Nat.not_lt_zero _)⟩ ⟨rfl,rfl,rfl,rfl,rfl,trivial⟩ (qN _) ?_
  rintro i ⟨hi,hall⟩
  dsimp only
  rcases Nat.lt_or_ge i 50 with hlt|hge
  ·have hlt':i < plainOps.length:=hlt
   have hrc:=plain_rdc i hlt' (E:=86) (fr:=(0,0))
   have hrd:=plain_rd i hlt' (E:=86) (fr:=(0,0))
   have hop:=fun he=>opOf_plain hr hlt' (fun j hj=>hall j (by omega) hj) he
   obtain ⟨y,hy⟩:∃ y,plainOps[i]=y:=⟨_,rfl⟩
   rw [hy] at hrc hrd hop
   by_cases he:y.c=b
   ·rw [hop he]
    (refine zI<|sRz<|vMz<|vMz<|lvz (.lenR rfl inferInstance rfl) ?_;refine lvz (.lssT rfl rfl (by omega)) ?_;refine nNz<|cTz<|zJ<|thenN<|zI<|zM<|sRz<|vMz<|vMz ?_;refine lvz (.indexAddrS rfl rfl rfl (by omega)) ?_;refine vFz ?_;refine ldz rfl .head (by assumption) ?_;refine vMz ?_;refine lvz (.eqT rfl rfl (by omega)) ?_;refine nNz<|cTz<|sRz<|vMz<|vMz ?_;refine lvz (.indexAddrS rfl rfl rfl (by omega)) ?_;refine ldz rfl .head (by assumption) ?_;apply zR;rfl;rfl;apply qB;apply qA;apply Wr.whole;kernel_rfl;kernel_rfl;kernel_rfl;refine vAz<|nNz<|zK<|blkR<|thenR<|thenR<|blkR<|thenR ?_)
    (apply finR;exact .inl rfl;rfl;rfl;rfl;apply zD;apply zH;rfl;apply qE;apply zX;apply zY;exact qF rfl;apply zD;exact zG rfl;exact zF)
    rfl
   ·(refine zI<|sRz<|vMz<|vMz<|lvz (.lenR rfl inferInstance rfl) ?_;refine lvz (.lssT rfl rfl (by omega)) ?_;refine nNz<|cTz<|zJ<|thenN<|zI<|zM<|sRz<|vMz<|vMz ?_;refine lvz (.indexAddrS rfl rfl rfl (by omega)) ?_;refine vFz ?_;refine ldz rfl .head (by assumption) ?_;refine vMz ?_;refine lvz (.eqF rfl rfl (by omega)) ?_;refine nNz<|cFz<|zJ<|blkN<|thenN<|zL<|vMz ?_;refine lvz (.addZL rfl rfl (by decide) (by omega)) ?_;refine vAz ?_;apply zV)
    apply thenX
    refine ⟨rfl,i+1,⟨hlt,fun j hj hji=>?_⟩,by omega,⟨rfl,rfl,rfl,rfl,rfl,trivial⟩,qN _⟩
    rcases Nat.lt_or_ge j i with h|h
    ·exact hall j hj h
    ·obtain rfl:j=i:=by omega
     rw [hy];exact he
  ·rw [opOf_none hr (fun j hj=>hall j hj (by have:plainOps.length=50:=rfl;omega))]
   (refine zI<|sRz<|vMz<|vMz<|lvz (.lenR rfl inferInstance rfl) ?_;refine lvz (.lssF rfl rfl (by omega)) ?_;refine nNz<|cFz<|CW.exit<|thenE<|thenE<|blkE rfl<|thenN<|sRz ?_;apply LW.v0;rfl;rfl;apply zW;infer_instance;infer_instance;exact zB;rfl;simp only [fillP,wrCells,Value.cells,qI,qJ,qK,qH,qM,qL,Nat.reduceAdd,qO];rfl;apply zR;rfl;rfl;apply qB;apply qA;apply Wr.whole;kernel_rfl;kernel_rfl;kernel_rfl;refine vAz<|nNz<|zK ?_)
   (apply finR;exact .inl rfl;rfl;rfl;rfl;apply zD;apply zH;rfl;apply qE;apply zX;apply zY;exact qF rfl;apply zD;exact zG rfl;exact zF)
   rfl
 rcases Nat.lt_or_ge b 128 with h2|h2
 ·rw [hlow ⟨b,[80,85,83,72]++itoa (b - 95),0,1,b - 95⟩ (by unfold rowOp;rw [if_pos (by omega)])]
  have hn:=number_calls (b - 95) (by omega)
  have hl1:=hl (b - 95)
  (refine sRz ?_;apply zU;rfl;intro _;refine vAz<|nSz<|vMz ?_;refine lvz (.convI rfl (by omega) (by omega)) ?_;refine vAz<|nNz<|zI<|sRz<|vMz ?_;refine lvz (.geqT rfl rfl (by omega)) ?_;refine vMz<|gTz<|vMz<|gTz ?_;refine lvz (.leqT rfl rfl (by omega)) ?_;refine pTz<|nNz<|cTz<|sRz<|vMz<|vMz ?_;refine lvz (.subZL rfl rfl (by decide) (by omega) (by omega)) ?_;apply zS;rfl;rfl;infer_instance;exact .cons rfl .nil;intro w _;exact hn w;apply LW.v0;rfl;rfl;apply ValP.addStr;rfl;rfl;simp;omega;refine vMz ?_;refine lvz (.subZL rfl rfl (by decide) (by omega) (by omega)) ?_;apply LW.v0;rfl;rfl;apply zW;infer_instance;infer_instance;apply zA;rfl;apply zA;rfl;apply zA;rfl;apply zA;rfl;exact zB;rfl;simp only [fillP,wrCells,Value.cells,qI,qJ,qK,qH,qM,qL,Nat.reduceAdd,qO];rfl;apply zR;rfl;rfl;apply qA;apply Wr.whole;kernel_rfl;kernel_rfl;kernel_rfl;refine vAz<|nNz<|zK<|thenR ?_)
  (apply finR;exact .inl rfl;rfl;rfl;rfl;apply zD;apply zH;rfl;apply qE;apply zY;exact qF rfl;apply zD;exact zG rfl;exact zF)
  rfl
 rcases Nat.lt_or_ge b 144 with h3|h3
 ·rw [hlow ⟨b,[68,85,80]++itoa (b - 127),b - 127,b - 126,0⟩ (by unfold rowOp;rw [if_neg (by omega),if_pos (by omega)])]
  have hn:=number_calls (b - 127) (by omega)
  have hl1:=hl (b - 127)
  (refine sRz ?_;apply zU;rfl;intro _;refine vAz<|nSz<|vMz ?_;refine lvz (.convI rfl (by omega) (by omega)) ?_;refine vAz<|nNz<|zI<|sRz<|vMz ?_;refine lvz (.geqT rfl rfl (by omega)) ?_;refine vMz<|gTz<|vMz<|gTz ?_;refine lvz (.leqF rfl rfl (by omega)) ?_;refine pTz<|nNz<|cFz<|zJ<|thenN<|zI<|sRz<|vMz ?_;refine lvz (.geqT rfl rfl (by omega)) ?_;refine vMz<|gTz<|vMz<|gTz ?_;refine lvz (.leqT rfl rfl (by omega)) ?_;refine pTz<|nNz<|cTz<|sRz<|vMz<|vMz ?_;refine lvz (.subZL rfl rfl (by decide) (by omega) (by omega)) ?_;apply zS;rfl;rfl;infer_instance;exact .cons rfl .nil;intro w _;exact hn w;apply LW.v0;rfl;rfl;apply ValP.addStr;rfl;rfl;simp;omega;refine vMz ?_;refine lvz (.subZL rfl rfl (by decide) (by omega) (by omega)) ?_;refine vMz ?_;refine lvz (.subZL rfl rfl (by decide) (by omega) (by omega)) ?_;apply LW.v0;rfl;rfl;apply zW;infer_instance;infer_instance;apply zA;rfl;apply zA;rfl;apply zA;rfl;apply zA;rfl;exact zB;rfl;simp only [fillP,wrCells,Value.cells,qI,qJ,qK,qH,qM,qL,Nat.reduceAdd,qO];rfl;apply zR;rfl;rfl;apply qA;apply Wr.whole;kernel_rfl;kernel_rfl;kernel_rfl;refine vAz<|nNz<|zK<|thenR ?_)
  (apply finR;exact .inl rfl;rfl;rfl;rfl;apply zD;apply zH;rfl;apply qE;apply zY;exact qF rfl;apply zD;exact zG rfl;exact zF)
  rfl
 rcases Nat.lt_or_ge b 160 with h4|h4
 ·rw [hlow ⟨b,[83,87,65,80]++itoa (b - 143),b - 142,b - 142,0⟩ (by unfold rowOp;rw [if_neg (by omega),if_neg (by omega),if_pos (by omega)])]
  have hn:=number_calls (b - 143) (by omega)
  have hl1:=hl (b - 143)
  (refine sRz ?_;apply zU;rfl;intro _;refine vAz<|nSz<|vMz ?_;refine lvz (.convI rfl (by omega) (by omega)) ?_;refine vAz<|nNz<|zI<|sRz<|vMz ?_;refine lvz (.geqT rfl rfl (by omega)) ?_;refine vMz<|gTz<|vMz<|gTz ?_;refine lvz (.leqF rfl rfl (by omega)) ?_;refine pTz<|nNz<|cFz<|zJ<|thenN<|zI<|sRz<|vMz ?_;refine lvz (.geqT rfl rfl (by omega)) ?_;refine vMz<|gTz<|vMz<|gTz ?_;refine lvz (.leqF rfl rfl (by omega)) ?_;refine pTz<|nNz<|cFz<|zJ<|thenN<|zI<|sRz<|vMz ?_;refine lvz (.geqT rfl rfl (by omega)) ?_;refine vMz<|gTz<|vMz<|gTz ?_;refine lvz (.leqT rfl rfl (by omega)) ?_;refine pTz<|nNz<|cTz<|sRz<|vMz<|vMz ?_;refine lvz (.subZL rfl rfl (by decide) (by omega) (by omega)) ?_;apply zS;rfl;rfl;infer_instance;exact .cons rfl .nil;intro w _;exact hn w;apply LW.v0;rfl;rfl;apply ValP.addStr;rfl;rfl;simp;omega;refine vMz ?_;refine lvz (.subZL rfl rfl (by decide) (by omega) (by omega)) ?_;refine vMz ?_;refine lvz (.subZL rfl rfl (by decide) (by omega) (by omega)) ?_;apply LW.v0;rfl;rfl;apply zW;infer_instance;infer_instance;apply zA;rfl;apply zA;rfl;apply zA;rfl;apply zA;rfl;exact zB;rfl;simp only [fillP,wrCells,Value.cells,qI,qJ,qK,qH,qM,qL,Nat.reduceAdd,qO];rfl;apply zR;rfl;rfl;apply qA;apply Wr.whole;kernel_rfl;kernel_rfl;kernel_rfl;refine vAz<|nNz<|zK<|thenR ?_)
  (apply finR;exact .inl rfl;rfl;rfl;rfl;apply zD;apply zH;rfl;apply qE;apply zY;exact qF rfl;apply zD;exact zG rfl;exact zF)
  rfl
 ·have hr:rowOp b=none:=by unfold rowOp;rw [if_neg (by omega),if_neg (by omega),if_neg (by omega)]
  (refine sRz ?_;apply zU;rfl;intro _;refine vAz<|nSz<|vMz ?_;refine lvz (.convI rfl (by omega) (by omega)) ?_;refine vAz<|nNz<|zI<|sRz<|vMz ?_;refine lvz (.geqT rfl rfl (by omega)) ?_;refine vMz<|gTz<|vMz<|gTz ?_;refine lvz (.leqF rfl rfl (by omega)) ?_;refine pTz<|nNz<|cFz<|zJ<|thenN<|zI<|sRz<|vMz ?_;refine lvz (.geqT rfl rfl (by omega)) ?_;refine vMz<|gTz<|vMz<|gTz ?_;refine lvz (.leqF rfl rfl (by omega)) ?_;refine pTz<|nNz<|cFz<|zJ<|thenN<|zI<|sRz<|vMz ?_;refine lvz (.geqT rfl rfl (by omega)) ?_;refine vMz<|gTz<|vMz<|gTz ?_;refine lvz (.leqF rfl rfl (by omega)) ?_;refine pTz<|nNz<|cFz<|zJ<|thenN<|sRz ?_)
  (apply LW.callR;rfl;rfl;infer_instance;exact ArgsOk.nil;intro w hs)
  exact rPlain_calls w
  intro vp gp hpl
  obtain ⟨bp,rfl,rfl⟩:=hpl
  rename_i bo
  (refine vAz<|nNz<|zI<|sRz<|vAz<|nNz<|zM ?_)
  refine CW.loop (fun i:Nat=>([(0,.int .u8 (b:Int)),(2,.pointer (some ⟨bo,0,none⟩)),(3,.bool false),(5,.slice (some ⟨bp,0,none⟩) 50 50),(6,.int .i64 (i:Int))],[(bp,.cells (opcs plainOps).toArray 86 (0,0)),(bo,.cells (opc zeroOp) 86 (0,0))]))
   (fun i=>i≤50∧∀ j (hj:j < plainOps.length),j < i→plainOps[j].c ≠ b) (fun i=>50 - i) 0 ⟨Nat.zero_le _,fun j hj h=>absurd h (Nat.not_lt_zero _)⟩ ⟨rfl,rfl,rfl,rfl,rfl,trivial⟩ (qN _) ?_
  rintro i ⟨hi,hall⟩
  dsimp only
  rcases Nat.lt_or_ge i 50 with hlt|hge
  ·have hlt':i < plainOps.length:=hlt
   have hrc:=plain_rdc i hlt' (E:=86) (fr:=(0,0))
   have hrd:=plain_rd i hlt' (E:=86) (fr:=(0,0))
   have hop:=fun he=>opOf_plain hr hlt' (fun j hj=>hall j (by omega) hj) he
   obtain ⟨y,hy⟩:∃ y,plainOps[i]=y:=⟨_,rfl⟩
   rw [hy] at hrc hrd hop
   by_cases he:y.c=b
   ·rw [hop he]
    (refine zI<|sRz<|vMz<|vMz<|lvz (.lenR rfl inferInstance rfl) ?_;refine lvz (.lssT rfl rfl (by omega)) ?_;refine nNz<|cTz<|zJ<|thenN<|zI<|zM<|sRz<|vMz<|vMz ?_;refine lvz (.indexAddrS rfl rfl rfl (by omega)) ?_;refine vFz ?_;refine ldz rfl .head (by assumption) ?_;refine vMz ?_;refine lvz (.eqT rfl rfl (by omega)) ?_;refine nNz<|cTz<|sRz<|vMz<|vMz ?_;refine lvz (.indexAddrS rfl rfl rfl (by omega)) ?_;refine ldz rfl .head (by assumption) ?_;apply zR;rfl;rfl;apply qB;apply qA;apply Wr.whole;kernel_rfl;kernel_rfl;kernel_rfl;refine vAz<|nNz<|zK<|blkR<|thenR<|thenR<|blkR<|thenR ?_)
    (apply finR;exact .inl rfl;rfl;rfl;rfl;apply zD;apply zH;rfl;apply qE;apply zX;apply zY;exact qF rfl;apply zD;exact zG rfl;exact zF)
    rfl
   ·(refine zI<|sRz<|vMz<|vMz<|lvz (.lenR rfl inferInstance rfl) ?_;refine lvz (.lssT rfl rfl (by omega)) ?_;refine nNz<|cTz<|zJ<|thenN<|zI<|zM<|sRz<|vMz<|vMz ?_;refine lvz (.indexAddrS rfl rfl rfl (by omega)) ?_;refine vFz ?_;refine ldz rfl .head (by assumption) ?_;refine vMz ?_;refine lvz (.eqF rfl rfl (by omega)) ?_;refine nNz<|cFz<|zJ<|blkN<|thenN<|zL<|vMz ?_;refine lvz (.addZL rfl rfl (by decide) (by omega)) ?_;refine vAz ?_;apply zV)
    apply thenX
    refine ⟨rfl,i+1,⟨hlt,fun j hj hji=>?_⟩,by omega,⟨rfl,rfl,rfl,rfl,rfl,trivial⟩,qN _⟩
    rcases Nat.lt_or_ge j i with h|h
    ·exact hall j hj h
    ·obtain rfl:j=i:=by omega
     rw [hy];exact he
  ·rw [opOf_none hr (fun j hj=>hall j hj (by have:plainOps.length=50:=rfl;omega))]
   (refine zI<|sRz<|vMz<|vMz<|lvz (.lenR rfl inferInstance rfl) ?_;refine lvz (.lssF rfl rfl (by omega)) ?_;refine nNz<|cFz<|CW.exit<|thenE<|thenE<|blkE rfl<|thenN<|sRz ?_;apply LW.v0;rfl;rfl;apply zW;infer_instance;infer_instance;exact zB;rfl;simp only [fillP,wrCells,Value.cells,qI,qJ,qK,qH,qM,qL,Nat.reduceAdd,qO];rfl;apply zR;rfl;rfl;apply qB;apply qA;apply Wr.whole;kernel_rfl;kernel_rfl;kernel_rfl;refine vAz<|nNz<|zK ?_)
   (apply finR;exact .inl rfl;rfl;rfl;rfl;apply zD;apply zH;rfl;apply qE;apply zX;apply zY;exact qF rfl;apply zD;exact zG rfl;exact zF)
   rfl
section
attribute [local irreducible] opOf
def szOf (b:Nat):Nat:=match opOf b with
 |some x=>x.dt
 |none=>0
attribute [local irreducible] szOf
theorem size_calls (b:Nat) (hb:b < 256) (w:World):Calls Tryz.prog 100 #[.int .u8 (b:Int)] w (Ret w (.int .i64 (szOf b:Int))):=by
 have hOf0:=rOf_calls b hb
 refine enter (args:=[_]) _ [] [] Tryz.func100 rfl Tryz.ntmps100 rfl (by simp) .nil ?_
 cases ho:opOf b with
 |none =>
  rw [ho] at hOf0
  have hOf:∀ w,Calls Tryz.prog 50 #[.int .u8 (b:Int)] w (Ret w (.tuple #[.agg (opc zeroOp),.bool false])):=hOf0
  rw [show szOf b=0 by unfold szOf;rw [ho]]
  (refine sRz<|vAz<|nSz<|vMz ?_;apply zS;rfl;rfl;infer_instance;exact .cons rfl .nil;intro w _;exact hOf w;refine vMz ?_;refine vEz ?_;refine vEz ?_;apply zU;rfl;intro _;apply zR;rfl;rfl;apply qA;apply Wr.whole;kernel_rfl;kernel_rfl;kernel_rfl;refine vAz<|nSz<|vFz<|ldz rfl .head (Rd.one' rfl)<|vAz<|nNz<|zK ?_)
  (apply finR;exact .inl rfl;rfl;rfl;rfl;apply zD;exact zG rfl;exact zF)
  rfl
 |some x =>
  rw [ho] at hOf0
  have hOf:∀ w,Calls Tryz.prog 50 #[.int .u8 (b:Int)] w (Ret w (.tuple #[.agg (opc x),.bool true])):=hOf0
  rw [show szOf b=x.dt by unfold szOf;rw [ho]]
  (refine sRz<|vAz<|nSz<|vMz ?_;apply zS;rfl;rfl;infer_instance;exact .cons rfl .nil;intro w _;exact hOf w;refine vMz ?_;refine vEz ?_;refine vEz ?_;apply zU;rfl;intro _;apply zR;rfl;rfl;apply qA;apply Wr.whole;kernel_rfl;kernel_rfl;kernel_rfl;refine vAz<|nSz<|vFz<|ldz rfl .head (Rd.one' rfl)<|vAz<|nNz<|zK ?_)
  (apply finR;exact .inl rfl;rfl;rfl;rfl;apply zD;exact zG rfl;exact zF)
  rfl
theorem Right_calls (v:Value) (n:Nat) (xs:List Value) (w:World) (hv:RowAt w 1 v n xs):Calls Tryz.prog 43 #[v] w (Ret w (.bool (decide (n≤200)))):=by
 obtain ⟨p,c,rfl,hc,hm⟩:=hv.form
 refine enter (args:=[_]) _ [] [] Tryz.func43 rfl Tryz.ntmps43 rfl (by simp) .nil ?_
 (refine sRz<|vAz<|nSz<|vMz<|lvz (.lenR rfl inferInstance rfl)<|lvz (.leq rfl rfl)<|vAz<|nNz<|zK ?_)
 (apply finR;exact .inl rfl;rfl;rfl;rfl;apply zD;exact zG rfl;exact zF)
 rw [show decide (n≤200)=decide (((n:Nat):Int)≤200) from decide_eq_decide.2 (by omega)]
 rfl
theorem CheckC_calls (v:Value) (n:Nat) (xs:List Value) (w:World) (hv:RowAt w 1 v n xs):Calls Tryz.prog 83 #[v] w (Ret w (.int .i64 (if n≤200 then 0 else 3))):=by
 obtain ⟨p,c,rfl,hc,hm⟩:=hv.form
 refine enter (args:=[_]) _ [] [] Tryz.func83 rfl Tryz.ntmps83 rfl (by simp) .nil ?_
 rcases Nat.lt_or_ge 200 n with h|h
 ·rw [if_neg (by omega)]
  (refine sRz<|vAz<|nNz<|zI<|sRz<|vMz<|lvz (.lenR rfl inferInstance rfl) ?_;refine lvz (.gtrT rfl rfl (by omega)) ?_;refine nNz<|cTz<|sRz<|vAz<|nNz<|zK<|thenR ?_)
  (apply finR;exact .inl rfl;rfl;rfl;rfl;apply zD;exact zG rfl;exact zF)
  rfl
 ·rw [if_pos h]
  (refine sRz<|vAz<|nNz<|zI<|sRz<|vMz<|lvz (.lenR rfl inferInstance rfl) ?_;refine lvz (.gtrF rfl rfl (by omega)) ?_;refine nNz<|cFz<|zJ<|thenN<|sRz<|vAz<|nNz<|zK ?_)
  (apply finR;exact .inl rfl;rfl;rfl;rfl;apply zD;exact zG rfl;exact zF)
  rfl
end
section
def opAt (b:Nat):OpV:=match opOf b with
 |some x=>x
 |none=>⟨b,[],0,0,0⟩
theorem opAt_dt (b:Nat):(opAt b).dt=szOf b:=by unfold opAt szOf;cases opOf b<;>rfl
theorem row_dt {b:Nat} {x:OpV} (h:rowOp b=some x):x.dt≤32:=by
 unfold rowOp at h
 split at h
 ·cases h;dsimp only;omega
 ·split at h
  ·cases h;exact Nat.zero_le _
  ·split at h
   ·cases h;exact Nat.zero_le _
   ·cases h
theorem plain_dt:∀ x∈plainOps,x.dt=0:=by decide
theorem opOf_dt {b:Nat} {x:OpV} (h:opOf b=some x):x.dt≤32:=by
 unfold opOf at h
 cases hr:rowOp b with
 |some y=>rw [hr] at h;cases h;exact row_dt hr
 |none=>rw [hr] at h;rw [plain_dt x (List.mem_of_find?_eq_some h)];exact Nat.zero_le _
theorem szOf_le (b:Nat):szOf b≤32:=by
 unfold szOf
 cases h:opOf b with
 |none=>exact Nat.zero_le _
 |some x=>exact opOf_dt h
attribute [local irreducible] opOf
def segsAt (p:Nat) (bs:List UInt8):List (Nat × UInt8 × List UInt8):=match bs with
 |[]=>[]
 |b::r=>(p,b,r.take (szOf b.toNat))::segsAt (p+1+szOf b.toNat) (r.drop (szOf b.toNat))
termination_by bs.length
decreasing_by simp [List.length_drop];omega
theorem segsAt_nil (p:Nat):segsAt p []=[]:=by rw [segsAt]
theorem segsAt_cons (p:Nat) (b:UInt8) (r:List UInt8):segsAt p (b::r)=(p,b,r.take (szOf b.toNat))::segsAt (p+1+szOf b.toNat) (r.drop (szOf b.toNat)):=by rw [segsAt]
theorem segs_step (bs:List UInt8) (p:Nat) (h:p < bs.length):segsAt p (bs.drop p)=(p,bs.getD p 0,(bs.drop (p+1)).take (szOf (bs.getD p 0).toNat))::segsAt (p+szOf (bs.getD p 0).toNat+1) (bs.drop (p+szOf (bs.getD p 0).toNat+1)):=by
 rw [List.drop_eq_getElem_cons h,segsAt_cons,List.drop_drop,show bs[p]=bs.getD p 0 by simp [h],Nat.add_right_comm p 1]
theorem segs_end (bs:List UInt8) (p q:Nat) (h:bs.length≤p):segsAt q (bs.drop p)=[]:=by rw [List.drop_eq_nil_of_le h,segsAt_nil]
end
section
attribute [local irreducible] opOf
def readB (bs:List UInt8) (i:Int):Bool:=(segsAt 0 bs).any fun s=>decide ((s.1:Int)=i)
def readFrom (bs:List UInt8) (p:Nat) (i:Int):Bool:=(segsAt p (bs.drop p)).any fun s=>decide ((s.1:Int)=i)
theorem segsAt_ge (n:Nat):∀ (bs:List UInt8) (p:Nat),bs.length≤n→∀ s∈segsAt p bs,p≤s.1:=by
 induction n with
 |zero =>
  intro bs p h s hs
  rw [List.eq_nil_of_length_eq_zero (show bs.length=0 by omega),segsAt_nil] at hs
  cases hs
 |succ n ih =>
  intro bs p h s hs
  cases bs with
  |nil=>rw [segsAt_nil] at hs;cases hs
  |cons b r =>
   rw [segsAt_cons] at hs
   rcases List.mem_cons.1 hs with rfl|hs
   ·exact Nat.le_refl _
   ·have:=ih (r.drop (szOf b.toNat)) (p+1+szOf b.toNat) (by simp at h ⊢;omega) s hs
    omega
theorem readFrom_gt {bs:List UInt8} {p:Nat} {i:Int} (h:i < (p:Int)):readFrom bs p i=false:=by
 unfold readFrom
 refine List.any_eq_false.2 fun s hs=>?_
 have:=segsAt_ge _ _ p (Nat.le_refl _) s hs
 simp;omega
theorem readFrom_end {bs:List UInt8} {p:Nat} {i:Int} (h:bs.length≤p):readFrom bs p i=false:=by
 unfold readFrom;rw [segs_end bs p p h];rfl
theorem readFrom_hit {bs:List UInt8} {p:Nat} (h:p < bs.length):readFrom bs p (p:Int)=true:=by
 unfold readFrom;rw [segs_step bs p h,List.any_cons];simp
theorem readFrom_step {bs:List UInt8} {p:Nat} {i:Int} (h:p < bs.length) (hi:(p:Int) < i):readFrom bs (p+1+szOf (bs.getD p 0).toNat) i=readFrom bs p i:=by
 unfold readFrom
 rw [segs_step bs p h,List.any_cons,decide_eq_false (by dsimp only;omega),Bool.false_or,Nat.add_right_comm p 1]
theorem Read_calls (bs:List UInt8) (hb:bs.length≤1000) (i:Int) (v:Value) (w:World) (hv:RowAt w 1 v bs.length (ucs bs)):Calls Tryz.prog 45 #[v,.int .i64 i] w (Ret w (.bool (readB bs i))):=by
 obtain ⟨p0,c0,rfl,hc0,hm0⟩:=hv.form
 have h0:readFrom bs 0 i=readB bs i:=by unfold readFrom readB;rw [List.drop_zero]
 refine enter (args:=[_,_]) _ [] [] Tryz.func45 rfl Tryz.ntmps45 rfl (by simp) .nil ?_
 (refine sRz<|vAz<|nSz<|vAz<|nNz<|zI<|zM ?_)
 refine CW.loop (fun k:Nat=>([(0,.slice p0 bs.length c0),(1,.int .i64 i),(4,.bool false),(5,.int .i64 (k:Int))],[]))
  (fun k=>k≤2000∧readFrom bs k i=readB bs i) (fun k=>bs.length - k) 0 ⟨Nat.zero_le _,h0⟩ ⟨rfl,rfl,rfl,rfl,trivial⟩ (qN _) ?_
 rintro k ⟨hk,hr⟩
 dsimp only
 rcases Nat.lt_or_ge k bs.length with hlt|hge
 ·rcases Int.lt_or_le (k:Int) i with hki|hki
  ·obtain ⟨b,off,c',cs,E,fr,heq,hbk,hx⟩:=hv.pos (by omega)
   cases heq
   have hst:=readFrom_step hlt hki
   obtain ⟨u,hu⟩:∃ u,bs.getD k 0=u:=⟨_,rfl⟩
   rw [hu,hr] at hst
   have hrd:Rd Tryz.prog 5 (.cells cs E fr) (off+k * 1) (.int .u8 (u.toNat:Int)):=Rd.elem1 hx (ucs_one bs) (List.getElem?_eq_getElem hlt) (by rw [← hu];simp [hlt])
   have hSz:=size_calls u.toNat u.toNat_lt
   have hzl:=szOf_le u.toNat
   obtain ⟨z,hz⟩:∃ z,szOf u.toNat=z:=⟨_,rfl⟩
   rw [hz] at hSz hzl hst
   (refine zI<|sRz<|vMz<|vMz<|lvz (.lenR rfl inferInstance rfl) ?_;refine lvz (.lssT rfl rfl (by omega)) ?_;refine vMz<|gTz<|vMz<|gTz<|vMz<|gTz ?_;refine lvz (.lssT rfl rfl (by omega)) ?_;refine pTz<|nNz<|cTz<|zJ<|thenN<|zM<|zL<|vMz ?_;refine lvz (.addZL rfl rfl (by decide) (by omega)) ?_;refine vMz<|vMz ?_;refine lvz (.indexAddrS rfl rfl rfl (by omega)) ?_;apply LW.load;rfl;rfl;exact Known.ext (by assumption) (by simp);assumption;apply zS;rfl;rfl;infer_instance;exact .cons rfl .nil;intro w _;exact hSz w;refine lvz (.addZ rfl rfl (by omega)) ?_;refine vAz ?_;apply zV;refine blkN ?_)
   apply thenX
   exact ⟨rfl,k+1+z,⟨by omega,hst⟩,by omega,⟨rfl,rfl,rfl,rfl,trivial⟩,qN _⟩
  ·rcases Int.lt_or_eq_of_le hki with hlt'|heq
   ·rw [← hr,readFrom_gt hlt']
    have hne:¬ (k:Int)=i:=by omega
    (refine zI<|sRz<|vMz<|vMz<|lvz (.lenR rfl inferInstance rfl) ?_;refine lvz (.lssT rfl rfl (by omega)) ?_;refine vMz<|gTz<|vMz<|gTz<|vMz<|gTz ?_;refine lvz (.lssF rfl rfl (by omega)) ?_;refine pTz<|nNz<|cFz<|CW.exit<|thenE<|thenE<|blkE rfl<|thenN<|sRz<|vMz<|vMz ?_;refine lvz (.eqF rfl rfl (by omega)) ?_;refine vMz<|gFz<|gFz<|pFz<|vMz ?_;(iterate 4 refine gFz ?_);refine pFz<|vAz<|nNz<|zK ?_)
    (apply finR;exact .inl rfl;rfl;rfl;rfl;apply zD;exact zG rfl;exact zF)
    rfl
   ·subst heq
    rw [← hr,readFrom_hit hlt]
    (refine zI<|sRz<|vMz<|vMz<|lvz (.lenR rfl inferInstance rfl) ?_;refine lvz (.lssT rfl rfl (by omega)) ?_;refine vMz<|gTz<|vMz<|gTz<|vMz<|gTz ?_;refine lvz (.lssF rfl rfl (by omega)) ?_;refine pTz<|nNz<|cFz<|CW.exit<|thenE<|thenE<|blkE rfl<|thenN<|sRz<|vMz<|vMz ?_;refine lvz (.eqT rfl rfl (by omega)) ?_;refine vMz<|gTz<|vMz<|gTz ?_;refine lvz (.geqT rfl rfl (by omega)) ?_;refine pTz<|vMz<|gTz<|vMz<|gTz<|vMz<|gTz<|lvz (.lenR rfl inferInstance rfl)<|gTz ?_;refine lvz (.lssT rfl rfl (by omega)) ?_;refine pTz<|vAz<|nNz<|zK ?_)
    (apply finR;exact .inl rfl;rfl;rfl;rfl;apply zD;exact zG rfl;exact zF)
    rfl
 ·rw [← hr,readFrom_end hge]
  by_cases heq:(k:Int)=i
  ·subst heq
   (refine zI<|sRz<|vMz<|vMz<|lvz (.lenR rfl inferInstance rfl) ?_;refine lvz (.lssF rfl rfl (by omega)) ?_;refine vMz ?_;(iterate 3 refine gFz ?_);refine pFz<|nNz<|cFz<|CW.exit<|thenE<|thenE<|blkE rfl<|thenN<|sRz<|vMz<|vMz ?_;refine lvz (.eqT rfl rfl (by omega)) ?_;refine vMz<|gTz<|vMz<|gTz ?_;refine lvz (.geqT rfl rfl (by omega)) ?_;refine pTz<|vMz<|gTz<|vMz<|gTz<|vMz<|gTz<|lvz (.lenR rfl inferInstance rfl)<|gTz ?_;refine lvz (.lssF rfl rfl (by omega)) ?_;refine pTz<|vAz<|nNz<|zK ?_)
   (apply finR;exact .inl rfl;rfl;rfl;rfl;apply zD;exact zG rfl;exact zF)
   rfl
  ·(refine zI<|sRz<|vMz<|vMz<|lvz (.lenR rfl inferInstance rfl) ?_;refine lvz (.lssF rfl rfl (by omega)) ?_;refine vMz ?_;(iterate 3 refine gFz ?_);refine pFz<|nNz<|cFz<|CW.exit<|thenE<|thenE<|blkE rfl<|thenN<|sRz<|vMz<|vMz ?_;refine lvz (.eqF rfl rfl (by omega)) ?_;refine vMz<|gFz<|gFz<|pFz<|vMz ?_;(iterate 4 refine gFz ?_);refine pFz<|vAz<|nNz<|zK ?_)
   (apply finR;exact .inl rfl;rfl;rfl;rfl;apply zD;exact zG rfl;exact zF)
   rfl
end
end Go.Proofs.YtdeggbkbblfpoaaGreatDoor.CK
namespace Go.Proofs.YtdeggbkbblfpoaaGreatDoor
open Go Go.RowKit SL
set_option maxRecDepth 8000
set_option maxHeartbeats 4000000
set_option linter.unusedSimpArgs false
set_option linter.unusedVariables false
attribute [local irreducible] SL.CW SL.LW SL.DW Calls SL.Ret SL.RetG SL.beginQ SL.roundQ SL.rangeQ SL.inQ SL.RW SL.AnyW SL.thenQ SL.thenC SL.thenW SL.blkQ SL.finQ SL.ValP SL.NewP SL.SetP SL.CallP SL.Rd SL.Wr SL.Known
section
open CK (readB readFrom readFrom_step readFrom_hit readFrom_gt readFrom_end szOf szOf_le CheckC_calls)
attribute [local irreducible] opOf szOf
def opX (b:Nat):OpV:=(opOf b).getD zeroOp
theorem opX_dt (b:Nat):(opX b).dt=szOf b:=by
 unfold opX szOf
 cases opOf b<;>rfl
theorem OfX_calls (b:Nat) (hb:b < 256) (w:World):∃ e:Int,(∀ w,Calls Tryz.prog 91 #[.int .u8 (b:Int)] w (Ret w (.tuple #[.agg (opc (opX b)),.int .i64 e])))∧e=(if (opOf b).isSome then 0 else 4):=by
 cases ho:opOf b with
 |none=>exact ⟨4,fun w=>by have h:=Of_op_calls b hb w;rw [ho] at h;unfold opX;rw [ho];exact h,rfl⟩
 |some x=>exact ⟨0,fun w=>by have h:=Of_op_calls b hb w;rw [ho] at h;unfold opX;rw [ho];exact h,rfl⟩
attribute [local irreducible] opX
theorem fread_calls (bs:List UInt8) (hb:bs.length≤1000) (i:Int) (v:Value) (w:World) (hv:RowAt w 1 v bs.length (ucs bs)):Calls Tryz.prog 85 #[v,.int .i64 i] w (Ret w (.bool (readB bs i))):=by
 obtain ⟨p0,c0,rfl,hc0,hm0⟩:=hv.form
 have h0:readFrom bs 0 i=readB bs i:=by unfold readFrom readB;rw [List.drop_zero]
 refine enter (args:=[_,_]) _ [] [] Tryz.func85 rfl Tryz.ntmps85 rfl (by simp) .nil ?_
 (refine sRz<|vAz<|nSz<|vAz<|nNz<|zI<|zM ?_)
 refine CW.loop (fun k:Nat=>([(0,.slice p0 bs.length c0),(1,.int .i64 i),(4,.bool false),(5,.int .i64 (k:Int))],[]))
  (fun k=>k≤2000∧readFrom bs k i=readB bs i) (fun k=>bs.length - k) 0 ⟨Nat.zero_le _,h0⟩ ⟨rfl,rfl,rfl,rfl,trivial⟩ (qN _) ?_
 rintro k ⟨hk,hr⟩
 dsimp only
 rcases Nat.lt_or_ge k bs.length with hlt|hge
 ·rcases Int.lt_or_le (k:Int) i with hki|hki
  ·obtain ⟨b,off,c',cs,E,fr,heq,hbk,hx⟩:=hv.pos (by omega)
   cases heq
   have hst:=readFrom_step hlt hki
   obtain ⟨u,hu⟩:∃ u,bs.getD k 0=u:=⟨_,rfl⟩
   rw [hu,hr] at hst
   have hrd:Rd Tryz.prog 5 (.cells cs E fr) (off+k * 1) (.int .u8 (u.toNat:Int)):=Rd.elem1 hx (ucs_one bs) (List.getElem?_eq_getElem hlt) (by rw [← hu];simp [hlt])
   obtain ⟨e,hOf,_⟩:=OfX_calls u.toNat u.toNat_lt w
   have hzl:=szOf_le u.toNat
   rw [← opX_dt] at hst hzl
   rw [Nat.add_assoc] at hst
   (refine zI<|sRz<|vMz<|vMz ?_;refine lvz (.lssT rfl rfl (by omega)) ?_;refine vMz<|gTz<|vMz<|gTz<|vMz<|gTz<|lvz (.lenR rfl inferInstance rfl)<|gTz ?_;refine lvz (.lssT rfl rfl (by omega)) ?_;refine pTz<|nNz<|cTz<|zJ<|thenN<|zM<|sRz<|vMz<|vMz ?_;refine lvz (.indexAddrS rfl rfl rfl (by omega)) ?_;apply LW.load;rfl;rfl;exact Known.ext (by assumption) (by simp);assumption;apply zS;rfl;rfl;infer_instance;exact .cons rfl .nil;intro w _;exact hOf w;refine vMz ?_;refine vEz ?_;refine vEz ?_;apply zU;rfl;intro _;refine zR rfl rfl .head (.whole rfl rfl rfl)<|vAz<|nNz<|zL<|vMz<|vFz<|ldz rfl .head (Rd.one' rfl) ?_;refine lvz (.addZK rfl rfl (by decide) (by omega)) ?_;refine lvz (.addZ rfl rfl (by omega)) ?_;refine vAz ?_;apply zV;refine blkN ?_)
   apply thenX
   exact ⟨rfl,k+(1+(opX u.toNat).dt),⟨by omega,hst⟩,by omega,⟨rfl,rfl,rfl,rfl,trivial⟩,List.nil_sublist _⟩
  ·rcases Int.lt_or_eq_of_le hki with hlt'|heq
   ·rw [← hr,readFrom_gt hlt']
    have hne:¬ (k:Int)=i:=by omega
    (refine zI<|sRz<|vMz<|vMz ?_;refine lvz (.lssF rfl rfl (by omega)) ?_;refine vMz ?_;(iterate 4 refine gFz ?_);refine pFz<|nNz<|cFz<|CW.exit<|thenE<|thenE<|blkE rfl<|thenN<|sRz<|vMz<|vMz ?_;refine lvz (.eqF rfl rfl (by omega)) ?_;refine vMz ?_;(iterate 4 refine gFz ?_);refine pFz<|vAz<|nNz<|zK ?_)
    (apply finR;exact .inl rfl;rfl;rfl;rfl;apply zD;exact zG rfl;exact zF)
    rfl
   ·subst heq
    rw [← hr,readFrom_hit hlt]
    (refine zI<|sRz<|vMz<|vMz ?_;refine lvz (.lssF rfl rfl (by omega)) ?_;refine vMz ?_;(iterate 4 refine gFz ?_);refine pFz<|nNz<|cFz<|CW.exit<|thenE<|thenE<|blkE rfl<|thenN<|sRz<|vMz<|vMz ?_;refine lvz (.eqT rfl rfl (by omega)) ?_;refine vMz<|gTz<|vMz<|gTz<|vMz<|gTz<|lvz (.lenR rfl inferInstance rfl)<|gTz ?_;refine lvz (.lssT rfl rfl (by omega)) ?_;refine pTz<|vAz<|nNz<|zK ?_)
    (apply finR;exact .inl rfl;rfl;rfl;rfl;apply zD;exact zG rfl;exact zF)
    rfl
 ·rw [← hr,readFrom_end hge]
  rcases Int.lt_or_le (k:Int) i with hki|hki
  ·have hne:¬ (k:Int)=i:=by omega
   (refine zI<|sRz<|vMz<|vMz ?_;refine lvz (.lssT rfl rfl (by omega)) ?_;refine vMz<|gTz<|vMz<|gTz<|vMz<|gTz<|lvz (.lenR rfl inferInstance rfl)<|gTz ?_;refine lvz (.lssF rfl rfl (by omega)) ?_;refine pTz<|nNz<|cFz<|CW.exit<|thenE<|thenE<|blkE rfl<|thenN<|sRz<|vMz<|vMz ?_;refine lvz (.eqF rfl rfl (by omega)) ?_;refine vMz ?_;(iterate 4 refine gFz ?_);refine pFz<|vAz<|nNz<|zK ?_)
   (apply finR;exact .inl rfl;rfl;rfl;rfl;apply zD;exact zG rfl;exact zF)
   rfl
  ·by_cases heq:(k:Int)=i
   ·subst heq
    (refine zI<|sRz<|vMz<|vMz ?_;refine lvz (.lssF rfl rfl (by omega)) ?_;refine vMz ?_;(iterate 4 refine gFz ?_);refine pFz<|nNz<|cFz<|CW.exit<|thenE<|thenE<|blkE rfl<|thenN<|sRz<|vMz<|vMz ?_;refine lvz (.eqT rfl rfl (by omega)) ?_;refine vMz<|gTz<|vMz<|gTz<|vMz<|gTz<|lvz (.lenR rfl inferInstance rfl)<|gTz ?_;refine lvz (.lssF rfl rfl (by omega)) ?_;refine pTz<|vAz<|nNz<|zK ?_)
    (apply finR;exact .inl rfl;rfl;rfl;rfl;apply zD;exact zG rfl;exact zF)
    rfl
   ·(refine zI<|sRz<|vMz<|vMz ?_;refine lvz (.lssF rfl rfl (by omega)) ?_;refine vMz ?_;(iterate 4 refine gFz ?_);refine pFz<|nNz<|cFz<|CW.exit<|thenE<|thenE<|blkE rfl<|thenN<|sRz<|vMz<|vMz ?_;refine lvz (.eqF rfl rfl (by omega)) ?_;refine vMz ?_;(iterate 4 refine gFz ?_);refine pFz<|vAz<|nNz<|zK ?_)
    (apply finR;exact .inl rfl;rfl;rfl;rfl;apply zD;exact zG rfl;exact zF)
    rfl
structure FrL where
 cl:List UInt8
 ws:List Nat
 ms:List UInt8
 il:List UInt8
 bl:List UInt8
structure FrRows (w:World) (f:FrV) (L:FrL):Prop where
 c:RowAt w 1 f.code L.cl.length (ucs L.cl)
 s:RowAt w 4 f.stk L.ws.length (wcs L.ws)
 m:RowAt w 1 f.mem L.ms.length (ucs L.ms)
 i:RowAt w 1 f.inp L.il.length (ucs L.il)
 b:RowAt w 1 f.back L.bl.length (ucs L.bl)
theorem FrRows.st {w0 w:World} {f:FrV} {L:FrL} {fs:Fs} (h:FrRows w0 f L) (hs:St w0 [] fs w):FrRows w f L:=⟨h.c.st hs,h.s.st hs,h.m.st hs,h.i.st hs,h.b.st hs⟩
theorem FrRows.bel {w0 w:World} {f:FrV} {L:FrL} (h:FrRows w0 f L) (hb:Bel w0.heap.size [] w0 w):FrRows w f L:=⟨h.c.bel hb,h.s.bel hb,h.m.bel hb,h.i.bel hb,h.b.bel hb⟩
abbrev fra (f:FrV):Array Value:=(frc f).toArray
abbrev frv (f:FrV):Value:=.agg (fra f)
section rd
variable {P : Program} {T E : TypeId} {fr : Nat × Nat} {code stk mem inp back : Value} {pc : Int} {gas self frm val : Nat} {stat : Bool}
theorem fr_rd0 [AgI P T false]:Rd P T (.cells (fra ⟨code,pc,stk,mem,gas,self,frm,val,inp,back,stat⟩) E fr) 0 code:=Rd.one rfl
theorem fr_rd1 [AgI P T false]:Rd P T (.cells (fra ⟨code,pc,stk,mem,gas,self,frm,val,inp,back,stat⟩) E fr) 1 (.int .i64 pc):=Rd.one rfl
theorem fr_rd2 [AgI P T true] {z:Value} [InfoI P T 2 z]:Rd P T (.cells (fra ⟨code,pc,stk,mem,gas,self,frm,val,inp,back,stat⟩) E fr) 2 (.agg #[stk,mem]):=Rd.mid (cs:=[stk,mem]) rfl rfl
theorem fr_rd2s [AgI P T false]:Rd P T (.cells (fra ⟨code,pc,stk,mem,gas,self,frm,val,inp,back,stat⟩) E fr) 2 stk:=Rd.one rfl
theorem fr_rd3 [AgI P T false]:Rd P T (.cells (fra ⟨code,pc,stk,mem,gas,self,frm,val,inp,back,stat⟩) E fr) 3 mem:=Rd.one rfl
theorem fr_rd4 [AgI P T false]:Rd P T (.cells (fra ⟨code,pc,stk,mem,gas,self,frm,val,inp,back,stat⟩) E fr) 4 (.int .u64 (gas:Int)):=Rd.one rfl
theorem fr_rd5 [AgI P T false]:Rd P T (.cells (fra ⟨code,pc,stk,mem,gas,self,frm,val,inp,back,stat⟩) E fr) 5 (.int .u64 (self:Int)):=Rd.one rfl
theorem fr_rd6 [AgI P T false]:Rd P T (.cells (fra ⟨code,pc,stk,mem,gas,self,frm,val,inp,back,stat⟩) E fr) 6 (.int .u64 (frm:Int)):=Rd.one rfl
theorem fr_rd7 [AgI P T true] {z:Value} [InfoI P T 4 z]:Rd P T (.cells (fra ⟨code,pc,stk,mem,gas,self,frm,val,inp,back,stat⟩) E fr) 7 (wv val):=Rd.mid (cs:=(wc val).toList) rfl rfl
theorem fr_rd11 [AgI P T false]:Rd P T (.cells (fra ⟨code,pc,stk,mem,gas,self,frm,val,inp,back,stat⟩) E fr) 11 inp:=Rd.one rfl
theorem fr_rd12 [AgI P T false]:Rd P T (.cells (fra ⟨code,pc,stk,mem,gas,self,frm,val,inp,back,stat⟩) E fr) 12 back:=Rd.one rfl
theorem fr_rd13 [AgI P T false]:Rd P T (.cells (fra ⟨code,pc,stk,mem,gas,self,frm,val,inp,back,stat⟩) E fr) 13 (.bool stat):=Rd.one rfl
theorem fr_rdW {f:FrV} {z:Value} [AgI P T true] [InfoI P T 14 z]:Rd P T (.cells (fra f) E fr) 0 (frv f):=qF rfl
end rd
def okF (f:FrV) (L:FrL):Prop:=(L.il.length≤1024∧L.bl.length≤1024∧f.gas≤20000)∧¬ f.self=0∧L.cl.length≤200∧okSc L.ws.length L.ms.length∧(f.pc=(L.cl.length:Int)∨readB L.cl f.pc=true)
instance (f:FrV) (L:FrL):Decidable (okF f L):=by unfold okF;infer_instance
theorem fCheck_calls (f:FrV) (L:FrL) (w:World) (h:FrRows w f L):Calls Tryz.prog 34 #[frv f] w (Ret w (.int .i64 (if okF f L then 0 else 240))):=by
 obtain ⟨e,he⟩:∃ e:Int,e=if okF f L then 0 else 240:=⟨_,rfl⟩
 have hp:okF f L→e=0:=fun h=>by rw [he,if_pos h]
 have hn:¬ okF f L→e=240:=fun h=>by rw [he,if_neg h]
 rw [← he]
 clear he
 unfold okF at hp hn
 obtain ⟨code,pc,stk,mem,gas,self,frm,val,inp,back,stat⟩:=f
 obtain ⟨h0,h2,h3,h11,h12⟩:=h
 dsimp only at h0 h2 h3 h11 h12 hp hn
 obtain ⟨p0,c0,rfl,_,hm0⟩:=h0.form
 obtain ⟨p2,c2,rfl,_,hm2⟩:=h2.form
 obtain ⟨p3,c3,rfl,_,hm3⟩:=h3.form
 obtain ⟨p11,c11,rfl,_,hm11⟩:=h11.form
 obtain ⟨p12,c12,rfl,_,hm12⟩:=h12.form
 have hS0:=scCheck_calls p2 p3 L.ws.length c2 L.ms.length c3 (by omega) (by omega)
 have hC0:∀ w' {fs},St w [] fs w'→Calls Tryz.prog 83 #[.slice p0 L.cl.length c0] w' (Ret w' (.int .i64 (if L.cl.length≤200 then 0 else 3))):=fun w' fs hst=>CheckC_calls _ _ _ w' (h0.st hst)
 simp only [maxLen] at hm0 hm2 hm3 hm11 hm12
 refine enter (args:=[_]) _ [] [] Tryz.func34 rfl Tryz.ntmps34 rfl (by simp) .nil ?_
 by_cases hc:L.cl.length≤200
 ·have hRd0:∀ w' {fs},St w [] fs w'→Calls Tryz.prog 85 #[.slice p0 L.cl.length c0,.int .i64 pc] w' (Ret w' (.bool (readB L.cl pc))):=fun w' fs hst=>fread_calls _ (by omega) _ _ w' (h0.st hst)
  rw [if_pos hc] at hC0
  have hC:∀ w' {fs},St w [] fs w'→Calls Tryz.prog 83 #[.slice p0 L.cl.length c0] w' (Ret w' (.int .i64 0)):=hC0
  by_cases hs:okSc L.ws.length L.ms.length
  ·rw [if_pos hs] at hS0
   have hS:∀ w',Calls Tryz.prog 84 #[.agg #[.slice p2 L.ws.length c2,.slice p3 L.ms.length c3]] w' (Ret w' (.int .i64 0)):=hS0
   simp only [hs,true_and] at hp hn
   by_cases hpc:pc=(L.cl.length:Int)
   ·simp only [hpc,true_or,and_true] at hp hn
    subst hpc
    (refine sRz ?_;apply zT;rfl;rfl;intro _;refine vAz<|nSz<|vFz<|ldz rfl .head fr_rd11<|lvz (.lenR rfl inferInstance rfl)<|lvz (.gtr rfl rfl)<|vMz ?_)
    (refine LW.guardDF rfl rfl rfl (fun hsq hsp=>?_) (fun hsq hsp=>?_))
    (refine vFz<|gTaz<|ldz rfl .head fr_rd12<|gTaz<|lvz (.lenR rfl inferInstance rfl)<|gTaz<|lvz (.gtr rfl rfl)<|pFaz<|vMz ?_;refine LW.guardDF rfl rfl rfl (fun hsq hsp=>?_) (fun hsq hsp=>?_);refine vFz<|gTaz<|ldz rfl .head fr_rd4<|gTaz<|lvz (.gtr rfl rfl)<|pFaz<|vAz<|nNz<|zI<|sRz<|vMz<|vMz ?_;refine LW.guardDF rfl rfl rfl (fun hsq hsp=>?_) (fun hsq hsp=>?_);refine vFz<|gTaz<|ldz rfl .head fr_rd5<|gTaz<|lvz (.eq rfl rfl)<|pFaz<|vMz ?_;refine LW.guardDF rfl rfl rfl (fun hsq hsp=>?_) (fun hsq hsp=>?_);refine vFz<|gTaz<|ldz rfl .head fr_rd0<|gTaz ?_;apply zS;rfl;rfl;infer_instance;exact .cons rfl .nil;intro w _;exact hC w (by assumption);refine gTaz ?_;refine lvz (.neF rfl rfl (by omega)) ?_;refine pFaz<|vMz<|gTz<|vFz<|gTz<|ldz rfl .head fr_rd2<|gTz ?_;apply zS;rfl;rfl;infer_instance;exact .cons rfl .nil;intro w _;exact hS w;refine gTz ?_;refine lvz (.neF rfl rfl (by omega)) ?_;refine pFz<|nNz<|cFz<|zJ<|thenN<|zI<|sRz<|vFz<|ldz rfl .head fr_rd1<|vFz<|ldz rfl .head fr_rd0<|lvz (.lenR rfl inferInstance rfl) ?_;refine lvz (.neF rfl rfl (by omega)) ?_;refine vMz ?_;(iterate 6 refine gFz ?_);refine pFz<|nNz<|cFz<|zJ<|thenN<|sRz<|vAz<|nNz<|zK ?_;apply finR;exact .inl rfl;rfl;rfl;rfl;apply zD;exact zG rfl;exact zF;rw [hp (by omega)];rfl;(iterate 3 refine gFaz ?_);refine pTaz<|vMz ?_;(iterate 4 refine gFz ?_);refine pTz<|nNz<|cTz<|sRz<|vAz<|nNz<|zK ?_;refine thenR (finR (.inl rfl) rfl rfl rfl (.cons (.tmp rfl) .nil) ?_);rw [hn (by omega)];rfl;refine gFaz<|gFaz<|pTaz<|vMz ?_;(iterate 4 refine gFz ?_);refine pTz<|vMz ?_;(iterate 4 refine gFz ?_);refine pTz<|nNz<|cTz<|sRz<|vAz<|nNz<|zK ?_;refine thenR (finR (.inl rfl) rfl rfl rfl (.cons (.tmp rfl) .nil) ?_);rw [hn (by omega)];rfl;refine gFaz<|gFaz<|pTaz<|vAz<|nNz<|zI<|sRz<|vMz<|vMz ?_;(iterate 3 refine gFz ?_);refine pTz<|vMz ?_;(iterate 4 refine gFz ?_);refine pTz<|vMz ?_;(iterate 4 refine gFz ?_);refine pTz<|nNz<|cTz<|sRz<|vAz<|nNz<|zK ?_;refine thenR (finR (.inl rfl) rfl rfl rfl (.cons (.tmp rfl) .nil) ?_);rw [hn (by omega)];rfl;(iterate 3 refine gFaz ?_);refine pTaz<|vMz ?_;(iterate 3 refine gFz ?_);refine pTz<|vAz<|nNz<|zI<|sRz<|vMz<|vMz ?_;(iterate 3 refine gFz ?_);refine pTz<|vMz ?_;(iterate 4 refine gFz ?_);refine pTz<|vMz ?_;(iterate 4 refine gFz ?_);refine pTz<|nNz<|cTz<|sRz<|vAz<|nNz<|zK ?_;refine thenR (finR (.inl rfl) rfl rfl rfl (.cons (.tmp rfl) .nil) ?_);rw [hn (by omega)];rfl)
   ·cases hr:readB L.cl pc with
    |true =>
     rw [hr] at hRd0 hp hn
     have hRd:∀ w' {fs},St w [] fs w'→Calls Tryz.prog 85 #[.slice p0 L.cl.length c0,.int .i64 pc] w' (Ret w' (.bool true)):=hRd0
     simp only [or_true,and_true] at hp hn
     (refine sRz ?_;apply zT;rfl;rfl;intro _;refine vAz<|nSz<|vFz<|ldz rfl .head fr_rd11<|lvz (.lenR rfl inferInstance rfl)<|lvz (.gtr rfl rfl)<|vMz ?_)
     (refine LW.guardDF rfl rfl rfl (fun hsq hsp=>?_) (fun hsq hsp=>?_))
     (refine vFz<|gTaz<|ldz rfl .head fr_rd12<|gTaz<|lvz (.lenR rfl inferInstance rfl)<|gTaz<|lvz (.gtr rfl rfl)<|pFaz<|vMz ?_;refine LW.guardDF rfl rfl rfl (fun hsq hsp=>?_) (fun hsq hsp=>?_);refine vFz<|gTaz<|ldz rfl .head fr_rd4<|gTaz<|lvz (.gtr rfl rfl)<|pFaz<|vAz<|nNz<|zI<|sRz<|vMz<|vMz ?_;refine LW.guardDF rfl rfl rfl (fun hsq hsp=>?_) (fun hsq hsp=>?_);refine vFz<|gTaz<|ldz rfl .head fr_rd5<|gTaz<|lvz (.eq rfl rfl)<|pFaz<|vMz ?_;refine LW.guardDF rfl rfl rfl (fun hsq hsp=>?_) (fun hsq hsp=>?_);refine vFz<|gTaz<|ldz rfl .head fr_rd0<|gTaz ?_;apply zS;rfl;rfl;infer_instance;exact .cons rfl .nil;intro w _;exact hC w (by assumption);refine gTaz ?_;refine lvz (.neF rfl rfl (by omega)) ?_;refine pFaz<|vMz<|gTz<|vFz<|gTz<|ldz rfl .head fr_rd2<|gTz ?_;apply zS;rfl;rfl;infer_instance;exact .cons rfl .nil;intro w _;exact hS w;refine gTz ?_;refine lvz (.neF rfl rfl (by omega)) ?_;refine pFz<|nNz<|cFz<|zJ<|thenN<|zI<|sRz<|vFz<|ldz rfl .head fr_rd1<|vFz<|ldz rfl .head fr_rd0<|lvz (.lenR rfl inferInstance rfl) ?_;refine lvz (.neT rfl rfl (by omega)) ?_;refine vMz<|gTz<|vFz<|gTz<|ldz rfl .head fr_rd0<|gTz<|vFz<|gTz<|ldz rfl .head fr_rd1<|gTz ?_;apply zS;rfl;rfl;infer_instance;exact .cons rfl (.cons rfl .nil);intro w _;exact hRd w (by assumption);refine gTz ?_;refine lvz (.notT rfl (by with_reducible rfl)) ?_;refine pTz<|nNz<|cFz<|zJ<|thenN<|sRz<|vAz<|nNz<|zK ?_;apply finR;exact .inl rfl;rfl;rfl;rfl;apply zD;exact zG rfl;exact zF;rw [hp (by omega)];rfl;(iterate 3 refine gFaz ?_);refine pTaz<|vMz ?_;(iterate 4 refine gFz ?_);refine pTz<|nNz<|cTz<|sRz<|vAz<|nNz<|zK ?_;refine thenR (finR (.inl rfl) rfl rfl rfl (.cons (.tmp rfl) .nil) ?_);rw [hn (by omega)];rfl;refine gFaz<|gFaz<|pTaz<|vMz ?_;(iterate 4 refine gFz ?_);refine pTz<|vMz ?_;(iterate 4 refine gFz ?_);refine pTz<|nNz<|cTz<|sRz<|vAz<|nNz<|zK ?_;refine thenR (finR (.inl rfl) rfl rfl rfl (.cons (.tmp rfl) .nil) ?_);rw [hn (by omega)];rfl;refine gFaz<|gFaz<|pTaz<|vAz<|nNz<|zI<|sRz<|vMz<|vMz ?_;(iterate 3 refine gFz ?_);refine pTz<|vMz ?_;(iterate 4 refine gFz ?_);refine pTz<|vMz ?_;(iterate 4 refine gFz ?_);refine pTz<|nNz<|cTz<|sRz<|vAz<|nNz<|zK ?_;refine thenR (finR (.inl rfl) rfl rfl rfl (.cons (.tmp rfl) .nil) ?_);rw [hn (by omega)];rfl;(iterate 3 refine gFaz ?_);refine pTaz<|vMz ?_;(iterate 3 refine gFz ?_);refine pTz<|vAz<|nNz<|zI<|sRz<|vMz<|vMz ?_;(iterate 3 refine gFz ?_);refine pTz<|vMz ?_;(iterate 4 refine gFz ?_);refine pTz<|vMz ?_;(iterate 4 refine gFz ?_);refine pTz<|nNz<|cTz<|sRz<|vAz<|nNz<|zK ?_;refine thenR (finR (.inl rfl) rfl rfl rfl (.cons (.tmp rfl) .nil) ?_);rw [hn (by omega)];rfl)
    |false =>
     rw [hr] at hRd0 hp hn
     have hRd:∀ w' {fs},St w [] fs w'→Calls Tryz.prog 85 #[.slice p0 L.cl.length c0,.int .i64 pc] w' (Ret w' (.bool false)):=hRd0
     simp only [Bool.false_eq_true,or_false] at hp hn
     (refine sRz ?_;apply zT;rfl;rfl;intro _;refine vAz<|nSz<|vFz<|ldz rfl .head fr_rd11<|lvz (.lenR rfl inferInstance rfl)<|lvz (.gtr rfl rfl)<|vMz ?_)
     (refine LW.guardDF rfl rfl rfl (fun hsq hsp=>?_) (fun hsq hsp=>?_))
     (refine vFz<|gTaz<|ldz rfl .head fr_rd12<|gTaz<|lvz (.lenR rfl inferInstance rfl)<|gTaz<|lvz (.gtr rfl rfl)<|pFaz<|vMz ?_;refine LW.guardDF rfl rfl rfl (fun hsq hsp=>?_) (fun hsq hsp=>?_);refine vFz<|gTaz<|ldz rfl .head fr_rd4<|gTaz<|lvz (.gtr rfl rfl)<|pFaz<|vAz<|nNz<|zI<|sRz<|vMz<|vMz ?_;refine LW.guardDF rfl rfl rfl (fun hsq hsp=>?_) (fun hsq hsp=>?_);refine vFz<|gTaz<|ldz rfl .head fr_rd5<|gTaz<|lvz (.eq rfl rfl)<|pFaz<|vMz ?_;refine LW.guardDF rfl rfl rfl (fun hsq hsp=>?_) (fun hsq hsp=>?_);refine vFz<|gTaz<|ldz rfl .head fr_rd0<|gTaz ?_;apply zS;rfl;rfl;infer_instance;exact .cons rfl .nil;intro w _;exact hC w (by assumption);refine gTaz ?_;refine lvz (.neF rfl rfl (by omega)) ?_;refine pFaz<|vMz<|gTz<|vFz<|gTz<|ldz rfl .head fr_rd2<|gTz ?_;apply zS;rfl;rfl;infer_instance;exact .cons rfl .nil;intro w _;exact hS w;refine gTz ?_;refine lvz (.neF rfl rfl (by omega)) ?_;refine pFz<|nNz<|cFz<|zJ<|thenN<|zI<|sRz<|vFz<|ldz rfl .head fr_rd1<|vFz<|ldz rfl .head fr_rd0<|lvz (.lenR rfl inferInstance rfl) ?_;refine lvz (.neT rfl rfl (by omega)) ?_;refine vMz<|gTz<|vFz<|gTz<|ldz rfl .head fr_rd0<|gTz<|vFz<|gTz<|ldz rfl .head fr_rd1<|gTz ?_;apply zS;rfl;rfl;infer_instance;exact .cons rfl (.cons rfl .nil);intro w _;exact hRd w (by assumption);refine gTz ?_;refine lvz (.notF rfl (by with_reducible rfl)) ?_;refine pTz<|nNz<|cTz<|sRz<|vAz<|nNz<|zK ?_;refine thenR (finR (.inl rfl) rfl rfl rfl (.cons (.tmp rfl) .nil) ?_);rw [hn (by omega)];rfl;(iterate 3 refine gFaz ?_);refine pTaz<|vMz ?_;(iterate 4 refine gFz ?_);refine pTz<|nNz<|cTz<|sRz<|vAz<|nNz<|zK ?_;refine thenR (finR (.inl rfl) rfl rfl rfl (.cons (.tmp rfl) .nil) ?_);rw [hn (by omega)];rfl;refine gFaz<|gFaz<|pTaz<|vMz ?_;(iterate 4 refine gFz ?_);refine pTz<|vMz ?_;(iterate 4 refine gFz ?_);refine pTz<|nNz<|cTz<|sRz<|vAz<|nNz<|zK ?_;refine thenR (finR (.inl rfl) rfl rfl rfl (.cons (.tmp rfl) .nil) ?_);rw [hn (by omega)];rfl;refine gFaz<|gFaz<|pTaz<|vAz<|nNz<|zI<|sRz<|vMz<|vMz ?_;(iterate 3 refine gFz ?_);refine pTz<|vMz ?_;(iterate 4 refine gFz ?_);refine pTz<|vMz ?_;(iterate 4 refine gFz ?_);refine pTz<|nNz<|cTz<|sRz<|vAz<|nNz<|zK ?_;refine thenR (finR (.inl rfl) rfl rfl rfl (.cons (.tmp rfl) .nil) ?_);rw [hn (by omega)];rfl;(iterate 3 refine gFaz ?_);refine pTaz<|vMz ?_;(iterate 3 refine gFz ?_);refine pTz<|vAz<|nNz<|zI<|sRz<|vMz<|vMz ?_;(iterate 3 refine gFz ?_);refine pTz<|vMz ?_;(iterate 4 refine gFz ?_);refine pTz<|vMz ?_;(iterate 4 refine gFz ?_);refine pTz<|nNz<|cTz<|sRz<|vAz<|nNz<|zK ?_;refine thenR (finR (.inl rfl) rfl rfl rfl (.cons (.tmp rfl) .nil) ?_);rw [hn (by omega)];rfl)
  ·rw [if_neg hs] at hS0
   have hS:∀ w',Calls Tryz.prog 84 #[.agg #[.slice p2 L.ws.length c2,.slice p3 L.ms.length c3]] w' (Ret w' (.int .i64 230)):=hS0
   rw [hn (fun h=>hs h.2.2.2.1)] at *
   clear hp hn
   (refine sRz ?_;apply zT;rfl;rfl;intro _;refine vAz<|nSz<|vFz<|ldz rfl .head fr_rd11<|lvz (.lenR rfl inferInstance rfl)<|lvz (.gtr rfl rfl)<|vMz ?_)
   (refine LW.guardDF rfl rfl rfl (fun hsq hsp=>?_) (fun hsq hsp=>?_))
   (refine vFz<|gTaz<|ldz rfl .head fr_rd12<|gTaz<|lvz (.lenR rfl inferInstance rfl)<|gTaz<|lvz (.gtr rfl rfl)<|pFaz<|vMz ?_;refine LW.guardDF rfl rfl rfl (fun hsq hsp=>?_) (fun hsq hsp=>?_);refine vFz<|gTaz<|ldz rfl .head fr_rd4<|gTaz<|lvz (.gtr rfl rfl)<|pFaz<|vAz<|nNz<|zI<|sRz<|vMz<|vMz ?_;refine LW.guardDF rfl rfl rfl (fun hsq hsp=>?_) (fun hsq hsp=>?_);refine vFz<|gTaz<|ldz rfl .head fr_rd5<|gTaz<|lvz (.eq rfl rfl)<|pFaz<|vMz ?_;refine LW.guardDF rfl rfl rfl (fun hsq hsp=>?_) (fun hsq hsp=>?_);refine vFz<|gTaz<|ldz rfl .head fr_rd0<|gTaz ?_;apply zS;rfl;rfl;infer_instance;exact .cons rfl .nil;intro w _;exact hC w (by assumption);refine gTaz ?_;refine lvz (.neF rfl rfl (by omega)) ?_;refine pFaz<|vMz<|gTz<|vFz<|gTz<|ldz rfl .head fr_rd2<|gTz ?_;apply zS;rfl;rfl;infer_instance;exact .cons rfl .nil;intro w _;exact hS w;refine gTz ?_;refine lvz (.neT rfl rfl (by omega)) ?_;refine pFz<|nNz<|cTz<|sRz<|vAz<|nNz<|zK ?_;refine thenR (finR (.inl rfl) rfl rfl rfl (.cons (.tmp rfl) .nil) ?_);rfl;(iterate 3 refine gFaz ?_);refine pTaz<|vMz ?_;(iterate 4 refine gFz ?_);refine pTz<|nNz<|cTz<|sRz<|vAz<|nNz<|zK ?_;refine thenR (finR (.inl rfl) rfl rfl rfl (.cons (.tmp rfl) .nil) ?_);rfl;refine gFaz<|gFaz<|pTaz<|vMz ?_;(iterate 4 refine gFz ?_);refine pTz<|vMz ?_;(iterate 4 refine gFz ?_);refine pTz<|nNz<|cTz<|sRz<|vAz<|nNz<|zK ?_;refine thenR (finR (.inl rfl) rfl rfl rfl (.cons (.tmp rfl) .nil) ?_);rfl;refine gFaz<|gFaz<|pTaz<|vAz<|nNz<|zI<|sRz<|vMz<|vMz ?_;(iterate 3 refine gFz ?_);refine pTz<|vMz ?_;(iterate 4 refine gFz ?_);refine pTz<|vMz ?_;(iterate 4 refine gFz ?_);refine pTz<|nNz<|cTz<|sRz<|vAz<|nNz<|zK ?_;refine thenR (finR (.inl rfl) rfl rfl rfl (.cons (.tmp rfl) .nil) ?_);rfl;(iterate 3 refine gFaz ?_);refine pTaz<|vMz ?_;(iterate 3 refine gFz ?_);refine pTz<|vAz<|nNz<|zI<|sRz<|vMz<|vMz ?_;(iterate 3 refine gFz ?_);refine pTz<|vMz ?_;(iterate 4 refine gFz ?_);refine pTz<|vMz ?_;(iterate 4 refine gFz ?_);refine pTz<|nNz<|cTz<|sRz<|vAz<|nNz<|zK ?_;refine thenR (finR (.inl rfl) rfl rfl rfl (.cons (.tmp rfl) .nil) ?_);rfl)
 ·rw [if_neg hc] at hC0
  have hC:∀ w' {fs},St w [] fs w'→Calls Tryz.prog 83 #[.slice p0 L.cl.length c0] w' (Ret w' (.int .i64 3)):=hC0
  rw [hn (fun h=>hc h.2.2.1)] at *
  clear hp hn
  (refine sRz ?_;apply zT;rfl;rfl;intro _;refine vAz<|nSz<|vFz<|ldz rfl .head fr_rd11<|lvz (.lenR rfl inferInstance rfl)<|lvz (.gtr rfl rfl)<|vMz ?_)
  (refine LW.guardDF rfl rfl rfl (fun hsq hsp=>?_) (fun hsq hsp=>?_))
  (refine vFz<|gTaz<|ldz rfl .head fr_rd12<|gTaz<|lvz (.lenR rfl inferInstance rfl)<|gTaz<|lvz (.gtr rfl rfl)<|pFaz<|vMz ?_;refine LW.guardDF rfl rfl rfl (fun hsq hsp=>?_) (fun hsq hsp=>?_);refine vFz<|gTaz<|ldz rfl .head fr_rd4<|gTaz<|lvz (.gtr rfl rfl)<|pFaz<|vAz<|nNz<|zI<|sRz<|vMz<|vMz ?_;refine LW.guardDF rfl rfl rfl (fun hsq hsp=>?_) (fun hsq hsp=>?_);refine vFz<|gTaz<|ldz rfl .head fr_rd5<|gTaz<|lvz (.eq rfl rfl)<|pFaz<|vMz ?_;refine LW.guardDF rfl rfl rfl (fun hsq hsp=>?_) (fun hsq hsp=>?_);refine vFz<|gTaz<|ldz rfl .head fr_rd0<|gTaz ?_;apply zS;rfl;rfl;infer_instance;exact .cons rfl .nil;intro w _;exact hC w (by assumption);refine gTaz ?_;refine lvz (.neT rfl rfl (by omega)) ?_;refine pFaz<|vMz ?_;(iterate 4 refine gFz ?_);refine pTz<|nNz<|cTz<|sRz<|vAz<|nNz<|zK ?_;refine thenR (finR (.inl rfl) rfl rfl rfl (.cons (.tmp rfl) .nil) ?_);rfl;(iterate 3 refine gFaz ?_);refine pTaz<|vMz ?_;(iterate 4 refine gFz ?_);refine pTz<|nNz<|cTz<|sRz<|vAz<|nNz<|zK ?_;refine thenR (finR (.inl rfl) rfl rfl rfl (.cons (.tmp rfl) .nil) ?_);rfl;refine gFaz<|gFaz<|pTaz<|vMz ?_;(iterate 4 refine gFz ?_);refine pTz<|vMz ?_;(iterate 4 refine gFz ?_);refine pTz<|nNz<|cTz<|sRz<|vAz<|nNz<|zK ?_;refine thenR (finR (.inl rfl) rfl rfl rfl (.cons (.tmp rfl) .nil) ?_);rfl;refine gFaz<|gFaz<|pTaz<|vAz<|nNz<|zI<|sRz<|vMz<|vMz ?_;(iterate 3 refine gFz ?_);refine pTz<|vMz ?_;(iterate 4 refine gFz ?_);refine pTz<|vMz ?_;(iterate 4 refine gFz ?_);refine pTz<|nNz<|cTz<|sRz<|vAz<|nNz<|zK ?_;refine thenR (finR (.inl rfl) rfl rfl rfl (.cons (.tmp rfl) .nil) ?_);rfl;(iterate 3 refine gFaz ?_);refine pTaz<|vMz ?_;(iterate 3 refine gFz ?_);refine pTz<|vAz<|nNz<|zI<|sRz<|vMz<|vMz ?_;(iterate 3 refine gFz ?_);refine pTz<|vMz ?_;(iterate 4 refine gFz ?_);refine pTz<|vMz ?_;(iterate 4 refine gFz ?_);refine pTz<|nNz<|cTz<|sRz<|vAz<|nNz<|zK ?_;refine thenR (finR (.inl rfl) rfl rfl rfl (.cons (.tmp rfl) .nil) ?_);rfl)
end
section
def catI {α:Type} (env:List (List α)) (xs:List Nat) (tail:List α):List α:=xs.foldr (fun i acc=>env.getD i []++acc) tail
theorem perm_ix {α:Type} (env:List (List α)) {xs ys:List Nat} (tail:List α) (h:xs.isPerm ys=true):(catI env xs tail).Perm (catI env ys tail):=by
 have hp:xs.Perm ys:=List.isPerm_iff.1 h
 clear h
 unfold catI
 induction hp with
 |nil=>exact .refl _
 |cons x _ ih=>exact List.Perm.append_left _ ih
 |swap x y l =>
  simp only [List.foldr_cons,← List.append_assoc]
  exact List.Perm.append_right _ List.perm_append_comm
 |trans _ _ ih1 ih2=>exact ih1.trans ih2
def SubP {α:Type} (l l':List α):Prop:=∃ m,l.Sublist m∧m.Perm l'
theorem catI_tail {α:Type} (env:List (List α)) (zs:List Nat) (tail:List α):tail.Sublist (catI env zs tail):=by
 induction zs with
 |nil=>exact .refl _
 |cons z zs ih=>exact List.Sublist.trans ih (List.sublist_append_right _ _)
theorem catI_app {α:Type} (env:List (List α)) (xs zs:List Nat) (tail:List α):(catI env xs tail).Sublist (catI env (xs++zs) tail):=by
 induction xs with
 |nil=>exact catI_tail env zs tail
 |cons x xs ih=>exact List.Sublist.append_left ih _
theorem subp_ix {α:Type} (env:List (List α)) {xs ys:List Nat} (tail:List α) (h:(xs++ys.filter fun y=>!xs.contains y).isPerm ys=true):SubP (catI env xs tail) (catI env ys tail):=⟨_,catI_app env xs _ tail,perm_ix env tail h⟩
theorem SubP.st {w0 w:World} {S:List Nat} {fs gs:Fs} (h:SubP gs fs) (hs:St w0 S fs w):St w0 S gs w:=by
 obtain ⟨m,h1,h2⟩:=h
 exact st_sub (hs.perm h2) h1
def anyO (K:Out):Out:=fun x fs'=>∃ fs'',K x fs''∧SubP fs'' fs'
theorem calls_anyO {P:Program} {f:FuncId} {args:Array Value} {w0 w:World} {S:List Nat} {K:Out} (h:Calls P f args w (fun x w'=>∃ fs',anyO K x fs'∧St w0 S fs' w')):Calls P f args w (fun x w'=>∃ fs',K x fs'∧St w0 S fs' w') :=
 Calls.mono h fun x w' ⟨fs',⟨fs'',hk,hp⟩,hst⟩=>⟨fs'',hk,hp.st hst⟩
def FrO (f:FrV) (L:FrL) (gs:Fs):Prop:=∃ g1 g2 g3 g4 g5,(g1++(g2++(g3++(g4++g5)))).Perm gs∧bM L.cl f.code g1∧wM L.ws f.stk g2∧bM L.ms f.mem g3∧bM L.il f.inp g4∧bM L.bl f.back g5
theorem bM_at {l:List UInt8} {v:Value} {g:Fs} {w:World} (h:bM l v g) (hw:∀ p∈g,w.heap[p.1]?=some p.2):RowAt w 1 v l.length (ucs l):=IsRow.us h hw (qN _)
theorem wM_at {l:List Nat} {v:Value} {g:Fs} {w:World} (h:wM l v g) (hw:∀ p∈g,w.heap[p.1]?=some p.2):RowAt w 4 v l.length (wcs l):=IsRow.us h hw (qN _)
theorem FrO.rows {f:FrV} {L:FrL} {gs:Fs} {w:World} (h:FrO f L gs) (hw:∀ p∈gs,w.heap[p.1]?=some p.2):FrRows w f L:=by
 obtain ⟨g1,g2,g3,g4,g5,hp,h1,h2,h3,h4,h5⟩:=h
 replace hw:∀ p∈g1++(g2++(g3++(g4++g5))),w.heap[p.1]?=some p.2:=fun p h=>hw p (hp.subset h)
 exact ⟨bM_at h1 fun p hp=>hw p (by simp [hp]),wM_at h2 fun p hp=>hw p (by simp [hp]),bM_at h3 fun p hp=>hw p (by simp [hp]),bM_at h4 fun p hp=>hw p (by simp [hp]),bM_at h5 fun p hp=>hw p (by simp [hp])⟩
theorem FrO.st {f:FrV} {L:FrL} {gs fs:Fs} {w0 w:World} {S:List Nat} (h:FrO f L gs) (hs:St w0 S fs w) (hg:∀ p∈gs,p∈fs):FrRows w f L:=h.rows fun p hp=>(hs.own p (hg p hp)).2
attribute [local irreducible] SL.inP
def FrL.setM (L:FrL) (ms:List UInt8):FrL:={ L with ms:=ms }
theorem FrO.setSc {f:FrV} {L:FrL} {g1 g2 g3 g4 g5 s1 s2:Fs} {ms:List UInt8} {s k:Value} {g:Nat} (h:bM L.cl f.code g1∧wM L.ws f.stk g2∧bM L.ms f.mem g3∧bM L.il f.inp g4∧bM L.bl f.back g5) (h1:wM L.ws s s1) (h2:bM ms k s2) :
  FrO { f with gas:=g,stk:=s,mem:=k } (L.setM ms) (g1++(s1++(s2++(g4++g5)))):=⟨g1,s1,s2,g4,g5,.refl _,h.1,h1,h2,h.2.2.2.1,h.2.2.2.2⟩
theorem reach_ok (w0:World) (S:List Nat) (b:Nat) (m:MaV) (L:FrL) (gs:Fs) (a n:Nat) (ha:a < M256) (hn0:0 < n) (hn:n < M256) (hE2:endV a n≤1024) (hok:okSc L.ws.length L.ms.length) (hg:m.fr.gas < 18446744073709551616) (hfr:FrO m.fr L gs) (rest:Fs) (w:World) (hs:St w0 S ((b,maO m)::(gs++rest)) w)
  (hcost:memV L.ms.length (endV a n)≤m.fr.gas) :
  Calls Tryz.prog 77 #[.pointer (some ⟨b,0,none⟩),wv a,wv n] w (fun x w'=>∃ fs',(x=.returned (.tuple #[.int .u64 (a:Int),.int .u64 (n:Int)])∧∃ s k gs',FrO { m.fr with gas:=m.fr.gas - memV L.ms.length (endV a n),stk:=s,mem:=k } (L.setM (L.ms++List.replicate (upW (endV a n) - L.ms.length) 0)) gs'∧fs'=(b,maO ((m.setGas (m.fr.gas - memV L.ms.length (endV a n))).setSc s k))::(gs'++rest))∧St w0 S fs' w'):=by
 obtain ⟨g1,g2,g3,g4,g5,hp,hall⟩:=hfr
 replace hs:St w0 S ((b,maO m)::(g1++(g2++(g3++(g4++g5)))++rest)) w:=hs.perm (List.Perm.cons _ (hp.append_right rest))
 clear hp
 obtain ⟨_,_,hm3,_,_⟩:=id hall
 unfold bM at hm3
 obtain ⟨p2,c2,hmv⟩:=hm3.form
 have hk:L.ms.length≤1024:=hok.2.1
 have hmem:∀ {E fr},Rd Tryz.prog 22 (.cells (mca m) E fr) 3 (.slice p2 L.ms.length c2):=fun {E fr}=>by rw [← hmv];exact ma_rd3
 have hEnd0:=End_calls a n ha hn
 have hMem0:=Memory_calls L.ms.length (endV a n) (by omega) (by omega)
 have hEa:a+n≤endV a n:=by
  unfold endV at hE2 ⊢
  rw [if_neg (by omega)] at hE2 ⊢
  unfold NOG at hE2 ⊢
  omega
 have hSa0:=Small_calls a ha
 have hSn0:=Small_calls n hn
 obtain ⟨E,hE⟩:∃ E,E=endV a n:=⟨_,rfl⟩
 rw [← hE] at hEnd0 hMem0 hE2 hcost hEa ⊢
 clear hE
 obtain ⟨c,hc⟩:∃ c,c=memV L.ms.length E:=⟨_,rfl⟩
 rw [← hc] at hMem0 hcost ⊢
 clear hc
 rw [if_pos (by omega),decide_eq_true (by omega)] at hSa0 hSn0
 have hEnd:∀ w,Calls Tryz.prog 120 #[wv a,wv n] w (Ret w (.int .u64 (E:Int))):=hEnd0
 have hMem:∀ w,Calls Tryz.prog 121 #[.int .u64 (L.ms.length:Int),.int .u64 (E:Int)] w (Ret w (.int .u64 (c:Int))):=hMem0
 have hSa:∀ w,Calls Tryz.prog 116 #[wv a] w (Ret w (.tuple #[.int .u64 (a:Int),.bool true])):=hSa0
 have hSn:∀ w,Calls Tryz.prog 116 #[wv n] w (Ret w (.tuple #[.int .u64 (n:Int),.bool true])):=hSn0
 have hsp:spendM m [c]=some (m.setGas (m.fr.gas - c)):=by unfold spendM;rw [if_pos (by simp;omega)];simp
 refine calls_anyO (calls_inlineP (K:=anyO fun x fs'=>x=.returned (.tuple #[.int .u64 (a:Int),.int .u64 (n:Int)])∧∃ s k gs',FrO { m.fr with gas:=m.fr.gas - c,stk:=s,mem:=k } (L.setM (L.ms++List.replicate (upW E - L.ms.length) 0)) gs'∧fs'=(b,maO ((m.setGas (m.fr.gas - c)).setSc s k))::(gs'++rest)) (args:=[_,_,_]) Tryz.func77 rfl Tryz.ntmps77 rfl ?_ hs)
 (refine sRz ?_;apply zT;rfl;rfl;intro _;apply zT;rfl;rfl;intro _;refine vAz<|vAz<|nSz<|ldz rfl (.tail .head) (qF rfl)<|ldz rfl .head (qF rfl) ?_;apply zS;rfl;rfl;infer_instance;exact .cons rfl (.cons rfl .nil);intro w _;exact hEnd w;refine vAz<|nSz<|vMz<|vMz<|vNz<|vFz<|vFz<|vFz<|ldz rfl (.tail (.tail .head)) hmem<|lvz (.lenR rfl inferInstance rfl) ?_;refine lvz (.convN rfl (by omega) (by omega)) ?_;refine vMz ?_;apply zS;rfl;rfl;infer_instance;exact .cons rfl (.cons rfl .nil);intro w _;exact hMem w;apply LW.lay1;rfl;infer_instance;infer_instance;rfl;rfl;rfl;rfl;rfl;rfl;intro _)
 rename_i b4 b5 b29
 refine LW.perm (fs':=(b,maO m)::(b29,.cells #[.int .u64 (c:Int)] 26 (0,0))::(b5,.cells (wc n) 29 (0,0))::(b4,.cells (wc a) 29 (0,0))::(g1++(g2++(g3++(g4++g5)))++rest)) (by exact (List.perm_middle (l₁:=[_,_,_])).symm) ?_
 refine LW.callP (K:=MaK b m (spendM m [c]) _) rfl rfl inferInstance (by (exact .cons rfl (.cons rfl .nil))) rfl (fun fs h=>?_) (fun w' hst=>spend_calls w0 S b m [c] hg _ _ w' hst (fun w2 h2=>row_cells (h2.own (b29,_) (List.Mem.tail _ (List.Mem.head _))).2 rfl rfl (by simp [maxLen]))) ?_ ?_
 ·rw [hsp] at h;cases h.1
 ·rintro v fs' h
  rw [hsp] at h
  obtain ⟨h,rfl⟩:=h
  have hmem:∀ {E fr},Rd Tryz.prog 22 (.cells (mca (m.setGas (m.fr.gas - c))) E fr) 3 (.slice p2 L.ms.length c2):=fun {E fr}=>by rw [← hmv];exact ma_rd3 (m:=m.setGas (m.fr.gas - c))
  (refine nNz<|zI<|sRz<|vMz ?_;refine lvz (.eqF rfl rfl (by omega)) ?_;refine nNz<|cFz<|zJ<|thenN<|sRz<|vMz<|vNz<|vFz<|vFz<|ldz rfl .head ma_rd2<|vMz ?_)
  (apply LW.callR;rfl;rfl;infer_instance;exact .cons rfl (.cons rfl (.cons rfl .nil));intro w hs)
  exact grow_ok L.ws L.ms E _ _ w ((FrO.st (f:=m.fr) (L:=L) (gs:=g1++(g2++(g3++(g4++g5)))) ⟨g1,g2,g3,g4,g5,.refl _,hall⟩ hs (fun p hp=>qP _ (by simp only [List.mem_cons,List.mem_append] at hp ⊢;simp [hp]))).s) ((FrO.st (f:=m.fr) (L:=L) (gs:=g1++(g2++(g3++(g4++g5)))) ⟨g1,g2,g3,g4,g5,.refl _,hall⟩ hs (fun p hp=>qP _ (by simp only [List.mem_cons,List.mem_append] at hp ⊢;simp [hp]))).m) hok (by omega) hE2
  rintro vo gso ⟨o,rfl,s1,m1,gg1,gg2,rfl,rfl,hw1,hb1⟩
  have hw1':=hw1
  have hb1':=hb1
  unfold wM at hw1'
  unfold bM at hb1'
  obtain ⟨q1,k1,rfl⟩:=hw1'.form
  obtain ⟨q2,k2,rfl⟩:=hb1'.form
  (refine vMz ?_;refine vEz ?_;refine vEz ?_;apply zU;rfl;intro _;refine zR rfl rfl .head (.whole rfl rfl rfl)<|vAz<|nSz<|vMz ?_;refine lvz (.eqT rfl rfl (by omega)) ?_;apply zS;rfl;rfl;infer_instance;exact .cons rfl .nil;intro w _;exact need_true w;refine nSz<|vMz<|ldz rfl .head (qF rfl)<|vNz<|vFz<|vFz ?_;refine zR rfl rfl (.tail (.app .head)) (ma_wr2 rfl rfl rfl rfl)<|nSz<|ldz rfl (.tail (.app (.tail (.tail (.tail .head))))) (qF rfl) ?_;apply zS;rfl;rfl;infer_instance;exact .cons rfl .nil;intro w _;exact hSa w;refine vMz ?_;refine vEz ?_;refine vEz ?_;refine vAz<|vAz<|nSz<|ldz rfl (.tail (.app (.tail (.tail .head)))) (qF rfl) ?_;apply zS;rfl;rfl;infer_instance;exact .cons rfl .nil;intro w _;exact hSn w;refine vMz ?_;refine vEz ?_;refine vEz ?_;refine vAz<|vAz<|nSz<|vMz<|vMz<|vAz<|vAz<|nNz<|zK ?_)
  refine inPI (.inl rfl) .nil rfl (by (apply zD;exact zG rfl;apply zD;exact zG rfl;exact zF)) rfl ⟨_,⟨rfl,_,_,_,FrO.setSc hall hw1 hb1,rfl⟩,?_⟩
  simp only [List.append_assoc,List.cons_append,List.nil_append]
  exact subp_ix [[_],[_],gg2,gg1,[_],[_],[_],g1,g2,g3,g4,g5] (xs:=[4,7,3,2,10,11]) (ys:=[0,2,3,4,1,5,6,7,8,9,10,11]) rest rfl
 ·rintro ch fs' h
  rw [hsp] at h;cases h.1
def costR (L:FrL) (a n:Nat):Nat:=memV L.ms.length (endV a n)
def memR (L:FrL) (a n:Nat):FrL:=L.setM (L.ms++List.replicate (upW (endV a n) - L.ms.length) 0)
def frR (f:FrV) (L:FrL) (a n:Nat) (s k:Value):FrV:={ f with gas:=f.gas - costR L a n,stk:=s,mem:=k }
def MaV.setF (m:MaV) (f:FrV):MaV:={ m with fr:=f }
def ReachK (b:Nat) (m:MaV) (L:FrL) (gs:Fs) (a n:Nat) (rest:Fs):Out:=fun x fs' =>
 (m.fr.gas < costR L a n∧x=.panicked failC∧fs'=(b,maO m)::(gs++rest)) ∨
 (costR L a n≤m.fr.gas∧∃ s k gs',x=.returned (.tuple #[.int .u64 ((if n=0 then 0 else a:Nat):Int),.int .u64 (n:Int)])∧FrO (frR m.fr L a n s k) (memR L a n) gs'∧fs'=(b,maO (m.setF (frR m.fr L a n s k)))::(gs'++rest))
theorem memV_le {k E g:Nat} (hk:k≤1024) (hg:g≤20000) (h:memV k E≤g):E≤1024:=by
 unfold memV at h
 split at h
 ·omega
 ·split at h<;>omega
theorem endV_lt (a n:Nat):endV a n < 18446744073709551616:=by
 unfold endV NOG
 split<;>omega
theorem reach_calls (w0:World) (S:List Nat) (b:Nat) (m:MaV) (L:FrL) (gs:Fs) (a n:Nat) (ha:a < M256) (hn:n < M256) (hok:okSc L.ws.length L.ms.length) (hg:m.fr.gas≤20000) (hfr:FrO m.fr L gs) (rest:Fs) (w:World) (hs:St w0 S ((b,maO m)::(gs++rest)) w) :
  Calls Tryz.prog 77 #[.pointer (some ⟨b,0,none⟩),wv a,wv n] w (fun x w'=>∃ fs',ReachK b m L gs a n rest x fs'∧St w0 S fs' w'):=by
 have hk:L.ms.length≤1024:=hok.2.1
 have hm:∃ p2 c2,m.fr.mem=.slice p2 L.ms.length c2:=by
  obtain ⟨g1,g2,g3,g4,g5,_,h1,h2,h3,h4,h5⟩:=hfr
  unfold bM at h3
  exact h3.form
 obtain ⟨p2,c2,hm⟩:=hm
 rcases Nat.lt_or_ge m.fr.gas (costR L a n) with hlt|hge
 ·refine Calls.mono (reach_gas w0 S b m a n L.ms.length p2 c2 ha hn (endV_lt a n) hk (by omega) hm (gs++rest) w hs hlt) ?_
  rintro x w' ⟨fs',⟨rfl,ex,rfl⟩,hst⟩
  exact ⟨_,.inl ⟨hlt,rfl,rfl⟩,st_sub hst (List.Sublist.cons_cons _ (List.sublist_append_right _ _))⟩
 ·rcases Nat.eq_zero_or_pos n with rfl|hn0
  ·refine Calls.mono (reach_none w0 S b m a 0 L.ms.length rfl p2 c2 ha hk (by omega) hm (gs++rest) w hs) ?_
   rintro x w' ⟨fs',⟨rfl,ex,rfl⟩,hst⟩
   have he:endV a 0=0:=by simp [endV]
   have hc:costR L a 0=0:=by unfold costR;rw [he];simp [memV]
   have hmr:memR L a 0=L:=by unfold memR FrL.setM;rw [he];simp [upW]
   have hfr2:frR m.fr L a 0 m.fr.stk m.fr.mem=m.fr:=by unfold frR;rw [hc];rfl
   refine ⟨_,.inr ⟨hge,m.fr.stk,m.fr.mem,gs,rfl,?_,?_⟩,st_sub hst (List.Sublist.cons_cons _ (List.sublist_append_right ex _))⟩
   ·rw [hmr,hfr2];exact hfr
   ·rw [hfr2];rfl
  ·refine Calls.mono (reach_ok w0 S b m L gs a n ha hn0 hn (memV_le hk hg hge) hok (by omega) hfr rest w hs hge) ?_
   rintro x w' ⟨fs',⟨rfl,s,k,gs',h1,rfl⟩,hst⟩
   refine ⟨_,.inr ⟨hge,s,k,gs',?_,h1,rfl⟩,hst⟩
   rw [if_neg (by omega)]
end
section
def FrV.rows (f:FrV) (c s m i b:Value):FrV:=⟨c,f.pc,s,m,f.gas,f.self,f.frm,f.val,i,b,f.stat⟩
section wr
variable {P : Program} {T E : TypeId} {code stk mem inp back z : Value} {pc : Int} {gas self frm val n c : Nat} {stat : Bool} {p : Option Addr} {g : Nat}
theorem fr_wr0 [InfoI P T 1 z]:Wr P T (.cells (fra ⟨code,pc,stk,mem,gas,self,frm,val,inp,back,stat⟩) E (0,0)) (0+0) (.slice p n c) (.cells (fra ⟨.slice p n c,pc,stk,mem,gas,self,frm,val,inp,back,stat⟩) E (0,0)):=Wr.cells (n:=1) (z:=z) rfl rfl (by show 0+0+1≤14;omega) rfl
theorem fr_wr2 [InfoI P T 1 z]:Wr P T (.cells (fra ⟨code,pc,stk,mem,gas,self,frm,val,inp,back,stat⟩) E (0,0)) (0+2+0) (.slice p n c) (.cells (fra ⟨code,pc,.slice p n c,mem,gas,self,frm,val,inp,back,stat⟩) E (0,0)):=Wr.cells (n:=1) (z:=z) rfl rfl (by show 0+2+0+1≤14;omega) rfl
theorem fr_wr3 [InfoI P T 1 z]:Wr P T (.cells (fra ⟨code,pc,stk,mem,gas,self,frm,val,inp,back,stat⟩) E (0,0)) (0+2+1) (.slice p n c) (.cells (fra ⟨code,pc,stk,.slice p n c,gas,self,frm,val,inp,back,stat⟩) E (0,0)):=Wr.cells (n:=1) (z:=z) rfl rfl (by show 0+2+1+1≤14;omega) rfl
theorem fr_wr4 {x:Nat} [InfoI P T 1 z]:Wr P T (.cells (fra ⟨code,pc,stk,mem,gas,self,frm,val,inp,back,stat⟩) E (0,0)) (0+4) (.int .u64 (x:Int)) (.cells (fra ⟨code,pc,stk,mem,x,self,frm,val,inp,back,stat⟩) E (0,0)):=Wr.cells (n:=1) (z:=z) rfl rfl (by show 0+4+1≤14;omega) rfl
theorem fr_wr11 [InfoI P T 1 z]:Wr P T (.cells (fra ⟨code,pc,stk,mem,gas,self,frm,val,inp,back,stat⟩) E (0,0)) (0+11) (.slice p n c) (.cells (fra ⟨code,pc,stk,mem,gas,self,frm,val,.slice p n c,back,stat⟩) E (0,0)):=Wr.cells (n:=1) (z:=z) rfl rfl (by show 0+11+1≤14;omega) rfl
theorem fr_wr12 [InfoI P T 1 z]:Wr P T (.cells (fra ⟨code,pc,stk,mem,gas,self,frm,val,inp,back,stat⟩) E (0,0)) (0+12) (.slice p n c) (.cells (fra ⟨code,pc,stk,mem,gas,self,frm,val,inp,.slice p n c,stat⟩) E (0,0)):=Wr.cells (n:=1) (z:=z) rfl rfl (by show 0+12+1≤14;omega) rfl
end wr
structure FrSl (f:FrV):Prop where
 c:∃ p n c,f.code=.slice p n c
 s:∃ p n c,f.stk=.slice p n c
 m:∃ p n c,f.mem=.slice p n c
 i:∃ p n c,f.inp=.slice p n c
 b:∃ p n c,f.back=.slice p n c
theorem FrRows.sl {w:World} {f:FrV} {L:FrL} (h:FrRows w f L):FrSl f:=by
 obtain ⟨a,b,h1,_⟩:=h.c.form
 obtain ⟨a2,b2,h2,_⟩:=h.s.form
 obtain ⟨a3,b3,h3,_⟩:=h.m.form
 obtain ⟨a4,b4,h4,_⟩:=h.i.form
 obtain ⟨a5,b5,h5,_⟩:=h.b.form
 exact ⟨⟨_,_,_,h1⟩,⟨_,_,_,h2⟩,⟨_,_,_,h3⟩,⟨_,_,_,h4⟩,⟨_,_,_,h5⟩⟩
theorem fr_cells {f:FrV} (h:FrSl f):(fra f).toList.all Value.oneCell'=true:=by
 obtain ⟨⟨_,_,_,h1⟩,⟨_,_,_,h2⟩,⟨_,_,_,h3⟩,⟨_,_,_,h4⟩,⟨_,_,_,h5⟩⟩:=h
 simp only [fra,frc,wc,List.cons_append,List.nil_append,List.all_cons,List.all_nil,h1,h2,h3,h4,h5];rfl
theorem fr_wrW {P:Program} {T E:TypeId} {f:FrV} {z:Value} {cs:Array Value} [InfoI P T 14 z] (h:cs.size=14) (hf:FrSl f):Wr P T (.cells cs E (0,0)) 0 (frv f) (.cells (fra f) E (0,0)):=Wr.whole h rfl (fr_cells hf)
theorem perm5 {α:Type} (g1 g2 g3 g4 g5:List α):(g1++(g2++(g3++(g4++g5)))).Perm (g3++(g2++(g5++(g4++g1)))):=by
 have h:=perm_ix [g1,g2,g3,g4,g5] (xs:=[0,1,2,3,4]) (ys:=[2,1,4,3,0]) [] rfl
 simpa [catI] using h
def FrL.short (L:FrL):Prop:=L.cl.length≤100000∧L.ws.length≤100000∧L.ms.length≤100000∧L.il.length≤100000∧L.bl.length≤100000
def ma0 (f:FrV) (e0 e1 e2 e3:Nat):MaV:=⟨f,e0,e1,e2,e3,.slice none 0 0,0,0,.slice none 0 0,.slice none 0 0⟩
def OfR (f:FrV) (L:FrL) (e0 e1 e2 e3:Nat) (v:Value) (gs:Fs):Prop:=∃ bm c s m i b g,v=.pointer (some ⟨bm,0,none⟩)∧gs=(bm,maO (ma0 (f.rows c s m i b) e0 e1 e2 e3))::g∧FrO (f.rows c s m i b) L g
def enva (e0 e1 e2 e3:Nat):Array Value:=#[.int .u64 (e0:Int),.int .u64 (e1:Int),.int .u64 (e2:Int),.int .u64 (e3:Int)]
theorem fOf_calls (f:FrV) (L:FrL) (e0 e1 e2 e3:Nat) (hl:L.short) (w:World) (h:FrRows w f L):Calls Tryz.prog 40 #[frv f,.agg (enva e0 e1 e2 e3)] w (RetG w [] (OfR f L e0 e1 e2 e3)):=by
 obtain ⟨code,pc,stk,mem,gas,self,frm,val,inp,back,stat⟩:=f
 obtain ⟨h0,h2,h3,h11,h12⟩:=h
 dsimp only at h0 h2 h3 h11 h12
 obtain ⟨p0,c0,rfl,_,hm0⟩:=id h0.form
 obtain ⟨p2,c2,rfl,_,hm2⟩:=id h2.form
 obtain ⟨p3,c3,rfl,_,hm3⟩:=id h3.form
 obtain ⟨p11,c11,rfl,_,hm11⟩:=id h11.form
 obtain ⟨p12,c12,rfl,_,hm12⟩:=id h12.form
 refine enter (args:=[_,_]) _ [] [] Tryz.func40 rfl Tryz.ntmps40 rfl (by simp) .nil ?_
 (refine sRz ?_;apply zT;rfl;rfl;intro _;apply zT;rfl;rfl;intro _;refine vAz<|nNz<|zI ?_)
 rename_i b1 b2
 apply CW.pre
 (refine AnyW.anyM [(2,bM L.cl),(5,bM L.il),(8,bM L.bl)] 10 mixed (by decide +kernel) ?_)
 ((try simp only [tsOf_cons,tsOf_nil,tsOf_app]);refine dvz (.fieldAddr rfl rfl) ?_;apply qD;rfl;rfl;rfl;exact zC;rfl;apply zO;apply zP;exact zN;exact fr_rd0)
 (apply DW.manyV;rfl;rfl;rfl;exact zC;rfl;infer_instance;exact .cons rfl .nil;apply RdV.ext;assumption;rfl;exact RdV.nil;intro w _ _)
 exact SK.Clone_calls _ _ w (h0.bel (by assumption)) hl.1
 intro v1 g1 h1
 ((try simp only [tsOf_cons,tsOf_nil,tsOf_app]);refine dvz (.fieldAddr rfl rfl) ?_;apply qD;rfl;rfl;rfl;exact zC;rfl;apply zQ;apply zO;apply zP;exact zN;exact fr_rd11)
 (apply DW.manyV;rfl;rfl;rfl;exact zC;rfl;infer_instance;exact .cons rfl .nil;apply RdV.ext;assumption;rfl;exact RdV.nil;intro w _ _)
 exact SK.Clone_calls _ _ w (h11.bel (by assumption)) hl.2.2.2.1
 intro v4 g4 h4
 ((try simp only [tsOf_cons,tsOf_nil,tsOf_app]);refine dvz (.fieldAddr rfl rfl) ?_;apply qD;rfl;rfl;rfl;exact zC;rfl;apply zQ;apply zQ;apply zO;apply zP;exact zN;exact fr_rd12)
 (apply DW.manyV;rfl;rfl;rfl;exact zC;rfl;infer_instance;exact .cons rfl .nil;apply RdV.ext;assumption;rfl;exact RdV.nil;intro w _ _)
 exact SK.Clone_calls _ _ w (h12.bel (by assumption)) hl.2.2.2.2
 intro v5 g5 h5
 have h1':=h1
 have h4':=h4
 have h5':=h5
 unfold bM at h1' h4' h5'
 obtain ⟨q1,k1,rfl⟩:=h1'.form
 obtain ⟨q4,k4,rfl⟩:=h4'.form
 obtain ⟨q5,k5,rfl⟩:=h5'.form
 ((try simp only [tsOf_cons,tsOf_nil,tsOf_app]);refine dvz (.fieldAddr rfl rfl) ?_;apply DW.nil;simp only [fsOf_cons,fsOf_nil,fsOf_app,fsOf_tsOf,fsOf_new,fsOf_tag])
 (refine zR rfl rfl (.app (.app (.app (.tail .head)))) fr_wr0<|vFz ?_;refine zR rfl rfl (.app (.app (.app (.tail .head)))) fr_wr11<|vFz ?_;refine zR rfl rfl (.app (.app (.app (.tail .head)))) fr_wr12<|nNz<|zI ?_)
 apply CW.pre
 (refine AnyW.anyM [(3,wM L.ws),(7,bM L.ms)] 10 mixed (by decide +kernel) ?_)
 ((try simp only [tsOf_cons,tsOf_nil,tsOf_app]);refine dvz (.fieldAddr rfl rfl)<|dvz (.fieldAddr rfl rfl) ?_;apply qD;rfl;rfl;rfl;exact zC;rfl;apply zQ;apply zQ;apply zQ;apply zO;apply zP;exact zN;exact fr_rd2s)
 (apply DW.manyV;rfl;rfl;rfl;exact zC;rfl;infer_instance;exact .cons rfl .nil;apply RdV.ext;assumption;rfl;exact RdV.nil;intro w _ _)
 exact CloneW_calls _ _ w (h2.bel (by assumption)) hl.2.1
 intro v2 g2 hh2
 ((try simp only [tsOf_cons,tsOf_nil,tsOf_app]);refine dvz (.fieldAddr rfl rfl)<|dvz (.fieldAddr rfl rfl) ?_;apply qD;rfl;rfl;rfl;exact zC;rfl;apply zQ;apply zQ;apply zQ;apply zQ;apply zO;apply zP;exact zN;exact fr_rd3)
 (apply DW.manyV;rfl;rfl;rfl;exact zC;rfl;infer_instance;exact .cons rfl .nil;apply RdV.ext;assumption;rfl;exact RdV.nil;intro w _ _)
 exact SK.Clone_calls _ _ w (h3.bel (by assumption)) hl.2.2.1
 intro v3 g3 hh3
 have h2':=hh2
 have h3':=hh3
 unfold wM at h2'
 unfold bM at h3'
 obtain ⟨q2,k2,rfl⟩:=h2'.form
 obtain ⟨q3,k3,rfl⟩:=h3'.form
 ((try simp only [tsOf_cons,tsOf_nil,tsOf_app]);refine dvz (.fieldAddr rfl rfl)<|dvz (.fieldAddr rfl rfl) ?_;apply DW.nil;simp only [fsOf_cons,fsOf_nil,fsOf_app,fsOf_tsOf,fsOf_new,fsOf_tag])
 have hsl:FrSl ⟨.slice q1 L.cl.length k1,pc,.slice q2 L.ws.length k2,.slice q3 L.ms.length k3,gas,self,frm,val,.slice q4 L.il.length k4,.slice q5 L.bl.length k5,stat⟩:=⟨⟨_,_,_,rfl⟩,⟨_,_,_,rfl⟩,⟨_,_,_,rfl⟩,⟨_,_,_,rfl⟩,⟨_,_,_,rfl⟩⟩
 (refine zR rfl rfl (.app (.app (.app (.app (.app (.tail .head)))))) fr_wr2<|vFz<|vFz ?_;refine zR rfl rfl (.app (.app (.app (.app (.app (.tail .head)))))) fr_wr3<|nSz<|ldz rfl (.app (.app (.app (.app (.app (.tail .head)))))) fr_rdW<|ldz rfl (.app (.app (.app (.app (.app .head))))) (qF rfl) ?_;apply LW.v0;rfl;rfl;apply zW;infer_instance;infer_instance;apply zA;rfl;apply zA;rfl;exact zB;rfl;simp only [fillP,wrCells,fra,frc,enva,wc,Value.cells,qI,qJ,qK,qH,qM,qL,List.cons_append,List.nil_append,Nat.reduceAdd,qO];rfl;apply zT;rfl;rfl;intro _;refine vAz<|nNz<|zK ?_)
 rename_i bm
 refine fin (vs:=[.pointer (some ⟨bm,0,none⟩)]) ((bm,maO (ma0 ⟨.slice q1 L.cl.length k1,pc,.slice q2 L.ws.length k2,.slice q3 L.ms.length k3,gas,self,frm,val,.slice q4 L.il.length k4,.slice q5 L.bl.length k5,stat⟩ e0 e1 e2 e3))::(g3++(g2++(g5++(g4++g1))))) (.inl rfl) rfl rfl (by (apply zD;exact zG rfl;exact zF)) ?_ ⟨bm,_,_,_,_,_,_,rfl,rfl,g1,g2,g3,g4,g5,perm5 g1 g2 g3 g4 g5,h1,hh2,hh3,h4,h5⟩
 exact List.Sublist.cons_cons _ (List.Sublist.append_left (List.Sublist.append_left (List.Sublist.append_left (List.Sublist.append_left (qQ _ _) _) _) _) _)
end
section
attribute [local irreducible] SL.inP
def FrV.setR (f:FrV) (g:Nat) (s k:Value):FrV:={ f with gas:=g,stk:=s,mem:=k }
def FrV.rowsG (f:FrV) (g:Nat) (c s m i b:Value):FrV:=⟨c,f.pc,s,m,g,f.self,f.frm,f.val,i,b,f.stat⟩
def FrL.setW (L:FrL) (ws:List Nat):FrL:={ L with ws:=ws }
theorem FrO.sl {f:FrV} {L:FrL} {gs:Fs} (h:FrO f L gs):FrSl f:=by
 obtain ⟨g1,g2,g3,g4,g5,_,h1,h2,h3,h4,h5⟩:=h
 unfold bM at h1 h3 h4 h5
 unfold wM at h2
 obtain ⟨_,_,h1⟩:=h1.form
 obtain ⟨_,_,h2⟩:=h2.form
 obtain ⟨_,_,h3⟩:=h3.form
 obtain ⟨_,_,h4⟩:=h4.form
 obtain ⟨_,_,h5⟩:=h5.form
 exact ⟨⟨_,_,_,h1⟩,⟨_,_,_,h2⟩,⟨_,_,_,h3⟩,⟨_,_,_,h4⟩,⟨_,_,_,h5⟩⟩
def LayK (b:Nat) (m:MaV) (L:FrL) (gs:Fs) (l:List Nat) (rest:Fs):Out:=fun x fs' =>
 (64 < L.ws.length+l.length∧x=.panicked failC∧fs'=(b,maO m)::(gs++rest)) ∨
 (L.ws.length+l.length≤64∧∃ s k gs',x=.returned (.tuple #[])∧FrO (m.fr.setR m.fr.gas s k) (L.setW (L.ws++l)) gs'∧fs'=(b,maO (m.setF (m.fr.setR m.fr.gas s k)))::(gs'++rest))
theorem lay_calls (w0:World) (S:List Nat) (b:Nat) (m:MaV) (L:FrL) (gs:Fs) (l:List Nat) (v:Value) (hok:okSc L.ws.length L.ms.length) (hll:l.length≤100000) (hfr:FrO m.fr L gs) (rest:Fs) (w:World)
  (hv:∀ w',St w0 S ((b,maO m)::(gs++rest)) w'→RowAt w' 4 v l.length (wcs l)) (hs:St w0 S ((b,maO m)::(gs++rest)) w) :
  Calls Tryz.prog 74 #[.pointer (some ⟨b,0,none⟩),v] w (fun x w'=>∃ fs',LayK b m L gs l rest x fs'∧St w0 S fs' w'):=by
 have h1:∀ w',St w0 S ((b,maO m)::(gs++rest)) w'→RowAt w' 4 m.fr.stk L.ws.length (wcs L.ws)∧RowAt w' 1 m.fr.mem L.ms.length (ucs L.ms)∧RowAt w' 4 v l.length (wcs l):=fun w' h=>by
  have hr:=hfr.st h fun p hp=>qP _ (List.mem_append_left _ hp)
  exact ⟨hr.s,hr.m,hv w' h⟩
 rcases Nat.lt_or_ge 64 (L.ws.length+l.length) with hlt|hge
 ·refine Calls.mono (lay_full w0 S b m L.ws L.ms l v (gs++rest) w hs h1 hok hll hlt) ?_
  rintro x w' ⟨fs',⟨rfl,c4,rfl⟩,hst⟩
  exact ⟨_,.inl ⟨hlt,rfl,rfl⟩,st_sub hst (qR _ (qN _))⟩
 ·refine Calls.mono (lay_ok w0 S b m L.ws L.ms l v (gs++rest) w hs h1 hok hll hge) ?_
  rintro x w' ⟨fs',⟨rfl,s,k,gs2,c4,⟨s',k',gg1,gg2,he,rfl,hw1,hb1⟩,rfl⟩,hst⟩
  cases he
  obtain ⟨g1,g2,g3,g4,g5,hp,hall⟩:=hfr
  replace hst:=hst.perm (fs':=c4::((gg2++gg1)++(b,maO (m.setSc s k))::((g1++(g2++(g3++(g4++g5))))++rest))) (List.Perm.cons _ (List.Perm.append_left _ (List.Perm.cons _ (hp.append_right rest))))
  refine ⟨_,.inr ⟨hge,s,k,g1++(gg1++(gg2++(g4++g5))),rfl,⟨g1,gg1,gg2,g4,g5,.refl _,hall.1,hw1,hb1,hall.2.2.2.1,hall.2.2.2.2⟩,rfl⟩,SubP.st ?_ hst⟩
  simp only [List.append_assoc,List.cons_append,List.nil_append]
  exact subp_ix [[_],gg2,gg1,[_],g1,g2,g3,g4,g5] (xs:=[3,4,2,1,7,8]) (ys:=[0,1,2,3,4,5,6,7,8]) rest rfl
def DoK (b:Nat) (f:FrV) (R:Option (Nat × FrL)) (rest:Fs):Out:=fun x fs'=>match R with
 |none=>x=.panicked failC∧fs'=rest
 |some (g,L')=>∃ s k gs',x=.returned (.tuple #[])∧FrO (f.setR g s k) L' gs'∧fs'=(b,maO (ma0 (f.setR g s k) 0 0 0 0))::(gs'++rest)
def zeroF:FrV:=⟨.slice none 0 0,0,.slice none 0 0,.slice none 0 0,0,0,0,0,.slice none 0 0,.slice none 0 0,false⟩
def zeroL:FrL:=⟨[],[],[],[],[]⟩
theorem zero_frO:FrO zeroF zeroL []:=⟨[],[],[],[],[],.refl _,.nil,.nil,.nil,.nil,.nil⟩
def ToldK (f:FrV) (R:Option (Nat × FrL)) (fs:Fs):Out:=fun x fs'=>match R with
 |none=>x=.returned (.tuple #[frv zeroF,.bool false])∧fs'=fs
 |some (g,L')=>∃ c s m i b gs',x=.returned (.tuple #[frv (f.rowsG g c s m i b),.bool true])∧FrO (f.rowsG g c s m i b) L' gs'∧fs'=gs'++fs
def Does (w0:World) (S:List Nat) (f:FrV) (L:FrL) (fs:Fs) (fn:FuncId) (cap:Array Value) (R:Option (Nat × FrL)):Prop :=
 ∀ b c s m i b5 gs rest w',FrO (f.rows c s m i b5) L gs→(∀ p∈fs,p∈rest)→St w0 S ((b,maO (ma0 (f.rows c s m i b5) 0 0 0 0))::(gs++rest)) w' →
  Calls Tryz.prog fn (Value.pointer (some ⟨b,0,none⟩)::cap.toList).toArray w' (fun x w''=>∃ fs',DoK b (f.rows c s m i b5) R rest x fs'∧St w0 S fs' w'')
theorem told1_calls (w0:World) (S:List Nat) (f:FrV) (L:FrL) (fs:Fs) (fn:FuncId) (cap:Array Value) (R:Option (Nat × FrL)) (hF:FnI Tryz.prog fn) (hd:Does w0 S f L fs fn cap R) (b b3 b6:Nat) (c s m i b5:Value) (gs R0:Fs) (hfr:FrO (f.rows c s m i b5) L gs)
  (hsub:∀ p∈fs,p∈R0) (h3:(b3,Obj.cells #[.func (.func fn) #[] cap] 116 (0,0))∈R0) (h6:(b6,Obj.cells #[.pointer (some ⟨b,0,none⟩)] 74 (0,0))∈R0) (w:World) (hs:St w0 S ((b,maO (ma0 (f.rows c s m i b5) 0 0 0 0))::(gs++R0)) w) :
  Calls Tryz.prog 117 #[.pointer (some ⟨b3,0,none⟩),.pointer (some ⟨b6,0,none⟩)] w (fun x w'=>∃ fs',DoK b (f.rows c s m i b5) R R0 x fs'∧St w0 S fs' w'):=by
 have k3:(b3,Obj.cells #[.func (.func fn) #[] cap] 116 (0,0))∈(b,maO (ma0 (f.rows c s m i b5) 0 0 0 0))::(gs++R0):=qP _ (List.mem_append_right _ h3)
 have k6:(b6,Obj.cells #[.pointer (some ⟨b,0,none⟩)] 74 (0,0))∈(b,maO (ma0 (f.rows c s m i b5) 0 0 0 0))::(gs++R0):=qP _ (List.mem_append_right _ h6)
 refine calls_inlineP (K:=DoK b (f.rows c s m i b5) R R0) (args:=[_,_]) Tryz.func117 rfl Tryz.ntmps117 rfl ?_ hs
 (refine zL ?_;apply LW.load;rfl;rfl;exact Known.own k3;exact Rd.one' rfl;apply LW.load;rfl;rfl;exact Known.own k6;exact Rd.one' rfl)
 refine LW.callP (K:=DoK b (f.rows c s m i b5) R R0) (aas:=.pointer (some ⟨b,0,none⟩)::cap.toList) rfl rfl hF (by (exact .cons rfl .nil)) rfl (fun fs h=>?_) (fun w' hst=>hd b c s m i b5 gs R0 w' hfr hsub hst) ?_ ?_
 ·unfold DoK at h
  cases R with
  |none=>cases h.1
  |some x=>obtain ⟨_,_,_,h,_⟩:=h;cases h
 ·intro v fs' h
  cases R with
  |none=>cases h.1
  |some x =>
   obtain ⟨s',k',gs',h1,h2,h3⟩:=h
   cases h1
   (apply zV)
   exact inPI (.inr rfl) .nil rfl .nil rfl ⟨s',k',gs',rfl,h2,h3⟩
 ·intro ch fs' h
  cases R with
  |none =>
   obtain ⟨h1,h2⟩:=h
   cases h1
   exact inPP .nil ⟨rfl,h2⟩
  |some x=>obtain ⟨_,_,_,h,_⟩:=h;cases h
theorem DoK.try {b:Nat} {f:FrV} {R:Option (Nat × FrL)} {fs:Fs}:TryK (DoK b f R fs):=fun x fs' h=>by
 cases R with
 |none=>exact .inr h.1
 |some x=>obtain ⟨_,_,_,h,_⟩:=h;exact .inl h
theorem DoK.app {b:Nat} {f:FrV} {R:Option (Nat × FrL)} {R0 rest:Fs} {x:Ending} {fs':Fs} (h:DoK b f R (R0++rest) x fs'):∃ own',DoK b f R R0 x own'∧fs'=own'++rest:=by
 cases R with
 |none =>
  obtain ⟨h1,rfl⟩:=h
  exact ⟨R0,⟨h1,rfl⟩,rfl⟩
 |some x =>
  obtain ⟨s,k,gs',h1,h2,rfl⟩:=h
  exact ⟨_,⟨s,k,gs',h1,h2,rfl⟩,by simp⟩
section rd
variable {P : Program} {T E : TypeId} {fr : Nat × Nat} {m : MaV}
theorem ma_rdF [AgI P T true] {z:Value} [InfoI P T 14 z]:Rd P T (.cells (mca m) E fr) 0 (frv m.fr):=Rd.mid (cs:=frc m.fr) rfl rfl
end rd
theorem told_calls (w0:World) (S:List Nat) (f:FrV) (L:FrL) (fs:Fs) (fn:FuncId) (cap:Array Value) (R:Option (Nat × FrL)) (hl:L.short) (hF:FnI Tryz.prog fn) (hd:Does w0 S f L fs fn cap R) (hok:okF f L) (w:World) (hs:St w0 S fs w) (hf:∀ w',Bel w0.heap.size S w0 w'→FrRows w' f L) :
  Calls Tryz.prog 71 #[frv f,.func (.func fn) #[] cap] w (fun x w'=>∃ fs',ToldK f R fs x fs'∧St w0 S fs' w'):=by
 refine calls_anyO (calls_inlineP (K:=anyO (ToldK f R fs)) (args:=[_,_]) Tryz.func71 rfl Tryz.ntmps71 rfl ?_ hs)
 (refine sRz ?_;apply zT;rfl;rfl;intro _;apply LW.box1;rfl;rfl;rfl;intro _;apply zU;rfl;intro _;refine vAz<|nNz<|zI<|sRz<|ldz rfl (.tail (.tail .head)) (qF rfl) ?_)
 (apply zS;rfl;rfl;infer_instance;exact .cons rfl .nil;intro w _)
 rename_i hst
 have h0:=fCheck_calls f L w (hf w hst.bel)
 rw [if_pos hok] at h0
 exact h0
 (refine lvz (.neF rfl rfl (by omega)) ?_;refine nNz<|cFz<|zJ<|thenN<|sRz<|ldz rfl (.tail (.tail .head)) (qF rfl) ?_;apply LW.v0;rfl;rfl;apply zW;infer_instance;infer_instance;exact zB;rfl;simp only [fillP,wrCells,Value.cells,qI,qJ,qK,qH,qM,qL,Nat.reduceAdd,qO];rfl)
 (apply LW.callR;rfl;rfl;infer_instance;exact .cons rfl (.cons rfl .nil);intro w hs)
 exact fOf_calls f L 0 0 0 0 hl w (hf w hs.bel)
 rintro v gso ⟨bm,c,s,m,i,b5,g,rfl,rfl,hfr⟩
 rename_i b2 b3 b4
 (apply LW.alloc1;rfl;rfl;intro _;apply zR;rfl;rfl;apply qA;apply Wr.cells;rfl;rfl;simp only [wc,List.size_toArray,List.length_cons,List.length_nil];omega;simp only [fillC,wc,wrCells,Value.cells,qK,qH,qM,qL,Nat.reduceAdd,Nat.reduceMul,qO,Nat.mul_one];rfl;refine nNz<|zI<|sRz ?_;apply LW.v0;rfl;rfl;apply ValP.makeFunc;exact ArgsOk.nil;exact .cons rfl (.cons rfl .nil))
 rename_i b6
 refine LW.perm (fs':=(bm,maO (ma0 (f.rows c s m i b5) 0 0 0 0))::(g++((b6,.cells #[.pointer (some ⟨bm,0,none⟩)] 74 (0,0))::(b4,.cells #[.slice none 0 0,.int .i64 0,.slice none 0 0,.slice none 0 0,.int .u64 0,.int .u64 0,.int .u64 0,.int .u64 0,.int .u64 0,.int .u64 0,.int .u64 0,.slice none 0 0,.slice none 0 0,.bool false] 31 (0,0))::(b3,.cells #[.func (.func fn) #[] cap] 116 (0,0))::(b2,.cells (fra f) 31 (0,0))::fs))) ?_ ?_
 ·simp only [List.cons_append]
  exact perm_ix [[_],[_],g,[_],[_],[_]] (xs:=[1,2,0,3,4,5]) (ys:=[0,1,2,3,4,5]) fs rfl
 generalize hR0:((b6,Obj.cells #[.pointer (some ⟨bm,0,none⟩)] 74 (0,0))::(b4,Obj.cells #[.slice none 0 0,.int .i64 0,.slice none 0 0,.slice none 0 0,.int .u64 0,.int .u64 0,.int .u64 0,.int .u64 0,.int .u64 0,.int .u64 0,.int .u64 0,.slice none 0 0,.slice none 0 0,.bool false] 31 (0,0))::(b3,Obj.cells #[.func (.func fn) #[] cap] 116 (0,0))::(b2,Obj.cells (fra f) 31 (0,0))::fs)=R0
 refine LW.callP (K:=fun x fs'=>∃ ok own',x=.returned (.bool ok)∧DoK bm (f.rows c s m i b5) R R0 (match ok with|true=>.returned (.tuple #[])|false=>.panicked failC) own'∧fs'=own'++[]) rfl rfl inferInstance (by (exact .cons rfl .nil)) rfl (fun fs h=>by obtain ⟨_,_,h,_⟩:=h;cases h)
  (fun w' hst=>tries_calls w0 S 117 #[.pointer (some ⟨b3,0,none⟩),.pointer (some ⟨b6,0,none⟩)] (DoK bm (f.rows c s m i b5) R R0) DoK.try inferInstance ((bm,maO (ma0 (f.rows c s m i b5) 0 0 0 0))::(g++R0)) [] w' (fun rest w2 h2=>?_) (by rw [List.append_nil];exact hst)) ?_ ?_
 ·rw [List.cons_append,List.append_assoc] at h2
  refine Calls.mono (told1_calls w0 S f L fs fn cap R hF hd bm b3 b6 c s m i b5 g (R0++rest) hfr ?_ ?_ ?_ w2 h2) ?_
  ·intro p hp;rw [← hR0];simp [hp]
  ·rw [← hR0];simp
  ·rw [← hR0];simp
  ·rintro x w3 ⟨fs',hk,h3⟩
   obtain ⟨own',h4,rfl⟩:=hk.app
   exact ⟨_,⟨own',h4,rfl⟩,h3⟩
 ·rintro v fs' ⟨ok,own',h1,h2,rfl⟩
  cases h1
  rw [List.append_nil]
  cases R with
  |none =>
   obtain ⟨h3,rfl⟩:=h2
   cases ok with
   |true=>cases h3
   |false =>
    subst hR0
    (refine lvz (.notF rfl (by with_reducible rfl)) ?_;refine nNz<|cTz<|sRz ?_;apply LW.v0;rfl;rfl;apply zW;infer_instance;infer_instance;exact zB;rfl;simp only [fillP,wrCells,Value.cells,qI,qJ,qK,qH,qM,qL,Nat.reduceAdd,qO];rfl;refine zR rfl rfl (.tail .head) (.whole rfl rfl rfl)<|vAz<|nNz<|zK<|thenR ?_)
    refine inPI (.inl rfl) .nil rfl (by (apply zD;apply zH;rfl;apply qE;apply zX;apply zY;exact qF rfl;apply zD;exact zG rfl;exact zF)) rfl ⟨fs,⟨rfl,rfl⟩,subp_ix [[_],[_],[_],[_]] (xs:=[]) (ys:=[0,1,2,3]) fs rfl⟩
  |some x =>
   obtain ⟨gg,L'⟩:=x
   obtain ⟨s',k',gs',h3,h4,rfl⟩:=h2
   cases ok with
   |false=>cases h3
   |true =>
    subst hR0
    have hsl:FrSl (ma0 ((f.rows c s m i b5).setR gg s' k') 0 0 0 0).fr:=h4.sl
    (refine lvz (.notT rfl (by with_reducible rfl)) ?_;refine nNz<|cFz<|zJ<|thenN<|sRz<|ldz rfl (.tail (.app .head)) (Rd.one' rfl)<|vNz<|vFz<|ldz rfl .head ma_rdF ?_;apply zR;rfl;rfl;apply qB;apply qC;apply qB;apply qA;apply fr_wrW;rfl;assumption;refine vAz<|nNz<|zK ?_)
    refine inPI (.inl rfl) .nil rfl (by (apply zD;apply zH;rfl;apply qE;apply zX;apply zZ;apply zX;apply zY;exact qF rfl;apply zD;exact zG rfl;exact zF)) rfl ⟨gs'++fs,⟨c,s',k',i,b5,gs',rfl,h4,rfl⟩,subp_ix [[_],gs',[_],[_],[_],[_]] (xs:=[1]) (ys:=[0,1,2,3,4,5]) fs rfl⟩
 ·rintro ch fs' ⟨_,_,h,_⟩
  cases h
end
section
attribute [local irreducible] SL.inP
def ToldR (f:FrV) (R:Option (Nat × FrL)) (v:Value) (gs:Fs):Prop:=match R with
 |none=>v=.tuple #[frv zeroF,.bool false]∧gs=[]
 |some (g,L')=>∃ c s m i b,v=.tuple #[frv (f.rowsG g c s m i b),.bool true]∧FrO (f.rowsG g c s m i b) L' gs
def reachR (f:FrV) (L:FrL) (a n:Nat):Option (Nat × FrL):=if costR L a n≤f.gas then some (f.gas - costR L a n,memR L a n) else none
def tellR (f:FrV) (L:FrL) (cost:Nat) (l:List Nat):Option (Nat × FrL):=if cost≤f.gas∧L.ws.length+l.length≤64 then some (f.gas - cost,L.setW (L.ws++l)) else none
theorem okF.short {f:FrV} {L:FrL} (h:okF f L):L.short:=by
 obtain ⟨⟨h1,h2,_⟩,_,h4,⟨h5,h6,_⟩,_⟩:=h
 exact ⟨by omega,by omega,by omega,by omega,by omega⟩
theorem told_bad (w0:World) (S:List Nat) (f:FrV) (L:FrL) (fs:Fs) (fn:FuncId) (cap:Array Value) (hok:¬ okF f L) (w:World) (hs:St w0 S fs w) (hf:∀ w',Bel w0.heap.size S w0 w'→FrRows w' f L) :
  Calls Tryz.prog 71 #[frv f,.func (.func fn) #[] cap] w (fun x w'=>∃ fs',ToldK f none fs x fs'∧St w0 S fs' w'):=by
 have hC:∀ w' {fs},St w0 S fs w'→Calls Tryz.prog 34 #[frv f] w' (Ret w' (.int .i64 240)):=fun w' fs hst=>by
  have h0:=fCheck_calls f L w' (hf w' hst.bel)
  rw [if_neg hok] at h0
  exact h0
 refine calls_anyO (calls_inlineP (K:=anyO (ToldK f none fs)) (args:=[_,_]) Tryz.func71 rfl Tryz.ntmps71 rfl ?_ hs)
 (refine sRz ?_;apply zT;rfl;rfl;intro _;apply LW.box1;rfl;rfl;rfl;intro _;apply zU;rfl;intro _;refine vAz<|nNz<|zI<|sRz<|ldz rfl (.tail (.tail .head)) (qF rfl) ?_;apply zS;rfl;rfl;infer_instance;exact .cons rfl .nil;intro w _;exact hC w (by assumption);refine lvz (.neT rfl rfl (by omega)) ?_;refine nNz<|cTz<|sRz ?_;apply LW.v0;rfl;rfl;apply zW;infer_instance;infer_instance;exact zB;rfl;simp only [fillP,wrCells,Value.cells,qI,qJ,qK,qH,qM,qL,Nat.reduceAdd,qO];rfl;refine zR rfl rfl .head (.whole rfl rfl rfl)<|vAz<|nNz<|zK<|thenR ?_)
 refine inPI (.inl rfl) .nil rfl (by (apply zD;apply zH;rfl;apply qE;apply zY;exact qF rfl;apply zD;exact zG rfl;exact zF)) rfl ⟨fs,⟨rfl,rfl⟩,subp_ix [[_],[_],[_]] (xs:=[]) (ys:=[0,1,2]) fs rfl⟩
theorem reach1_does (w0:World) (S:List Nat) (f:FrV) (L:FrL) (a n:Nat) (ha:a < M256) (hn:n < M256) (hok:okF f L) (fs:Fs) (b4 b5:Nat) (k4:(b4,Obj.cells (wc a) 29 (0,0))∈fs) (k5:(b5,Obj.cells (wc n) 29 (0,0))∈fs) :
  Does w0 S f L fs 76 #[.pointer (some ⟨b4,0,none⟩),.pointer (some ⟨b5,0,none⟩)] (reachR f L a n):=by
 intro b c s m i b0 gs rest w hfr hsub hs
 have k4:=qP (b,maO (ma0 (f.rows c s m i b0) 0 0 0 0)) (List.mem_append_right gs (hsub _ k4))
 have k5:=qP (b,maO (ma0 (f.rows c s m i b0) 0 0 0 0)) (List.mem_append_right gs (hsub _ k5))
 refine calls_anyO (calls_inlineP (K:=anyO (DoK b (f.rows c s m i b0) (reachR f L a n) rest)) (args:=[_,_,_]) Tryz.func76 rfl Tryz.ntmps76 rfl ?_ hs)
 (refine zL<|vMz ?_;apply LW.load;rfl;rfl;exact Known.own k4;exact qF rfl;apply LW.load;rfl;rfl;exact Known.own k5;exact qF rfl)
 refine LW.callP (K:=ReachK b (ma0 (f.rows c s m i b0) 0 0 0 0) L gs a n rest) rfl rfl inferInstance (by (exact .cons rfl (.cons rfl (.cons rfl .nil)))) rfl (fun fs h=>by rcases h with ⟨_,h,_⟩|⟨_,_,_,_,h,_⟩<;>cases h) (fun w' hst=>reach_calls w0 S b _ L gs a n ha hn hok.2.2.2.1 hok.1.2.2 hfr rest w' hst) ?_ ?_
 ·rintro v fs' (⟨_,h,_⟩|⟨hc,s',k',gs',h,hfr',rfl⟩)
  ·cases h
  ·have hR:reachR f L a n=some (f.gas - costR L a n,memR L a n):=by unfold reachR;exact if_pos hc
   rw [hR]
   cases h
   (apply zV)
   exact inPI (.inr rfl) .nil rfl .nil rfl ⟨_,⟨s',k',gs',rfl,hfr',rfl⟩,_,.refl _,.refl _⟩
 ·rintro ch fs' (⟨hc,h,rfl⟩|⟨_,_,_,_,h,_⟩)
  ·have hR:reachR f L a n=none:=by unfold reachR;exact if_neg (Nat.not_le.2 hc)
   rw [hR]
   cases h
   exact inPP .nil ⟨rest,⟨rfl,rfl⟩,_,qR _ (List.sublist_append_right _ _),.refl _⟩
  ·cases h
theorem zero_sl:FrSl zeroF:=zero_frO.sl
theorem ToldK.ret {f:FrV} {R:Option (Nat × FrL)} {fs fs':Fs} {x:Ending} (h:ToldK f R fs x fs'):∃ v,x=.returned v:=by
 cases R with
 |none=>exact ⟨_,h.1⟩
 |some x=>obtain ⟨_,_,_,_,_,_,h,_⟩:=h;exact ⟨_,h⟩
theorem Reach_calls (f:FrV) (L:FrL) (a n:Nat) (ha:a < M256) (hn:n < M256) (w:World) (h:FrRows w f L):Calls Tryz.prog 30 #[frv f,wv a,wv n] w (RetG w [] (ToldR f (if okF f L then reachR f L a n else none))):=by
 refine enter (args:=[_,_,_]) _ [] [] Tryz.func30 rfl Tryz.ntmps30 rfl (by simp) .nil ?_
 have hzs:=zero_sl
 (refine sRz ?_;apply zT;rfl;rfl;intro _;apply zT;rfl;rfl;intro _;apply zT;rfl;rfl;intro _;apply zU;rfl;intro _;refine vAz<|nSz<|ldz rfl (.tail (.tail (.tail .head))) (qF rfl) ?_;apply LW.v0;rfl;rfl;apply ValP.makeFunc;exact ArgsOk.nil;exact .cons rfl (.cons rfl .nil))
 rename_i b3 b4 b5 b6
 refine LW.callP (K:=ToldK f (if okF f L then reachR f L a n else none) ((b6,Obj.cells (fra zeroF) 31 (0,0))::(b5,Obj.cells (wc n) 29 (0,0))::(b4,Obj.cells (wc a) 29 (0,0))::(b3,Obj.cells (fra f) 31 (0,0))::[])) rfl rfl inferInstance (by (exact .cons rfl (.cons rfl .nil))) rfl (fun fs h=>?_) (fun w' hst=>?_) ?_ ?_
 ·obtain ⟨_,h⟩:=h.ret;cases h
 ·by_cases hok:okF f L
  ·rw [if_pos hok]
   exact told_calls w [] f L _ _ _ _ hok.short inferInstance (reach1_does w [] f L a n ha hn hok _ b4 b5 (by simp) (by simp)) hok w' hst fun w2 hb=>h.bel hb
  ·rw [if_neg hok]
   exact told_bad w [] f L _ _ _ hok w' hst fun w2 hb=>h.bel hb
 ·intro v fs' hk
  cases hR:(if okF f L then reachR f L a n else none) with
  |none =>
   rw [hR] at hk
   obtain ⟨h1,rfl⟩:=hk
   cases h1
   (refine vEz ?_;refine vEz ?_;refine zR rfl rfl .head (.whole rfl rfl rfl)<|vAz<|nNz<|zK ?_)
   exact fin (vs:=[frv zeroF,.bool false]) [] (.inl rfl) rfl rfl (by (apply zD;apply zH;rfl;apply qE;apply zY;exact qF rfl;apply zD;exact zG rfl;exact zF)) (List.nil_sublist _) ⟨rfl,rfl⟩
  |some x =>
   rw [hR] at hk
   obtain ⟨g,L'⟩:=x
   obtain ⟨c,s,m,i,b,gs',h1,hfr,rfl⟩:=hk
   cases h1
   have hsl:=hfr.sl
   (refine vEz ?_;refine vEz ?_;apply zR;rfl;rfl;apply qC;apply qA;apply fr_wrW;rfl;assumption;refine vAz<|nNz<|zK ?_)
   exact fin (vs:=[frv (f.rowsG g c s m i b),.bool true]) gs' (.inl rfl) rfl rfl (by (apply zD;apply zH;rfl;apply qE;apply zZ;apply zY;exact qF rfl;apply zD;exact zG rfl;exact zF)) (qQ _ _) ⟨c,s,m,i,b,rfl,hfr⟩
 ·intro ch fs' h
  obtain ⟨_,h⟩:=h.ret
  cases h
theorem tell1_does (w0:World) (S:List Nat) (f:FrV) (L:FrL) (cost:Nat) (l:List Nat) (v:Value) (hll:l.length≤100000) (hv:∀ w',Bel w0.heap.size S w0 w'→RowAt w' 4 v l.length (wcs l)) (hok:okF f L) (fs:Fs) (b4 b5:Nat) (k4:(b4,Obj.cells #[.int .u64 (cost:Int)] 26 (0,0))∈fs) (k5:(b5,Obj.cells #[v] 23 (0,0))∈fs) :
  Does w0 S f L fs 72 #[.pointer (some ⟨b4,0,none⟩),.pointer (some ⟨b5,0,none⟩)] (tellR f L cost l):=by
 intro b c s m i b0 gs rest w hfr hsub hs
 have k4:=qP (b,maO (ma0 (f.rows c s m i b0) 0 0 0 0)) (List.mem_append_right gs (hsub _ k4))
 have k50:=qP (b,maO (ma0 (f.rows c s m i b0) 0 0 0 0)) (List.mem_append_right gs (hsub _ k5))
 refine calls_anyO (calls_inlineP (K:=anyO (DoK b (f.rows c s m i b0) (tellR f L cost l) rest)) (args:=[_,_,_]) Tryz.func72 rfl Tryz.ntmps72 rfl ?_ hs)
 (refine sRz<|vMz ?_;apply LW.load;rfl;rfl;exact Known.own k4;exact Rd.one' rfl;apply LW.lay1;rfl;infer_instance;infer_instance;rfl;rfl;rfl;rfl;rfl;rfl;intro _)
 rename_i b6
 refine LW.perm (fs':=(b,maO (ma0 (f.rows c s m i b0) 0 0 0 0))::(gs++((b6,.cells #[.int .u64 (cost:Int)] 26 (0,0))::rest))) ?_ ?_
 ·exact perm_ix [[_],[_],gs] (xs:=[1,2,0]) (ys:=[0,1,2]) rest rfl
 refine LW.callP (K:=MaK b (ma0 (f.rows c s m i b0) 0 0 0 0) (spendM (ma0 (f.rows c s m i b0) 0 0 0 0) [cost]) (gs++((b6,.cells #[.int .u64 (cost:Int)] 26 (0,0))::rest))) rfl rfl inferInstance (by (exact .cons rfl (.cons rfl .nil))) rfl (fun fs h=>?_) (fun w' hst=>spend_calls w0 S b _ [cost] (Nat.lt_of_le_of_lt hok.1.2.2 (by decide)) _ _ w' hst (fun w2 h2=>row_cells (h2.own (b6,_) (qP _ (List.mem_append_right _ List.mem_cons_self))).2 rfl rfl (by simp [maxLen]))) ?_ ?_
 ·unfold MaK at h
  split at h<;>cases h.1
 ·rcases Nat.lt_or_ge f.gas cost with hlt|hge
  ·have hsp:spendM (ma0 (f.rows c s m i b0) 0 0 0 0) [cost]=none:=by unfold spendM;rw [if_neg (by simp;exact hlt)]
   rw [hsp]
   rintro v fs' ⟨h,_⟩
   cases h
  ·have hsp:spendM (ma0 (f.rows c s m i b0) 0 0 0 0) [cost]=some (ma0 ((f.rows c s m i b0).setR (f.gas - cost) s m) 0 0 0 0):=by unfold spendM;rw [if_pos (by simp;exact hge)];simp;rfl
   rw [hsp]
   rintro v fs' ⟨h,rfl⟩
   cases h
   have k5:(b5,Obj.cells #[v] 23 (0,0))∈(b,maO (ma0 ((f.rows c s m i b0).setR (f.gas - cost) s m) 0 0 0 0))::(gs++(b6,Obj.cells #[.int .u64 (cost:Int)] 26 (0,0))::rest):=qP _ (List.mem_append_right _ (qP _ (hsub _ k5)))
   (refine nNz<|zL<|vMz ?_;apply LW.load;rfl;rfl;exact Known.own k5;exact Rd.one' rfl)
   have hfr1:FrO ((f.rows c s m i b0).setR (f.gas - cost) s m) L gs:=hfr
   refine LW.callP (K:=LayK b (ma0 ((f.rows c s m i b0).setR (f.gas - cost) s m) 0 0 0 0) L gs l ((b6,Obj.cells #[.int .u64 (cost:Int)] 26 (0,0))::rest)) rfl rfl inferInstance (by (exact .cons rfl (.cons rfl .nil))) rfl (fun fs h=>by rcases h with ⟨_,h,_⟩|⟨_,_,_,_,h,_⟩<;>cases h) (fun w' hst=>lay_calls w0 S b _ L gs l v hok.2.2.2.1 hll hfr1 _ w' (fun w2 h2=>hv w2 h2.bel) hst) ?_ ?_
   ·rintro v fs' (⟨_,h,_⟩|⟨hc,s',k',gs',h,hfr',rfl⟩)
    ·cases h
    ·have hR:tellR f L cost l=some (f.gas - cost,L.setW (L.ws++l)):=by unfold tellR;exact if_pos ⟨hge,hc⟩
     rw [hR]
     cases h
     (apply zV)
     exact inPI (.inr rfl) .nil rfl .nil rfl ⟨_,⟨s',k',gs',rfl,hfr',rfl⟩,_,List.Sublist.cons_cons _ (List.Sublist.append_left (List.sublist_cons_self _ _) _),.refl _⟩
   ·rintro ch fs' (⟨hc,h,rfl⟩|⟨_,_,_,_,h,_⟩)
    ·have hR:tellR f L cost l=none:=by unfold tellR;exact if_neg (fun h=>by omega)
     rw [hR]
     cases h
     exact inPP .nil ⟨rest,⟨rfl,rfl⟩,_,qR _ (List.Sublist.trans (List.sublist_cons_self _ _) (List.sublist_append_right _ _)),.refl _⟩
    ·cases h
 ·rcases Nat.lt_or_ge f.gas cost with hlt|hge
  ·have hsp:spendM (ma0 (f.rows c s m i b0) 0 0 0 0) [cost]=none:=by unfold spendM;rw [if_neg (by simp;exact hlt)]
   rw [hsp]
   rintro ch fs' ⟨h,rfl⟩
   have hR:tellR f L cost l=none:=by unfold tellR;exact if_neg (fun h=>by omega)
   rw [hR]
   cases h
   refine thenP ?_
   exact inPP .nil ⟨rest,⟨rfl,rfl⟩,_,qR _ (List.Sublist.trans (List.sublist_cons_self _ _) (List.sublist_append_right _ _)),.refl _⟩
  ·have hsp:spendM (ma0 (f.rows c s m i b0) 0 0 0 0) [cost]=some (ma0 ((f.rows c s m i b0).setR (f.gas - cost) s m) 0 0 0 0):=by unfold spendM;rw [if_pos (by simp;exact hge)];simp;rfl
   rw [hsp]
   rintro ch fs' ⟨h,_⟩
   cases h
theorem Tell_calls (f:FrV) (L:FrL) (cost:Nat) (l:List Nat) (v:Value) (hll:l.length≤100000) (w:World) (hv:RowAt w 4 v l.length (wcs l)) (h:FrRows w f L):Calls Tryz.prog 28 #[frv f,.int .u64 (cost:Int),v] w (RetG w [] (ToldR f (if okF f L then tellR f L cost l else none))):=by
 obtain ⟨p,cc,rfl,_,_⟩:=id hv.form
 refine enter (args:=[_,_,_]) _ [] [] Tryz.func28 rfl Tryz.ntmps28 rfl (by simp) .nil ?_
 have hzs:=zero_sl
 (refine sRz ?_;apply zT;rfl;rfl;intro _;apply LW.box1;rfl;rfl;rfl;intro _;apply LW.box1;rfl;rfl;rfl;intro _;apply zU;rfl;intro _;refine vAz<|nSz<|ldz rfl (.tail (.tail (.tail .head))) (qF rfl) ?_;apply LW.v0;rfl;rfl;apply ValP.makeFunc;exact ArgsOk.nil;exact .cons rfl (.cons rfl .nil))
 rename_i b3 b4 b5 b6
 refine LW.callP (K:=ToldK f (if okF f L then tellR f L cost l else none) ((b6,Obj.cells (fra zeroF) 31 (0,0))::(b5,Obj.cells #[.slice p l.length cc] 23 (0,0))::(b4,Obj.cells #[.int .u64 (cost:Int)] 26 (0,0))::(b3,Obj.cells (fra f) 31 (0,0))::[])) rfl rfl inferInstance (by (exact .cons rfl (.cons rfl .nil))) rfl (fun fs h=>?_) (fun w' hst=>?_) ?_ ?_
 ·obtain ⟨_,h⟩:=h.ret;cases h
 ·by_cases hok:okF f L
  ·rw [if_pos hok]
   exact told_calls w [] f L _ _ _ _ hok.short inferInstance (tell1_does w [] f L cost l _ hll (fun w2 hb=>hv.bel hb) hok _ b4 b5 (by simp) (by simp)) hok w' hst fun w2 hb=>h.bel hb
  ·rw [if_neg hok]
   exact told_bad w [] f L _ _ _ hok w' hst fun w2 hb=>h.bel hb
 ·intro v fs' hk
  cases hR:(if okF f L then tellR f L cost l else none) with
  |none =>
   rw [hR] at hk
   obtain ⟨h1,rfl⟩:=hk
   cases h1
   (refine vEz ?_;refine vEz ?_;refine zR rfl rfl .head (.whole rfl rfl rfl)<|vAz<|nNz<|zK ?_)
   exact fin (vs:=[frv zeroF,.bool false]) [] (.inl rfl) rfl rfl (by (apply zD;apply zH;rfl;apply qE;apply zY;exact qF rfl;apply zD;exact zG rfl;exact zF)) (List.nil_sublist _) ⟨rfl,rfl⟩
  |some x =>
   rw [hR] at hk
   obtain ⟨g,L'⟩:=x
   obtain ⟨c,s,m,i,b,gs',h1,hfr,rfl⟩:=hk
   cases h1
   have hsl:=hfr.sl
   (refine vEz ?_;refine vEz ?_;apply zR;rfl;rfl;apply qC;apply qA;apply fr_wrW;rfl;assumption;refine vAz<|nNz<|zK ?_)
   exact fin (vs:=[frv (f.rowsG g c s m i b),.bool true]) gs' (.inl rfl) rfl rfl (by (apply zD;apply zH;rfl;apply qE;apply zZ;apply zY;exact qF rfl;apply zD;exact zG rfl;exact zF)) (qQ _ _) ⟨c,s,m,i,b,rfl,hfr⟩
 ·intro ch fs' h
  obtain ⟨_,h⟩:=h.ret
  cases h
end
end Go.Proofs.YtdeggbkbblfpoaaGreatDoor
namespace Go.Proofs.YtdeggbkbblfpoaaGreatDoor.CK
open Go Go.RowKit SL
set_option maxRecDepth 8000
set_option maxHeartbeats 4000000
set_option linter.unusedSimpArgs false
set_option linter.unusedVariables false
attribute [local irreducible] SL.CW SL.LW SL.DW Calls SL.Ret SL.RetG SL.beginQ SL.roundQ SL.rangeQ SL.inQ SL.RW SL.AnyW SL.thenQ SL.thenC SL.thenW SL.blkQ SL.finQ SL.ValP SL.NewP SL.SetP SL.CallP SL.Rd SL.Wr SL.Known
section
attribute [local irreducible] opOf
theorem LW.copyFull {C:Cu} {ops:Array Oper} {Q:Post} {rest:List Oper} {e:Env} {fs:Fs} {d:Nat} {t:TypeId} {pos:String} {af:Array Edge} {x y:Operand} {tys:Array TypeId} {T E bytes:TypeId} {z vx:Value} {g off dLen dCap m:Nat} {cur:Array Value} {E':TypeId} {news:List Value} {fs':Fs} (hd:Nat.blt d C.N=true) (hT:tys=#[T,T]) (hU:UnI C.P T (.slice E)) (hI:InfoI C.P E 1 z) (hB:BytI C.P E bytes)
  (hx:e.ev x=some (.slice (some ⟨g,off,none⟩) dLen dCap)) (hy:e.ev y=some vx) (hat:∀ w,St C.w0 C.S fs w→RowAt w 1 vx m news) (h1:∀ u∈news,u.oneCell'=true) (h0:0 < dLen) (hm:dLen≤m) (hfit:off+dLen≤cur.size)
  (hset:SetAt fs g (.cells cur E' (0,0)) (.cells (cur.toList.take off++news.take dLen++cur.toList.drop (off+dLen)).toArray E' (0,0)) fs')
  (k:LW C ops Q rest ((d,.int .i64 (dLen:Int))::e) fs') :
  LW C ops Q (⟨some d,.call { callee:=.builtin .copy,args:=#[x,y],argTypes:=tys },t,pos,af,none⟩::rest) e fs:=by
 subst hT
 refine LW.valset hd (fun c h=>by cases h) hset (fun a w hs hg=>?_) k
 have hA:=hat w hs.st
 have hl:(news.take dLen).length=dLen:=by have:=hA.len;rw [List.length_take];omega
 have hsz:(C.P.info? E).map (·.size)=some 1:=by
  obtain ⟨i,i1,i2,i3,i4⟩:=info_all (P:=C.P) (T:=E);rw [i1];simp [i2]
 obtain ⟨b,o2,c,cs,E2,fr,rfl,hblk,hnx⟩:=hA.pos (by omega)
 have hrun:=run_copy_row (P:=C.P) w T T t E g off dLen dCap ⟨b,o2,none⟩ m c cur E' (news.take dLen) hU.un hsz hg (by rw [hl];exact (Nat.min_eq_right hm).symm) (fun j u hj=>by
  rw [addr_add,cell_of hblk]
  rw [List.getElem?_take] at hj
  split at hj
  ·exact cut_get hnx hj
  ·cases hj) (by rw [hl];exact hfit) (fun u hu=>h1 u (List.mem_of_mem_take hu))
 rw [hl] at hrun
 have hput:w.setRow g (cur.toList.take off++news.take dLen++cur.toList.drop (off+dLen)).toArray=w.putObj g (.cells (cur.toList.take off++news.take dLen++cur.toList.drop (off+dLen)).toArray E' (0,0)):=setRow_put hg
 rw [hput] at hrun
 simp [execOp,resolve,invoke,builtin,hs.env.ev hx,hs.env.ev hy,hrun,goInt]
def datF (bs:List UInt8) (n k:Nat):List UInt8:=(List.range k).map fun i=>bs.getD (n+1+i) 0
theorem datF_len (bs:List UInt8) (n k:Nat):(datF bs n k).length=k:=by simp [datF]
theorem datF_get (bs:List UInt8) (n k i:Nat):(datF bs n k)[i]?=if i < k then some (bs.getD (n+1+i) 0) else none:=by
 unfold datF
 rw [List.getElem?_map]
 split
 ·rename_i h;rw [List.getElem?_range h];rfl
 ·rename_i h;rw [List.getElem?_eq_none (by simp;omega)];rfl
theorem datF_eq (bs:List UInt8) (n k:Nat):datF bs n k=(bs.drop (n+1)).take k++List.replicate (k - (bs.length - (n+1))) 0:=by
 refine List.ext_getElem? fun i=>?_
 rw [datF_get,List.getElem?_append,List.length_take,List.length_drop]
 split
 ·rename_i h
  split
  ·rename_i h2
   rw [List.getElem?_take,if_pos h,List.getElem?_drop,List.getD_eq_getElem?_getD,List.getElem?_eq_getElem (show n+1+i < bs.length by omega)];rfl
  ·rename_i h2
   rw [List.getElem?_replicate,if_pos (by omega),List.getD_eq_getElem?_getD,List.getElem?_eq_none (by omega)];rfl
 ·rename_i h
  rw [if_neg (by omega),List.getElem?_replicate,if_neg (by omega)]
def dataL (bs:List UInt8) (i:Int):List UInt8:=if readB bs i=true then datF bs i.toNat (szOf (bs.getD i.toNat 0).toNat) else []
def dataC (bs:List UInt8) (i:Int):List UInt8:=if bs.length≤200 then dataL bs i else []
theorem readB_range {bs:List UInt8} {i:Int} (h:readB bs i=true):0≤i∧i < bs.length:=by
 unfold readB at h
 obtain ⟨s,hs,he⟩:=List.any_eq_true.1 h
 have he':(s.1:Int)=i:=by simpa using he
 refine ⟨by omega,?_⟩
 have key:∀ n (bs:List UInt8) p,bs.length≤n→∀ s∈segsAt p bs,s.1 < p+bs.length:=by
  intro n
  induction n with
  |zero =>
   intro bs p h s hs
   rw [List.eq_nil_of_length_eq_zero (show bs.length=0 by omega),segsAt_nil] at hs
   cases hs
  |succ n ih =>
   intro bs p h s hs
   cases bs with
   |nil=>rw [segsAt_nil] at hs;cases hs
   |cons b r =>
    rw [segsAt_cons] at hs
    rcases List.mem_cons.1 hs with rfl|hs
    ·simp
    ·have h1:=ih (r.drop (szOf b.toNat)) (p+1+szOf b.toNat) (by simp at h ⊢;omega) s hs
     have h2:=segsAt_ge _ _ _ (Nat.le_refl _) s hs
     simp at h1 ⊢
     omega
 have:=key _ bs 0 (Nat.le_refl _) s hs
 omega
theorem readFrom_step' {bs:List UInt8} {p:Nat} {i:Int} (h:p < bs.length) (hi:(p:Int) < i):readFrom bs (p+szOf (bs.getD p 0).toNat+1) i=readFrom bs p i:=by
 rw [← readFrom_step h hi,Nat.add_right_comm p 1]
theorem dataL_none {bs:List UInt8} {i:Int} (h:readB bs i=false):dataL bs i=[]:=by unfold dataL;rw [h];exact if_neg (by decide)
theorem dataL_some {bs:List UInt8} {n:Nat} (h:readB bs n=true):dataL bs n=datF bs n (szOf (bs.getD n 0).toNat):=by unfold dataL;rw [h];exact if_pos rfl
theorem Data_calls (bs:List UInt8) (i:Int) (v:Value) (w:World) (hv:RowAt w 1 v bs.length (ucs bs)):Calls Tryz.prog 132 #[v,.int .i64 i] w (RetG w [] fun v gs=>IsRow 5 1 v (dataC bs i).length (ucs (dataC bs i)) gs):=by
 have hCk0:∀ w' {fs},St w [] fs w'→Calls Tryz.prog 83 #[v] w' (Ret w' (.int .i64 (if bs.length≤200 then 0 else 3))):=fun w' fs hst=>CheckC_calls v bs.length (ucs bs) w' (hv.st hst)
 obtain ⟨p0,c0,rfl,_,_⟩:=hv.form
 unfold dataC
 refine enter (args:=[_,_]) _ [] [] Tryz.func132 rfl Tryz.ntmps132 rfl (by simp) .nil ?_
 rcases Nat.lt_or_ge 200 bs.length with hgt|hle
 ·rw [if_neg (by omega)]
  have hCk:∀ w' {fs},St w [] fs w'→Calls Tryz.prog 83 #[.slice p0 bs.length c0] w' (Ret w' (.int .i64 3)):=by rw [if_neg (by omega)] at hCk0;exact hCk0
  (refine zI<|zL ?_;apply LW.box1;rfl;rfl;rfl;intro _;apply LW.box1;rfl;rfl;rfl;intro _;apply LW.alloc1;rfl;rfl;intro _;apply zV;refine thenN<|zI<|zI<|zL ?_;apply LW.load;rfl;rfl;apply qE;apply zX;apply zX;apply zY;exact Rd.one' rfl)
  apply LW.inline
  rfl
  rfl
  infer_instance
  (apply ArgsOk.cons;rfl;exact ArgsOk.nil)
  rfl
  exact Tryz.func200
  rfl
  exact Tryz.ntmps200
  rfl
  (refine zI<|zL ?_;apply LW.box1;rfl;rfl;rfl;intro _;apply LW.v0;rfl;rfl;apply ValP.assign;rfl;apply zV;refine thenN<|zI<|zL ?_;apply LW.v0;rfl;rfl;apply ValP.makeFunc;exact ArgsOk.nil;apply ArgsOk.cons;rfl;exact ArgsOk.nil;apply LW.v0;rfl;rfl;apply ValP.assign;rfl;apply zV;refine thenN<|zK ?_)
  apply inI
  (exact .inl rfl)
  (exact Shut.nil)
  rfl
  (apply zD;exact zG rfl;exact zF)
  rfl
  (apply zV;refine thenN<|zM ?_)
  apply CW.rangeFunc
  rfl
  rfl
  infer_instance
  rfl
  exact Tryz.func218
  rfl
  exact Tryz.ntmps218
  rfl
  rfl
  intro l r rec hrec
  (refine zI<|zI<|zL ?_;apply LW.load;rfl;rfl;apply qE;apply zX;apply zX;apply zY;exact Rd.one' rfl;apply zS;rfl;rfl;infer_instance;apply ArgsOk.cons;rfl;exact ArgsOk.nil;intro w _;exact hCk w (by assumption);apply LW.v0;rfl;rfl;apply ValP.neT;rfl;rfl;omega;apply zV;refine thenN ?_;apply CW.condT;rfl;(with_reducible rfl);refine zK<|thenR ?_)
  apply rangeN
  (exact .inl rfl)
  (exact Shut.nil)
  (apply qA)
  (refine blkN<|thenM<|zI<|zL ?_;apply zR;rfl;rfl;apply qB;apply qB;apply qB;apply qA;apply Wr.cells;rfl;rfl;simp only [List.size_toArray,List.length_cons,List.length_nil];omega;simp only [fillC,wc,wrCells,Value.cells,qK,qH,qM,qL,Nat.reduceAdd,Nat.reduceMul,qO,Nat.mul_one];rfl;apply zV;refine thenN<|zK ?_)
  apply finM [];(exact .inl rfl);(apply Shut.cons;apply qB;apply qA;exact Shut.nil);rfl;(apply zD;apply zH;rfl;apply qE;apply zX;apply zX;apply zX;apply zY;exact Rd.one' rfl;exact zF);exact List.nil_sublist _
  exact .nil
 ·rw [if_pos hle]
  have hCk:∀ w' {fs},St w [] fs w'→Calls Tryz.prog 83 #[.slice p0 bs.length c0] w' (Ret w' (.int .i64 0)):=by rw [if_pos hle] at hCk0;exact hCk0
  obtain ⟨T,hT⟩:∃ T,dataL bs i=T:=⟨_,rfl⟩
  rw [hT]
  (refine zI<|zL ?_;apply LW.box1;rfl;rfl;rfl;intro _;apply LW.box1;rfl;rfl;rfl;intro _;apply LW.alloc1;rfl;rfl;intro _;apply zV;refine thenN<|zI<|zI<|zL ?_;apply LW.load;rfl;rfl;apply qE;apply zX;apply zX;apply zY;exact Rd.one' rfl)
  apply LW.inline
  rfl
  rfl
  infer_instance
  (apply ArgsOk.cons;rfl;exact ArgsOk.nil)
  rfl
  exact Tryz.func200
  rfl
  exact Tryz.ntmps200
  rfl
  (refine zI<|zL ?_;apply LW.box1;rfl;rfl;rfl;intro _;apply LW.v0;rfl;rfl;apply ValP.assign;rfl;apply zV;refine thenN<|zI<|zL ?_;apply LW.v0;rfl;rfl;apply ValP.makeFunc;exact ArgsOk.nil;apply ArgsOk.cons;rfl;exact ArgsOk.nil;apply LW.v0;rfl;rfl;apply ValP.assign;rfl;apply zV;refine thenN<|zK ?_)
  apply inI
  (exact .inl rfl)
  (exact Shut.nil)
  rfl
  (apply zD;exact zG rfl;exact zF)
  rfl
  (apply zV;refine thenN<|zM ?_)
  apply CW.rangeFunc
  rfl
  rfl
  infer_instance
  rfl
  exact Tryz.func218
  rfl
  exact Tryz.ntmps218
  rfl
  rfl
  intro l r rec hrec
  (refine zI<|zI<|zL ?_;apply LW.load;rfl;rfl;apply qE;apply zX;apply zX;apply zY;exact Rd.one' rfl;apply zS;rfl;rfl;infer_instance;apply ArgsOk.cons;rfl;exact ArgsOk.nil;intro w _;exact hCk w (by assumption);apply LW.v0;rfl;rfl;apply ValP.neF;rfl;rfl;omega;apply zV;refine thenN ?_;apply CW.condF;rfl;(with_reducible rfl);refine zJ<|thenN<|zI<|zL ?_;apply LW.v0;rfl;rfl;apply ValP.assign;rfl;apply zV;refine thenN<|zM ?_)
  rename_i b1 b2 b3 bb
  refine CW.loop (fun p:Nat=>([(3,.int .i64 (p:Int)),(0,.func (.yield l) #[] #[]),(1,.pointer (some ⟨bb,0,none⟩))],
   [(l,rdy rec),(r,.deferred (some [])),(bb,.cells #[.slice p0 bs.length c0] 22 (0,0)),(b3,.cells #[.slice none 0 0] 22 (0,0)),(b2,.cells #[.int .i64 i] 3 (0,0)),(b1,.cells #[.slice p0 bs.length c0] 22 (0,0))]))
   (fun p=>p≤300∧(readFrom bs p i=readB bs i∨(i < (p:Int)∧T=[]))) (fun p=>bs.length - p) 0 ⟨by decide,.inl (by unfold readFrom readB;rw [List.drop_zero])⟩ ⟨rfl,rfl,rfl,trivial⟩ (qN _) ?_
  rintro p ⟨hp,hinv⟩
  dsimp only at hp hinv ⊢
  rcases Nat.lt_or_ge p bs.length with hlt|hge
  ·obtain ⟨b,off,c',cs,E,fr,heq,hbk,hx⟩:=hv.pos (by omega)
   cases heq
   obtain ⟨u,hu⟩:∃ u,bs.getD p 0=u:=⟨_,rfl⟩
   have hrd:Rd Tryz.prog 5 (.cells cs E fr) (off+p * 1) (.int .u8 (u.toNat:Int)):=Rd.elem1 hx (ucs_one bs) (List.getElem?_eq_getElem hlt) (by rw [← hu];simp [hlt])
   have hub:u.toNat < 256:=u.toNat_lt
   have hOf0:=Of_op_calls u.toNat hub
   have hzl:=szOf_le u.toNat
   have hxd:=opAt_dt u.toNat
   obtain ⟨x,hx0⟩:∃ x,opAt u.toNat=x:=⟨_,rfl⟩
   rw [hx0] at hxd
   rw [← hxd] at hzl
   unfold opAt at hx0
   cases ho:opOf u.toNat with
   |none =>
    rw [ho] at hx0 hOf0
    dsimp only at hx0
    subst hx0
    have hOf:∀ w,Calls Tryz.prog 91 #[.int .u8 (u.toNat:Int)] w (Ret w (.tuple #[.agg (opc zeroOp),.int .i64 4])):=hOf0
    dsimp only at hzl hxd
    (refine zI<|zI<|zL ?_;apply LW.v0;rfl;rfl;apply ValP.move;rfl;apply LW.load;rfl;rfl;apply qE;apply zX;apply zX;apply zY;exact Rd.one' rfl;apply LW.v0;rfl;rfl;apply ValP.lenR;rfl;infer_instance;rfl;apply LW.v0;rfl;rfl;apply ValP.lssT;rfl;rfl;omega;apply zV;refine thenN ?_;apply CW.condT;rfl;(with_reducible rfl);refine zJ<|thenN<|zI<|zM<|zI<|zL ?_;apply LW.load;rfl;rfl;apply qE;apply zX;apply zX;apply zY;exact Rd.one' rfl;apply LW.v0;rfl;rfl;apply ValP.move;rfl;apply LW.v0;rfl;rfl;apply ValP.indexAddrS;rfl;rfl;rfl;omega;apply LW.load;rfl;rfl;exact Known.ext (by assumption) (by simp);assumption;apply zS;rfl;rfl;infer_instance;apply ArgsOk.cons;rfl;exact ArgsOk.nil;intro w _;exact hOf w;apply LW.v0;rfl;rfl;apply ValP.move;rfl;apply LW.v0;rfl;rfl;apply ValP.extractN;rfl;rfl;apply LW.v0;rfl;rfl;apply ValP.extractN;rfl;rfl;apply zU;rfl;intro _;apply zR;rfl;rfl;apply qA;apply Wr.whole;rfl;rfl;rfl;apply LW.v0;rfl;rfl;apply ValP.assign;rfl;apply zV;refine thenN<|zI<|zI<|zL ?_;apply LW.v0;rfl;rfl;apply ValP.move;rfl;apply LW.v0;rfl;rfl;apply ValP.neT;rfl;rfl;omega;apply zV;refine thenN ?_;apply CW.condT;rfl;(with_reducible rfl);refine zL ?_;apply LW.load;rfl;rfl;apply qE;apply zX;apply zX;apply zX;apply zY;exact Rd.one' rfl;apply LW.v0;rfl;rfl;apply ValP.move;rfl;apply LW.v0;rfl;rfl;apply ValP.indexAddrS;rfl;rfl;rfl;omega;apply LW.load;rfl;rfl;exact Known.ext (by assumption) (by simp);assumption;apply LW.v0;rfl;rfl;apply zW;infer_instance;infer_instance;apply zA;rfl;exact zB;rfl;simp only [fillP,wrCells,Value.cells,qI,qJ,qK,qH,qM,qL,Nat.reduceAdd,qO];rfl;apply zR;rfl;rfl;apply qA;apply Wr.whole;rfl;rfl;rfl;apply zV;refine thenN<|zI<|zI<|zL ?_;apply LW.v0;rfl;rfl;apply ValP.move;rfl;apply LW.v0;rfl;rfl;apply ValP.move;rfl;apply LW.load;rfl;rfl;apply qE;apply zY;exact qF rfl)
    by_cases hpi:(p:Int)=i
    ·have hno:¬ i < (p:Int):=by omega
     have hrb:readB bs i=true:=by
      rcases hinv with h|⟨h,_⟩
      ·rw [← h,← hpi];exact readFrom_hit hlt
      ·exact absurd h hno
     rcases Nat.eq_zero_or_pos 0 with hz|hz
     ·have hT0:T=[]:=by rw [← hT,← hpi,dataL_some (by rw [hpi];exact hrb),hu,← hxd];exact List.eq_nil_of_length_eq_zero ((datF_len _ _ _).trans hz)
      apply LW.yield
      rfl
      rfl
      (apply ArgsOk.cons;rfl;apply ArgsOk.cons;rfl;exact ArgsOk.nil)
      exact hrec
      (apply zX;apply zY)
      rfl
      rfl
      (refine zI<|zL ?_;apply LW.v0;rfl;rfl;apply ValP.assign;rfl;apply zV;refine thenN<|zL ?_;apply zU;rfl;intro _;apply zR;rfl;rfl;apply qA;apply Wr.whole;rfl;rfl;rfl;apply zV;apply beginI;apply qB;apply qB;apply qA;refine zM<|zI<|zL ?_;apply LW.v0;rfl;rfl;apply ValP.move;rfl;apply LW.load;rfl;rfl;apply qE;apply zX;apply zX;apply zX;apply zX;apply zX;apply zX;apply zY;exact Rd.one' rfl;apply LW.v0;rfl;rfl;apply ValP.eqT;rfl;rfl;omega;apply LW.v0;rfl;rfl;apply ValP.move;rfl;apply LW.guardT';rfl;rfl;(with_reducible rfl);apply LW.v0;rfl;rfl;apply ValP.fieldAddr;rfl;rfl;apply LW.guardT';rfl;rfl;(with_reducible rfl);apply LW.load;rfl;rfl;apply qE;apply zY;exact Rd.one' rfl;apply LW.guardT';rfl;rfl;(with_reducible rfl);apply LW.v0;rfl;rfl;apply ValP.gtrF;rfl;rfl;omega;apply LW.v0;rfl;rfl;apply ValP.pickT';rfl;(with_reducible rfl);rfl;apply zV;refine thenN ?_;apply CW.condF;rfl;(with_reducible rfl);refine zJ<|blkN ?_;apply roundN;apply qB;apply qB;apply qA;apply LW.v0;rfl;rfl;apply ValP.notT;rfl;(with_reducible rfl);apply zV;refine thenN ?_;apply CW.condF;rfl;(with_reducible rfl);refine zJ<|thenN<|zL ?_;apply LW.v0;rfl;rfl;apply ValP.move;rfl;apply LW.v0;rfl;rfl;apply ValP.fieldAddr;rfl;rfl;apply LW.load;rfl;rfl;apply qE;apply zX;apply zY;exact Rd.one' rfl;apply LW.v0;rfl;rfl;apply ValP.addZL;rfl;rfl;decide;omega;apply LW.v0;rfl;rfl;apply ValP.assign;rfl;apply zV;refine blkN<|thenN<|zL ?_;apply LW.v0;rfl;rfl;apply ValP.move;rfl;apply LW.v0;rfl;rfl;apply ValP.addZL;rfl;rfl;decide;omega;apply LW.v0;rfl;rfl;apply ValP.assign;rfl;apply zV)
      apply thenX
      exact ⟨rfl,p+0+1,⟨by omega,.inr ⟨by omega,hT0⟩⟩,by omega,⟨rfl,rfl,rfl,trivial⟩,by (apply qR;apply qR;exact qN _)⟩
     ·omega
    ·have hnext:readFrom bs (p+0+1) i=readB bs i∨(i < ((p+0+1:Nat):Int)∧T=[]):=by
      rcases Int.lt_or_gt_of_ne hpi with h|h
      ·rcases hinv with h'|⟨h',_⟩
       ·left;rw [← h',hxd,← hu];exact readFrom_step' hlt h
       ·omega
      ·right
       refine ⟨by omega,?_⟩
       rcases hinv with h'|⟨_,h'⟩
       ·rw [readFrom_gt h] at h';rw [← hT];exact dataL_none h'.symm
       ·exact h'
     apply LW.yield
     rfl
     rfl
     (apply ArgsOk.cons;rfl;apply ArgsOk.cons;rfl;exact ArgsOk.nil)
     exact hrec
     (apply zX;apply zY)
     rfl
     rfl
     (refine zI<|zL ?_;apply LW.v0;rfl;rfl;apply ValP.assign;rfl;apply zV;refine thenN<|zL ?_;apply zU;rfl;intro _;apply zR;rfl;rfl;apply qA;apply Wr.whole;rfl;rfl;rfl;apply zV;apply beginI;apply qB;apply qB;apply qA;refine zM<|zI<|zL ?_;apply LW.v0;rfl;rfl;apply ValP.move;rfl;apply LW.load;rfl;rfl;apply qE;apply zX;apply zX;apply zX;apply zX;apply zX;apply zX;apply zY;exact Rd.one' rfl;apply LW.v0;rfl;rfl;apply ValP.eqF;rfl;rfl;omega;apply LW.v0;rfl;rfl;apply ValP.move;rfl;apply LW.guardF';rfl;rfl;simp only [Bool.not_true,Bool.not_false];rfl;apply LW.guardF';rfl;rfl;simp only [Bool.not_true,Bool.not_false];rfl;apply LW.guardF';rfl;rfl;simp only [Bool.not_true,Bool.not_false];rfl;apply LW.v0;rfl;rfl;apply ValP.pickF';rfl;(with_reducible rfl);rfl;apply zV;refine thenN ?_;apply CW.condF;rfl;(with_reducible rfl);refine zJ<|blkN ?_;apply roundN;apply qB;apply qB;apply qA;apply LW.v0;rfl;rfl;apply ValP.notT;rfl;(with_reducible rfl);apply zV;refine thenN ?_;apply CW.condF;rfl;(with_reducible rfl);refine zJ<|thenN<|zL ?_;apply LW.v0;rfl;rfl;apply ValP.move;rfl;apply LW.v0;rfl;rfl;apply ValP.fieldAddr;rfl;rfl;apply LW.load;rfl;rfl;apply qE;apply zX;apply zY;exact Rd.one' rfl;apply LW.v0;rfl;rfl;apply ValP.addZL;rfl;rfl;decide;omega;apply LW.v0;rfl;rfl;apply ValP.assign;rfl;apply zV;refine blkN<|thenN<|zL ?_;apply LW.v0;rfl;rfl;apply ValP.move;rfl;apply LW.v0;rfl;rfl;apply ValP.addZL;rfl;rfl;decide;omega;apply LW.v0;rfl;rfl;apply ValP.assign;rfl;apply zV)
     apply thenX
     exact ⟨rfl,p+0+1,⟨by omega,hnext⟩,by omega,⟨rfl,rfl,rfl,trivial⟩,by (apply qR;apply qR;exact qN _)⟩
   |some y =>
    rw [ho] at hx0 hOf0
    dsimp only at hx0
    subst hx0
    have hOf:∀ w,Calls Tryz.prog 91 #[.int .u8 (u.toNat:Int)] w (Ret w (.tuple #[.agg (opc y),.int .i64 0])):=hOf0
    (refine zI<|zI<|zL ?_;apply LW.v0;rfl;rfl;apply ValP.move;rfl;apply LW.load;rfl;rfl;apply qE;apply zX;apply zX;apply zY;exact Rd.one' rfl;apply LW.v0;rfl;rfl;apply ValP.lenR;rfl;infer_instance;rfl;apply LW.v0;rfl;rfl;apply ValP.lssT;rfl;rfl;omega;apply zV;refine thenN ?_;apply CW.condT;rfl;(with_reducible rfl);refine zJ<|thenN<|zI<|zM<|zI<|zL ?_;apply LW.load;rfl;rfl;apply qE;apply zX;apply zX;apply zY;exact Rd.one' rfl;apply LW.v0;rfl;rfl;apply ValP.move;rfl;apply LW.v0;rfl;rfl;apply ValP.indexAddrS;rfl;rfl;rfl;omega;apply LW.load;rfl;rfl;exact Known.ext (by assumption) (by simp);assumption;apply zS;rfl;rfl;infer_instance;apply ArgsOk.cons;rfl;exact ArgsOk.nil;intro w _;exact hOf w;apply LW.v0;rfl;rfl;apply ValP.move;rfl;apply LW.v0;rfl;rfl;apply ValP.extractN;rfl;rfl;apply LW.v0;rfl;rfl;apply ValP.extractN;rfl;rfl;apply zU;rfl;intro _;apply zR;rfl;rfl;apply qA;apply Wr.whole;rfl;rfl;rfl;apply LW.v0;rfl;rfl;apply ValP.assign;rfl;apply zV;refine thenN<|zI<|zI<|zL ?_;apply LW.v0;rfl;rfl;apply ValP.move;rfl;apply LW.v0;rfl;rfl;apply ValP.neF;rfl;rfl;omega;apply zV;refine thenN ?_;apply CW.condF;rfl;(with_reducible rfl);refine zJ<|thenN<|zI<|zI<|zL ?_;apply LW.v0;rfl;rfl;apply ValP.move;rfl;apply LW.v0;rfl;rfl;apply ValP.move;rfl;apply LW.load;rfl;rfl;apply qE;apply zY;exact qF rfl)
    by_cases hpi:(p:Int)=i
    ·have hno:¬ i < (p:Int):=by omega
     have hrb:readB bs i=true:=by
      rcases hinv with h|⟨h,_⟩
      ·rw [← h,← hpi];exact readFrom_hit hlt
      ·exact absurd h hno
     rcases Nat.eq_zero_or_pos y.dt with hz|hz
     ·have hT0:T=[]:=by rw [← hT,← hpi,dataL_some (by rw [hpi];exact hrb),hu,← hxd];exact List.eq_nil_of_length_eq_zero ((datF_len _ _ _).trans hz)
      apply LW.yield
      rfl
      rfl
      (apply ArgsOk.cons;rfl;apply ArgsOk.cons;rfl;exact ArgsOk.nil)
      exact hrec
      (apply zX;apply zY)
      rfl
      rfl
      (refine zI<|zL ?_;apply LW.v0;rfl;rfl;apply ValP.assign;rfl;apply zV;refine thenN<|zL ?_;apply zU;rfl;intro _;apply zR;rfl;rfl;apply qA;apply Wr.whole;rfl;rfl;rfl;apply zV;apply beginI;apply qB;apply qB;apply qA;refine zM<|zI<|zL ?_;apply LW.v0;rfl;rfl;apply ValP.move;rfl;apply LW.load;rfl;rfl;apply qE;apply zX;apply zX;apply zX;apply zX;apply zX;apply zX;apply zY;exact Rd.one' rfl;apply LW.v0;rfl;rfl;apply ValP.eqT;rfl;rfl;omega;apply LW.v0;rfl;rfl;apply ValP.move;rfl;apply LW.guardT';rfl;rfl;(with_reducible rfl);apply LW.v0;rfl;rfl;apply ValP.fieldAddr;rfl;rfl;apply LW.guardT';rfl;rfl;(with_reducible rfl);apply LW.load;rfl;rfl;apply qE;apply zY;exact Rd.one' rfl;apply LW.guardT';rfl;rfl;(with_reducible rfl);apply LW.v0;rfl;rfl;apply ValP.gtrF;rfl;rfl;omega;apply LW.v0;rfl;rfl;apply ValP.pickT';rfl;(with_reducible rfl);rfl;apply zV;refine thenN ?_;apply CW.condF;rfl;(with_reducible rfl);refine zJ<|blkN ?_;apply roundN;apply qB;apply qB;apply qA;apply LW.v0;rfl;rfl;apply ValP.notT;rfl;(with_reducible rfl);apply zV;refine thenN ?_;apply CW.condF;rfl;(with_reducible rfl);refine zJ<|thenN<|zL ?_;apply LW.v0;rfl;rfl;apply ValP.move;rfl;apply LW.v0;rfl;rfl;apply ValP.fieldAddr;rfl;rfl;apply LW.load;rfl;rfl;apply qE;apply zX;apply zY;exact Rd.one' rfl;apply LW.v0;rfl;rfl;apply ValP.addZ;rfl;rfl;omega;apply LW.v0;rfl;rfl;apply ValP.assign;rfl;apply zV;refine blkN<|thenN<|zL ?_;apply LW.v0;rfl;rfl;apply ValP.move;rfl;apply LW.v0;rfl;rfl;apply ValP.addZL;rfl;rfl;decide;omega;apply LW.v0;rfl;rfl;apply ValP.assign;rfl;apply zV)
      apply thenX
      exact ⟨rfl,p+y.dt+1,⟨by omega,.inr ⟨by omega,hT0⟩⟩,by omega,⟨rfl,rfl,rfl,trivial⟩,by (apply qR;apply qR;exact qN _)⟩
     ·have hTe:T=datF bs p y.dt:=by rw [← hT,← hpi,dataL_some (by rw [hpi];exact hrb),hu,← hxd]
      have hTl:T.length=y.dt:=by rw [hTe,datF_len]
      have hcut:=RowAt.drop (k:=p+1) hv (by omega)
      rw [ucs_drop] at hcut
      apply LW.yield
      rfl
      rfl
      (apply ArgsOk.cons;rfl;apply ArgsOk.cons;rfl;exact ArgsOk.nil)
      exact hrec
      (apply zX;apply zY)
      rfl
      rfl
      (refine zI<|zL ?_;apply LW.v0;rfl;rfl;apply ValP.assign;rfl;apply zV;refine thenN<|zL ?_;apply zU;rfl;intro _;apply zR;rfl;rfl;apply qA;apply Wr.whole;rfl;rfl;rfl;apply zV;apply beginI;apply qB;apply qB;apply qA;refine zM<|zI<|zL ?_;apply LW.v0;rfl;rfl;apply ValP.move;rfl;apply LW.load;rfl;rfl;apply qE;apply zX;apply zX;apply zX;apply zX;apply zX;apply zX;apply zY;exact Rd.one' rfl;apply LW.v0;rfl;rfl;apply ValP.eqT;rfl;rfl;omega;apply LW.v0;rfl;rfl;apply ValP.move;rfl;apply LW.guardT';rfl;rfl;(with_reducible rfl);apply LW.v0;rfl;rfl;apply ValP.fieldAddr;rfl;rfl;apply LW.guardT';rfl;rfl;(with_reducible rfl);apply LW.load;rfl;rfl;apply qE;apply zY;exact Rd.one' rfl;apply LW.guardT';rfl;rfl;(with_reducible rfl);apply LW.v0;rfl;rfl;apply ValP.gtrT;rfl;rfl;omega;apply LW.v0;rfl;rfl;apply ValP.pickT';rfl;(with_reducible rfl);rfl;apply zV;refine thenN ?_;apply CW.condT;rfl;(with_reducible rfl);refine zI<|zL ?_;apply LW.v0;rfl;rfl;apply ValP.fieldAddr;rfl;rfl;apply LW.load;rfl;rfl;apply qE;apply zY;exact Rd.one' rfl)
      refine LW.makeOwn rfl inferInstance inferInstance inferInstance rfl rfl (by omega) (by simp only [maxLen];omega) fun g=>?_
      subst hpi
      (apply LW.v0;rfl;rfl;apply ValP.assign;rfl;apply zV;refine thenN<|zI<|zL ?_;apply LW.v0;rfl;rfl;apply ValP.move;rfl;apply LW.load;rfl;rfl;apply qE;apply zX;apply zX;apply zX;apply zX;apply zX;apply zX;apply zX;apply zX;apply zY;exact Rd.one' rfl;apply LW.load;rfl;rfl;apply qE;apply zX;apply zX;apply zX;apply zX;apply zX;apply zX;apply zX;apply zY;exact Rd.one' rfl;apply LW.v0;rfl;rfl;apply ValP.addZL;rfl;rfl;decide;omega;apply LW.v0;rfl;rfl;apply ValP.cutFrom;infer_instance;infer_instance;rfl;rfl;omega)
      have fin:∀ cur:Array Value,cur.toList=ucs T→IsRow 5 1 (.slice (some ⟨g,0,none⟩) y.dt y.dt) T.length (ucs T) [(g,.cells cur 5 (0,0))]:=fun cur hc=>by
       have h1:cur.size=y.dt:=by rw [← Array.length_toList,hc,ucs_len,hTl]
       have:=IsRow.own (E:=5) (size:=1) (g:=g) (n:=y.dt) (cap:=y.dt) (cur:=cur) (xs:=ucs T) (Nat.le_refl _) (by simp only [maxLen];omega) (by rw [h1,Nat.mul_one]) (by rw [hc];exact List.take_of_length_le (by rw [ucs_len,hTl,Nat.mul_one];exact Nat.le_refl _)) (by rw [ucs_len,hTl,Nat.mul_one])
       rw [hTl]
       exact this
      have hz0:(List.replicate y.dt (Value.int .u8 0))=ucs (List.replicate y.dt 0):=(ucs_zero _).symm
      rcases Nat.lt_or_ge (bs.length - (p+1)) y.dt with hsh|hfull
      ·refine LW.copyAt (cur:=(List.replicate y.dt (Value.int .u8 0)).toArray) (E':=5) (m:=bs.length - (p+1)) (news:=ucs (bs.drop (p+1))) rfl rfl inferInstance inferInstance inferInstance rfl rfl (fun w' hst=>hcut.st hst) (ucs_cells _) (by omega) (by simp;omega) (by (apply qA)) ?_
       have hc:((List.replicate y.dt (Value.int .u8 0)).toArray.toList.take 0++ucs (bs.drop (p+1))++(List.replicate y.dt (Value.int .u8 0)).toArray.toList.drop (0+(bs.length - (p+1)))).toArray.toList=ucs T:=by
        rw [hTe,datF_eq,ucs_app,ucs_zero,List.take_of_length_le (show (bs.drop (p+1)).length≤y.dt by rw [List.length_drop];omega)]
        simp
       (apply zV;refine thenN<|zI<|zL ?_;apply LW.v0;rfl;rfl;apply ValP.move;rfl;apply zR;rfl;rfl;apply qB;apply qB;apply qB;apply qB;apply qB;apply qB;apply qA;apply Wr.cells;rfl;rfl;simp only [List.size_toArray,List.length_cons,List.length_nil];omega;simp only [fillC,wc,wrCells,Value.cells,qK,qH,qM,qL,Nat.reduceAdd,Nat.reduceMul,qO,Nat.mul_one];rfl;apply zV;refine thenN<|zK<|blkR ?_)
       apply roundR
       (apply qB;apply qB;apply qB;apply qA)
       (apply LW.v0;rfl;rfl;apply ValP.notF;rfl;(with_reducible rfl);apply zV;refine thenN ?_;apply CW.condT;rfl;(with_reducible rfl);refine zK<|thenR<|blkR<|thenR<|thenR<|blkR ?_)
       apply rangeR
       (exact .inl rfl)
       (exact Shut.nil)
       (apply qB;apply qB;apply qB;apply qA)
       (refine blkR<|thenR ?_)
       have hfin:=fin _ hc
       apply finM [_];(exact .inl rfl);(apply Shut.cons;apply qB;apply qB;apply qB;apply qB;apply qA;exact Shut.nil);rfl;(apply zD;apply zH;rfl;apply qE;apply zX;apply zX;apply zX;apply zX;apply zX;apply zX;apply zY;exact Rd.one' rfl;exact zF)
       case hg=>exact List.singleton_sublist.2 (by (exact List.Mem.head _))
       exact hfin
      ·refine LW.copyFull (cur:=(List.replicate y.dt (Value.int .u8 0)).toArray) (E':=5) (m:=bs.length - (p+1)) (news:=ucs (bs.drop (p+1))) rfl rfl inferInstance inferInstance inferInstance rfl rfl (fun w' hst=>hcut.st hst) (ucs_cells _) hz (by omega) (by simp) (by (apply qA)) ?_
       have hc:((List.replicate y.dt (Value.int .u8 0)).toArray.toList.take 0++(ucs (bs.drop (p+1))).take y.dt++(List.replicate y.dt (Value.int .u8 0)).toArray.toList.drop (0+y.dt)).toArray.toList=ucs T:=by
        rw [hTe,datF_eq,ucs_app,ucs_zero,show y.dt - (bs.length - (p+1))=0 by omega,← ucs_take,Nat.mul_one]
        simp
       (apply zV;refine thenN<|zI<|zL ?_;apply LW.v0;rfl;rfl;apply ValP.move;rfl;apply zR;rfl;rfl;apply qB;apply qB;apply qB;apply qB;apply qB;apply qB;apply qA;apply Wr.cells;rfl;rfl;simp only [List.size_toArray,List.length_cons,List.length_nil];omega;simp only [fillC,wc,wrCells,Value.cells,qK,qH,qM,qL,Nat.reduceAdd,Nat.reduceMul,qO,Nat.mul_one];rfl;apply zV;refine thenN<|zK<|blkR ?_)
       apply roundR
       (apply qB;apply qB;apply qB;apply qA)
       (apply LW.v0;rfl;rfl;apply ValP.notF;rfl;(with_reducible rfl);apply zV;refine thenN ?_;apply CW.condT;rfl;(with_reducible rfl);refine zK<|thenR<|blkR<|thenR<|thenR<|blkR ?_)
       apply rangeR
       (exact .inl rfl)
       (exact Shut.nil)
       (apply qB;apply qB;apply qB;apply qA)
       (refine blkR<|thenR ?_)
       have hfin:=fin _ hc
       apply finM [_];(exact .inl rfl);(apply Shut.cons;apply qB;apply qB;apply qB;apply qB;apply qA;exact Shut.nil);rfl;(apply zD;apply zH;rfl;apply qE;apply zX;apply zX;apply zX;apply zX;apply zX;apply zX;apply zY;exact Rd.one' rfl;exact zF)
       case hg=>exact List.singleton_sublist.2 (by (exact List.Mem.head _))
       exact hfin
    ·have hnext:readFrom bs (p+y.dt+1) i=readB bs i∨(i < ((p+y.dt+1:Nat):Int)∧T=[]):=by
      rcases Int.lt_or_gt_of_ne hpi with h|h
      ·rcases hinv with h'|⟨h',_⟩
       ·left;rw [← h',hxd,← hu];exact readFrom_step' hlt h
       ·omega
      ·right
       refine ⟨by omega,?_⟩
       rcases hinv with h'|⟨_,h'⟩
       ·rw [readFrom_gt h] at h';rw [← hT];exact dataL_none h'.symm
       ·exact h'
     apply LW.yield
     rfl
     rfl
     (apply ArgsOk.cons;rfl;apply ArgsOk.cons;rfl;exact ArgsOk.nil)
     exact hrec
     (apply zX;apply zY)
     rfl
     rfl
     (refine zI<|zL ?_;apply LW.v0;rfl;rfl;apply ValP.assign;rfl;apply zV;refine thenN<|zL ?_;apply zU;rfl;intro _;apply zR;rfl;rfl;apply qA;apply Wr.whole;rfl;rfl;rfl;apply zV;apply beginI;apply qB;apply qB;apply qA;refine zM<|zI<|zL ?_;apply LW.v0;rfl;rfl;apply ValP.move;rfl;apply LW.load;rfl;rfl;apply qE;apply zX;apply zX;apply zX;apply zX;apply zX;apply zX;apply zY;exact Rd.one' rfl;apply LW.v0;rfl;rfl;apply ValP.eqF;rfl;rfl;omega;apply LW.v0;rfl;rfl;apply ValP.move;rfl;apply LW.guardF';rfl;rfl;simp only [Bool.not_true,Bool.not_false];rfl;apply LW.guardF';rfl;rfl;simp only [Bool.not_true,Bool.not_false];rfl;apply LW.guardF';rfl;rfl;simp only [Bool.not_true,Bool.not_false];rfl;apply LW.v0;rfl;rfl;apply ValP.pickF';rfl;(with_reducible rfl);rfl;apply zV;refine thenN ?_;apply CW.condF;rfl;(with_reducible rfl);refine zJ<|blkN ?_;apply roundN;apply qB;apply qB;apply qA;apply LW.v0;rfl;rfl;apply ValP.notT;rfl;(with_reducible rfl);apply zV;refine thenN ?_;apply CW.condF;rfl;(with_reducible rfl);refine zJ<|thenN<|zL ?_;apply LW.v0;rfl;rfl;apply ValP.move;rfl;apply LW.v0;rfl;rfl;apply ValP.fieldAddr;rfl;rfl;apply LW.load;rfl;rfl;apply qE;apply zX;apply zY;exact Rd.one' rfl;apply LW.v0;rfl;rfl;apply ValP.addZ;rfl;rfl;omega;apply LW.v0;rfl;rfl;apply ValP.assign;rfl;apply zV;refine blkN<|thenN<|zL ?_;apply LW.v0;rfl;rfl;apply ValP.move;rfl;apply LW.v0;rfl;rfl;apply ValP.addZL;rfl;rfl;decide;omega;apply LW.v0;rfl;rfl;apply ValP.assign;rfl;apply zV)
     apply thenX
     exact ⟨rfl,p+y.dt+1,⟨by omega,hnext⟩,by omega,⟨rfl,rfl,rfl,trivial⟩,by (apply qR;apply qR;exact qN _)⟩
  ·have hT0:T=[]:=by
    rcases hinv with h|⟨_,h⟩
    ·rw [readFrom_end hge] at h;rw [← hT];exact dataL_none h.symm
    ·exact h
   subst hT0
   (refine zI<|zI<|zL ?_;apply LW.v0;rfl;rfl;apply ValP.move;rfl;apply LW.load;rfl;rfl;apply qE;apply zX;apply zX;apply zY;exact Rd.one' rfl;apply LW.v0;rfl;rfl;apply ValP.lenR;rfl;infer_instance;rfl;apply LW.v0;rfl;rfl;apply ValP.lssF;rfl;rfl;omega;apply zV;refine thenN ?_;apply CW.condF;rfl;(with_reducible rfl);refine CW.exit<|thenE<|thenE<|blkE rfl ?_)
   apply rangeN
   (exact .inr rfl)
   (exact Shut.nil)
   (apply qA)
   (refine blkN<|thenM<|zI<|zL ?_;apply zR;rfl;rfl;apply qB;apply qB;apply qB;apply qA;apply Wr.cells;rfl;rfl;simp only [List.size_toArray,List.length_cons,List.length_nil];omega;simp only [fillC,wc,wrCells,Value.cells,qK,qH,qM,qL,Nat.reduceAdd,Nat.reduceMul,qO,Nat.mul_one];rfl;apply zV;refine thenN<|zK ?_)
   apply finM [];(exact .inl rfl);(apply Shut.cons;apply qB;apply qA;exact Shut.nil);rfl;(apply zD;apply zH;rfl;apply qE;apply zX;apply zX;apply zX;apply zY;exact Rd.one' rfl;exact zF);exact List.nil_sublist _
   exact .nil
end
end Go.Proofs.YtdeggbkbblfpoaaGreatDoor.CK
namespace Go.Proofs.YtdeggbkbblfpoaaGreatDoor
open Go Go.RowKit SL
set_option maxRecDepth 8000
set_option maxHeartbeats 4000000
set_option linter.unusedSimpArgs false
set_option linter.unusedVariables false
attribute [local irreducible] SL.CW SL.LW SL.DW Calls SL.Ret SL.RetG SL.beginQ SL.roundQ SL.rangeQ SL.inQ SL.RW SL.AnyW SL.thenQ SL.thenC SL.thenW SL.blkQ SL.finQ SL.ValP SL.NewP SL.SetP SL.CallP SL.Rd SL.Wr SL.Known
section
open CK (CheckC_calls)
def aska (kind:Int) (op:Nat) (ws dt:Value):Array Value:=#[.int .i64 kind,.int .u8 (op:Int),ws,dt]
section rd
variable {P : Program} {T E : TypeId} {fr : Nat × Nat} {kind : Int} {op : Nat} {ws dt : Value}
end rd
theorem word_rd {P:Program} {T E:TypeId} {fr:Nat × Nat} {cs:Array Value} {off m:Nat} {l:List Nat} [AgI P T true] {z:Value} [InfoI P T 4 z] (hx:(cs.toList.drop off).take m=wcs l) (i:Nat) (hi:i < l.length):Rd P T (.cells cs E fr) (off+i * 4) (wv (l.getD i 0)):=by
 have h:=Rd.elemA (P:=P) (T:=T) (E:=E) (fr:=fr) (g:=fun a=>(wc a).toList) (l:=l) (a:=l[i]) hx (wcs_len l) (List.getElem?_eq_getElem hi)
 rw [List.getD_eq_getElem?_getD,List.getElem?_eq_getElem hi]
 exact h
end
section
open CK (CheckC_calls)
structure ClV where
 op:Nat
 dst:Nat
 self:Nat
 frm:Nat
 val:Nat
 mv:Bool
 gas:Nat
 inp:Value
 code:Value
 pl:Nat
 n:Nat
 stat:Bool
section rd
variable {P : Program} {T E : TypeId} {fr : Nat × Nat} {op dst self frm val gas pl n : Nat} {inp code : Value} {mv stat : Bool}
end rd
end
theorem rSame1_calls (a b:List UInt8) (va vb:Value) (w:World) (ha:RowAt w 1 va a.length (ucs a)) (hb:RowAt w 1 vb b.length (ucs b)):Calls Tryz.prog 46 #[va,vb] w (Ret w (.bool (decide (a=b)))):=by
 obtain ⟨p0,c0,rfl,hc0,hm0⟩:=ha.form
 obtain ⟨p1,c1,rfl,hc1,hm1⟩:=hb.form
 simp only [maxLen] at hm0 hm1
 refine enter (args:=[_,_]) _ [] [] Tryz.func46 rfl Tryz.ntmps46 rfl (by simp) .nil ?_
 by_cases hl:a.length=b.length
 ·(refine sRz<|vAz<|nNz<|zI<|sRz<|vMz<|lvz (.lenR rfl inferInstance rfl)<|vMz<|lvz (.lenR rfl inferInstance rfl) ?_;refine lvz (.neF rfl rfl (by omega)) ?_;refine nNz<|cFz<|zJ<|thenN<|zI<|sRz<|vMz<|lvz (.lenR rfl inferInstance rfl)<|vMz<|nNz<|zM ?_)
  refine CW.loop (fun k:Nat=>([(0,.slice p0 a.length c0),(1,.slice p1 b.length c1),(12,.int .i64 (a.length:Int)),(13,.int .i64 (k:Int))],[]))
   (fun k=>k≤a.length∧∀ j,j < k→a[j]?=b[j]?) (fun k=>a.length - k) 0 ⟨Nat.zero_le _,fun j h=>absurd h (Nat.not_lt_zero _)⟩ ⟨rfl,rfl,rfl,rfl,trivial⟩ (qN _) ?_
  rintro k ⟨hk,hall⟩
  dsimp only
  rcases Nat.lt_or_ge k a.length with hlt|hge
  ·obtain ⟨b1,off1,c',cs1,E1,fr1,heq,hbk1,hx1⟩:=ha.pos (by omega)
   cases heq
   obtain ⟨b2,off2,c',cs2,E2,fr2,heq,hbk2,hx2⟩:=hb.pos (by omega)
   cases heq
   have hlt2:k < b.length:=by omega
   obtain ⟨x,hx⟩:∃ x,a[k]=x:=⟨_,rfl⟩
   obtain ⟨y,hy⟩:∃ y,b[k]=y:=⟨_,rfl⟩
   have hrd1:Rd Tryz.prog 5 (.cells cs1 E1 fr1) (off1+k * 1) (.int .u8 (x.toNat:Int)):=Rd.elem1 hx1 (ucs_one a) (List.getElem?_eq_getElem hlt) (by rw [hx])
   have hrd2:Rd Tryz.prog 5 (.cells cs2 E2 fr2) (off2+k * 1) (.int .u8 (y.toNat:Int)):=Rd.elem1 hx2 (ucs_one b) (List.getElem?_eq_getElem hlt2) (by rw [hy])
   by_cases he:x=y
   ·subst he
    (refine sRz ?_;refine lvz (.lssT rfl rfl (by omega)) ?_;refine nNz<|zI<|cTz<|zJ<|thenN<|zI<|zM<|sRz<|vMz<|vAz<|nNz<|zI ?_;refine CW.quiet rfl mixed (by decide +kernel) ?_;apply QW.v0;rfl;exact zC;apply ValP.move;rfl;apply QW.v0;rfl;exact zC;apply ValP.move;rfl;apply QW.v0;rfl;exact zC;apply ValP.indexAddrS;rfl;rfl;rfl;omega;apply QW.load;rfl;exact zC;rfl;exact Known.ext (by assumption) (by simp);assumption;apply QW.v0;rfl;exact zC;apply ValP.move;rfl;apply QW.v0;rfl;exact zC;apply ValP.move;rfl;apply QW.v0;rfl;exact zC;apply ValP.indexAddrS;rfl;rfl;rfl;omega;apply QW.load;rfl;exact zC;rfl;exact Known.ext (by assumption) (by simp);assumption;apply QW.v0;rfl;exact zC;apply ValP.neF;rfl;rfl;omega;refine QW.nil<|thenN<|cFz<|zJ<|blkN<|thenN<|zL ?_;refine lvz (.addZL rfl rfl (by decide) (by omega)) ?_;refine vMz ?_;apply zV)
    apply thenX
    refine ⟨rfl,k+1,⟨hlt,fun j hj=>?_⟩,by omega,⟨rfl,rfl,rfl,rfl,trivial⟩,qN _⟩
    rcases Nat.lt_or_ge j k with h|h
    ·exact hall j h
    ·obtain rfl:j=k:=by omega
     rw [List.getElem?_eq_getElem hlt,List.getElem?_eq_getElem hlt2,hx,hy]
   ·have hne:¬ (x.toNat:Int)=(y.toNat:Int):=fun h=>he (UInt8.toNat_inj.1 (by omega))
    rw [decide_eq_false (fun h:a=b=>he (by rw [← hx,← hy];subst h;rfl))]
    (refine sRz ?_;refine lvz (.lssT rfl rfl (by omega)) ?_;refine nNz<|zI<|cTz<|zJ<|thenN<|zI<|zM<|sRz<|vMz<|vAz<|nNz<|zI ?_;refine CW.quiet rfl mixed (by decide +kernel) ?_;apply QW.v0;rfl;exact zC;apply ValP.move;rfl;apply QW.v0;rfl;exact zC;apply ValP.move;rfl;apply QW.v0;rfl;exact zC;apply ValP.indexAddrS;rfl;rfl;rfl;omega;apply QW.load;rfl;exact zC;rfl;exact Known.ext (by assumption) (by simp);assumption;apply QW.v0;rfl;exact zC;apply ValP.move;rfl;apply QW.v0;rfl;exact zC;apply ValP.move;rfl;apply QW.v0;rfl;exact zC;apply ValP.indexAddrS;rfl;rfl;rfl;omega;apply QW.load;rfl;exact zC;rfl;exact Known.ext (by assumption) (by simp);assumption;apply QW.v0;rfl;exact zC;apply ValP.neT;rfl;rfl;omega;refine QW.nil<|thenN<|cTz<|sRz<|vAz<|nNz<|zK<|blkR<|thenR<|thenR<|blkR<|thenR ?_)
    (apply finR;exact .inl rfl;rfl;rfl;rfl;apply zD;exact zG rfl;exact zF)
    rfl
  ·rw [decide_eq_true (List.ext_getElem? fun j=>by
    rcases Nat.lt_or_ge j k with h|h
    ·exact hall j h
    ·rw [List.getElem?_eq_none (by omega),List.getElem?_eq_none (by omega)])]
   (refine sRz ?_;refine lvz (.lssF rfl rfl (by omega)) ?_;refine nNz<|zI<|cFz<|CW.exit<|thenE<|thenE<|blkE rfl<|thenN<|sRz<|vAz<|nNz<|zK ?_)
   (apply finR;exact .inl rfl;rfl;rfl;rfl;apply zD;exact zG rfl;exact zF)
   rfl
 ·rw [decide_eq_false (fun h:a=b=>hl (by rw [h]))]
  (refine sRz<|vAz<|nNz<|zI<|sRz<|vMz<|lvz (.lenR rfl inferInstance rfl)<|vMz<|lvz (.lenR rfl inferInstance rfl) ?_;refine lvz (.neT rfl rfl (by omega)) ?_;refine nNz<|cTz<|sRz<|vAz<|nNz<|zK<|thenR ?_)
  (apply finR;exact .inl rfl;rfl;rfl;rfl;apply zD;exact zG rfl;exact zF)
  rfl
theorem rSameB_calls (a b:List UInt8) (va vb:Value) (w:World) (ha:RowAt w 1 va a.length (ucs a)) (hb:RowAt w 1 vb b.length (ucs b)):Calls Tryz.prog 101 #[va,vb] w (Ret w (.bool (decide (a=b)))):=by
 obtain ⟨p0,c0,rfl,hc0,hm0⟩:=ha.form
 obtain ⟨p1,c1,rfl,hc1,hm1⟩:=hb.form
 simp only [maxLen] at hm0 hm1
 refine enter (args:=[_,_]) _ [] [] Tryz.func101 rfl Tryz.ntmps101 rfl (by simp) .nil ?_
 by_cases hl:a.length=b.length
 ·(refine sRz<|vAz<|nNz<|zI<|sRz<|vMz<|lvz (.lenR rfl inferInstance rfl)<|vMz<|lvz (.lenR rfl inferInstance rfl) ?_;refine lvz (.neF rfl rfl (by omega)) ?_;refine nNz<|cFz<|zJ<|thenN<|zI<|sRz<|vAz<|nNz<|zM ?_)
  refine CW.loop (fun k:Nat=>([(0,.slice p0 a.length c0),(1,.slice p1 b.length c1),(4,.bool false),(5,.int .i64 (k:Int))],[]))
   (fun k=>k≤a.length∧∀ j,j < k→a[j]?=b[j]?) (fun k=>a.length - k) 0 ⟨Nat.zero_le _,fun j h=>absurd h (Nat.not_lt_zero _)⟩ ⟨rfl,rfl,rfl,rfl,trivial⟩ (qN _) ?_
  rintro k ⟨hk,hall⟩
  dsimp only
  rcases Nat.lt_or_ge k a.length with hlt|hge
  ·obtain ⟨b1,off1,c',cs1,E1,fr1,heq,hbk1,hx1⟩:=ha.pos (by omega)
   cases heq
   obtain ⟨b2,off2,c',cs2,E2,fr2,heq,hbk2,hx2⟩:=hb.pos (by omega)
   cases heq
   have hlt2:k < b.length:=by omega
   obtain ⟨x,hx⟩:∃ x,a[k]=x:=⟨_,rfl⟩
   obtain ⟨y,hy⟩:∃ y,b[k]=y:=⟨_,rfl⟩
   have hrd1:Rd Tryz.prog 5 (.cells cs1 E1 fr1) (off1+k * 1) (.int .u8 (x.toNat:Int)):=Rd.elem1 hx1 (ucs_one a) (List.getElem?_eq_getElem hlt) (by rw [hx])
   have hrd2:Rd Tryz.prog 5 (.cells cs2 E2 fr2) (off2+k * 1) (.int .u8 (y.toNat:Int)):=Rd.elem1 hx2 (ucs_one b) (List.getElem?_eq_getElem hlt2) (by rw [hy])
   by_cases he:x=y
   ·subst he
    (refine zI<|sRz<|vMz<|vMz<|lvz (.lenR rfl inferInstance rfl) ?_;refine lvz (.lssT rfl rfl (by omega)) ?_;refine nNz<|cTz<|zJ<|thenN<|zI<|zM<|zI ?_;refine CW.quiet rfl mixed (by decide +kernel) ?_;apply QW.v0;rfl;exact zC;apply ValP.move;rfl;apply QW.v0;rfl;exact zC;apply ValP.move;rfl;apply QW.v0;rfl;exact zC;apply ValP.indexAddrS;rfl;rfl;rfl;omega;apply QW.load;rfl;exact zC;rfl;exact Known.ext (by assumption) (by simp);assumption;apply QW.v0;rfl;exact zC;apply ValP.move;rfl;apply QW.v0;rfl;exact zC;apply ValP.move;rfl;apply QW.v0;rfl;exact zC;apply ValP.indexAddrS;rfl;rfl;rfl;omega;apply QW.load;rfl;exact zC;rfl;exact Known.ext (by assumption) (by simp);assumption;apply QW.v0;rfl;exact zC;apply ValP.neF;rfl;rfl;omega;refine QW.nil<|thenN<|cFz<|zJ<|blkN<|thenN<|zL<|vMz ?_;refine lvz (.addZL rfl rfl (by decide) (by omega)) ?_;refine vAz ?_;apply zV)
    apply thenX
    refine ⟨rfl,k+1,⟨hlt,fun j hj=>?_⟩,by omega,⟨rfl,rfl,rfl,rfl,trivial⟩,qN _⟩
    rcases Nat.lt_or_ge j k with h|h
    ·exact hall j h
    ·obtain rfl:j=k:=by omega
     rw [List.getElem?_eq_getElem hlt,List.getElem?_eq_getElem hlt2,hx,hy]
   ·have hne:¬ (x.toNat:Int)=(y.toNat:Int):=fun h=>he (UInt8.toNat_inj.1 (by omega))
    rw [decide_eq_false (fun h:a=b=>he (by rw [← hx,← hy];subst h;rfl))]
    (refine zI<|sRz<|vMz<|vMz<|lvz (.lenR rfl inferInstance rfl) ?_;refine lvz (.lssT rfl rfl (by omega)) ?_;refine nNz<|cTz<|zJ<|thenN<|zI<|zM<|zI ?_;refine CW.quiet rfl mixed (by decide +kernel) ?_;apply QW.v0;rfl;exact zC;apply ValP.move;rfl;apply QW.v0;rfl;exact zC;apply ValP.move;rfl;apply QW.v0;rfl;exact zC;apply ValP.indexAddrS;rfl;rfl;rfl;omega;apply QW.load;rfl;exact zC;rfl;exact Known.ext (by assumption) (by simp);assumption;apply QW.v0;rfl;exact zC;apply ValP.move;rfl;apply QW.v0;rfl;exact zC;apply ValP.move;rfl;apply QW.v0;rfl;exact zC;apply ValP.indexAddrS;rfl;rfl;rfl;omega;apply QW.load;rfl;exact zC;rfl;exact Known.ext (by assumption) (by simp);assumption;apply QW.v0;rfl;exact zC;apply ValP.neT;rfl;rfl;omega;refine QW.nil<|thenN<|cTz<|sRz<|vAz<|nNz<|zK<|blkR<|thenR<|thenR<|blkR<|thenR ?_)
    (apply finR;exact .inl rfl;rfl;rfl;rfl;apply zD;exact zG rfl;exact zF)
    rfl
  ·rw [decide_eq_true (List.ext_getElem? fun j=>by
    rcases Nat.lt_or_ge j k with h|h
    ·exact hall j h
    ·rw [List.getElem?_eq_none (by omega),List.getElem?_eq_none (by omega)])]
   (refine zI<|sRz<|vMz<|vMz<|lvz (.lenR rfl inferInstance rfl) ?_;refine lvz (.lssF rfl rfl (by omega)) ?_;refine nNz<|cFz<|CW.exit<|thenE<|thenE<|blkE rfl<|thenN<|sRz<|vAz<|nNz<|zK ?_)
   (apply finR;exact .inl rfl;rfl;rfl;rfl;apply zD;exact zG rfl;exact zF)
   rfl
 ·rw [decide_eq_false (fun h:a=b=>hl (by rw [h]))]
  (refine sRz<|vAz<|nNz<|zI<|sRz<|vMz<|lvz (.lenR rfl inferInstance rfl)<|vMz<|lvz (.lenR rfl inferInstance rfl) ?_;refine lvz (.neT rfl rfl (by omega)) ?_;refine nNz<|cTz<|sRz<|vAz<|nNz<|zK<|thenR ?_)
  (apply finR;exact .inl rfl;rfl;rfl;rfl;apply zD;exact zG rfl;exact zF)
  rfl
theorem rSameW_calls (a b:List Nat) (hwa:∀ x∈a,x < M256) (hwb:∀ x∈b,x < M256) (va vb:Value) (w:World) (ha:RowAt w 4 va a.length (wcs a)) (hb:RowAt w 4 vb b.length (wcs b)):Calls Tryz.prog 48 #[va,vb] w (Ret w (.bool (decide (a=b)))):=by
 obtain ⟨p0,c0,rfl,hc0,hm0⟩:=ha.form
 obtain ⟨p1,c1,rfl,hc1,hm1⟩:=hb.form
 simp only [maxLen] at hm0 hm1
 refine enter (args:=[_,_]) _ [] [] Tryz.func48 rfl Tryz.ntmps48 rfl (by simp) .nil ?_
 by_cases hl:a.length=b.length
 ·(refine sRz<|vAz<|nNz<|zI<|sRz<|vMz<|lvz (.lenR rfl inferInstance rfl)<|vMz<|lvz (.lenR rfl inferInstance rfl) ?_;refine lvz (.neF rfl rfl (by omega)) ?_;refine nNz<|cFz<|zJ<|thenN<|zI<|sRz<|vAz<|nNz<|zM ?_)
  refine CW.loop (fun k:Nat=>([(0,.slice p0 a.length c0),(1,.slice p1 b.length c1),(4,.bool false),(5,.int .i64 (k:Int))],[]))
   (fun k=>k≤a.length∧∀ j,j < k→a[j]?=b[j]?) (fun k=>a.length - k) 0 ⟨Nat.zero_le _,fun j h=>absurd h (Nat.not_lt_zero _)⟩ ⟨rfl,rfl,rfl,rfl,trivial⟩ (qN _) ?_
  rintro k ⟨hk,hall⟩
  dsimp only
  rcases Nat.lt_or_ge k a.length with hlt|hge
  ·obtain ⟨b1,off1,c',cs1,E1,fr1,heq,hbk1,hx1⟩:=ha.pos (by omega)
   cases heq
   obtain ⟨b2,off2,c',cs2,E2,fr2,heq,hbk2,hx2⟩:=hb.pos (by omega)
   cases heq
   have hlt2:k < b.length:=by omega
   obtain ⟨x,hx⟩:∃ x,a[k]=x:=⟨_,rfl⟩
   obtain ⟨y,hy⟩:∃ y,b[k]=y:=⟨_,rfl⟩
   have hxl:x < M256:=by rw [← hx];exact hwa _ (List.getElem_mem hlt)
   have hyl:y < M256:=by rw [← hy];exact hwb _ (List.getElem_mem hlt2)
   have hrd1:Rd Tryz.prog 29 (.cells cs1 E1 fr1) (off1+k * 4) (wv x):=by have h:=word_rd (P:=Tryz.prog) (T:=29) (E:=E1) (fr:=fr1) hx1 k hlt;rwa [List.getD_eq_getElem?_getD,List.getElem?_eq_getElem hlt,Option.getD_some,hx] at h
   have hrd2:Rd Tryz.prog 29 (.cells cs2 E2 fr2) (off2+k * 4) (wv y):=by have h:=word_rd (P:=Tryz.prog) (T:=29) (E:=E2) (fr:=fr2) hx2 k hlt2;rwa [List.getD_eq_getElem?_getD,List.getElem?_eq_getElem hlt2,Option.getD_some,hy] at h
   by_cases he:x=y
   ·subst he
    (refine zI<|sRz<|vMz<|vMz<|lvz (.lenR rfl inferInstance rfl) ?_;refine lvz (.lssT rfl rfl (by omega)) ?_;refine nNz<|cTz<|zJ<|thenN<|zI<|zM<|zI ?_;refine CW.quiet rfl mixed (by decide +kernel) ?_;apply QW.v0;rfl;exact zC;apply ValP.move;rfl;apply QW.v0;rfl;exact zC;apply ValP.move;rfl;apply QW.v0;rfl;exact zC;apply ValP.indexAddrS;rfl;rfl;rfl;omega;apply QW.load;rfl;exact zC;rfl;exact Known.ext (by assumption) (by simp);assumption;apply QW.v0;rfl;exact zC;apply ValP.move;rfl;apply QW.v0;rfl;exact zC;apply ValP.move;rfl;apply QW.v0;rfl;exact zC;apply ValP.indexAddrS;rfl;rfl;rfl;omega;apply QW.load;rfl;exact zC;rfl;exact Known.ext (by assumption) (by simp);assumption;apply QW.v0;rfl;exact zC;apply ValP.neWF;rfl;rfl;(with_reducible rfl);refine QW.nil<|thenN<|cFz<|zJ<|blkN<|thenN<|zL<|vMz ?_;refine lvz (.addZL rfl rfl (by decide) (by omega)) ?_;refine vAz ?_;apply zV)
    apply thenX
    refine ⟨rfl,k+1,⟨hlt,fun j hj=>?_⟩,by omega,⟨rfl,rfl,rfl,rfl,trivial⟩,qN _⟩
    rcases Nat.lt_or_ge j k with h|h
    ·exact hall j h
    ·obtain rfl:j=k:=by omega
     rw [List.getElem?_eq_getElem hlt,List.getElem?_eq_getElem hlt2,hx,hy]
   ·have hne:=he
    rw [decide_eq_false (fun h:a=b=>he (by rw [← hx,← hy];subst h;rfl))]
    (refine zI<|sRz<|vMz<|vMz<|lvz (.lenR rfl inferInstance rfl) ?_;refine lvz (.lssT rfl rfl (by omega)) ?_;refine nNz<|cTz<|zJ<|thenN<|zI<|zM<|zI ?_;refine CW.quiet rfl mixed (by decide +kernel) ?_;apply QW.v0;rfl;exact zC;apply ValP.move;rfl;apply QW.v0;rfl;exact zC;apply ValP.move;rfl;apply QW.v0;rfl;exact zC;apply ValP.indexAddrS;rfl;rfl;rfl;omega;apply QW.load;rfl;exact zC;rfl;exact Known.ext (by assumption) (by simp);assumption;apply QW.v0;rfl;exact zC;apply ValP.move;rfl;apply QW.v0;rfl;exact zC;apply ValP.move;rfl;apply QW.v0;rfl;exact zC;apply ValP.indexAddrS;rfl;rfl;rfl;omega;apply QW.load;rfl;exact zC;rfl;exact Known.ext (by assumption) (by simp);assumption;apply QW.v0;rfl;exact zC;apply ValP.neWT;rfl;rfl;assumption;assumption;assumption;refine QW.nil<|thenN<|cTz<|sRz<|vAz<|nNz<|zK<|blkR<|thenR<|thenR<|blkR<|thenR ?_)
    (apply finR;exact .inl rfl;rfl;rfl;rfl;apply zD;exact zG rfl;exact zF)
    rfl
  ·rw [decide_eq_true (List.ext_getElem? fun j=>by
    rcases Nat.lt_or_ge j k with h|h
    ·exact hall j h
    ·rw [List.getElem?_eq_none (by omega),List.getElem?_eq_none (by omega)])]
   (refine zI<|sRz<|vMz<|vMz<|lvz (.lenR rfl inferInstance rfl) ?_;refine lvz (.lssF rfl rfl (by omega)) ?_;refine nNz<|cFz<|CW.exit<|thenE<|thenE<|blkE rfl<|thenN<|sRz<|vAz<|nNz<|zK ?_)
   (apply finR;exact .inl rfl;rfl;rfl;rfl;apply zD;exact zG rfl;exact zF)
   rfl
 ·rw [decide_eq_false (fun h:a=b=>hl (by rw [h]))]
  (refine sRz<|vAz<|nNz<|zI<|sRz<|vMz<|lvz (.lenR rfl inferInstance rfl)<|vMz<|lvz (.lenR rfl inferInstance rfl) ?_;refine lvz (.neT rfl rfl (by omega)) ?_;refine nNz<|cTz<|sRz<|vAz<|nNz<|zK<|thenR ?_)
  (apply finR;exact .inl rfl;rfl;rfl;rfl;apply zD;exact zG rfl;exact zF)
  rfl
end Go.Proofs.YtdeggbkbblfpoaaGreatDoor
namespace Go.Proofs.YtdeggbkbblfpoaaGreatDoor.SL
set_option linter.unusedVariables false
set_option linter.unusedSimpArgs false
open Go Go.RowKit
theorem row_append0 {P:Program} {T E ty:TypeId} {i:TypeInfo} {z:Value} {size:Nat} (ht:P.underlying T=some (.slice E)) (hi:P.info? E=some i) (hz:i.zero=some z) (hsz:i.size=size) (hzs:z.cells.size=size)
  {a0:Addr} {w0:World} {S:List Nat} {w:World} (hs:St w0 S [] w)
  (a:Addr) (m c:Nat) (news:List Value) (hl:news.length=m * size) (hnews:∀ j u,news[j]?=some u→w.cell? (a.add j)=some u) (hm:0 < m) (h63:m≤maxLen) (hbytes:m * i.bytes≤140737488355328) :
  ∃ v' seg' w',(Builtin.append_ #[T,T] ty #[.slice (some a0) 0 0,.slice (some a) m c]).run P w=.ok v' w'∧IsRow E size v' m news seg'∧St w0 S seg' w'∧w.heap.size≤w'.heap.size ∧
   (∀ b,b < w.heap.size→b ∉ seg'.map (·.1)→w'.heap[b]?=w.heap[b]?)∧(∀ q∈seg',w.heap.size≤q.1∨q.1∈([]:Fs).map (·.1)):=by
 subst hsz
 have h63':m≤9223372036854775807:=by simp only [maxLen] at h63;omega
 have hge:=grownCap_ge w m 0 E
 have hr:=run_append_grow (P:=P) w T ty E i z ht hi hz a0 0 0 [] (by simp) (fun j u hu=>by simp at hu) a m c news hl hnews (by omega) (by omega) (growslice_fits (by omega) (by simpa using hbytes))
 simp only [qO] at hr
 have hsize:((#[]:Array Value)++news.toArray++Builtin.zeroCells z.cells (grownCap w m 0 E - m)).size=grownCap w m 0 E * i.size:=by
  simp only [Array.size_append,List.size_toArray,size_zeroCells,hzs,hl,List.length_nil,qO,← Nat.add_mul]
  congr 1
  omega
 have htake:((#[]:Array Value)++news.toArray++Builtin.zeroCells z.cells (grownCap w m 0 E - m)).toList.take (m * i.size)=news:=by
  simp only [Array.toList_append,List.append_assoc,List.nil_append]
  rw [← hl]
  exact List.take_left
 refine ⟨_,[(w.heap.size,.cells (#[]++news.toArray++Builtin.zeroCells z.cells (grownCap w m 0 E - m)) E (0,0))],_,hr,.own hge (grownCap_le_maxLen w m 0 E h63) hsize htake hl,?_,?_,fun b hb _=>Below.heap_alloc w.drew _ b hb,fun q hq=>?_⟩
 ·exact St.lay (pre:=[]) (post:=[]) (w:=w) hs ((hs.bel.drew).alloc (by have:=hs.bel.size;simpa [World.drew] using this) _) (World.alloc_heap_new w.drew _) (Nat.le_refl _) (fun k hk=>Below.heap_alloc w.drew _ k hk)
 ·rw [World.size_alloc];exact Nat.le_succ _
 ·obtain rfl:q=_:=by simpa using hq
  exact .inl (Nat.le_refl _)
section dw
variable {C : Cu} {ops : Array Oper} {μ : Mu} {Q : Post} {tl rest : List Oper} {k d : Nat} {e : Env} {ts : Ts} {t : TypeId} {pos : String} {af : Array Edge} {g : Option (Nat × Bool)}
theorem DW.appendE {s x:Operand} {tys:Array TypeId} {T E size bytes m:Nat} {z vx:Value} {a0:Addr} {news:List Value} {M:Rel1}
  (hk:ops[k]?=some ⟨some d,.call { callee:=.builtin .append,args:=#[s,x],argTypes:=tys },t,pos,af,g⟩) (hm:μ k=some (cst M,(false:Fl))) (hd:Nat.blt d C.N=true) (hg:WantT ops e g)
  (hT:tys=#[T,T]) (hU:UnI C.P T (.slice E)) (hI:InfoI C.P E size z) (hB:BytI C.P E bytes) (hz:z.cells.size=size) (hs:e.ev s=some (.slice (some a0) 0 0)) (hx:e.ev x=some vx)
  (hat:RowAt C.w0 size vx m news) (hS:C.S=[]) (hm0:0 < m) (h63:m≤maxLen) (hb:m * bytes≤140737488355328) (hM:∀ v gs,IsRow E size v m news gs→M v gs)
  (kk:∀ v' seg',M v' seg'→DW C ops μ Q tl rest (k+1) ((d,v')::e) (tsTag (k::[]) (k::[]) seg'++ts)) :
  DW C ops μ Q tl (⟨some d,.call { callee:=.builtin .append,args:=#[s,x],argTypes:=tys },t,pos,af,g⟩::rest) k e ts:=by
 subst hT
 refine DW.appendX (us:=[]) (us3:=[]) (seg:=[]) hk hm hd hg hs hx ⟨rfl,rfl⟩ .nil (RdV.ext hat hS .nil) (fun p hp=>by cases hp) (fun w hst _=>?_) (fun ψ v' seg' _ hR=>kk v' seg' hR)
 obtain ⟨i,q1,q2,q3,q4⟩:=info_all (P:=C.P) (T:=E)
 have hA:RowAt w size vx m news:=hat.bel (by have:=hst.bel;rwa [hS] at this)
 obtain ⟨b,off,c,cs,E',fr,rfl,hb1,hx1⟩:=hA.pos hm0
 obtain ⟨v',seg',w',hr,hrow',hst',g1,g2,g3⟩:=row_append0 (P:=C.P) (ty:=t) (a0:=a0) hU.un q1 q3 q2 hz hst ⟨b,off,none⟩ m c news hA.len (fun j u hj=>by
  rw [addr_add,cell_of hb1];exact cut_get hx1 hj) hm0 h63 (by rw [q4];exact hb)
 exact ⟨v',seg',w',hr,fun ψ _=>hM _ _ hrow',hst',g1,g2,g3⟩
def sameR:Rel2:=fun vs _ v gs=>vs.head?=some v∧gs=[]
theorem DW.appendN {s x:Operand} {tys:Array TypeId} {T E size:TypeId} {q:Option Addr} {c':Nat} {z:Value} {a0:Addr}
  (hk:ops[k]?=some ⟨some d,.call { callee:=.builtin .append,args:=#[s,x],argTypes:=tys },t,pos,af,g⟩) (hm:μ k=some (sameR,(false:Fl))) (hd:Nat.blt d C.N=true) (hg:WantT ops e g)
  (hT:tys=#[T,T]) (hU:UnI C.P T (.slice E)) (hI:InfoI C.P E size z) (hs:e.ev s=some (.slice (some a0) 0 0)) (hx:e.ev x=some (.slice q 0 c'))
  (hat:RowAt C.w0 size (.slice q 0 c') 0 []) (hS:C.S=[])
  (kk:DW C ops μ Q tl rest (k+1) ((d,.slice (some a0) 0 0)::e) (tsTag (k::[]) (k::[]) []++ts)) :
  DW C ops μ Q tl (⟨some d,.call { callee:=.builtin .append,args:=#[s,x],argTypes:=tys },t,pos,af,g⟩::rest) k e ts:=by
 subst hT
 refine DW.appendX (us:=[]) (us3:=[]) (seg:=[]) hk hm hd hg hs hx ⟨rfl,rfl⟩ .nil (RdV.ext hat hS .nil) (fun p hp=>by cases hp) (fun w hst _=>?_) (fun ψ v' seg' _ hR=>?_)
 ·obtain ⟨i,h1,h2,_⟩:=info_of (P:=C.P) (T:=E)
  have hsrc:Src C.P i.size T (.slice q 0 c') 0 [] w:=by
   cases q with
   |none=>exact Src.ofNil w hU.un c'
   |some a=>exact Src.ofSlice w hU.un a 0 c' [] (by simp) (fun j u h=>by simp at h) (fun u h=>by cases h)
  have hr:=run_append_nothing (P:=C.P) w T T t E i hU.un h1 (some a0) 0 0 (Nat.le_refl 0) _ hsrc
  exact ⟨_,[],w,hr,fun ψ _=>⟨rfl,rfl⟩,hst,Nat.le_refl _,fun b _ _=>rfl,fun q hq=>by cases hq⟩
 ·obtain ⟨h1,rfl⟩:=hR
  cases h1
  exact kk
theorem DW.lay0 {T E sz:TypeId} {z:Value} (hk:ops[k]?=some ⟨some d,.buildSlice T 0 #[],t,pos,af,g⟩) (hm:μ k=none) (hd:Nat.blt d C.N=true) (hg:WantT ops e g) (hU:UnI C.P T (.slice E)) (hI:InfoI C.P E sz z)
  (kk:∀ b,DW C ops μ Q tl rest (k+1) ((d,.slice (some ⟨b,0,none⟩) 0 0)::e) ((b,.cells #[] E (0,0),[k],[])::ts)):DW C ops μ Q tl (⟨some d,.buildSlice T 0 #[],t,pos,af,g⟩::rest) k e ts :=
 DW.new hk hm hd hg rfl (NewP.build0 hU hI) kk
end dw
end Go.Proofs.YtdeggbkbblfpoaaGreatDoor.SL
namespace Go.Proofs.YtdeggbkbblfpoaaGreatDoor.SL
set_option linter.unusedVariables false
set_option linter.unusedSimpArgs false
open Go Go.RowKit
theorem upon_join {F:Fence} {n:Nat} {P:Program} {o:Oper} {a:Act} {w:World} {K K':Act→World→Prop} {Q Q':Exit→Act→World→Prop} (h:∀ a w,K a w→K' a w) (hp:∀ ch a w,Q (.panic ch) a w→Q' (.panic ch) a w) (hl:LetsOut Q→LetsOut Q')
  (hh:o.wpIn F n P a w K Q):o.wpIn F n P a w K' Q':=by
 unfold Oper.wpIn at *
 refine ⟨hh.1,?_⟩
 have hh:=hh.2
 generalize (o.semAt F.round a.eval).run P w=r at *
 cases r with
 |ok x w' =>
  cases x<;>simp only [Oper.uponIn] at hh ⊢ <;>
   first
    |exact h _ _ hh
    |exact ⟨hh.1,CallsIn.mono hh.2 (fun e w'' he=>by cases e<;>first|exact h _ _ he|exact hp _ _ _ he|exact hl he)⟩
    |exact ⟨hh.1,RowsIn.mono hh.2 (fun _ _ he=>h _ _ he)⟩
    |exact ⟨hh.1,RoundIn.mono hh.2 (fun e w'' he=>by cases e<;>first|exact h _ _ he|exact hp _ _ _ he|exact hl he)⟩
 |halt x w'=>cases x<;>simp only [Oper.uponIn] at hh ⊢<;>first|exact hp _ _ _ hh|exact hh
theorem list_join {F:Fence} {n:Nat} {P:Program} {ops:Array Oper} {Qm Q:Exit→Act→World→Prop} {l2:List Oper} (hn:∀ a w,Qm .normal a w→wpListIn F n P ops Q l2 a w) (hp:∀ ch a w,Qm (.panic ch) a w→Q (.panic ch) a w) (hl:LetsOut Qm→LetsOut Q) :
  ∀ (l1:List Oper) (a:Act) (w:World),wpListIn F n P ops Qm l1 a w→wpListIn F n P ops Q (l1++l2) a w
 |[],a,w,h=>hn a w h
 |o::r,a,w,h=>by
  rw [List.cons_append]
  unfold wpListIn at h ⊢
  split
  ·rename_i hw
   rw [if_pos hw] at h
   exact upon_join (fun a w h=>list_join hn hp hl r a w h) hp hl h
  ·rename_i hw
   rw [if_neg hw] at h
   exact ⟨h.1,list_join hn hp hl r _ _ h.2⟩
def joinQ (C:Cu) (e1:Env) (fs1:Fs) (Q:Post):Post:=fun x ds e fs=>match x with
 |.normal=>ds=C.ds∧e.le e1∧List.Sublist fs1 fs
 |x=>Q x ds e fs
theorem LW.join {C:Cu} {ops:Array Oper} {Q:Post} {l:List Oper} {e:Env} {fs:Fs} (k:Nat) (e1:Env) (fs1:Fs) (h2:LW C ops Q (l.drop k) e1 fs1) (h1:LW C ops (joinQ C e1 fs1 Q) (l.take k) e fs):LW C ops Q l e fs:=fun a w hs=>by
 have h:=h1 a w hs
 rw [← List.take_append_drop k l]
 refine list_join (fun a w hq=>?_) (fun ch a w hq=>?_) (fun hq=>?_) _ _ _ h
 ·obtain ⟨ds,e',fs',⟨rfl,h4,h5⟩,s⟩:=hq
  exact h2 a w (fs_sub s h4 h5)
 ·obtain ⟨ds,e',fs',hq,s⟩:=hq
  exact ⟨ds,e',fs',hq,s⟩
 ·obtain ⟨a,w,ds,e',fs',hq,s⟩:=hq
  exact ⟨a,w,ds,e',fs',hq,s⟩
theorem joinI {C:Cu} {e1 e:Env} {fs1 fs:Fs} {Q:Post} (h1:e.le e1) (h2:List.Sublist fs1 fs):joinQ C e1 fs1 Q .normal C.ds e fs:=⟨rfl,h1,h2⟩
section hm
variable {P : Program} {e : Env} {T : TypeId} {x : Operand} {n : Nat}
theorem run_slice_hm {w:World} {a:Option Addr} {len cap:Nat} (ht:P.underlying T=some (.slice (P.elem T))) (kh km:IntKind) (h m:Int) (h0:0≤h) (h2:h≤m) (h3:m≤cap) :
  (Instr.slice T (.slice a len cap) none (some (.int kh h)) (some (.int km m))).run P w=((sizeOf (P.elem T)).run P w).andThen fun s w=>.ok (sliced a 0 h.toNat m.toNat s) w:=by
 have eh:(h.toNat:Int)=h:=Int.toNat_of_nonneg (by omega)
 have em:(m.toNat:Int)=m:=Int.toNat_of_nonneg (by omega)
 simp [Instr.slice,run_underlying ht,Instr.sliceBounds,run_sliceBound,sliced, *,eh,em,(by omega:0≤h),(by omega:0≤m)]
theorem ValP.cutMax {ik im:IntKind} {E j k c sz:Nat} {z:Value} {p:Option Addr} {hi mx:Operand} (hU:UnI P T (.slice E)) (hI:InfoI P E sz z) (hx:e.ev x=some (.slice p n c)) (hh:e.ev hi=some (.int ik (j:Int))) (hm:e.ev mx=some (.int im (k:Int))) (h2:j≤k) (h3:k≤c) :
  ValP P e [] (.slice T x none (some hi) (some mx)) (.slice p j k):=fun ρ w hρ _ d t pos af g=>by
 have hu:P.underlying T=some (.slice E):=hU.un
 have h1:=run_slice_hm (P:=P) (T:=T) (w:=w) (a:=p) (len:=n) (cap:=c) (elem_un hu) ik im (j:Int) (k:Int) (by omega) (by omega) (by omega)
 rw [elem_eq hu,run_size] at h1
 have h2:(Instr.sliceAt T (.slice p n c) none (some (.int ik (j:Int))) (some (.int im (k:Int)))).run P w=.ok (.slice p j k) w:=by
  rw [run_sliceAt_slice (w:=w) T _ _ _ _ (elem_un hu),h1]
  simp only [Result.andThen_ok,sliced,Int.toNat_natCast,Nat.sub_zero,Nat.zero_mul]
  cases p with
  |none=>simp
  |some a=>cases a with|mk b o s=>simp [addr_add,Addr.add]
 simp [execOp,hρ x _ hx,hρ hi _ hh,hρ mx _ hm,h2]
end hm
section dv
variable {C : Cu} {ops : Array Oper} {Q : Post} {tl rest : List Oper} {e : Env} {ts : Ts} {μ : Mu} {k d : Nat} {t : TypeId} {pos : String} {af : Array Edge} {g : Option (Nat × Bool)} {fo : Operand} {args : Array Operand} {tys : Array TypeId} {f : FuncId} {vs vs' : List Value} {us : Fs} {ts' : Ts}
theorem DW.manyW {M:Rel1} (hk:ops[k]?=some ⟨some d,.call { callee:=.value fo,args:=args,argTypes:=tys },t,pos,af,g⟩) (hm:μ k=some (cst M,(false:Fl)))
  (hd:Nat.blt d C.N=true) (hg:WantT ops e g) (hf:e.ev fo=some (.func (.func f) #[] #[])) (hF:FnI C.P f) (ha:ArgsOk e args.toList vs) (hbl:vs.flatMap (blocksN 4)=vs'.flatMap (blocksN 4)) (hr:RdV C ops k vs' ts us ts')
  (hc:∀ w,Bel C.w0.heap.size C.S C.w0 w→(∀ p∈us,w.heap[p.1]?=some p.2)→Calls C.P f vs.toArray w (RetG w [] M)) (kk:∀ v gs,M v gs→DW C ops μ Q tl rest (k+1) ((d,v)::e) (tsNew k gs++ts')) :
  DW C ops μ Q tl (⟨some d,.call { callee:=.value fo,args:=args,argTypes:=tys },t,pos,af,g⟩::rest) k e ts:=by
 obtain ⟨us2,h1,h2⟩:=hr.all
 rw [← hbl] at h1
 exact DW.manyE hk hm hd hg hf hF ha (show _=vs.flatMap (blocksN 4) from rfl) h1 (fun w hb hu=>hc w hb fun p hp=>hu p (h2 p hp)) kk
theorem blocks_sl {x:Value} (h:∃ p n c,x=.slice p n c):blocksN 3 x=blocksN 4 x:=by
 obtain ⟨p,n,c,rfl⟩:=h
 cases p<;>rfl
end dv
section de
variable {C : Cu} {ops : Array Oper} {μ : Mu} {Q : Post} {tl rest : List Oper} {k d : Nat} {e : Env} {ts : Ts} {t : TypeId} {pos : String} {af : Array Edge} {g : Option (Nat × Bool)}
end de
end Go.Proofs.YtdeggbkbblfpoaaGreatDoor.SL
namespace Go.Proofs.YtdeggbkbblfpoaaGreatDoor
open Go Go.RowKit SL
set_option maxRecDepth 8000
set_option maxHeartbeats 4000000
set_option linter.unusedSimpArgs false
set_option linter.unusedVariables false
attribute [local irreducible] SL.CW SL.LW SL.DW Calls SL.Ret SL.RetG SL.beginQ SL.roundQ SL.rangeQ SL.inQ SL.RW SL.AnyW SL.thenQ SL.thenC SL.thenW SL.blkQ SL.finQ SL.ValP SL.NewP SL.SetP SL.CallP SL.Rd SL.Wr SL.Known
structure FrNum (f:FrV) (L:FrL):Prop where
 gas:f.gas < 18446744073709551616
 self:f.self < 18446744073709551616
 frm:f.frm < 18446744073709551616
 val:f.val < M256
 ws:∀ x∈L.ws,x < M256
def sameF (f:FrV) (L:FrL) (g:FrV) (M:FrL):Prop:=f.pc=g.pc∧f.gas=g.gas∧f.self=g.self∧f.frm=g.frm∧f.val=g.val∧f.stat=g.stat∧L.cl=M.cl∧L.il=M.il∧L.bl=M.bl∧(L.ws=M.ws∧L.ms=M.ms)
instance (f:FrV) (L:FrL) (g:FrV) (M:FrL):Decidable (sameF f L g M):=by unfold sameF;infer_instance
theorem SL.LW.joinF {C:Cu} {ops:Array Oper} {Q:Post} {l:List Oper} {e:Env} {fs:Fs} (k:Nat) (e1:Env) (h2:LW C ops Q (l.drop k) e1 fs) (h1:LW C ops (joinQ C e1 fs Q) (l.take k) e fs):LW C ops Q l e fs:=LW.join k e1 fs h2 h1
theorem rScSame_calls (a b:List Nat) (x y:List UInt8) (hwa:∀ x∈a,x < M256) (hwb:∀ x∈b,x < M256) (va vb vx vy:Value) (w:World) (ha:RowAt w 4 va a.length (wcs a)) (hb:RowAt w 4 vb b.length (wcs b)) (hx:RowAt w 1 vx x.length (ucs x)) (hy:RowAt w 1 vy y.length (ucs y)) :
  Calls Tryz.prog 47 #[.agg #[va,vx],.agg #[vb,vy]] w (Ret w (.bool (decide (a=b∧x=y)))):=by
 obtain ⟨p0,c0,rfl,_,_⟩:=id ha.form
 obtain ⟨p1,c1,rfl,_,_⟩:=id hb.form
 obtain ⟨p2,c2,rfl,_,_⟩:=id hx.form
 obtain ⟨p3,c3,rfl,_,_⟩:=id hy.form
 have hW0:=fun w' {fs:Fs} (hst:St w [] fs w')=>rSameW_calls a b hwa hwb _ _ w' (ha.st hst) (hb.st hst)
 have hB0:=fun w' {fs:Fs} (hst:St w [] fs w')=>rSameB_calls x y _ _ w' (hx.st hst) (hy.st hst)
 refine enter (args:=[_,_]) _ [] [] Tryz.func47 rfl Tryz.ntmps47 rfl (by simp) .nil ?_
 by_cases e:a=b
 ·have hW:∀ w' {fs:Fs},St w [] fs w'→Calls Tryz.prog 48 #[.slice p0 a.length c0,.slice p1 b.length c1] w' (Ret w' (.bool true)):=fun w' fs hst=>by have h:=hW0 w' hst;rwa [decide_eq_true e] at h
  by_cases e2:x=y
  ·have hB:∀ w' {fs:Fs},St w [] fs w'→Calls Tryz.prog 101 #[.slice p2 x.length c2,.slice p3 y.length c3] w' (Ret w' (.bool true)):=fun w' fs hst=>by have h:=hB0 w' hst;rwa [decide_eq_true e2] at h
   rw [decide_eq_true ⟨e,e2⟩]
   (refine sRz ?_;apply zT;rfl;rfl;intro _;apply zT;rfl;rfl;intro _;refine vAz<|nSz<|vFz<|ldz rfl (.tail .head) sc_rd0<|vFz<|ldz rfl .head sc_rd0 ?_;apply zS;rfl;rfl;infer_instance;exact .cons rfl (.cons rfl .nil);intro w _;exact hW w (by assumption);refine vMz<|gTz<|vFz<|gTz<|ldz rfl (.tail .head) sc_rd1<|gTz<|vFz<|gTz<|ldz rfl .head sc_rd1<|gTz ?_;apply zS;rfl;rfl;infer_instance;exact .cons rfl (.cons rfl .nil);intro w _;exact hB w (by assumption);refine pTz<|vAz<|nNz<|zK ?_)
   (apply finR;exact .inl rfl;rfl;rfl;rfl;apply zD;exact zG rfl;exact zF)
   rfl
  ·have hB:∀ w' {fs:Fs},St w [] fs w'→Calls Tryz.prog 101 #[.slice p2 x.length c2,.slice p3 y.length c3] w' (Ret w' (.bool false)):=fun w' fs hst=>by have h:=hB0 w' hst;rwa [decide_eq_false e2] at h
   rw [decide_eq_false (fun h=>e2 h.2)]
   (refine sRz ?_;apply zT;rfl;rfl;intro _;apply zT;rfl;rfl;intro _;refine vAz<|nSz<|vFz<|ldz rfl (.tail .head) sc_rd0<|vFz<|ldz rfl .head sc_rd0 ?_;apply zS;rfl;rfl;infer_instance;exact .cons rfl (.cons rfl .nil);intro w _;exact hW w (by assumption);refine vMz<|gTz<|vFz<|gTz<|ldz rfl (.tail .head) sc_rd1<|gTz<|vFz<|gTz<|ldz rfl .head sc_rd1<|gTz ?_;apply zS;rfl;rfl;infer_instance;exact .cons rfl (.cons rfl .nil);intro w _;exact hB w (by assumption);refine pTz<|vAz<|nNz<|zK ?_)
   (apply finR;exact .inl rfl;rfl;rfl;rfl;apply zD;exact zG rfl;exact zF)
   rfl
 ·have hW:∀ w' {fs:Fs},St w [] fs w'→Calls Tryz.prog 48 #[.slice p0 a.length c0,.slice p1 b.length c1] w' (Ret w' (.bool false)):=fun w' fs hst=>by have h:=hW0 w' hst;rwa [decide_eq_false e] at h
  rw [decide_eq_false (fun h=>e h.1)]
  (refine sRz ?_;apply zT;rfl;rfl;intro _;apply zT;rfl;rfl;intro _;refine vAz<|nSz<|vFz<|ldz rfl (.tail .head) sc_rd0<|vFz<|ldz rfl .head sc_rd0 ?_;apply zS;rfl;rfl;infer_instance;exact .cons rfl (.cons rfl .nil);intro w _;exact hW w (by assumption);refine vMz ?_;(iterate 5 refine gFz ?_);refine pFz<|vAz<|nNz<|zK ?_)
  (apply finR;exact .inl rfl;rfl;rfl;rfl;apply zD;exact zG rfl;exact zF)
  rfl
theorem rfSame_calls (f g:FrV) (L M:FrL) (hf:FrNum f L) (hg:FrNum g M) (w:World) (h:FrRows w f L) (h':FrRows w g M):Calls Tryz.prog 12 #[frv f,frv g] w (Ret w (.bool (decide (sameF f L g M)))):=by
 have hww:=hf.ws
 have hwm:=hg.ws
 have hv1:=hf.val
 have hv2:=hg.val
 obtain ⟨code,pc,stk,mem,gas,self,frm,val,inp,back,stat⟩:=f
 obtain ⟨code',pc',stk',mem',gas',self',frm',val',inp',back',stat'⟩:=g
 obtain ⟨h0,h2,h3,h11,h12⟩:=h
 obtain ⟨k0,k2,k3,k11,k12⟩:=h'
 dsimp only at h0 h2 h3 h11 h12 k0 k2 k3 k11 k12 hv1 hv2
 obtain ⟨p0,c0,rfl,_,_⟩:=id h0.form
 obtain ⟨p2,c2,rfl,_,_⟩:=id h2.form
 obtain ⟨p3,c3,rfl,_,_⟩:=id h3.form
 obtain ⟨p11,c11,rfl,_,_⟩:=id h11.form
 obtain ⟨p12,c12,rfl,_,_⟩:=id h12.form
 obtain ⟨r0,d0,rfl,_,_⟩:=id k0.form
 obtain ⟨r2,d2,rfl,_,_⟩:=id k2.form
 obtain ⟨r3,d3,rfl,_,_⟩:=id k3.form
 obtain ⟨r11,d11,rfl,_,_⟩:=id k11.form
 obtain ⟨r12,d12,rfl,_,_⟩:=id k12.form
 have hq6:=fun w' {fs:Fs} (hst:St w [] fs w')=>rSame1_calls L.cl M.cl _ _ w' (h0.st hst) (k0.st hst)
 have hq7:=fun w' {fs:Fs} (hst:St w [] fs w')=>rSame1_calls L.il M.il _ _ w' (h11.st hst) (k11.st hst)
 have hq8:=fun w' {fs:Fs} (hst:St w [] fs w')=>rSame1_calls L.bl M.bl _ _ w' (h12.st hst) (k12.st hst)
 have hq9:=fun w' {fs:Fs} (hst:St w [] fs w')=>rScSame_calls L.ws M.ws L.ms M.ms hww hwm _ _ _ _ w' (h2.st hst) (k2.st hst) (h3.st hst) (k3.st hst)
 refine enter (args:=[_,_]) _ [] [] Tryz.func12 rfl Tryz.ntmps12 rfl (by simp) .nil ?_
 (refine sRz ?_;apply zT;rfl;rfl;intro _;apply zT;rfl;rfl;intro _;refine vAz<|nNz<|zI<|sRz<|vFz<|ldz rfl (.tail .head) fr_rd1<|vFz<|ldz rfl .head fr_rd1<|lvz (.ne rfl rfl)<|vMz ?_)
 rename_i b2 b3
 obtain ⟨y0,hy0⟩:∃ c:Bool,c=decide (pc=pc'):=⟨_,rfl⟩
 refine LW.joinF 0 ((10,.bool (!y0))::[(2,.pointer (some ⟨b2,0,none⟩)),(3,.pointer (some ⟨b3,0,none⟩))]) ?_ ?_
 rotate_left
 ·rw [hy0]
  (apply zV)
  exact joinI ⟨getB rfl (by (rfl)),rfl,rfl,trivial⟩ (qN _)
 obtain ⟨y1,hy1⟩:∃ c:Bool,c=(y0 && decide (gas=gas')):=⟨_,rfl⟩
 refine LW.joinF 7 ((17,.bool (!y1))::[(2,.pointer (some ⟨b2,0,none⟩)),(3,.pointer (some ⟨b3,0,none⟩))]) ?_ ?_
 rotate_left
 ·rw [hy1]
  clear hy1 hy0
  cases y0
  ·((iterate 5 refine gFrz ?_);apply LW.v0;rfl;rfl;apply ValP.pickT';rfl;simp only [Bool.not_true,Bool.not_false];rfl;refine vMz ?_;apply zV)
   exact joinI ⟨getB rfl (by (rfl)),rfl,rfl,trivial⟩ (qN _)
  ·(refine gTsz<|vFz<|gTsz<|ldz rfl (.tail .head) fr_rd4<|gTsz<|vFz<|gTsz<|ldz rfl .head fr_rd4<|gTsz<|lvz (.ne rfl rfl) ?_;apply LW.v0;rfl;rfl;apply ValP.pickF';rfl;simp only [Bool.not_true,Bool.not_false];rfl;refine vMz ?_;apply zV)
   exact joinI ⟨getB rfl (by (exact congrArg not (decide_eq_decide.2 Int.ofNat_inj))),rfl,rfl,trivial⟩ (qN _)
 obtain ⟨y2,hy2⟩:∃ c:Bool,c=(y1 && decide (self=self')):=⟨_,rfl⟩
 refine LW.joinF 7 ((24,.bool (!y2))::[(2,.pointer (some ⟨b2,0,none⟩)),(3,.pointer (some ⟨b3,0,none⟩))]) ?_ ?_
 rotate_left
 ·rw [hy2]
  clear hy2 hy1 hy0
  cases y1
  ·((iterate 5 refine gFrz ?_);apply LW.v0;rfl;rfl;apply ValP.pickT';rfl;simp only [Bool.not_true,Bool.not_false];rfl;refine vMz ?_;apply zV)
   exact joinI ⟨getB rfl (by (rfl)),rfl,rfl,trivial⟩ (qN _)
  ·(refine gTsz<|vFz<|gTsz<|ldz rfl (.tail .head) fr_rd5<|gTsz<|vFz<|gTsz<|ldz rfl .head fr_rd5<|gTsz<|lvz (.ne rfl rfl) ?_;apply LW.v0;rfl;rfl;apply ValP.pickF';rfl;simp only [Bool.not_true,Bool.not_false];rfl;refine vMz ?_;apply zV)
   exact joinI ⟨getB rfl (by (exact congrArg not (decide_eq_decide.2 Int.ofNat_inj))),rfl,rfl,trivial⟩ (qN _)
 obtain ⟨y3,hy3⟩:∃ c:Bool,c=(y2 && decide (frm=frm')):=⟨_,rfl⟩
 refine LW.joinF 7 ((31,.bool (!y3))::[(2,.pointer (some ⟨b2,0,none⟩)),(3,.pointer (some ⟨b3,0,none⟩))]) ?_ ?_
 rotate_left
 ·rw [hy3]
  clear hy3 hy2 hy1 hy0
  cases y2
  ·((iterate 5 refine gFrz ?_);apply LW.v0;rfl;rfl;apply ValP.pickT';rfl;simp only [Bool.not_true,Bool.not_false];rfl;refine vMz ?_;apply zV)
   exact joinI ⟨getB rfl (by (rfl)),rfl,rfl,trivial⟩ (qN _)
  ·(refine gTsz<|vFz<|gTsz<|ldz rfl (.tail .head) fr_rd6<|gTsz<|vFz<|gTsz<|ldz rfl .head fr_rd6<|gTsz<|lvz (.ne rfl rfl) ?_;apply LW.v0;rfl;rfl;apply ValP.pickF';rfl;simp only [Bool.not_true,Bool.not_false];rfl;refine vMz ?_;apply zV)
   exact joinI ⟨getB rfl (by (exact congrArg not (decide_eq_decide.2 Int.ofNat_inj))),rfl,rfl,trivial⟩ (qN _)
 obtain ⟨y4,hy4⟩:∃ c:Bool,c=(y3 && decide (val=val')):=⟨_,rfl⟩
 refine LW.joinF 7 ((38,.bool (!y4))::[(2,.pointer (some ⟨b2,0,none⟩)),(3,.pointer (some ⟨b3,0,none⟩))]) ?_ ?_
 rotate_left
 ·rw [hy4]
  clear hy4 hy3 hy2 hy1 hy0
  cases y3
  ·((iterate 5 refine gFrz ?_);apply LW.v0;rfl;rfl;apply ValP.pickT';rfl;simp only [Bool.not_true,Bool.not_false];rfl;refine vMz ?_;apply zV)
   exact joinI ⟨getB rfl (by (rfl)),rfl,rfl,trivial⟩ (qN _)
  ·(refine gTsz<|vFz<|gTsz<|ldz rfl (.tail .head) fr_rd7<|gTsz<|vFz<|gTsz<|ldz rfl .head fr_rd7<|gTsz ?_;refine lvz (.neW rfl rfl (by assumption) (by assumption)) ?_;apply LW.v0;rfl;rfl;apply ValP.pickF';rfl;simp only [Bool.not_true,Bool.not_false];rfl;refine vMz ?_;apply zV)
   exact joinI ⟨getB rfl (by (rfl)),rfl,rfl,trivial⟩ (qN _)
 obtain ⟨y5,hy5⟩:∃ c:Bool,c=(y4 && decide (stat=stat')):=⟨_,rfl⟩
 refine LW.joinF 6 ((44,.bool (!y5))::[(2,.pointer (some ⟨b2,0,none⟩)),(3,.pointer (some ⟨b3,0,none⟩))]) ?_ ?_
 rotate_left
 ·rw [hy5]
  clear hy5 hy4 hy3 hy2 hy1 hy0
  cases y4
  ·((iterate 5 refine gFrz ?_);apply LW.v0;rfl;rfl;apply ValP.pickT';rfl;simp only [Bool.not_true,Bool.not_false];rfl;apply zV)
   exact joinI ⟨getB rfl (by (rfl)),rfl,rfl,trivial⟩ (qN _)
  ·(refine gTsz<|vFz<|gTsz<|ldz rfl (.tail .head) fr_rd13<|gTsz<|vFz<|gTsz<|ldz rfl .head fr_rd13<|gTsz<|lvz (.boolNe rfl rfl) ?_;apply LW.v0;rfl;rfl;apply ValP.pickF';rfl;simp only [Bool.not_true,Bool.not_false];rfl;apply zV)
   exact joinI ⟨getB rfl (by (rfl)),rfl,rfl,trivial⟩ (qN _)
 cases hyy:y5
 ·rw [show decide (sameF ⟨.slice p0 L.cl.length c0,pc,.slice p2 L.ws.length c2,.slice p3 L.ms.length c3,gas,self,frm,val,.slice p11 L.il.length c11,.slice p12 L.bl.length c12,stat⟩ L ⟨.slice r0 M.cl.length d0,pc',.slice r2 M.ws.length d2,.slice r3 M.ms.length d3,gas',self',frm',val',.slice r11 M.il.length d11,.slice r12 M.bl.length d12,stat'⟩ M)=false from decide_eq_false fun h=>by unfold sameF at h;dsimp only at h;obtain ⟨e0,e1,e2,e3,e4,e5,e6,e7,e8,e9⟩:=h;simp [hy5,hy4,hy3,hy2,hy1,hy0,e0,e1,e2,e3,e4,e5] at hyy]
  (refine nNz ?_;apply CW.condT;rfl;simp only [Bool.not_true,Bool.not_false];refine sRz<|vAz<|nNz<|zK<|thenR ?_)
  (apply finR;exact .inl rfl;rfl;rfl;rfl;apply zD;exact zG rfl;exact zF)
  rfl
 simp only [hy5,hy4,hy3,hy2,hy1,hy0,Bool.and_eq_true,decide_eq_true_eq] at hyy
 obtain ⟨⟨⟨⟨⟨e0,e1⟩,e2⟩,e3⟩,e4⟩,e5⟩:=hyy
 (refine nNz ?_;apply CW.condF;rfl;simp only [Bool.not_true,Bool.not_false];refine zJ<|thenN<|sRz<|vFz<|ldz rfl (.tail .head) fr_rd0<|vFz<|ldz rfl .head fr_rd0 ?_;apply zS;rfl;rfl;infer_instance;exact .cons rfl (.cons rfl .nil);intro w _;exact hq6 w (by assumption);refine vMz ?_)
 obtain ⟨y6,hy6⟩:∃ c:Bool,c=decide (L.cl=M.cl):=⟨_,rfl⟩
 refine LW.joinF 0 ((50,.bool (y6))::[(2,.pointer (some ⟨b2,0,none⟩)),(3,.pointer (some ⟨b3,0,none⟩))]) ?_ ?_
 rotate_left
 ·rw [hy6]
  (apply zV)
  exact joinI ⟨getB rfl (by (rfl)),rfl,rfl,trivial⟩ (qN _)
 obtain ⟨y7,hy7⟩:∃ c:Bool,c=(y6 && decide (L.il=M.il)):=⟨_,rfl⟩
 refine LW.joinF 7 ((57,.bool (y7))::[(2,.pointer (some ⟨b2,0,none⟩)),(3,.pointer (some ⟨b3,0,none⟩))]) ?_ ?_
 rotate_left
 ·rw [hy7]
  clear hy7 hy6 hy5 hy4 hy3 hy2 hy1 hy0
  cases y6
  ·((iterate 5 refine gFz ?_);refine pFz<|vMz ?_;apply zV)
   exact joinI ⟨getB rfl (by (rfl)),rfl,rfl,trivial⟩ (qN _)
  ·(refine gTz<|vFz<|gTz<|ldz rfl (.tail .head) fr_rd11<|gTz<|vFz<|gTz<|ldz rfl .head fr_rd11<|gTz ?_;apply zS;rfl;rfl;infer_instance;exact .cons rfl (.cons rfl .nil);intro w _;exact hq7 w (by assumption);refine pTz<|vMz ?_;apply zV)
   exact joinI ⟨getB rfl (by (rfl)),rfl,rfl,trivial⟩ (qN _)
 obtain ⟨y8,hy8⟩:∃ c:Bool,c=(y7 && decide (L.bl=M.bl)):=⟨_,rfl⟩
 refine LW.joinF 7 ((64,.bool (y8))::[(2,.pointer (some ⟨b2,0,none⟩)),(3,.pointer (some ⟨b3,0,none⟩))]) ?_ ?_
 rotate_left
 ·rw [hy8]
  clear hy8 hy7 hy6 hy5 hy4 hy3 hy2 hy1 hy0
  cases y7
  ·((iterate 5 refine gFz ?_);refine pFz<|vMz ?_;apply zV)
   exact joinI ⟨getB rfl (by (rfl)),rfl,rfl,trivial⟩ (qN _)
  ·(refine gTz<|vFz<|gTz<|ldz rfl (.tail .head) fr_rd12<|gTz<|vFz<|gTz<|ldz rfl .head fr_rd12<|gTz ?_;apply zS;rfl;rfl;infer_instance;exact .cons rfl (.cons rfl .nil);intro w _;exact hq8 w (by assumption);refine pTz<|vMz ?_;apply zV)
   exact joinI ⟨getB rfl (by (rfl)),rfl,rfl,trivial⟩ (qN _)
 obtain ⟨y9,hy9⟩:∃ c:Bool,c=(y8 && decide (L.ws=M.ws∧L.ms=M.ms)):=⟨_,rfl⟩
 refine LW.joinF 7 ((4,.bool (y9))::[(2,.pointer (some ⟨b2,0,none⟩)),(3,.pointer (some ⟨b3,0,none⟩))]) ?_ ?_
 rotate_left
 ·rw [hy9]
  clear hy9 hy8 hy7 hy6 hy5 hy4 hy3 hy2 hy1 hy0
  cases y8
  ·((iterate 5 refine gFz ?_);refine pFz<|vAz ?_;apply zV)
   exact joinI ⟨getB rfl (by (rfl)),rfl,rfl,trivial⟩ (qN _)
  ·(refine gTz<|vFz<|gTz<|ldz rfl (.tail .head) fr_rd2<|gTz<|vFz<|gTz<|ldz rfl .head fr_rd2<|gTz ?_;apply zS;rfl;rfl;infer_instance;exact .cons rfl (.cons rfl .nil);intro w _;exact hq9 w (by assumption);refine pTz<|vAz ?_;apply zV)
   exact joinI ⟨getB rfl (by (rfl)),rfl,rfl,trivial⟩ (qN _)
 have hfin:y9=decide (sameF ⟨.slice p0 L.cl.length c0,pc,.slice p2 L.ws.length c2,.slice p3 L.ms.length c3,gas,self,frm,val,.slice p11 L.il.length c11,.slice p12 L.bl.length c12,stat⟩ L ⟨.slice r0 M.cl.length d0,pc',.slice r2 M.ws.length d2,.slice r3 M.ms.length d3,gas',self',frm',val',.slice r11 M.il.length d11,.slice r12 M.bl.length d12,stat'⟩ M):=by
  rw [Bool.eq_iff_iff]
  simp only [hy9,hy8,hy7,hy6,Bool.and_eq_true,decide_eq_true_eq]
  unfold sameF
  dsimp only
  exact ⟨fun ⟨⟨⟨e6,e7⟩,e8⟩,e9⟩=>⟨e0,e1,e2,e3,e4,e5,e6,e7,e8,e9⟩,fun ⟨e0,e1,e2,e3,e4,e5,e6,e7,e8,e9⟩=>⟨⟨⟨e6,e7⟩,e8⟩,e9⟩⟩
 rw [← hfin]
 (refine nNz<|zK ?_)
 (apply finR;exact .inl rfl;rfl;rfl;rfl;apply zD;exact zG rfl;exact zF)
 rfl
end Go.Proofs.YtdeggbkbblfpoaaGreatDoor
