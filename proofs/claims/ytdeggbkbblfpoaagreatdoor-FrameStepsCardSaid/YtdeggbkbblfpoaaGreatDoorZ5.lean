/-
  Texts that were built apart, put behind one another (5 of 6).
  Conditions: none.
-/
import Derived.Test.YtdeggbkbblfpoaaGreatDoorZ4
open Go.Proofs.Tryz
namespace Go.Proofs.YtdeggbkbblfpoaaGreatDoor
open Go Go.RowKit SL
set_option maxRecDepth 8000
set_option maxHeartbeats 4000000
set_option linter.unusedSimpArgs false
set_option linter.unusedVariables false
attribute [local irreducible] SL.CW SL.LW SL.DW Calls SL.Ret SL.RetG SL.beginQ SL.roundQ SL.rangeQ SL.inQ SL.RW SL.AnyW SL.thenQ SL.thenC SL.thenW SL.blkQ SL.finQ SL.ValP SL.NewP SL.SetP SL.CallP SL.Rd SL.Wr SL.Known
section
section rd
variable {P : Program} {T E : TypeId} {fr : Nat × Nat} {m : MaV}
end rd
theorem say1_calls (b:Nat) (m:MaV) (L:FrL) (w:World) (hb:w.heap[b]?=some (maO m)) (hi:∃ q c,m.fr.inp=.slice q L.il.length c∧L.il.length≤1024) (hi2:∃ q c,m.fr.back=.slice q L.bl.length c∧L.bl.length≤1024):Calls prog 150 #[.pointer (some ⟨b,0,none⟩)] w (Ret w (.int .u64 ((m.fr.self:Nat):Int))):=by
 refine enter (args:=[_]) _ [] [] func150 rfl ntmps150 rfl (by simp) .nil ?_
 exact dTBJyT
theorem say2_calls (b:Nat) (m:MaV) (L:FrL) (w:World) (hb:w.heap[b]?=some (maO m)) (hi:∃ q c,m.fr.inp=.slice q L.il.length c∧L.il.length≤1024) (hi2:∃ q c,m.fr.back=.slice q L.bl.length c∧L.bl.length≤1024):Calls prog 151 #[.pointer (some ⟨b,0,none⟩)] w (Ret w (.int .u64 ((m.fr.frm:Nat):Int))):=by
 refine enter (args:=[_]) _ [] [] func151 rfl ntmps151 rfl (by simp) .nil ?_
 exact dTBJyT
theorem say3_calls (b:Nat) (m:MaV) (L:FrL) (w:World) (hb:w.heap[b]?=some (maO m)) (hi:∃ q c,m.fr.inp=.slice q L.il.length c∧L.il.length≤1024) (hi2:∃ q c,m.fr.back=.slice q L.bl.length c∧L.bl.length≤1024):Calls prog 152 #[.pointer (some ⟨b,0,none⟩)] w (Ret w (.int .u64 ((m.e0:Nat):Int))):=by
 refine enter (args:=[_]) _ [] [] func152 rfl ntmps152 rfl (by simp) .nil ?_
 exact dTBJyT
theorem say4_calls (b:Nat) (m:MaV) (L:FrL) (w:World) (hb:w.heap[b]?=some (maO m)) (hi:∃ q c,m.fr.inp=.slice q L.il.length c∧L.il.length≤1024) (hi2:∃ q c,m.fr.back=.slice q L.bl.length c∧L.bl.length≤1024):Calls prog 153 #[.pointer (some ⟨b,0,none⟩)] w (Ret w (.int .u64 ((m.e1:Nat):Int))):=by
 refine enter (args:=[_]) _ [] [] func153 rfl ntmps153 rfl (by simp) .nil ?_
 exact dTBJyT
theorem say5_calls (b:Nat) (m:MaV) (L:FrL) (w:World) (hb:w.heap[b]?=some (maO m)) (hi:∃ q c,m.fr.inp=.slice q L.il.length c∧L.il.length≤1024) (hi2:∃ q c,m.fr.back=.slice q L.bl.length c∧L.bl.length≤1024):Calls prog 154 #[.pointer (some ⟨b,0,none⟩)] w (Ret w (.int .u64 ((m.e2:Nat):Int))):=by
 refine enter (args:=[_]) _ [] [] func154 rfl ntmps154 rfl (by simp) .nil ?_
 exact dTBJyT
theorem say6_calls (b:Nat) (m:MaV) (L:FrL) (w:World) (hb:w.heap[b]?=some (maO m)) (hi:∃ q c,m.fr.inp=.slice q L.il.length c∧L.il.length≤1024) (hi2:∃ q c,m.fr.back=.slice q L.bl.length c∧L.bl.length≤1024):Calls prog 155 #[.pointer (some ⟨b,0,none⟩)] w (Ret w (.int .u64 ((m.e3:Nat):Int))):=by
 refine enter (args:=[_]) _ [] [] func155 rfl ntmps155 rfl (by simp) .nil ?_
 exact dTBJyT
theorem say7_calls (b:Nat) (m:MaV) (L:FrL) (w:World) (hb:w.heap[b]?=some (maO m)) (hi:∃ q c,m.fr.inp=.slice q L.il.length c∧L.il.length≤1024) (hi2:∃ q c,m.fr.back=.slice q L.bl.length c∧L.bl.length≤1024):Calls prog 156 #[.pointer (some ⟨b,0,none⟩)] w (Ret w (.int .u64 ((L.il.length:Nat):Int))):=by
 obtain ⟨q,c,hi,hle⟩:=hi
 have hrdI:∀ {E fr},Rd prog 22 (.cells (mca m) E fr) 11 (.slice q L.il.length c):=fun {E fr}=>by rw [← hi];exact ma_rd11
 refine enter (args:=[_]) _ [] [] func156 rfl ntmps156 rfl (by simp) .nil ?_
 exact dTBJyT
theorem say8_calls (b:Nat) (m:MaV) (L:FrL) (w:World) (hb:w.heap[b]?=some (maO m)) (hi:∃ q c,m.fr.inp=.slice q L.il.length c∧L.il.length≤1024) (hi2:∃ q c,m.fr.back=.slice q L.bl.length c∧L.bl.length≤1024):Calls prog 157 #[.pointer (some ⟨b,0,none⟩)] w (Ret w (.int .u64 ((L.bl.length:Nat):Int))):=by
 obtain ⟨q,c,hi,hle⟩:=hi2
 have hrdI:∀ {E fr},Rd prog 22 (.cells (mca m) E fr) 12 (.slice q L.bl.length c):=fun {E fr}=>by rw [← hi];exact ma_rd12
 refine enter (args:=[_]) _ [] [] func157 rfl ntmps157 rfl (by simp) .nil ?_
 exact dTBJyT
theorem say9_calls (b:Nat) (m:MaV) (L:FrL) (w:World) (hb:w.heap[b]?=some (maO m)) (hi:∃ q c,m.fr.inp=.slice q L.il.length c∧L.il.length≤1024) (hi2:∃ q c,m.fr.back=.slice q L.bl.length c∧L.bl.length≤1024):Calls prog 158 #[.pointer (some ⟨b,0,none⟩)] w (Ret w (.int .u64 ((m.fr.gas:Nat):Int))):=by
 refine enter (args:=[_]) _ [] [] func158 rfl ntmps158 rfl (by simp) .nil ?_
 exact dTBJyT
theorem DoC.mono {fid:FuncId} {op tk ly tk' ly':Nat} {V V':FrV→FrL→List Nat→Option SO} (h:DoC fid op tk ly V) (h1:Nat.ble tk tk'=true) (h2:Nat.ble ly ly'=true) (hV:∀ f L l,V f L l=V' f L l):DoC fid op tk' ly' V':=by
 intro w0 b m L l gs gt rest w hT hN hp hop hl hly hfr ht hs
 rw [← hV]
 have e1:=yP h1
 have e2:=yP h2
 exact h w0 b m L l gs gt rest w hT hN hp hop (by omega) (by omega) hfr ht hs
theorem doesF_21:doesF 21=some (0,159):=by decide
theorem doesF_25:doesF 25=some (1,160):=by decide
theorem doesF_52:doesF 52=some (2,161):=by decide
theorem doesF_53:doesF 53=some (3,162):=by decide
theorem doesF_55:doesF 55=some (4,163):=by decide
theorem doesF_62:doesF 62=some (5,164):=by decide
theorem doesF_81:doesF 81=some (6,165):=by decide
theorem doesF_82:doesF 82=some (7,166):=by decide
theorem doesF_83:doesF 83=some (8,167):=by decide
theorem doesF_32:doesF 32=some (9,168):=by decide
theorem doesF_86:doesF 86=some (10,169):=by decide
theorem doesF_87:doesF 87=some (11,170):=by decide
theorem doesF_49:doesF 49=some (12,171):=by decide
theorem doesF_71:doesF 71=some (13,171):=by decide
theorem doesF_84:doesF 84=some (14,171):=by decide
theorem doesF_92:doesF 92=some (15,171):=by decide
theorem doesF_85:doesF 85=some (16,172):=by decide
theorem doesF_93:doesF 93=some (17,172):=by decide
theorem doesF_241:doesF 241=some (18,173):=by decide
theorem doesF_244:doesF 244=some (19,173):=by decide
theorem doesF_250:doesF 250=some (20,173):=by decide
theorem doesF_245:doesF 245=some (21,173):=by decide
theorem doesF_0:doesF 0=some (22,174):=by decide
theorem doesF_243:doesF 243=some (23,175):=by decide
theorem doesF_253:doesF 253=some (24,175):=by decide
theorem saysF_48:saysF 48=some (0,150):=by decide
theorem saysF_51:saysF 51=some (1,151):=by decide
theorem saysF_50:saysF 50=some (2,152):=by decide
theorem saysF_66:saysF 66=some (3,153):=by decide
theorem saysF_67:saysF 67=some (4,154):=by decide
theorem saysF_72:saysF 72=some (5,155):=by decide
theorem saysF_54:saysF 54=some (6,156):=by decide
theorem saysF_61:saysF 61=some (7,157):=by decide
theorem saysF_90:saysF 90=some (8,158):=by decide
theorem does_all {op i:Nat} {fid:FuncId} (h:doesF op=some (i,fid)):FnI prog fid∧DoC fid op (opX op).tk (opX op).ly (doV op):=by
 by_cases h21:op=21
 ·subst h21
  cases (jZ ((doesF_21).symm.trans h))
  exact ⟨inferInstance,isZero_do.mono (by kernel_rfl) (by kernel_rfl) (fun f L l=>by rfl)⟩
 by_cases h25:op=25
 ·subst h25
  cases (jZ ((doesF_25).symm.trans h))
  exact ⟨inferInstance,not_do.mono (by kernel_rfl) (by kernel_rfl) (fun f L l=>by rfl)⟩
 by_cases h52:op=52
 ·subst h52
  cases (jZ ((doesF_52).symm.trans h))
  exact ⟨inferInstance,value_do.mono (by kernel_rfl) (by kernel_rfl) (fun f L l=>by rfl)⟩
 by_cases h53:op=53
 ·subst h53
  cases (jZ ((doesF_53).symm.trans h))
  exact ⟨inferInstance,dataLoad_do.mono (by kernel_rfl) (by kernel_rfl) (fun f L l=>by rfl)⟩
 by_cases h55:op=55
 ·subst h55
  cases (jZ ((doesF_55).symm.trans h))
  exact ⟨inferInstance,dataCopy_do.mono (by kernel_rfl) (by kernel_rfl) (fun f L l=>by rfl)⟩
 by_cases h62:op=62
 ·subst h62
  cases (jZ ((doesF_62).symm.trans h))
  exact ⟨inferInstance,backCopy_do.mono (by kernel_rfl) (by kernel_rfl) (fun f L l=>by rfl)⟩
 by_cases h81:op=81
 ·subst h81
  cases (jZ ((doesF_81).symm.trans h))
  exact ⟨inferInstance,load_do.mono (by kernel_rfl) (by kernel_rfl) (fun f L l=>by rfl)⟩
 by_cases h82:op=82
 ·subst h82
  cases (jZ ((doesF_82).symm.trans h))
  exact ⟨inferInstance,store_do.mono (by kernel_rfl) (by kernel_rfl) (fun f L l=>by rfl)⟩
 by_cases h83:op=83
 ·subst h83
  cases (jZ ((doesF_83).symm.trans h))
  exact ⟨inferInstance,store8_do.mono (by kernel_rfl) (by kernel_rfl) (fun f L l=>by rfl)⟩
 by_cases h32:op=32
 ·subst h32
  cases (jZ ((doesF_32).symm.trans h))
  exact ⟨inferInstance,hash_do.mono (by kernel_rfl) (by kernel_rfl) (fun f L l=>by rfl)⟩
 by_cases h86:op=86
 ·subst h86
  cases (jZ ((doesF_86).symm.trans h))
  exact ⟨inferInstance,(jump_do 86).mono (by kernel_rfl) (by kernel_rfl) (fun f L l=>by rfl)⟩
 by_cases h87:op=87
 ·subst h87
  cases (jZ ((doesF_87).symm.trans h))
  exact ⟨inferInstance,jumpIf_do.mono (by kernel_rfl) (by kernel_rfl) (fun f L l=>by rfl)⟩
 by_cases h49:op=49
 ·subst h49
  cases (jZ ((doesF_49).symm.trans h))
  exact ⟨inferInstance,(state_do 49).mono (by kernel_rfl) (by kernel_rfl) (fun f L l=>by rfl)⟩
 by_cases h71:op=71
 ·subst h71
  cases (jZ ((doesF_71).symm.trans h))
  exact ⟨inferInstance,(state_do 71).mono (by kernel_rfl) (by kernel_rfl) (fun f L l=>by rfl)⟩
 by_cases h84:op=84
 ·subst h84
  cases (jZ ((doesF_84).symm.trans h))
  exact ⟨inferInstance,(state_do 84).mono (by kernel_rfl) (by kernel_rfl) (fun f L l=>by rfl)⟩
 by_cases h92:op=92
 ·subst h92
  cases (jZ ((doesF_92).symm.trans h))
  exact ⟨inferInstance,(state_do 92).mono (by kernel_rfl) (by kernel_rfl) (fun f L l=>by rfl)⟩
 by_cases h85:op=85
 ·subst h85
  cases (jZ ((doesF_85).symm.trans h))
  exact ⟨inferInstance,(change_do 85).mono (by kernel_rfl) (by kernel_rfl) (fun f L l=>by rfl)⟩
 by_cases h93:op=93
 ·subst h93
  cases (jZ ((doesF_93).symm.trans h))
  exact ⟨inferInstance,(change_do 93).mono (by kernel_rfl) (by kernel_rfl) (fun f L l=>by rfl)⟩
 by_cases h241:op=241
 ·subst h241
  cases (jZ ((doesF_241).symm.trans h))
  exact ⟨inferInstance,(call_do 241 (by decide)).mono (by kernel_rfl) (by kernel_rfl) (fun f L l=>by rfl)⟩
 by_cases h244:op=244
 ·subst h244
  cases (jZ ((doesF_244).symm.trans h))
  exact ⟨inferInstance,(call_do 244 (by decide)).mono (by kernel_rfl) (by kernel_rfl) (fun f L l=>by rfl)⟩
 by_cases h250:op=250
 ·subst h250
  cases (jZ ((doesF_250).symm.trans h))
  exact ⟨inferInstance,(call_do 250 (by decide)).mono (by kernel_rfl) (by kernel_rfl) (fun f L l=>by rfl)⟩
 by_cases h245:op=245
 ·subst h245
  cases (jZ ((doesF_245).symm.trans h))
  exact ⟨inferInstance,(call_do 245 (by decide)).mono (by kernel_rfl) (by kernel_rfl) (fun f L l=>by rfl)⟩
 by_cases h0:op=0
 ·subst h0
  cases (jZ ((doesF_0).symm.trans h))
  exact ⟨inferInstance,stop_do.mono (by kernel_rfl) (by kernel_rfl) (fun f L l=>by rfl)⟩
 by_cases h243:op=243
 ·subst h243
  cases (jZ ((doesF_243).symm.trans h))
  exact ⟨inferInstance,ends243_do.mono (by kernel_rfl) (by kernel_rfl) (fun f L l=>by rfl)⟩
 by_cases h253:op=253
 ·subst h253
  cases (jZ ((doesF_253).symm.trans h))
  exact ⟨inferInstance,ends253_do.mono (by kernel_rfl) (by kernel_rfl) (fun f L l=>by rfl)⟩
 unfold doesF at h
 simp only [h21,h25,h52,h53,h55,h62,h81,h82,h83,h32,h86,h87,h49,h71,h84,h92,h85,h93,h241,h244,h250,h245,h0,h243,h253,if_false] at h
 cases h
theorem says_all {op i:Nat} {fid:FuncId} (h:saysF op=some (i,fid)):FnI prog fid∧∀ (b:Nat) (m:MaV) (L:FrL) (w:World),w.heap[b]?=some (maO m)→(∃ q c,m.fr.inp=.slice q L.il.length c∧L.il.length≤1024)→(∃ q c,m.fr.back=.slice q L.bl.length c∧L.bl.length≤1024)→Calls prog fid #[.pointer (some ⟨b,0,none⟩)] w (Ret w (.int .u64 ((sayV op m.fr L m.e0 m.e1 m.e2 m.e3:Nat):Int))):=by
 by_cases h48:op=48
 ·subst h48
  cases (jZ ((saysF_48).symm.trans h))
  exact ⟨inferInstance,fun b m L w hb hi hi2=>say1_calls b m L w hb hi hi2⟩
 by_cases h51:op=51
 ·subst h51
  cases (jZ ((saysF_51).symm.trans h))
  exact ⟨inferInstance,fun b m L w hb hi hi2=>say2_calls b m L w hb hi hi2⟩
 by_cases h50:op=50
 ·subst h50
  cases (jZ ((saysF_50).symm.trans h))
  exact ⟨inferInstance,fun b m L w hb hi hi2=>say3_calls b m L w hb hi hi2⟩
 by_cases h66:op=66
 ·subst h66
  cases (jZ ((saysF_66).symm.trans h))
  exact ⟨inferInstance,fun b m L w hb hi hi2=>say4_calls b m L w hb hi hi2⟩
 by_cases h67:op=67
 ·subst h67
  cases (jZ ((saysF_67).symm.trans h))
  exact ⟨inferInstance,fun b m L w hb hi hi2=>say5_calls b m L w hb hi hi2⟩
 by_cases h72:op=72
 ·subst h72
  cases (jZ ((saysF_72).symm.trans h))
  exact ⟨inferInstance,fun b m L w hb hi hi2=>say6_calls b m L w hb hi hi2⟩
 by_cases h54:op=54
 ·subst h54
  cases (jZ ((saysF_54).symm.trans h))
  exact ⟨inferInstance,fun b m L w hb hi hi2=>say7_calls b m L w hb hi hi2⟩
 by_cases h61:op=61
 ·subst h61
  cases (jZ ((saysF_61).symm.trans h))
  exact ⟨inferInstance,fun b m L w hb hi hi2=>say8_calls b m L w hb hi hi2⟩
 by_cases h90:op=90
 ·subst h90
  cases (jZ ((saysF_90).symm.trans h))
  exact ⟨inferInstance,fun b m L w hb hi hi2=>say9_calls b m L w hb hi hi2⟩
 unfold saysF at h
 simp only [h48,h51,h50,h66,h67,h72,h54,h61,h90,if_false] at h
 cases h
end
theorem dTBVNs {P:Prop} (h:P:=by
 rw [hsw]
 unfold wM
 rw [List.length_set,List.length_set]
 exact .own hn9 hm9 (by rw [w4,w2,hsz9]) w3 (by rw [wcs_lenN,List.length_set,List.length_set])):P:=h
theorem depth_calls (n:Nat) (h1:1≤n) (h2:n≤16) (w:World):Calls prog 201 #[.int .i64 (n:Int)] w (Ret w (.bool true)):=by
 refine enter (args:=[_]) _ [] [] func201 rfl ntmps201 rfl (by simp) .nil ?_
 exact dTBJyT
theorem Dup_calls (ws:List Nat) (ms:List UInt8) (n:Nat) (s m:Value) (h1:1≤n) (h2:n≤16) (hn:n≤ws.length) (hf:ws.length+1≤64) (w:World) (hs:RowAt w 4 s ws.length (wcs ws)) (hm:RowAt w 1 m ms.length (ucs ms)) (hok:okSc ws.length ms.length) :
  Calls prog 133 #[.agg #[s,m],.int .i64 (n:Int)] w (RetG w [] (fun r gs=>∃ o,r=.tuple #[o,.int .i64 0]∧ScO (ws++[ws.getD (ws.length - n) 0]) ms o gs)):=by
 have hs0:=hs
 have hm0:=hm
 obtain ⟨b0,off,c,cs,E,fr,rfl,hb,hx⟩:=hs.pos (by omega)
 obtain ⟨p2,c2,rfl,_,hc2⟩:=id hm.form
 obtain ⟨_,_,he,_,hc⟩:=id hs.form
 cases he
 have hC:∀ w,Calls prog 84 #[.agg #[.slice (some ⟨b0,off,none⟩) ws.length c,.slice p2 ms.length c2]] w (Ret w (.int .i64 0)):=fun w=>by
  have h:=scCheck_calls (some ⟨b0,off,none⟩) p2 ws.length c ms.length c2 (by omega) (by have:=hok.2.1;simp only [maxLen];omega) w
  rwa [if_pos hok] at h
 have hrd:Rd prog 29 (.cells cs E fr) (off+(ws.length - n) * 4) (wv (ws.getD (ws.length - n) 0)):=word_rd hx (ws.length - n) (by omega)
 obtain ⟨x,hxe⟩:∃ x,ws.getD (ws.length - n) 0=x:=⟨_,rfl⟩
 rw [hxe] at hrd ⊢
 refine enter (args:=[_,_]) _ [] [] func133 rfl ntmps133 rfl (by simp) .nil ?_
 (refine goZ ?_;intro _ _;refine cEv hC ?_;refine cEw (c:=by exact depth_calls n h1 h2) (k:=?_))
 apply CW.pre
 (refine qY [(11,fun r gs=>∃ o,r=.tuple #[o,.int .i64 0]∧ScO (ws++[x]) ms o gs)] 14 mixed (by decide +kernel) ?_)
 (refine tsZ ?_;apply DW.layA;rfl;rfl;rfl;exact zC;exact vF;exact vF;rfl;rfl;rfl;rfl;rfl;intro _)
 rename_i b35
 refine DW.manyW (vs':=[.slice (some ⟨b0,off,none⟩) ws.length c,.slice p2 ms.length c2,.slice (some ⟨b35,0,none⟩) 1 1]) rfl rfl rfl (by (exact zC)) rfl vF agZ (by simp only [yJ,List.flatMap_nil,yM];rw [← blocks_sl ⟨some ⟨b0,off,none⟩,ws.length,c,rfl⟩,← blocks_sl ⟨p2,ms.length,c2,rfl⟩];show (blocksN 3 _++(blocksN 3 _++[]))++_=_;simp) (.ext hs0 rfl (.ext hm0 rfl (.own (by omega) (by (apply zP;kernel_rfl)) .nil))) (fun w hb hu=>push_ok ws ms [x] _ _ _ w (hs0.bel hb) (hm0.bel hb) (row_cells (hu _ jV) rfl rfl (by show 1≤maxLen;decide)) hok (by show 1≤100000;omega) hf) ?_
 rintro vP gP ⟨o,rfl,s1,m1,gg1,gg2,rfl,rfl,hw1,hb1⟩
 have hw1':=hw1
 have hb1':=hb1
 unfold wM at hw1'
 unfold bM at hb1'
 obtain ⟨q5,k5,rfl⟩:=hw1'.form
 obtain ⟨q6,k6,rfl⟩:=hb1'.form
 (refine tsZ ?_)
 refine fsZ ?_
 (refine goZ ?_)
 refine fin (vs:=[.agg #[.slice q5 (ws++[x]).length k5,.slice q6 ms.length k6],.int .i64 0]) (gg2++gg1) (.inl rfl) rfl rfl rsZ ?_ ⟨_,rfl,_,_,gg1,gg2,rfl,rfl,hw1,hb1⟩
 exact jJ _ _
theorem Swap_calls (ws:List Nat) (ms:List UInt8) (n:Nat) (s m:Value) (h1:1≤n) (h2:n≤16) (hn:n < ws.length) (w:World) (hs:RowAt w 4 s ws.length (wcs ws)) (hm:RowAt w 1 m ms.length (ucs ms)) (hok:okSc ws.length ms.length) :
  Calls prog 134 #[.agg #[s,m],.int .i64 (n:Int)] w (RetG w [] (fun r gs=>∃ o,r=.tuple #[o,.int .i64 0]∧ScO (swapL ws n) ms o gs)):=by
 have hs0:=hs
 have hm0:=hm
 obtain ⟨p,c,rfl,_,hc⟩:=hs.form
 obtain ⟨p2,c2,rfl,_,hc2⟩:=hm.form
 have hC:∀ w,Calls prog 84 #[.agg #[.slice p ws.length c,.slice p2 ms.length c2]] w (Ret w (.int .i64 0)):=fun w=>by
  exact dTBxIv
 obtain ⟨hn1,hk1,hk2⟩:=id hok
 refine enter (args:=[_,_]) _ [] [] func134 rfl ntmps134 rfl (by simp) .nil ?_
 (refine goZ ?_;intro _ _;refine cEv hC ?_;refine cEw (c:=by exact depth_calls n h1 h2) (k:=?_))
 refine dQBlKy ?_
 rintro vo gso ⟨s1,m1,g1,g2,rfl,rfl,hw1,hb1⟩
 have hw1':=hw1
 have hb1':=hb1
 unfold wM at hw1'
 unfold bM at hb1'
 obtain ⟨q1,k1,rfl⟩:=hw1'.form
 obtain ⟨q2,k2,rfl⟩:=hb1'.form
 obtain ⟨gm,cur,rfl,rfl,hn9,hm9,hsz9,htk9⟩:=hw1'.pos (by omega)
 rw [jR]
 refine laZ ?_
 obtain ⟨t,ht⟩:∃ t,ws.length - 1=t:=⟨_,rfl⟩
 have hrdK:Rd prog 29 (.cells cur 29 (0,0)) (0+(t - n) * 4) (wv (ws.getD (t - n) 0)):=word_rd (by rw [yW];exact htk9) (t - n) (by omega)
 have hrdJ:Rd prog 29 (.cells cur 29 (0,0)) (0+t * 4) (wv (ws.getD t 0)):=word_rd (by rw [yW];exact htk9) t (by omega)
 have hsw:swapL ws n=(ws.set t (ws.getD (t - n) 0)).set (t - n) (ws.getD t 0):=by unfold swapL;rw [ht]
 obtain ⟨x,hx⟩:∃ x,ws.getD (t - n) 0=x:=⟨_,rfl⟩
 obtain ⟨y,hy⟩:∃ y,ws.getD t 0=y:=⟨_,rfl⟩
 rw [hx] at hrdK hsw
 rw [hy] at hrdJ hsw
 obtain ⟨w1,w2⟩:=wr_take (i:=t) (vs:=(wc x).toList) htk9 rfl (by omega) (by omega)
 rw [wcs_set ws t x (by omega)] at w1
 obtain ⟨w3,w4⟩:=wr_take (i:=t - n) (vs:=(wc y).toList) w1 rfl (by omega) (by omega)
 rw [wcs_set _ (t - n) y (by rw [List.length_set];omega)] at w3
 have hW1:Wr prog 29 (.cells cur 29 (0,0)) (0+t * 4) (wv x) (.cells (wrCells cur (t * 4) (wc x).toList) 29 (0,0)):=qU (z:=wv 0) (n:=4) rfl rfl (by rw [hsz9];show 0+t * 4+4≤k1 * 4;omega) (by rw [jH];rfl)
 have hW2:Wr prog 29 (.cells (wrCells cur (t * 4) (wc x).toList) 29 (0,0)) (0+(t - n) * 4) (wv y) (.cells (wrCells (wrCells cur (t * 4) (wc x).toList) ((t - n) * 4) (wc y).toList) 29 (0,0)):=qU (z:=wv 0) (n:=4) rfl rfl (by rw [w2,hsz9];show 0+(t - n) * 4+4≤k1 * 4;omega) (by rw [jH];rfl)
 (refine goZ ?_;intro _)
 rw [ht]
 apply CW.pre
 (refine qY [] 22 mixed (by decide +kernel) ?_)
 (refine tsZ ?_;apply DW.store;rfl;rfl;exact zC;rfl;rfl;apply qQ;apply TSet.app;apply qR;exact zN;kernel_rfl;exact hW1;refine goZ ?_)
 refine fsZ ?_
 (refine goZ ?_)
 refine fin (vs:=[.agg #[.slice (some ⟨gm,0,none⟩) ws.length k1,.slice q2 ms.length k2],.int .i64 0]) (g2++[(gm,.cells (wrCells (wrCells cur (t * 4) (wc x).toList) ((t - n) * 4) (wc y).toList) 29 (0,0))]) (.inl rfl) rfl rfl rsZ ?_ ⟨_,rfl,_,_,[(gm,_)],g2,rfl,rfl,?_,hb1⟩
 ·exact jK _ (jL (jP _ (List.nil_sublist _)) _)
 ·exact dTBVNs
section
theorem dTBcLy {P:Prop} (h:P:=by
 rintro vo gso ⟨o,rfl,s1,m1,gg1,gg2,rfl,rfl,hw1,hb1⟩
 rw [hX] at hw1
 have hw1':=hw1
 have hb1':=hb1
 unfold wM at hw1'
 unfold bM at hb1'
 obtain ⟨q5,k5,rfl⟩:=hw1'.form
 obtain ⟨q6,k6,rfl⟩:=hb1'.form
 (refine goZ ?_;refine cEv need_true ?_;refine zR rfl rfl (.app (.tail .head)) (ma_wr2 rfl rfl rfl rfl) ?_;refine goZ ?_)
 refine inPI (.inl rfl) .nil rfl rsZ rfl ⟨_,⟨rfl,.slice q5 X.length k5,.slice q6 L.ms.length k6,g1++(gg1++(gg2++(g4++g5))),⟨g1,gg1,gg2,g4,g5,.refl _,hall.1,hw1,hb1,hall.2.2.2.1,hall.2.2.2.2⟩,rfl⟩,?_⟩
 simp only [jR,yA,jQ]
 exact subp_ix [gg2,gg1,[_],[_],g1,g2,g3,g4,g5] (xs:=[3,4,1,0,7,8]) (ys:=[0,1,2,3,4,5,6,7,8]) rest rfl):P:=h
attribute [local irreducible] SL.inP
theorem row_dup (w0:World) (S:List Nat) (b:Nat) (m:MaV) (L:FrL) (gs rest:Fs) (op:Nat) (h1:128≤op) (h2:op≤143) (hok:okSc L.ws.length L.ms.length) (hn:op - 127≤L.ws.length) (hf:L.ws.length+1≤64) (hfr:FrO m.fr L gs) (w:World) (hs:St w0 S ((b,maO m)::(gs++rest)) w) :
  Calls prog 94 #[.pointer (some ⟨b,0,none⟩),.int .u8 (op:Int)] w (fun x w'=>∃ fs',RowK b m L (L.ws++[L.ws.getD (L.ws.length - (op - 127)) 0]) rest x fs'∧St w0 S fs' w'):=by
 obtain ⟨g1,g2,g3,g4,g5,hp,hall⟩:=hfr
 replace hs:St w0 S ((b,maO m)::(g1++(g2++(g3++(g4++g5)))++rest)) w:=hs.perm (List.Perm.cons _ (hp.append_right rest))
 clear hp
 obtain ⟨r1,r2,r3,r4,r5⟩:=id hall
 have hfr:FrO m.fr L (g1++(g2++(g3++(g4++g5)))):=⟨g1,g2,g3,g4,g5,.refl _,hall⟩
 have hR:∀ w' {fs:Fs},St w0 S (fs++(b,maO m)::(g1++(g2++(g3++(g4++g5)))++rest)) w'→FrRows w' m.fr L:=fun w' fs h=>hfr.st h fun p hp=>jT _ (jI _ (yG _ hp))
 replace hR:∀ w' {x:Nat × Obj},St w0 S (x::(b,maO m)::(g1++(g2++(g3++(g4++g5)))++rest)) w'→FrRows w' m.fr L:=fun w' x h=>hR (fs:=[x]) w' h
 obtain ⟨X,hX⟩:∃ X,L.ws++[L.ws.getD (L.ws.length - (op - 127)) 0]=X:=⟨_,rfl⟩
 rw [hX]
 obtain ⟨fr,e0,e1,e2,e3,took,kind,aop,awords,adata⟩:=m
 obtain ⟨code,pc,stk,mem,gas,self,frm,val,inp,back,stat⟩:=fr
 dsimp only at r1 r2 r3 hR hall
 unfold bM at r1 r3
 unfold wM at r2
 obtain ⟨q1,k1,rfl⟩:=id r1.form
 obtain ⟨q2,k2,rfl⟩:=id r2.form
 obtain ⟨q3,k3,rfl⟩:=id r3.form
 refine calls_anyO (qX (K:=anyO (RowK b ⟨⟨.slice q1 L.cl.length k1,pc,.slice q2 L.ws.length k2,.slice q3 L.ms.length k3,gas,self,frm,val,inp,back,stat⟩,e0,e1,e2,e3,took,kind,aop,awords,adata⟩ L X rest)) (args:=[_,_]) func94 rfl ntmps94 rfl ?_ hs)
 (refine sRz<|vAz<|nSz<|vMz<|vNz<|vFz<|vFz<|ldz rfl .head ma_rd2 ?_;apply zU;rfl;intro _;refine zR rfl rfl .head (.whole rfl rfl rfl)<|vAz<|nNz<|zI<|zM<|sRz<|vMz ?_;refine lvz (.geqT rfl rfl (by omega)) ?_;refine vMz<|gTz<|vMz<|gTz ?_;refine lvz (.leqF rfl rfl (by omega)) ?_;refine pTz<|vAz<|nNz<|cFz<|sRz<|vMz ?_;refine lvz (.geqT rfl rfl (by omega)) ?_;refine vMz<|gTz<|vMz<|gTz ?_;refine lvz (.leqT rfl rfl (by omega)) ?_;refine pTz<|vAz<|nNz<|cTz<|zL<|ldz rfl .head (qI rfl)<|vMz ?_;apply qN;rfl;rfl;apply ValP.subBL;rfl;rfl;decide;omega;omega;refine lvz (.convI rfl (by omega) (by omega)) ?_;refine lvz (.addZL rfl rfl (by decide) (by omega)) ?_)
 rw [show op - 128+1=op - 127 by omega]
 (refine crz (c:=fun w hs=>by exact Dup_calls L.ws L.ms (op - 127) _ _ (by omega) (by omega) (by omega) hf w (hR w hs).s (hR w hs).m hok) (k:=?_))
 exact dTBcLy
theorem row_swap (w0:World) (S:List Nat) (b:Nat) (m:MaV) (L:FrL) (gs rest:Fs) (op:Nat) (h1:144≤op) (h2:op≤159) (hok:okSc L.ws.length L.ms.length) (hn:op - 143 < L.ws.length) (hfr:FrO m.fr L gs) (w:World) (hs:St w0 S ((b,maO m)::(gs++rest)) w) :
  Calls prog 94 #[.pointer (some ⟨b,0,none⟩),.int .u8 (op:Int)] w (fun x w'=>∃ fs',RowK b m L (swapL L.ws (op - 143)) rest x fs'∧St w0 S fs' w'):=by
 obtain ⟨g1,g2,g3,g4,g5,hp,hall⟩:=hfr
 replace hs:St w0 S ((b,maO m)::(g1++(g2++(g3++(g4++g5)))++rest)) w:=hs.perm (List.Perm.cons _ (hp.append_right rest))
 clear hp
 obtain ⟨r1,r2,r3,r4,r5⟩:=id hall
 have hfr:FrO m.fr L (g1++(g2++(g3++(g4++g5)))):=⟨g1,g2,g3,g4,g5,.refl _,hall⟩
 have hR:∀ w' {fs:Fs},St w0 S (fs++(b,maO m)::(g1++(g2++(g3++(g4++g5)))++rest)) w'→FrRows w' m.fr L:=fun w' fs h=>hfr.st h fun p hp=>jT _ (jI _ (yG _ hp))
 replace hR:∀ w' {x:Nat × Obj},St w0 S (x::(b,maO m)::(g1++(g2++(g3++(g4++g5)))++rest)) w'→FrRows w' m.fr L:=fun w' x h=>hR (fs:=[x]) w' h
 obtain ⟨X,hX⟩:∃ X,swapL L.ws (op - 143)=X:=⟨_,rfl⟩
 rw [hX]
 obtain ⟨fr,e0,e1,e2,e3,took,kind,aop,awords,adata⟩:=m
 obtain ⟨code,pc,stk,mem,gas,self,frm,val,inp,back,stat⟩:=fr
 dsimp only at r1 r2 r3 hR hall
 unfold bM at r1 r3
 unfold wM at r2
 obtain ⟨q1,k1,rfl⟩:=id r1.form
 obtain ⟨q2,k2,rfl⟩:=id r2.form
 obtain ⟨q3,k3,rfl⟩:=id r3.form
 refine calls_anyO (qX (K:=anyO (RowK b ⟨⟨.slice q1 L.cl.length k1,pc,.slice q2 L.ws.length k2,.slice q3 L.ms.length k3,gas,self,frm,val,inp,back,stat⟩,e0,e1,e2,e3,took,kind,aop,awords,adata⟩ L X rest)) (args:=[_,_]) func94 rfl ntmps94 rfl ?_ hs)
 (refine sRz<|vAz<|nSz<|vMz<|vNz<|vFz<|vFz<|ldz rfl .head ma_rd2 ?_;apply zU;rfl;intro _;refine zR rfl rfl .head (.whole rfl rfl rfl)<|vAz<|nNz<|zI<|zM<|sRz<|vMz ?_;refine lvz (.geqT rfl rfl (by omega)) ?_;refine vMz<|gTz<|vMz<|gTz ?_;refine lvz (.leqF rfl rfl (by omega)) ?_;refine pTz<|vAz<|nNz<|cFz<|sRz<|vMz ?_;refine lvz (.geqT rfl rfl (by omega)) ?_;refine vMz<|gTz<|vMz<|gTz ?_;refine lvz (.leqF rfl rfl (by omega)) ?_;refine pTz<|vAz<|nNz<|cFz<|sRz<|vMz ?_;refine lvz (.geqT rfl rfl (by omega)) ?_;refine vMz<|gTz<|vMz<|gTz ?_;refine lvz (.leqT rfl rfl (by omega)) ?_;refine pTz<|vAz<|nNz<|cTz<|zL<|ldz rfl .head (qI rfl)<|vMz ?_;apply qN;rfl;rfl;apply ValP.subBL;rfl;rfl;decide;omega;omega;refine lvz (.convI rfl (by omega) (by omega)) ?_;refine lvz (.addZL rfl rfl (by decide) (by omega)) ?_)
 rw [show op - 144+1=op - 143 by omega]
 (refine crz (c:=fun w hs=>by exact Swap_calls L.ws L.ms (op - 143) _ _ (by omega) (by omega) (by omega) w (hR w hs).s (hR w hs).m hok) (k:=?_))
 exact dTBcLy
end
section
open CK (dataC)
theorem dQBGDB {P Q:Prop} (k:Q) (h:BoxZ Q→P:=by
 intro kQ
 rw [hgs9]
 refine qV (fs':=(b,maO ((ma0 f e0 e1 e2 e3).setGas (f.gas - G)))::(gs9++([(b39,.cells #[.int .u64 (G:Int)] 26 (0,0)),(b3,.cells (opc X) 86 (0,0))]++rest))) (List.Perm.cons _ (List.perm_append_comm_assoc gs9 [_,_] rest)) ?_
 exact kQ.k):P:=h ⟨k⟩
theorem dTBtVY {P:Prop} (h:P:=by
 refine calls_anyO (qX (K:=anyO (fun x fs'=>x=.panicked failC∧fs'=rest)) (args:=[_]) func42 rfl ntmps42 rfl ?_ hs)
 (refine goZ ?_;refine ldy (c:=by exact ma_rdF) (k:=?_);refine cEz (c:=fun w hst=>by exact hN w (st_ou hst subZ)) (k:=?_);refine cEv hOf ?_;intro _;refine cEv need_true ?_;refine cEv hBs ?_;intro _)
 have hsp:spendM (ma0 f e0 e1 e2 e3) [G]=some ((ma0 f e0 e1 e2 e3).setGas (f.gas - G)):=if_pos (by show G+0≤f.gas;omega)
 rename_i b3 b39
 refine qV (fs':=(b,maO (ma0 f e0 e1 e2 e3))::(b39,.cells #[.int .u64 (G:Int)] 26 (0,0))::(b3,.cells (opc X) 86 (0,0))::(g1++(g2++(g3++(g4++g5)))++rest)) (yX (l₁:=[_,_])).symm ?_
 refine qP (K:=MaK b (ma0 f e0 e1 e2 e3) (spendM (ma0 f e0 e1 e2 e3) [G]) _) rfl rfl vF agZ rfl (fun fs h=>by rw [hsp] at h;cases h.1) (fun w' hst=>spend_calls w0 [] b _ [G] hgl _ _ w' hst (fun w2 h2=>row_cells (h2.own (b39,_) (jX _ (jW _))).2 rfl rfl (by simp [maxLen]))) ?_ ?_
 rotate_left
 ·rintro ch fs' h
  rw [hsp] at h;cases h.1
 rintro v fs' h
 rw [hsp] at h
 obtain ⟨h,rfl⟩:=h
 cases h
 (refine goZ ?_)
 refine qP (K:=NeedK _) rfl rfl vF agZ rfl (fun fs h=>by cases h.1) (fun w' hst=>need_false w0 [] _ w' hst) ?_ ?_
 ·rintro v fs' ⟨h,_⟩
  cases h
 ·rintro ch fs' ⟨h,rfl⟩
  cases h
  refine thenP ?_
  exact inPP .nil ⟨rest,⟨rfl,rfl⟩,_,jK _ (jK _ (jK _ (jN _ _))),.refl _⟩):P:=h
theorem dTBDEW {P:Prop} (h:P:=by
 subst he
 refine calls_anyO (qX (K:=anyO (fun x fs'=>x=.panicked failC∧fs'=rest)) (args:=[_]) func42 rfl ntmps42 rfl ?_ hs)
 (refine goZ ?_;refine ldy (c:=by exact ma_rdF) (k:=?_);refine cEz (c:=fun w hst=>by exact hN w (st_ou hst subZ)) (k:=?_);refine cEv hOf ?_;intro _)
 refine qP (K:=NeedK _) rfl rfl vF agZ rfl (fun fs h=>by cases h.1) (fun w' hst=>need_false w0 [] _ w' hst) ?_ ?_
 ·rintro v fs' ⟨h,_⟩
  cases h
 ·rintro ch fs' ⟨h,rfl⟩
  cases h
  refine thenP ?_
  exact inPP .nil ⟨rest,⟨rfl,rfl⟩,_,jK _ (jK _ (jN _ _)),.refl _⟩):P:=h
theorem dTBKkP {P:Prop} (h:P:=by
 obtain ⟨a1,a2,a3,a4,a5,ha,hall⟩:=hfr
 exact ⟨a1,a2,a3,a4,a5,by rw [← hgs9];exact ha.trans hp.symm,hall⟩):P:=h
attribute [local irreducible] SL.inP opOf opX gasB
theorem step_none (w0:World) (b:Nat) (f:FrV) (L:FrL) (e0 e1 e2 e3:Nat) (gs rest:Fs) (op:Nat) (hF:okF f L) (hn:FrNum f L) (hop:opF f L=op) (ho:¬ (opOf op).isSome=true) (hfr:FrO f L gs) (w:World) (hs:St w0 [] ((b,maO (ma0 f e0 e1 e2 e3))::(gs++rest)) w) :
  Calls prog 42 #[.pointer (some ⟨b,0,none⟩)] w (fun x w'=>∃ fs',(fun x fs'=>x=.panicked failC∧fs'=rest) x fs'∧St w0 [] fs' w'):=by
 refine preY ?_
 intro g1 g2 g3 g4 g5 hp r4 r5 q1 k1 r1 hst1 q2 k2 r2 hst2 q3 k3 r3 hst3 us2 hbl2 hin2 hrows2 us3 hbl3 hin3 hrows3 hs hgb5 hrdS hrdC pn hpn hpl hcl2 hrdP hpt hgl hok hok1 hN hsl hop2 o5
 obtain ⟨e,hOf,he⟩:=OfX_calls op (by omega) w
 rw [if_neg ho] at he
 exact dTBDEW
theorem step_254 (w0:World) (b:Nat) (f:FrV) (L:FrL) (e0 e1 e2 e3:Nat) (gs rest:Fs) (op:Nat) (hF:okF f L) (hn:FrNum f L) (hop:opF f L=op) (ho:(opOf op).isSome=true) (hi:op=254) (hfr:FrO f L gs) (w:World) (hs:St w0 [] ((b,maO (ma0 f e0 e1 e2 e3))::(gs++rest)) w) :
  Calls prog 42 #[.pointer (some ⟨b,0,none⟩)] w (fun x w'=>∃ fs',(fun x fs'=>x=.panicked failC∧fs'=rest) x fs'∧St w0 [] fs' w'):=by
 refine preY ?_
 intro g1 g2 g3 g4 g5 hp r4 r5 q1 k1 r1 hst1 q2 k2 r2 hst2 q3 k3 r3 hst3 us2 hbl2 hin2 hrows2 us3 hbl3 hin3 hrows3 hs hgb5 hrdS hrdC pn hpn hpl hcl2 hrdP hpt hgl hok hok1 hN hsl hop2 o5
 obtain ⟨e,hOf,he⟩:=OfX_calls op (by omega) w
 rw [if_pos ho] at he
 exact dTBDEW
theorem step_gas (w0:World) (b:Nat) (f:FrV) (L:FrL) (e0 e1 e2 e3:Nat) (gs rest:Fs) (op:Nat) (hF:okF f L) (hn:FrNum f L) (hop:opF f L=op) (ho:(opOf op).isSome=true) (hi:op ≠ 254) (hg:f.gas < gasB op) (hfr:FrO f L gs) (w:World) (hs:St w0 [] ((b,maO (ma0 f e0 e1 e2 e3))::(gs++rest)) w) :
  Calls prog 42 #[.pointer (some ⟨b,0,none⟩)] w (fun x w'=>∃ fs',(fun x fs'=>x=.panicked failC∧fs'=rest) x fs'∧St w0 [] fs' w'):=by
 refine preY ?_
 intro g1 g2 g3 g4 g5 hp r4 r5 q1 k1 r1 hst1 q2 k2 r2 hst2 q3 k3 r3 hst3 us2 hbl2 hin2 hrows2 us3 hbl3 hin3 hrows3 hs hgb5 hrdS hrdC pn hpn hpl hcl2 hrdP hpt hgl hok hok1 hN hsl hop2 o5
 obtain ⟨e,hOf,he⟩:=OfX_calls op (by omega) w
 rw [if_pos ho] at he
 subst he
 obtain ⟨G,hG⟩:∃ G,gasB op=G:=⟨_,rfl⟩
 have hBs:∀ w',Calls prog 93 #[.int .u8 (op:Int)] w' (Ret w' (.tuple #[.int .u64 (G:Int),.int .i64 0])):=fun w'=>by
  exact dTBJKw
 rw [hG] at hg
 obtain ⟨X,hX⟩:∃ X,opX op=X:=⟨_,rfl⟩
 rw [hX] at hOf o5
 refine calls_anyO (qX (K:=anyO (fun x fs'=>x=.panicked failC∧fs'=rest)) (args:=[_]) func42 rfl ntmps42 rfl ?_ hs)
 (refine goZ ?_;refine ldy (c:=by exact ma_rdF) (k:=?_);refine cEz (c:=fun w hst=>by exact hN w (st_ou hst subZ)) (k:=?_);refine cEv hOf ?_;intro _;refine cEv need_true ?_;refine cEv hBs ?_;intro _)
 have hsp:spendM (ma0 f e0 e1 e2 e3) [G]=none:=if_neg (by show ¬ G+0≤f.gas;omega)
 rename_i b3 b39
 refine dQBfSO ?_
 refine qP (K:=MaK b (ma0 f e0 e1 e2 e3) (spendM (ma0 f e0 e1 e2 e3) [G]) _) rfl rfl vF agZ rfl (fun fs h=>by rw [hsp] at h;cases h.1) (fun w' hst=>spend_calls w0 [] b _ [G] hgl _ _ w' hst (fun w2 h2=>row_cells (h2.own (b39,_) (jX _ (jW _))).2 rfl rfl (by simp [maxLen]))) ?_ ?_
 ·rintro v fs' h
  rw [hsp] at h;cases h.1
 ·rintro ch fs' h
  rw [hsp] at h
  obtain ⟨h,rfl⟩:=h
  cases h
  refine thenP ?_
  exact inPP .nil ⟨rest,⟨rfl,rfl⟩,_,jK _ (jK _ (jK _ (jN _ _))),.refl _⟩
theorem step_few (w0:World) (b:Nat) (f:FrV) (L:FrL) (e0 e1 e2 e3:Nat) (gs rest:Fs) (op:Nat) (hF:okF f L) (hn:FrNum f L) (hop:opF f L=op) (ho:(opOf op).isSome=true) (hi:op ≠ 254) (hg:gasB op≤f.gas) (hX5:(opX op).tk < 1000∧(opX op).ly < 1000) (ht:L.ws.length < (opX op).tk) (hfr:FrO f L gs) (w:World) (hs:St w0 [] ((b,maO (ma0 f e0 e1 e2 e3))::(gs++rest)) w) :
  Calls prog 42 #[.pointer (some ⟨b,0,none⟩)] w (fun x w'=>∃ fs',(fun x fs'=>x=.panicked failC∧fs'=rest) x fs'∧St w0 [] fs' w'):=by
 refine preY ?_
 intro g1 g2 g3 g4 g5 hp r4 r5 q1 k1 r1 hst1 q2 k2 r2 hst2 q3 k3 r3 hst3 us2 hbl2 hin2 hrows2 us3 hbl3 hin3 hrows3 hs hgb5 hrdS hrdC pn hpn hpl hcl2 hrdP hpt hgl hok hok1 hN hsl hop2 o5
 obtain ⟨e,hOf,he⟩:=OfX_calls op (by omega) w
 rw [if_pos ho] at he
 subst he
 obtain ⟨G,hG⟩:∃ G,gasB op=G:=⟨_,rfl⟩
 have hBs:∀ w',Calls prog 93 #[.int .u8 (op:Int)] w' (Ret w' (.tuple #[.int .u64 (G:Int),.int .i64 0])):=fun w'=>by
  exact dTBJKw
 rw [hG] at hg
 obtain ⟨X,hX⟩:∃ X,opX op=X:=⟨_,rfl⟩
 rw [hX] at hX5 ht o5 hOf
 exact dTBtVY
theorem step_full (w0:World) (b:Nat) (f:FrV) (L:FrL) (e0 e1 e2 e3:Nat) (gs rest:Fs) (op:Nat) (hF:okF f L) (hn:FrNum f L) (hop:opF f L=op) (ho:(opOf op).isSome=true) (hi:op ≠ 254) (hg:gasB op≤f.gas) (hX5:(opX op).tk < 1000∧(opX op).ly < 1000) (ht:(opX op).tk≤L.ws.length) (hf:64 < L.ws.length - (opX op).tk+(opX op).ly) (hfr:FrO f L gs) (w:World) (hs:St w0 [] ((b,maO (ma0 f e0 e1 e2 e3))::(gs++rest)) w) :
  Calls prog 42 #[.pointer (some ⟨b,0,none⟩)] w (fun x w'=>∃ fs',(fun x fs'=>x=.panicked failC∧fs'=rest) x fs'∧St w0 [] fs' w'):=by
 refine preY ?_
 intro g1 g2 g3 g4 g5 hp r4 r5 q1 k1 r1 hst1 q2 k2 r2 hst2 q3 k3 r3 hst3 us2 hbl2 hin2 hrows2 us3 hbl3 hin3 hrows3 hs hgb5 hrdS hrdC pn hpn hpl hcl2 hrdP hpt hgl hok hok1 hN hsl hop2 o5
 obtain ⟨e,hOf,he⟩:=OfX_calls op (by omega) w
 rw [if_pos ho] at he
 subst he
 obtain ⟨G,hG⟩:∃ G,gasB op=G:=⟨_,rfl⟩
 have hBs:∀ w',Calls prog 93 #[.int .u8 (op:Int)] w' (Ret w' (.tuple #[.int .u64 (G:Int),.int .i64 0])):=fun w'=>by
  exact dTBJKw
 rw [hG] at hg
 obtain ⟨X,hX⟩:∃ X,opX op=X:=⟨_,rfl⟩
 rw [hX] at hX5 ht o5 hOf hf
 exact dTBtVY
theorem step_pushR (w0:World) (b:Nat) (f:FrV) (L:FrL) (e0 e1 e2 e3:Nat) (gs rest:Fs) (op:Nat) (hF:okF f L) (hn:FrNum f L) (hop:opF f L=op) (ho:(opOf op).isSome=true) (h1:96≤op) (h2:op≤127) (hg:gasB op≤f.gas) (hX5:(opX op).tk < 1000∧(opX op).ly < 1000) (ht:(opX op).tk≤L.ws.length) (hf:L.ws.length - (opX op).tk+(opX op).ly≤64) (hrw:L.ws.length+1≤64) (hfr:FrO f L gs) (w:World) (hs:St w0 [] ((b,maO (ma0 f e0 e1 e2 e3))::(gs++rest)) w) :
  Calls prog 42 #[.pointer (some ⟨b,0,none⟩)] w (fun x w'=>∃ fs',(fun x fs'=>x=.returned (.tuple #[])∧∃ s k gs',FrO ((f.setR (f.gas - gasB op) s k).setPc ((min (f.pc.toNat+1+(opX op).dt) L.cl.length:Nat):Int)) (L.setW (L.ws++[bev (dataC L.cl f.pc)])) gs'∧fs'=(b,maO (ma0 ((f.setR (f.gas - gasB op) s k).setPc ((min (f.pc.toNat+1+(opX op).dt) L.cl.length:Nat):Int)) e0 e1 e2 e3))::(gs'++rest)) x fs'∧St w0 [] fs' w'):=by
 refine preY ?_
 intro g1 g2 g3 g4 g5 hp r4 r5 q1 k1 r1 hst1 q2 k2 r2 hst2 q3 k3 r3 hst3 us2 hbl2 hin2 hrows2 us3 hbl3 hin3 hrows3 hs hgb5 hrdS hrdC pn hpn hpl hcl2 hrdP hpt hgl hok hok1 hN hsl hop2 o5
 obtain ⟨e,hOf,he⟩:=OfX_calls op (by omega) w
 rw [if_pos ho] at he
 subst he
 obtain ⟨G,hG⟩:∃ G,gasB op=G:=⟨_,rfl⟩
 have hBs:∀ w',Calls prog 93 #[.int .u8 (op:Int)] w' (Ret w' (.tuple #[.int .u64 (G:Int),.int .i64 0])):=fun w'=>by
  exact dTBJKw
 rw [hG] at hg
 obtain ⟨X,hX⟩:∃ X,opX op=X:=⟨_,rfl⟩
 rw [hX] at hX5 ht hf o5 hOf
 rw [hG,hX,hpt]
 refine calls_anyO (qX (K:=anyO _) (args:=[_]) func42 rfl ntmps42 rfl ?_ hs)
 (refine goZ ?_;refine ldy (c:=by exact ma_rdF) (k:=?_);refine cEz (c:=fun w hst=>by exact hN w (st_ou hst subZ)) (k:=?_);refine cEv hOf ?_;intro _;refine cEv need_true ?_;refine cEv hBs ?_;intro _)
 have hsp:spendM (ma0 f e0 e1 e2 e3) [G]=some ((ma0 f e0 e1 e2 e3).setGas (f.gas - G)):=if_pos (by show G+0≤f.gas;omega)
 rename_i b3 b39
 refine dQBfSO ?_
 refine qP (K:=MaK b (ma0 f e0 e1 e2 e3) (spendM (ma0 f e0 e1 e2 e3) [G]) _) rfl rfl vF agZ rfl (fun fs h=>by rw [hsp] at h;cases h.1) (fun w' hst=>spend_calls w0 [] b _ [G] hgl _ _ w' hst (fun w2 h2=>row_cells (h2.own (b39,_) (jX _ (jW _))).2 rfl rfl (by simp [maxLen]))) ?_ ?_
 rotate_left
 ·exact dTBtqw
 rintro v fs' h
 rw [hsp] at h
 obtain ⟨h,rfl⟩:=h
 cases h
 refine dQBoUk ?_
 obtain ⟨gs9,hgs9⟩:∃ gs9,g1++(g2++(g3++(g4++g5)))=gs9:=⟨_,rfl⟩
 replace hfr:FrO f L gs9:=by
  exact dTBKkP
 refine dQBGDB ?_
 refine qO (K:=fun v fs'=>RowK b ((ma0 f e0 e1 e2 e3).setGas (f.gas - G)) L (L.ws++[bev (dataC L.cl f.pc)]) ([(b39,.cells #[.int .u64 (G:Int)] 26 (0,0)),(b3,.cells (opc X) 86 (0,0))]++rest) (.returned v) fs') rfl rfl vF agZ (fun w' hst=>vG (row_push w0 [] b ((ma0 f e0 e1 e2 e3).setGas (f.gas - G)) L gs9 _ op h1 h2 hok hrw hfr w' hst) fun x w'' ⟨fs',hk,hst⟩=>⟨.bool true,fs',hk.1,by { have h:=hk;rw [hk.1] at h;exact h },hst⟩) ?_
 exact dTBIsP
theorem step_dupR (w0:World) (b:Nat) (f:FrV) (L:FrL) (e0 e1 e2 e3:Nat) (gs rest:Fs) (op:Nat) (hF:okF f L) (hn:FrNum f L) (hop:opF f L=op) (ho:(opOf op).isSome=true) (h1:128≤op) (h2:op≤143) (hg:gasB op≤f.gas) (hX5:(opX op).tk < 1000∧(opX op).ly < 1000) (ht:(opX op).tk≤L.ws.length) (hf:L.ws.length - (opX op).tk+(opX op).ly≤64) (hrn:op - 127≤L.ws.length) (hrw:L.ws.length+1≤64) (hfr:FrO f L gs) (w:World) (hs:St w0 [] ((b,maO (ma0 f e0 e1 e2 e3))::(gs++rest)) w) :
  Calls prog 42 #[.pointer (some ⟨b,0,none⟩)] w (fun x w'=>∃ fs',(fun x fs'=>x=.returned (.tuple #[])∧∃ s k gs',FrO ((f.setR (f.gas - gasB op) s k).setPc ((min (f.pc.toNat+1+(opX op).dt) L.cl.length:Nat):Int)) (L.setW (L.ws++[L.ws.getD (L.ws.length - (op - 127)) 0])) gs'∧fs'=(b,maO (ma0 ((f.setR (f.gas - gasB op) s k).setPc ((min (f.pc.toNat+1+(opX op).dt) L.cl.length:Nat):Int)) e0 e1 e2 e3))::(gs'++rest)) x fs'∧St w0 [] fs' w'):=by
 refine preY ?_
 intro g1 g2 g3 g4 g5 hp r4 r5 q1 k1 r1 hst1 q2 k2 r2 hst2 q3 k3 r3 hst3 us2 hbl2 hin2 hrows2 us3 hbl3 hin3 hrows3 hs hgb5 hrdS hrdC pn hpn hpl hcl2 hrdP hpt hgl hok hok1 hN hsl hop2 o5
 obtain ⟨e,hOf,he⟩:=OfX_calls op (by omega) w
 rw [if_pos ho] at he
 subst he
 obtain ⟨G,hG⟩:∃ G,gasB op=G:=⟨_,rfl⟩
 have hBs:∀ w',Calls prog 93 #[.int .u8 (op:Int)] w' (Ret w' (.tuple #[.int .u64 (G:Int),.int .i64 0])):=fun w'=>by
  exact dTBJKw
 rw [hG] at hg
 obtain ⟨X,hX⟩:∃ X,opX op=X:=⟨_,rfl⟩
 rw [hX] at hX5 ht hf o5 hOf
 rw [hG,hX,hpt]
 refine calls_anyO (qX (K:=anyO _) (args:=[_]) func42 rfl ntmps42 rfl ?_ hs)
 (refine goZ ?_;refine ldy (c:=by exact ma_rdF) (k:=?_);refine cEz (c:=fun w hst=>by exact hN w (st_ou hst subZ)) (k:=?_);refine cEv hOf ?_;intro _;refine cEv need_true ?_;refine cEv hBs ?_;intro _)
 have hsp:spendM (ma0 f e0 e1 e2 e3) [G]=some ((ma0 f e0 e1 e2 e3).setGas (f.gas - G)):=if_pos (by show G+0≤f.gas;omega)
 rename_i b3 b39
 refine dQBfSO ?_
 refine qP (K:=MaK b (ma0 f e0 e1 e2 e3) (spendM (ma0 f e0 e1 e2 e3) [G]) _) rfl rfl vF agZ rfl (fun fs h=>by rw [hsp] at h;cases h.1) (fun w' hst=>spend_calls w0 [] b _ [G] hgl _ _ w' hst (fun w2 h2=>row_cells (h2.own (b39,_) (jX _ (jW _))).2 rfl rfl (by simp [maxLen]))) ?_ ?_
 rotate_left
 ·exact dTBtqw
 rintro v fs' h
 rw [hsp] at h
 obtain ⟨h,rfl⟩:=h
 cases h
 refine dQBoUk ?_
 obtain ⟨gs9,hgs9⟩:∃ gs9,g1++(g2++(g3++(g4++g5)))=gs9:=⟨_,rfl⟩
 replace hfr:FrO f L gs9:=by
  exact dTBKkP
 refine dQBGDB ?_
 refine qO (K:=fun v fs'=>RowK b ((ma0 f e0 e1 e2 e3).setGas (f.gas - G)) L (L.ws++[L.ws.getD (L.ws.length - (op - 127)) 0]) ([(b39,.cells #[.int .u64 (G:Int)] 26 (0,0)),(b3,.cells (opc X) 86 (0,0))]++rest) (.returned v) fs') rfl rfl vF agZ (fun w' hst=>vG (row_dup w0 [] b ((ma0 f e0 e1 e2 e3).setGas (f.gas - G)) L gs9 _ op h1 h2 hok hrn hrw hfr w' hst) fun x w'' ⟨fs',hk,hst⟩=>⟨.bool true,fs',hk.1,by { have h:=hk;rw [hk.1] at h;exact h },hst⟩) ?_
 exact dTBIsP
theorem step_swapR (w0:World) (b:Nat) (f:FrV) (L:FrL) (e0 e1 e2 e3:Nat) (gs rest:Fs) (op:Nat) (hF:okF f L) (hn:FrNum f L) (hop:opF f L=op) (ho:(opOf op).isSome=true) (h1:144≤op) (h2:op≤159) (hg:gasB op≤f.gas) (hX5:(opX op).tk < 1000∧(opX op).ly < 1000) (ht:(opX op).tk≤L.ws.length) (hf:L.ws.length - (opX op).tk+(opX op).ly≤64) (hrn:op - 143 < L.ws.length) (hfr:FrO f L gs) (w:World) (hs:St w0 [] ((b,maO (ma0 f e0 e1 e2 e3))::(gs++rest)) w) :
  Calls prog 42 #[.pointer (some ⟨b,0,none⟩)] w (fun x w'=>∃ fs',(fun x fs'=>x=.returned (.tuple #[])∧∃ s k gs',FrO ((f.setR (f.gas - gasB op) s k).setPc ((min (f.pc.toNat+1+(opX op).dt) L.cl.length:Nat):Int)) (L.setW (swapL L.ws (op - 143))) gs'∧fs'=(b,maO (ma0 ((f.setR (f.gas - gasB op) s k).setPc ((min (f.pc.toNat+1+(opX op).dt) L.cl.length:Nat):Int)) e0 e1 e2 e3))::(gs'++rest)) x fs'∧St w0 [] fs' w'):=by
 refine preY ?_
 intro g1 g2 g3 g4 g5 hp r4 r5 q1 k1 r1 hst1 q2 k2 r2 hst2 q3 k3 r3 hst3 us2 hbl2 hin2 hrows2 us3 hbl3 hin3 hrows3 hs hgb5 hrdS hrdC pn hpn hpl hcl2 hrdP hpt hgl hok hok1 hN hsl hop2 o5
 obtain ⟨e,hOf,he⟩:=OfX_calls op (by omega) w
 rw [if_pos ho] at he
 subst he
 obtain ⟨G,hG⟩:∃ G,gasB op=G:=⟨_,rfl⟩
 have hBs:∀ w',Calls prog 93 #[.int .u8 (op:Int)] w' (Ret w' (.tuple #[.int .u64 (G:Int),.int .i64 0])):=fun w'=>by
  exact dTBJKw
 rw [hG] at hg
 obtain ⟨X,hX⟩:∃ X,opX op=X:=⟨_,rfl⟩
 rw [hX] at hX5 ht hf o5 hOf
 rw [hG,hX,hpt]
 refine calls_anyO (qX (K:=anyO _) (args:=[_]) func42 rfl ntmps42 rfl ?_ hs)
 (refine goZ ?_;refine ldy (c:=by exact ma_rdF) (k:=?_);refine cEz (c:=fun w hst=>by exact hN w (st_ou hst subZ)) (k:=?_);refine cEv hOf ?_;intro _;refine cEv need_true ?_;refine cEv hBs ?_;intro _)
 have hsp:spendM (ma0 f e0 e1 e2 e3) [G]=some ((ma0 f e0 e1 e2 e3).setGas (f.gas - G)):=if_pos (by show G+0≤f.gas;omega)
 rename_i b3 b39
 refine dQBfSO ?_
 refine qP (K:=MaK b (ma0 f e0 e1 e2 e3) (spendM (ma0 f e0 e1 e2 e3) [G]) _) rfl rfl vF agZ rfl (fun fs h=>by rw [hsp] at h;cases h.1) (fun w' hst=>spend_calls w0 [] b _ [G] hgl _ _ w' hst (fun w2 h2=>row_cells (h2.own (b39,_) (jX _ (jW _))).2 rfl rfl (by simp [maxLen]))) ?_ ?_
 rotate_left
 ·exact dTBtqw
 rintro v fs' h
 rw [hsp] at h
 obtain ⟨h,rfl⟩:=h
 cases h
 refine dQBoUk ?_
 obtain ⟨gs9,hgs9⟩:∃ gs9,g1++(g2++(g3++(g4++g5)))=gs9:=⟨_,rfl⟩
 replace hfr:FrO f L gs9:=by
  exact dTBKkP
 refine dQBGDB ?_
 refine qO (K:=fun v fs'=>RowK b ((ma0 f e0 e1 e2 e3).setGas (f.gas - G)) L (swapL L.ws (op - 143)) ([(b39,.cells #[.int .u64 (G:Int)] 26 (0,0)),(b3,.cells (opc X) 86 (0,0))]++rest) (.returned v) fs') rfl rfl vF agZ (fun w' hst=>vG (row_swap w0 [] b ((ma0 f e0 e1 e2 e3).setGas (f.gas - G)) L gs9 _ op h1 h2 hok hrn hfr w' hst) fun x w'' ⟨fs',hk,hst⟩=>⟨.bool true,fs',hk.1,by { have h:=hk;rw [hk.1] at h;exact h },hst⟩) ?_
 exact dTBIsP
end
section
open CK (dataC)
def SoM (f:FrV) (L:FrL) (o:SO) (m:MaV) (gs:Fs):Prop:=∃ s k g1 g2 g3,m.fr=soF f o s k∧m.kind=o.kind∧m.op=o.op∧(g1++(g2++g3)).Perm gs∧FrP m.fr (soL L o) g1∧wM o.words m.words g2∧bM o.data m.data g3
def StepK (b:Nat) (f:FrV) (L:FrL) (o:Option SO) (rest:Fs):Out:=fun x fs'=>match o with
 |none=>x=.panicked failC∧fs'=rest
 |some o=>x=.returned (.tuple #[])∧∃ m' gs',SoM f L o m' gs'∧fs'=(b,maO m')::(gs'++rest)
theorem SoM.zero {f:FrV} {L:FrL} {o:SO} {m:MaV} {gs:Fs} {s k:Value} (hk:o.kind=0) (h1:o.op=0) (h2:o.words=[]) (h3:o.data=[]) (hf:m.fr=soF f o s k) (h:FrP m.fr (soL L o) gs):SoM f L o (m.setAsk 0 0 (.slice none 0 0) (.slice none 0 0)) gs :=
 ⟨s,k,gs,[],[],hf,hk.symm,h1.symm,by simp,h,by rw [h2];exact wM_nil,by rw [h3];exact bM_nil⟩
theorem SoM.on {f g:FrV} {L:FrL} {ws:List Nat} {ms:List UInt8} {m:MaV} {gs:Fs} {s k:Value} (hk:True=True) (hf:m.fr=soF f (soOn g ws ms) s k) (h:FrP m.fr (soL L (soOn g ws ms)) gs):SoM f L (soOn g ws ms) (m.setAsk 0 0 (.slice none 0 0) (.slice none 0 0)) gs:=SoM.zero rfl rfl rfl rfl hf h
def restV (op:Nat) (f1:FrV) (L1:FrL) (l:List Nat) (e0 e1 e2 e3:Nat):Option SO :=
 if (halvesF op).isSome then some (soOn f1 (L1.ws++[halfV op (l.getD 0 0) (l.getD 1 0)]) L1.ms)
 else if (saysF op).isSome then some (soOn f1 (L1.ws++[sayV op f1 L1 e0 e1 e2 e3]) L1.ms)
 else doV op f1 L1 l
theorem rea_rows (f:FrV) (L:FrL) (a n:Nat) (s k:Value):reaV { f with stk:=s,mem:=k } L a n=(reaV f L a n).map fun p=>({ p.1 with stk:=s,mem:=k },p.2):=by
 unfold reaV
 show (if costR L a n≤f.gas then _ else _)=_
 split<;>rfl
theorem spn_rows (f:FrV) (c:Nat) (s k:Value):spnV { f with stk:=s,mem:=k } c=(spnV f c).map fun p=>{ p with stk:=s,mem:=k }:=by
 unfold spnV
 show (if c≤f.gas then _ else _)=_
 split<;>rfl
theorem copyV_rows (f:FrV) (L:FrL) (b:List UInt8) (a t n:Nat) (s k:Value):copyV { f with stk:=s,mem:=k } L b a t n=copyV f L b a t n:=by
 unfold copyV
 rw [rea_rows]
 cases reaV f L a n with
 |none=>rfl
 |some p =>
  show (spnV { p.1 with stk:=s,mem:=k } _).bind _=(spnV p.1 _).bind _
  rw [spn_rows]
  cases spnV p.1 (timesV ((n+31) / 32) 3)<;>rfl
theorem hashV_rows (f:FrV) (L:FrL) (a n:Nat) (s k:Value):hashV { f with stk:=s,mem:=k } L a n=hashV f L a n:=by
 unfold hashV
 rw [rea_rows]
 cases reaV f L a n with
 |none=>rfl
 |some p =>
  show (spnV { p.1 with stk:=s,mem:=k } _).bind _=(spnV p.1 _).bind _
  rw [spn_rows]
  cases spnV p.1 (timesV ((n+31) / 32) 6)<;>rfl
theorem loadV_rows (f:FrV) (L:FrL) (a:Nat) (s k:Value):loadV14 { f with stk:=s,mem:=k } L a=loadV14 f L a:=by
 unfold loadV14
 rw [rea_rows]
 cases reaV f L a 32<;>rfl
theorem storeV_rows (f:FrV) (L:FrL) (a n:Nat) (l:List UInt8) (s k:Value):storeV { f with stk:=s,mem:=k } L a n l=storeV f L a n l:=by
 unfold storeV
 rw [rea_rows]
 cases reaV f L a n<;>rfl
theorem endsV_rows (op:Nat) (f:FrV) (L:FrL) (a n:Nat) (s k:Value):endsV op { f with stk:=s,mem:=k } L a n=endsV op f L a n:=by
 unfold endsV
 rw [rea_rows]
 cases reaV f L a n<;>rfl
theorem jumpV_rows (f:FrV) (L:FrL) (a:Nat) (s k:Value):jumpV { f with stk:=s,mem:=k } L a=jumpV f L a:=by
 unfold jumpV
 rfl
theorem callV_rows (op:Nat) (f:FrV) (L:FrL) (l:List Nat) (s k:Value):callV14 op { f with stk:=s,mem:=k } L l=callV14 op f L l:=by
 unfold callV14
 rfl
theorem doV_rows (op:Nat) (f:FrV) (L:FrL) (l:List Nat) (s k:Value):doV op { f with stk:=s,mem:=k } L l=doV op f L l:=by
 unfold doV
 dsimp only
 rw [copyV_rows f L L.il _ _ _ s k,copyV_rows f L L.bl _ _ _ s k,loadV_rows f L _ s k,storeV_rows f L _ 32 _ s k,storeV_rows f L _ 1 _ s k,hashV_rows f L _ _ s k,endsV_rows op f L _ _ s k,jumpV_rows f L _ s k,callV_rows op f L l s k]
 simp only [soOn,stateV]
theorem doV_none {op:Nat} (h:doesF op=none) (f:FrV) (L:FrL) (l:List Nat):doV op f L l=some (soOn f L.ws L.ms):=by
 have hx:∀ n p,doesF n=some p→op ≠ n:=fun n p h2 he=>by rw [he,h2] at h;cases h
 unfold doV
 dsimp only
 rw [if_neg (hx 21 _ doesF_21),if_neg (hx 25 _ doesF_25),if_neg (hx 52 _ doesF_52),if_neg (hx 53 _ doesF_53),if_neg (hx 55 _ doesF_55),if_neg (hx 62 _ doesF_62),if_neg (hx 81 _ doesF_81),if_neg (hx 82 _ doesF_82),if_neg (hx 83 _ doesF_83),if_neg (hx 32 _ doesF_32),if_neg (hx 86 _ doesF_86),if_neg (hx 87 _ doesF_87),
  if_neg (by have:=hx 49 _ doesF_49;have:=hx 71 _ doesF_71;have:=hx 84 _ doesF_84;have:=hx 92 _ doesF_92;omega),if_neg (by have:=hx 85 _ doesF_85;have:=hx 93 _ doesF_93;omega),if_neg (by have:=hx 241 _ doesF_241;have:=hx 244 _ doesF_244;have:=hx 250 _ doesF_250;have:=hx 245 _ doesF_245;omega),if_neg (hx 0 _ doesF_0),if_neg (by have:=hx 243 _ doesF_243;have:=hx 253 _ doesF_253;omega)]
theorem halves_tk {op:Nat} {p:Nat × FuncId} (h:halvesF op=some p):(opX op).tk=2∧(opX op).ly=1:=by
 unfold halvesF at h
 by_cases h1:op=1;· subst h1;exact ⟨by kernel_rfl,by kernel_rfl⟩
 by_cases h3:op=3;· subst h3;exact ⟨by kernel_rfl,by kernel_rfl⟩
 by_cases h2:op=2;· subst h2;exact ⟨by kernel_rfl,by kernel_rfl⟩
 by_cases h4:op=4;· subst h4;exact ⟨by kernel_rfl,by kernel_rfl⟩
 by_cases h6:op=6;· subst h6;exact ⟨by kernel_rfl,by kernel_rfl⟩
 by_cases h22:op=22;· subst h22;exact ⟨by kernel_rfl,by kernel_rfl⟩
 by_cases h23:op=23;· subst h23;exact ⟨by kernel_rfl,by kernel_rfl⟩
 by_cases h24:op=24;· subst h24;exact ⟨by kernel_rfl,by kernel_rfl⟩
 by_cases h27:op=27;· subst h27;exact ⟨by kernel_rfl,by kernel_rfl⟩
 by_cases h28:op=28;· subst h28;exact ⟨by kernel_rfl,by kernel_rfl⟩
 by_cases h16:op=16;· subst h16;exact ⟨by kernel_rfl,by kernel_rfl⟩
 by_cases h17:op=17;· subst h17;exact ⟨by kernel_rfl,by kernel_rfl⟩
 by_cases h20:op=20;· subst h20;exact ⟨by kernel_rfl,by kernel_rfl⟩
 simp only [h1,h2,h3,h4,h6,h22,h23,h24,h27,h28,h16,h17,h20,if_false] at h
 cases h
theorem says_ly {op:Nat} {p:Nat × FuncId} (h:saysF op=some p):(opX op).ly=1:=by
 unfold saysF at h
 by_cases h1:op=48;· subst h1;kernel_rfl
 by_cases h2:op=51;· subst h2;kernel_rfl
 by_cases h3:op=50;· subst h3;kernel_rfl
 by_cases h4:op=66;· subst h4;kernel_rfl
 by_cases h5:op=67;· subst h5;kernel_rfl
 by_cases h6:op=72;· subst h6;kernel_rfl
 by_cases h7:op=54;· subst h7;kernel_rfl
 by_cases h8:op=61;· subst h8;kernel_rfl
 by_cases h9:op=90;· subst h9;kernel_rfl
 simp only [h1,h2,h3,h4,h5,h6,h7,h8,h9,if_false] at h
 cases h
attribute [local irreducible] SL.inP opOf opX gasB
theorem step_rest (w0:World) (b:Nat) (f:FrV) (L:FrL) (e0 e1 e2 e3:Nat) (gs rest:Fs) (op:Nat) (hF:okF f L) (hn:FrNum f L) (hop:opF f L=op) (hT:SK.TurnAt w0) (hNum:SK.NumAt w0) (he0:e0 < 18446744073709551616) (he1:e1 < 18446744073709551616) (he2:e2 < 18446744073709551616) (he3:e3 < 18446744073709551616) (ho:(opOf op).isSome=true) (hi:op ≠ 254) (hr1:op < 96∨159 < op) (hg:gasB op≤f.gas) (hX5:(opX op).tk < 1000∧(opX op).ly < 1000) (ht:(opX op).tk≤L.ws.length) (hf:L.ws.length - (opX op).tk+(opX op).ly≤64) (hfr:FrO f L gs) (w:World) (hs:St w0 [] ((b,maO (ma0 f e0 e1 e2 e3))::(gs++rest)) w) :
  Calls prog 42 #[.pointer (some ⟨b,0,none⟩)] w (fun x w'=>∃ fs',(StepK b f L (restV op { f with gas:=f.gas - gasB op,pc:=((min (f.pc.toNat+1+(opX op).dt) L.cl.length:Nat):Int) } (L.setW (L.ws.take (L.ws.length - (opX op).tk))) ((L.ws.drop (L.ws.length - (opX op).tk)).reverse) e0 e1 e2 e3) rest) x fs'∧St w0 [] fs' w'):=by
 refine preY ?_
 intro g1 g2 g3 g4 g5 hp r4 r5 q1 k1 r1 hst1 q2 k2 r2 hst2 q3 k3 r3 hst3 us2 hbl2 hin2 hrows2 us3 hbl3 hin3 hrows3 hs hgb5 hrdS hrdC pn hpn hpl hcl2 hrdP hpt hgl hok hok1 hN hsl hop2 o5
 obtain ⟨e,hOf,he⟩:=OfX_calls op (by omega) w
 rw [if_pos ho] at he
 subst he
 obtain ⟨G,hG⟩:∃ G,gasB op=G:=⟨_,rfl⟩
 have hBs:∀ w',Calls prog 93 #[.int .u8 (op:Int)] w' (Ret w' (.tuple #[.int .u64 (G:Int),.int .i64 0])):=fun w'=>by
  exact dTBJKw
 rw [hG] at hg
 obtain ⟨X,hX⟩:∃ X,opX op=X:=⟨_,rfl⟩
 rw [hX] at hX5 ht hf o5 hOf
 rw [hG,hX,hpt]
 obtain ⟨F1,hF1e⟩:∃ F1:FrV,{ f with gas:=f.gas - G,pc:=((min (pn+1+X.dt) L.cl.length:Nat):Int) }=F1:=⟨_,rfl⟩
 rw [hF1e]
 refine calls_anyO (qX (K:=anyO _) (args:=[_]) func42 rfl ntmps42 rfl ?_ hs)
 (refine goZ ?_;refine ldy (c:=by exact ma_rdF) (k:=?_);refine cEz (c:=fun w hst=>by exact hN w (st_ou hst subZ)) (k:=?_);refine cEv hOf ?_;intro _;refine cEv need_true ?_;refine cEv hBs ?_;intro _)
 have hsp:spendM (ma0 f e0 e1 e2 e3) [G]=some ((ma0 f e0 e1 e2 e3).setGas (f.gas - G)):=if_pos (by show G+0≤f.gas;omega)
 rename_i b3 b39
 refine dQBfSO ?_
 refine qP (K:=MaK b (ma0 f e0 e1 e2 e3) (spendM (ma0 f e0 e1 e2 e3) [G]) _) rfl rfl vF agZ rfl (fun fs h=>by rw [hsp] at h;cases h.1) (fun w' hst=>spend_calls w0 [] b _ [G] hgl _ _ w' hst (fun w2 h2=>row_cells (h2.own (b39,_) (jX _ (jW _))).2 rfl rfl (by simp [maxLen]))) ?_ ?_
 rotate_left
 ·exact dTBtqw
 rintro v fs' h
 rw [hsp] at h
 obtain ⟨h,rfl⟩:=h
 cases h
 refine dQBoUk ?_
 refine qO (K:=fun v fs'=>v=.bool false∧fs'=(b,maO ((ma0 f e0 e1 e2 e3).setGas (f.gas - G)))::(b39,.cells #[.int .u64 (G:Int)] 26 (0,0))::(b3,.cells (opc X) 86 (0,0))::(g1++(g2++(g3++(g4++g5)))++rest)) rfl rfl vF agZ (fun w' hst=>vG (row_none w0 [] b ((ma0 f e0 e1 e2 e3).setGas (f.gas - G)) _ op (by omega) (by omega) (by omega) ⟨_,_,_,hst2⟩ ⟨_,_,_,hst3⟩ w' hst) fun x w'' ⟨fs',hk,hst⟩=>⟨_,fs',hk.1,⟨rfl,hk.2⟩,hst⟩) ?_
 rintro _ _ ⟨rfl,rfl⟩
 (refine goZ ?_;apply zR;rfl;rfl;apply qA;apply ma_wr1 (z:=.int .i64 0);refine goZ ?_)
 obtain ⟨m1,hm1⟩:∃ m1,(((ma0 f e0 e1 e2 e3).setGas (f.gas - G)).setF (((ma0 f e0 e1 e2 e3).setGas (f.gas - G)).fr.setPc ((min (pn+1+X.dt) L.cl.length:Nat):Int)))=m1:=⟨_,rfl⟩
 rw [hm1]
 have hs1:m1.fr.stk=.slice q2 L.ws.length k2:=by rw [← hm1];exact hst2
 have hs2:m1.fr.mem=.slice q3 L.ms.length k3:=by rw [← hm1];exact hst3
 have hrd2:∀ {E fr},Rd prog 25 (.cells (mca m1) E fr) 2 (.agg #[.slice q2 L.ws.length k2,.slice q3 L.ms.length k3]):=fun {E fr}=>by rw [← hs1,← hs2];exact ma_rd2 (z:=.agg #[.slice none 0 0,.slice none 0 0])
 apply CW.pre
 (refine qY [(9,PopR L.ws L.ms X.tk)] 21 mixed (by decide +kernel) ?_)
 (refine tsZ ?_)
 refine DW.manyA (us2++us3) rfl rfl rfl (by (exact zC)) rfl vF agZ ?_ (fun p hp=>AncT.lie (by (refine AncT.cons ?_ ?_;exact zN;refine AncT.cons ?_ ?_;exact zN;refine AncT.cons ?_ ?_;exact zN;refine AncT.app ?_ ?_;refine AncT.app ?_ ?_;exact AncT.tsOf;refine AncT.app ?_ ?_;exact AncT.tsOf;refine AncT.app ?_ ?_;exact AncT.tsOf;refine AncT.app ?_ ?_;exact AncT.tsOf;exact AncT.tsOf;exact AncT.tsOf)) ?_) (fun w _ hu=>?_) ?_
 ·exact dTBuOw
 ·exact dTBKmK
 ·exact dTBMTc
 rintro vP gP ⟨s1,c1,t1,h1,h2,h3,rfl,rfl,hw1,hb1,ht1⟩
 have hb1':=hb1
 have ht1':=ht1
 unfold wM at ht1'
 unfold bM at hb1'
 obtain ⟨q5,k5,rfl⟩:=hw1.form
 obtain ⟨q6,k6,rfl⟩:=hb1'.form
 obtain ⟨q7,k7,rfl⟩:=ht1'.form
 refine dQBlXK ?_
 obtain ⟨m2,hm2⟩:∃ m2,(((m1.setSc (.slice q5 (List.take (L.ws.length - X.tk) L.ws).length k5) (.slice q6 L.ms.length k6)).setTook (.slice q7 (List.drop (L.ws.length - X.tk) L.ws).reverse.length k7)).setOp op)=m2:=⟨_,rfl⟩
 rw [hm2]
 obtain ⟨l,hl⟩:∃ l,(List.drop (L.ws.length - X.tk) L.ws).reverse=l:=⟨_,rfl⟩
 obtain ⟨L1,hL1⟩:∃ L1,L.setW (L.ws.take (L.ws.length - X.tk))=L1:=⟨_,rfl⟩
 have hll:l.length=X.tk:=by rw [← hl,List.length_reverse,yL];omega
 have hlm:∀ x∈l,x < M256:=fun x hx=>hn.ws x (List.mem_of_mem_drop (List.mem_reverse.1 (hl ▸ hx)))
 have hwl:L1.ws.length=L.ws.length - X.tk:=by rw [← hL1];show (List.take _ _).length=_;rw [yH];omega
 have hm2f:m2.fr=(f.setR (f.gas - G) (.slice q5 (List.take (L.ws.length - X.tk) L.ws).length k5) (.slice q6 L.ms.length k6)).setPc ((min (pn+1+X.dt) L.cl.length:Nat):Int):=by rw [← hm2,← hm1];rfl
 have hm2t:m2.took=.slice q7 l.length k7:=by rw [← hm2,hl];rfl
 have hm2o:m2.op=op:=by rw [← hm2];rfl
 have hm2k:m2.kind=0:=by rw [← hm2,← hm1];rfl
 have hm2e:m2.e0=e0∧m2.e1=e1∧m2.e2=e2∧m2.e3=e3:=by rw [← hm2,← hm1];exact ⟨rfl,rfl,rfl,rfl⟩
 rw [hl] at ht1
 obtain ⟨gsm,hgsm⟩:∃ gsm,g1++(h1++(h2++(g4++g5)))=gsm:=⟨_,rfl⟩
 have hF2:FrP m2.fr L1 gsm:=by
  have e1:m2.fr.code=f.code:=by rw [hm2f];rfl
  have e4:m2.fr.inp=f.inp:=by rw [hm2f];rfl
  have e5:m2.fr.back=f.back:=by rw [hm2f];rfl
  refine ⟨g1,h1,h2,g4,g5,by rw [hgsm],?_,?_,?_,?_,?_⟩
  ·rw [e1,hst1,← hL1];exact r1
  ·rw [hm2f,← hL1];exact hw1
  ·rw [hm2f,← hL1];exact hb1
  ·rw [e4,hgb5.1,← hL1];exact r4
  ·rw [e5,hgb5.2,← hL1];exact r5
 refine LW.subP (fs':=(b,maO m2)::(gsm++(h3++rest))) ?_ ?_
 ·rw [← hgsm]
  simp only [jR,yA,jQ]
  exact subp_ix [h3,h2,h1,[_],[_],[_],g1,g2,g3,g4,g5] (xs:=[3,6,2,1,9,10,0]) (ys:=[0,1,2,3,4,5,6,7,8,9,10]) rest rfl
 replace ht1:wM l m2.took h3:=by rw [hm2t];exact ht1
 clear ht1'
 have hok3:okSc L1.ws.length L1.ms.length:=by
  have e:L1.ms=L.ms:=by rw [← hL1];rfl
  rw [hwl,e]
  exact ⟨by omega,hok.2.1,hok.2.2⟩
 have hgas2:m2.fr.gas=f.gas - G:=by rw [hm2f];rfl
 have hF1:=hF.1
 rw [hl,hL1]
 have hF1s:F1.gas=f.gas - G∧F1.pc=((min (pn+1+X.dt) L.cl.length:Nat):Int):=by rw [← hF1e];exact ⟨rfl,rfl⟩
 cases hd1:halvesF op with
 |some p =>
  obtain ⟨i,fid⟩:=p
  obtain ⟨htk2,hly2⟩:=halves_tk hd1
  rw [hX] at htk2 hly2
  obtain ⟨hFn,hcall⟩:=halfs_calls (l.getD 0 0) (l.getD 1 0) (getD_wlt hlm (by omega)) (getD_wlt hlm (by omega)) hd1
  have hL1':Instr.findNow (.int .u8) (.int .u8 (op:Int)) halvesE.toList 0=some (some (i,.func (.func fid) #[] #[])):=by rw [halves_find,hd1];rfl
  refine dQBeDB ?_
  rintro _ _ ⟨bh,rfl,rfl⟩
  refine laZ ?_
  (refine goZ ?_)
  obtain ⟨gt,cur,ct,htk9,rfl,hcur⟩:=took_at ht1 (by omega)
  have hrdT:∀ {E fr},Rd prog 23 (.cells (mca m2) E fr) 18 (.slice (some ⟨gt,0,none⟩) l.length ct):=fun {E fr}=>by rw [show Value.slice (some ⟨gt,0,none⟩) l.length ct=m2.took from htk9.symm];exact ma_rd18
  have hrdX:Rd prog 29 (.cells cur 29 (0,0)) (0+0 * 4) (wv (l.getD 0 0)):=word_rd hcur 0 (by omega)
  have hrdY:Rd prog 29 (.cells cur 29 (0,0)) (0+1 * 4) (wv (l.getD 1 0)):=word_rd hcur 1 (by omega)
  obtain ⟨Z,hZ⟩:∃ Z,halfV op (l.getD 0 0) (l.getD 1 0)=Z:=⟨_,rfl⟩
  obtain ⟨x,hx⟩:∃ x,l.getD 0 0=x:=⟨_,rfl⟩
  obtain ⟨y,hy⟩:∃ y,l.getD 1 0=y:=⟨_,rfl⟩
  rw [hx] at hrdX
  rw [hy] at hrdY
  rw [hZ,hx,hy] at hcall
  rw [show restV op F1 L1 l e0 e1 e2 e3=some (soOn F1 (L1.ws++[Z]) L1.ms) by unfold restV;rw [hd1,← hZ];rfl]
  refine laZ ?_
  apply CW.pre
  (refine qY [] 16 mixed (by decide +kernel) ?_)
  (refine tsZ ?_)
  refine DW.callA [] (v:=wv Z) rfl rfl rfl (by (exact zC)) rfl hFn (by (exact .cons rfl (.cons rfl .nil))) rfl (fun p hp=>absurd hp List.not_mem_nil) (fun w _ hu=>hcall w) ?_
  refine dQBVgc ?_
  (refine tsZ ?_;apply DW.layA;rfl;rfl;rfl;exact zC;exact vF;exact vF;rfl;rfl;rfl;rfl;rfl;intro _;refine goZ ?_)
  refine fsZ ?_
  skip
  rename_i bz
  refine qV (fs':=(b,maO m2)::(gsm++((bz,.cells (wc Z) 29 (0,0))::(bh,.map halvesE 13)::(gt,.cells cur 29 (0,0))::rest))) (perm_ix [[_],gsm,[_],[_],[_]] (xs:=[0,1,2,3,4]) (ys:=[2,3,0,1,4]) rest rfl) ?_
  refine qO (K:=fun v fs'=>LayP b m2 L1 [Z] ((bz,.cells (wc Z) 29 (0,0))::(bh,.map halvesE 13)::(gt,.cells cur 29 (0,0))::rest) (.returned v) fs') rfl rfl vF agZ (fun w' hst=>vG (layP_calls w0 [] b m2 L1 gsm [Z] _ hok3 (by show 1≤100000;omega) (by show _+1≤64;omega) hF2 _ w' (fun w2 h2=>row_cells (h2.own (bz,_) (jI _ (jT _ jV))).2 rfl rfl (by show 1≤maxLen;decide)) hst) fun x w'' ⟨fs',hk,hst⟩=>⟨_,fs',hk.1,by { have h:=hk;rw [hk.1] at h;exact h },hst⟩) ?_
  rintro v fs' ⟨hv,s9,k9,gs9,hfr9,rfl⟩
  cases hv
  obtain ⟨m3,hm3⟩:∃ m3,m2.setF (m2.fr.setR m2.fr.gas s9 k9)=m3:=⟨_,rfl⟩
  rw [hm3]
  have hk3:m3.kind=0:=by rw [← hm3];exact hm2k
  have hf3:m3.fr=m2.fr.setR m2.fr.gas s9 k9:=by rw [← hm3];rfl
  have hrdK3:∀ {E fr},Rd prog 3 (.cells (mca m3) E fr) 19 (.int .i64 0):=fun {E fr}=>by rw [← hk3];exact ma_rd19
  (refine goZ ?_;refine bTz ?_;refine zR rfl rfl .head ma_wr19 ?_;refine goZ ?_)
  refine inPI (.inr rfl) .nil rfl .nil rfl ⟨_,⟨rfl,m3.setAsk 0 0 (.slice none 0 0) (.slice none 0 0),gs9,SoM.on (s:=s9) (k:=k9) rfl (by show m3.fr=_;rw [hf3,hm2f,← hF1e];rfl) (by show FrP m3.fr _ gs9;rw [hf3];have h:=hfr9.toP;rw [← hL1] at h ⊢;exact h),rfl⟩,_,jP _ (jL (.cons _ (.cons _ (.cons _ (.refl _)))) gs9),.refl _⟩
 |none =>
  have hL1':Instr.findNow (.int .u8) (.int .u8 (op:Int)) halvesE.toList 0=some none:=by rw [halves_find,hd1];rfl
  refine dQBeDB ?_
  rintro _ _ ⟨bh,rfl,rfl⟩
  refine laZ ?_
  (refine goZ ?_)
  cases hd2:saysF op with
  |some p =>
   obtain ⟨i,fid⟩:=p
   obtain ⟨hFn,hcall⟩:=says_all hd2
   have hly1:=says_ly hd2
   rw [hX] at hly1
   have hL2':Instr.findNow (.int .u8) (.int .u8 (op:Int)) saysE.toList 0=some (some (i,.func (.func fid) #[] #[])):=by rw [says_find,hd2];rfl
   (refine crz (c:=fun w hs=>by exact says_calls w) (k:=?_))
   rintro _ _ ⟨by1,rfl,rfl⟩
   refine laZ ?_
   (refine goZ ?_)
   have hi4:∃ q c,m2.fr.inp=.slice q L1.il.length c∧L1.il.length≤1024:=by
    have r4':=r4
    unfold bM at r4'
    obtain ⟨q,c,h⟩:=r4'.form
    exact ⟨q,c,by rw [hm2f,← hL1];show f.inp=_;rw [hgb5.1];exact h,by rw [← hL1];exact hF1.1⟩
   have hi5:∃ q c,m2.fr.back=.slice q L1.bl.length c∧L1.bl.length≤1024:=by
    have r5':=r5
    unfold bM at r5'
    obtain ⟨q,c,h⟩:=r5'.form
    exact ⟨q,c,by rw [hm2f,← hL1];show f.back=_;rw [hgb5.2];exact h,by rw [← hL1];exact hF1.2.1⟩
   obtain ⟨Z,hZ⟩:∃ Z,sayV op m2.fr L1 m2.e0 m2.e1 m2.e2 m2.e3=Z:=⟨_,rfl⟩
   have hZlt:Z < 18446744073709551616:=by
    rw [← hZ,hm2e.1,hm2e.2.1,hm2e.2.2.1,hm2e.2.2.2]
    have a1:m2.fr.self=f.self:=by rw [hm2f];rfl
    have a2:m2.fr.frm=f.frm:=by rw [hm2f];rfl
    have a3:=hn.self
    have a4:=hn.frm
    obtain ⟨_,_,_,b1⟩:=hi4
    obtain ⟨_,_,_,b2⟩:=hi5
    unfold sayV
    repeat' split
    all_goals omega
   rw [show restV op F1 L1 l e0 e1 e2 e3=some (soOn F1 (L1.ws++[Z]) L1.ms) by unfold restV;rw [hd1,hd2,← hZ,hm2e.1,hm2e.2.1,hm2e.2.2.1,hm2e.2.2.2,hm2f,← hF1e];rfl]
   refine zS (v:=.int .u64 (Z:Int)) rfl rfl hFn (by (exact .cons rfl .nil)) (fun w' hst=>by rw [← hZ];exact hcall b m2 L1 w' (hst.own (b,_) (by simp)).2 hi4 hi5) ?_
   skip
   refine zS (v:=wv Z) rfl rfl vF agZ (fun w' hst=>Of_calls Z hZlt w') ?_
   (refine goZ ?_;intro _)
   rename_i bz
   refine qV (fs':=(b,maO m2)::(gsm++((bz,.cells (wc Z) 29 (0,0))::(by1,.map saysE 9)::(bh,.map halvesE 13)::(h3++rest)))) (perm_ix [[_],gsm,[_],[_],[_],h3] (xs:=[0,1,2,3,4,5]) (ys:=[2,3,4,0,1,5]) rest rfl) ?_
   refine qO (K:=fun v fs'=>LayP b m2 L1 [Z] ((bz,.cells (wc Z) 29 (0,0))::(by1,.map saysE 9)::(bh,.map halvesE 13)::(h3++rest)) (.returned v) fs') rfl rfl vF agZ (fun w' hst=>vG (layP_calls w0 [] b m2 L1 gsm [Z] _ hok3 (by show 1≤100000;omega) (by show _+1≤64;omega) hF2 _ w' (fun w2 h2=>row_cells (h2.own (bz,_) (jI _ (jT _ jV))).2 rfl rfl (by show 1≤maxLen;decide)) hst) fun x w'' ⟨fs',hk,hst⟩=>⟨_,fs',hk.1,by { have h:=hk;rw [hk.1] at h;exact h },hst⟩) ?_
   rintro v fs' ⟨hv,s9,k9,gs9,hfr9,rfl⟩
   cases hv
   obtain ⟨m3,hm3⟩:∃ m3,m2.setF (m2.fr.setR m2.fr.gas s9 k9)=m3:=⟨_,rfl⟩
   rw [hm3]
   have hk3:m3.kind=0:=by rw [← hm3];exact hm2k
   have hf3:m3.fr=m2.fr.setR m2.fr.gas s9 k9:=by rw [← hm3];rfl
   have hrdK3:∀ {E fr},Rd prog 3 (.cells (mca m3) E fr) 19 (.int .i64 0):=fun {E fr}=>by rw [← hk3];exact ma_rd19
   (refine goZ ?_;refine bTz ?_;refine zR rfl rfl .head ma_wr19 ?_;refine goZ ?_)
   refine inPI (.inr rfl) .nil rfl .nil rfl ⟨_,⟨rfl,m3.setAsk 0 0 (.slice none 0 0) (.slice none 0 0),gs9,SoM.on (s:=s9) (k:=k9) rfl (by show m3.fr=_;rw [hf3,hm2f,← hF1e];rfl) (by show FrP m3.fr _ gs9;rw [hf3];have h:=hfr9.toP;rw [← hL1] at h ⊢;exact h),rfl⟩,_,jP _ (jL (.cons _ (.cons _ (.cons _ (jN _ _)))) gs9),.refl _⟩
  |none =>
   have hL2':Instr.findNow (.int .u8) (.int .u8 (op:Int)) saysE.toList 0=some none:=by rw [says_find,hd2];rfl
   (refine crz (c:=fun w hs=>by exact says_calls w) (k:=?_))
   rintro _ _ ⟨by1,rfl,rfl⟩
   refine laZ ?_
   (refine goZ ?_)
   rw [show restV op F1 L1 l e0 e1 e2 e3=doV op F1 L1 l by unfold restV;rw [hd1,hd2];rfl]
   cases hd3:doesF op with
   |some p =>
    obtain ⟨i,fid⟩:=p
    obtain ⟨hFn,hcall⟩:=does_all hd3
    rw [hX] at hcall
    have hL3':Instr.findNow (.int .u8) (.int .u8 (op:Int)) doesE.toList 0=some (some (i,.func (.func fid) #[] #[])):=by rw [does_find,hd3];rfl
    (refine crz (c:=fun w hs=>by exact does_calls w) (k:=?_))
    rintro _ _ ⟨bd,rfl,rfl⟩
    refine laZ ?_
    (refine goZ ?_)
    have hpre:DoPre m2 L1 l:=⟨hok3,by rw [hgas2];omega,by rw [← hL1];exact hF1.1,by rw [← hL1];exact hF1.2.1,by rw [← hL1];exact hF.2.2.1,by rw [hm2f];exact hn.val,hlm,hm2k⟩
    have hdoV:doV op m2.fr L1 l=doV op F1 L1 l:=by rw [hm2f,← hF1e];exact doV_rows op { f with gas:=f.gas - G,pc:=((min (pn+1+X.dt) L.cl.length:Nat):Int) } L1 l (.slice q5 (List.take (L.ws.length - X.tk) L.ws).length k5) (.slice q6 L.ms.length k6)
    obtain ⟨o,ho9⟩:∃ o,doV op F1 L1 l=o:=⟨_,rfl⟩
    rw [ho9] at hdoV ⊢
    refine qV (fs':=(b,maO m2)::(gsm++(h3++((bd,.map doesE 25)::(by1,.map saysE 9)::(bh,.map halvesE 13)::rest)))) (perm_ix [[_],gsm,h3,[_],[_],[_]] (xs:=[0,1,2,3,4,5]) (ys:=[3,4,5,0,1,2]) rest rfl) ?_
    refine qP (K:=DoK14 b m2.fr L1 o ((bd,.map doesE 25)::(by1,.map saysE 9)::(bh,.map halvesE 13)::rest)) rfl rfl hFn (by (exact .cons rfl .nil)) rfl DoK14.plain (fun w' hst=>by rw [← hdoV];exact hcall w0 b m2 L1 l gsm h3 _ w' hT hNum hpre hm2o (by omega) (by omega) hF2 ht1 hst) ?_ ?_
    ·rintro v fs' hk
     cases o with
     |none=>cases hk.1
     |some o =>
      obtain ⟨hv,m3,gs9,⟨s9,k9,u1,u2,u3,hf3,hk3,hpm3,hP3,hor⟩,rfl⟩:=hk
      cases hv
      have hf3':m3.fr=soF f o s9 k9:=by rw [hf3,hm2f];rfl
      have hP3':FrP m3.fr (soL L o) u1:=by have h:=hP3;rw [← hL1] at h;exact h
      by_cases hk0:o.kind=0
      ·have hrdK3:∀ {E fr},Rd prog 3 (.cells (mca m3) E fr) 19 (.int .i64 0):=fun {E fr}=>by rw [← hk0,← hk3];exact ma_rd19
       refine dQBCPV ?_
       rcases hor with ⟨_,o1,o2,o3⟩|⟨h,_⟩
       ·refine inPI (.inr rfl) .nil rfl .nil rfl ⟨_,⟨rfl,m3.setAsk 0 0 (.slice none 0 0) (.slice none 0 0),u1,SoM.zero hk0 o1 o2 o3 hf3' hP3',rfl⟩,_,?_,List.Perm.cons _ (hpm3.append_right _)⟩
        rw [jR]
        exact jP _ (jL ((jK _ (jK _ (jK _ (.refl _)))).trans (jN _ _)) u1)
       ·exact absurd hk0 h
      ·rcases hor with ⟨h,_⟩|⟨_,o1,o2,o3⟩
       ·exact absurd h hk0
       ·have hrdK3:∀ {E fr},Rd prog 3 (.cells (mca m3) E fr) 19 (.int .i64 o.kind):=fun {E fr}=>by rw [← hk3];exact ma_rd19
        (refine goZ ?_)
        refine inPI (.inr rfl) .nil rfl .nil rfl ⟨_,⟨rfl,m3,gs9,⟨s9,k9,u1,u2,u3,hf3',hk3,o1,hpm3,hP3',o2,o3⟩,rfl⟩,_,?_,.refl _⟩
        exact jP _ (jL (.cons _ (.cons _ (.cons _ (.refl _)))) gs9)
    ·rintro ch fs' hk
     cases o with
     |none =>
      obtain ⟨hv,rfl⟩:=hk
      cases hv
      refine thenP ?_
      exact inPP .nil ⟨rest,⟨rfl,rfl⟩,_,.cons _ (.cons _ (.cons _ (.refl _))),.refl _⟩
     |some o=>cases hk.1
   |none =>
    have hL3':Instr.findNow (.int .u8) (.int .u8 (op:Int)) doesE.toList 0=some none:=by rw [does_find,hd3];rfl
    (refine crz (c:=fun w hs=>by exact does_calls w) (k:=?_))
    rintro _ _ ⟨bd,rfl,rfl⟩
    refine laZ ?_
    have hrdK3:∀ {E fr},Rd prog 3 (.cells (mca m2) E fr) 19 (.int .i64 0):=fun {E fr}=>by rw [← hm2k];exact ma_rd19
    rw [show doV op F1 L1 l=some (soOn F1 L1.ws L1.ms) from doV_none hd3 F1 L1 l]
    (refine goZ ?_;refine bTz ?_;refine zR rfl rfl (.tail (.tail (.tail .head))) ma_wr19 ?_;refine goZ ?_)
    refine inPI (.inr rfl) .nil rfl .nil rfl ⟨_,⟨rfl,m2.setAsk 0 0 (.slice none 0 0) (.slice none 0 0),gsm,SoM.on (s:=m2.fr.stk) (k:=m2.fr.mem) rfl (by show m2.fr=_;rw [hm2f,← hF1e];rfl) (by show FrP m2.fr _ gsm;have h:=hF2;rw [← hL1] at h ⊢;exact h),rfl⟩,?_⟩
    exact subp_ix [[_],[_],[_],[_],gsm,h3] (xs:=[3,4]) (ys:=[0,1,2,3,4,5]) rest rfl
end
section
open CK (dataC)
theorem rea_like (f:FrV) (L:FrL) (a n:Nat) (zc zs zm zi zb:Value):reaV (f.rows zc zs zm zi zb) L a n=(reaV f L a n).map fun p=>((p.1.rows zc zs zm zi zb),p.2):=by
 unfold reaV
 show (if costR L a n≤f.gas then _ else _)=_
 split<;>rfl
theorem spn_like (f:FrV) (c:Nat) (zc zs zm zi zb:Value):spnV (f.rows zc zs zm zi zb) c=(spnV f c).map fun p=>p.rows zc zs zm zi zb:=by
 unfold spnV
 show (if c≤f.gas then _ else _)=_
 split<;>rfl
theorem copyV_like (f:FrV) (L:FrL) (b:List UInt8) (a t n:Nat) (zc zs zm zi zb:Value):copyV (f.rows zc zs zm zi zb) L b a t n=copyV f L b a t n:=by
 unfold copyV
 rw [rea_like]
 cases reaV f L a n with
 |none=>rfl
 |some p =>
  show (spnV (p.1.rows zc zs zm zi zb) _).bind _=(spnV p.1 _).bind _
  rw [spn_like]
  cases spnV p.1 (timesV ((n+31) / 32) 3)<;>rfl
theorem hashV_like (f:FrV) (L:FrL) (a n:Nat) (zc zs zm zi zb:Value):hashV (f.rows zc zs zm zi zb) L a n=hashV f L a n:=by
 unfold hashV
 rw [rea_like]
 cases reaV f L a n with
 |none=>rfl
 |some p =>
  show (spnV (p.1.rows zc zs zm zi zb) _).bind _=(spnV p.1 _).bind _
  rw [spn_like]
  cases spnV p.1 (timesV ((n+31) / 32) 6)<;>rfl
theorem loadV_like (f:FrV) (L:FrL) (a:Nat) (zc zs zm zi zb:Value):loadV14 (f.rows zc zs zm zi zb) L a=loadV14 f L a:=by
 unfold loadV14
 rw [rea_like]
 cases reaV f L a 32<;>rfl
theorem storeV_like (f:FrV) (L:FrL) (a n:Nat) (l:List UInt8) (zc zs zm zi zb:Value):storeV (f.rows zc zs zm zi zb) L a n l=storeV f L a n l:=by
 unfold storeV
 rw [rea_like]
 cases reaV f L a n<;>rfl
theorem endsV_like (op:Nat) (f:FrV) (L:FrL) (a n:Nat) (zc zs zm zi zb:Value):endsV op (f.rows zc zs zm zi zb) L a n=endsV op f L a n:=by
 unfold endsV
 rw [rea_like]
 cases reaV f L a n<;>rfl
theorem jumpV_like (f:FrV) (L:FrL) (a:Nat) (zc zs zm zi zb:Value):jumpV (f.rows zc zs zm zi zb) L a=jumpV f L a:=by
 unfold jumpV
 rfl
theorem callV_like (op:Nat) (f:FrV) (L:FrL) (l:List Nat) (zc zs zm zi zb:Value):callV14 op (f.rows zc zs zm zi zb) L l=callV14 op f L l:=by
 unfold callV14
 rfl
theorem doV_like (op:Nat) (f:FrV) (L:FrL) (l:List Nat) (zc zs zm zi zb:Value):doV op (f.rows zc zs zm zi zb) L l=doV op f L l:=by
 unfold doV
 dsimp only
 rw [copyV_like f L L.il _ _ _ zc zs zm zi zb,copyV_like f L L.bl _ _ _ zc zs zm zi zb,loadV_like f L _ zc zs zm zi zb,storeV_like f L _ 32 _ zc zs zm zi zb,storeV_like f L _ 1 _ zc zs zm zi zb,hashV_like f L _ _ zc zs zm zi zb,endsV_like op f L _ _ zc zs zm zi zb,jumpV_like f L _ zc zs zm zi zb,callV_like op f L l zc zs zm zi zb]
 rfl
theorem stepV_like (f:FrV) (L:FrL) (e0 e1 e2 e3:Nat) (zc zs zm zi zb:Value):stepV (f.rows zc zs zm zi zb) L e0 e1 e2 e3=stepV f L e0 e1 e2 e3:=by
 unfold stepV
 dsimp only
 have h1:opF (f.rows zc zs zm zi zb) L=opF f L:=rfl
 have h2:∀ g p l L1,doV (opF f L) { f.rows zc zs zm zi zb with gas:=g,pc:=p } L1 l=doV (opF f L) { f with gas:=g,pc:=p } L1 l:=fun g p l L1=>doV_like (opF f L) { f with gas:=g,pc:=p } L1 l zc zs zm zi zb
 rw [h1]
 rw [show (f.rows zc zs zm zi zb).gas=f.gas from rfl,show (f.rows zc zs zm zi zb).pc=f.pc from rfl,h2]
 simp only [soOn,sayV,FrV.rows]
theorem opX_small (op:Nat) (h:op < 256):(opX op).tk < 1000∧(opX op).ly < 1000:=by
 have h1:((List.range 256).all fun op=>Nat.blt (opX op).tk 1000 && Nat.blt (opX op).ly 1000)=true:=by kernel_rfl
 have h2:=List.all_eq_true.1 h1 op (List.mem_range.2 h)
 simp only [yQ,Nat.blt_eq] at h2
 exact h2
theorem opX_rows (op:Nat) (h:op < 256):((96≤op∧op≤127→(opX op).tk=0∧(opX op).ly=1)∧(128≤op∧op≤143→(opX op).tk=op - 127∧(opX op).ly=op - 126))∧(144≤op∧op≤159→(opX op).tk=op - 142∧(opX op).ly=op - 142):=by
 have h1:((List.range 256).all fun op=>(!(Nat.ble 96 op && Nat.ble op 127) ||(Nat.beq (opX op).tk 0 && Nat.beq (opX op).ly 1)) && (!(Nat.ble 128 op && Nat.ble op 143) ||(Nat.beq (opX op).tk (op - 127) && Nat.beq (opX op).ly (op - 126))) && (!(Nat.ble 144 op && Nat.ble op 159) ||(Nat.beq (opX op).tk (op - 142) && Nat.beq (opX op).ly (op - 142))))=true:=by kernel_rfl
 have h2:=List.all_eq_true.1 h1 op (List.mem_range.2 h)
 simp only [yQ,Bool.or_eq_true,Bool.not_eq_true',Bool.and_eq_false_iff,Nat.ble_eq,Nat.beq_eq] at h2
 obtain ⟨⟨h3,h4⟩,h5⟩:=h2
 refine ⟨⟨fun ⟨a,b⟩=>?_,fun ⟨a,b⟩=>?_⟩,fun ⟨a,b⟩=>?_⟩
 ·rcases h3 with (h|h)|h
  ·rw [Nat.ble_eq_true_of_le a] at h;cases h
  ·rw [Nat.ble_eq_true_of_le b] at h;cases h
  ·exact h
 ·rcases h4 with (h|h)|h
  ·rw [Nat.ble_eq_true_of_le a] at h;cases h
  ·rw [Nat.ble_eq_true_of_le b] at h;cases h
  ·exact h
 ·rcases h5 with (h|h)|h
  ·rw [Nat.ble_eq_true_of_le a] at h;cases h
  ·rw [Nat.ble_eq_true_of_le b] at h;cases h
  ·exact h
attribute [local irreducible] opOf opX gasB halvesF saysF doesF
theorem SoM.row {f:FrV} {L:FrL} {ws:List Nat} {G:Nat} {p:Int} {s k:Value} {gs:Fs} {e0 e1 e2 e3:Nat} (h:FrO ((f.setR G s k).setPc p) (L.setW ws) gs):SoM f L (soOn { f with gas:=G,pc:=p } ws L.ms) (ma0 ((f.setR G s k).setPc p) e0 e1 e2 e3) gs :=
 ⟨s,k,gs,[],[],rfl,rfl,rfl,by simp,h.toP,wM_nil,bM_nil⟩
theorem step_all (w0:World) (b:Nat) (f:FrV) (L:FrL) (e0 e1 e2 e3:Nat) (gs rest:Fs) (hT:SK.TurnAt w0) (hNum:SK.NumAt w0) (he0:e0 < 18446744073709551616) (he1:e1 < 18446744073709551616) (he2:e2 < 18446744073709551616) (he3:e3 < 18446744073709551616) (hF:okF f L) (hn:FrNum f L) (hfr:FrO f L gs) (w:World) (hs:St w0 [] ((b,maO (ma0 f e0 e1 e2 e3))::(gs++rest)) w) :
  Calls prog 42 #[.pointer (some ⟨b,0,none⟩)] w (fun x w'=>∃ fs',StepK b f L (stepV f L e0 e1 e2 e3) rest x fs'∧St w0 [] fs' w'):=by
 have hlt:=opF_lt f L
 have hX5:=opX_small _ hlt
 obtain ⟨⟨hr1,hr2⟩,hr3⟩:=opX_rows _ hlt
 unfold stepV
 dsimp only
 obtain ⟨op,hop⟩:∃ op,opF f L=op:=⟨_,rfl⟩
 rw [hop] at hlt hX5 hr1 hr2 hr3 ⊢
 by_cases ho:(opOf op).isSome=true
 ·by_cases hi:op=254
  ·rw [if_pos (.inr hi)]
   exact step_254 w0 b f L e0 e1 e2 e3 gs rest op hF hn hop ho hi hfr w hs
  ·rw [if_neg (fun h=>by rcases h with h|h;exact h ho;exact hi h)]
   by_cases hg:f.gas < gasB op
   ·rw [if_pos hg]
    exact step_gas w0 b f L e0 e1 e2 e3 gs rest op hF hn hop ho hi hg hfr w hs
   ·rw [if_neg hg]
    by_cases ht:L.ws.length < (opX op).tk
    ·rw [if_pos (.inl ht)]
     exact step_few w0 b f L e0 e1 e2 e3 gs rest op hF hn hop ho hi (Nat.le_of_not_lt hg) hX5 ht hfr w hs
    ·by_cases hf:64 < L.ws.length - (opX op).tk+(opX op).ly
     ·rw [if_pos (.inr hf)]
      exact step_full w0 b f L e0 e1 e2 e3 gs rest op hF hn hop ho hi (Nat.le_of_not_lt hg) hX5 (Nat.le_of_not_lt ht) hf hfr w hs
     ·rw [if_neg (fun h=>by rcases h with h|h;exact ht h;exact hf h)]
      have hg':=Nat.le_of_not_lt hg
      have ht':=Nat.le_of_not_lt ht
      have hf':=Nat.le_of_not_lt hf
      by_cases c1:96≤op∧op≤127
      ·rw [if_pos c1]
       obtain ⟨a1,a2⟩:=hr1 c1
       refine vG (step_pushR w0 b f L e0 e1 e2 e3 gs rest op hF hn hop ho c1.1 c1.2 hg' hX5 ht' hf' (by omega) hfr w hs) ?_
       rintro x w' ⟨fs',⟨h1,s,k,gs',h2,h3⟩,hst⟩
       exact ⟨fs',⟨h1,_,gs',SoM.row h2,h3⟩,hst⟩
      ·rw [if_neg c1]
       by_cases c2:128≤op∧op≤143
       ·rw [if_pos c2]
        obtain ⟨a1,a2⟩:=hr2 c2
        refine vG (step_dupR w0 b f L e0 e1 e2 e3 gs rest op hF hn hop ho c2.1 c2.2 hg' hX5 ht' hf' (by omega) (by omega) hfr w hs) ?_
        rintro x w' ⟨fs',⟨h1,s,k,gs',h2,h3⟩,hst⟩
        exact ⟨fs',⟨h1,_,gs',SoM.row h2,h3⟩,hst⟩
       ·rw [if_neg c2]
        by_cases c3:144≤op∧op≤159
        ·rw [if_pos c3]
         obtain ⟨a1,a2⟩:=hr3 c3
         refine vG (step_swapR w0 b f L e0 e1 e2 e3 gs rest op hF hn hop ho c3.1 c3.2 hg' hX5 ht' hf' (by omega) hfr w hs) ?_
         rintro x w' ⟨fs',⟨h1,s,k,gs',h2,h3⟩,hst⟩
         exact ⟨fs',⟨h1,_,gs',SoM.row h2,h3⟩,hst⟩
        ·rw [if_neg c3]
         exact step_rest w0 b f L e0 e1 e2 e3 gs rest op hF hn hop hT hNum he0 he1 he2 he3 ho hi (by omega) hg' hX5 ht' hf' hfr w hs
 ·rw [if_pos (.inl ho)]
  exact step_none w0 b f L e0 e1 e2 e3 gs rest op hF hn hop ho hfr w hs
def FrV.so (f:FrV) (o:SO) (c s m i b:Value):FrV:=⟨c,o.pc,s,m,o.gas,f.self,f.frm,f.val,i,b,f.stat⟩
def StepRes (f:FrV) (L:FrL) (o:Option SO) (v:Value) (gs:Fs):Prop:=match o with
 |none=>∃ c s m i b,v=.tuple #[frv (f.rowsG 0 c s m i b),.agg (aska 6 0 (.slice none 0 0) (.slice none 0 0)),.int .i64 0]∧FrO (f.rowsG 0 c s m i b) L gs
 |some o=>∃ c s m i b t d g1 g2 g3,v=.tuple #[frv (f.so o c s m i b),.agg (aska o.kind o.op t d),.int .i64 0]∧FrP (f.so o c s m i b) (soL L o) g1∧wM o.words t g2∧bM o.data d g3∧(g1++(g2++g3)).Perm gs
attribute [local irreducible] SL.inP SL.inD SL.outD
theorem bM_sl {l:List UInt8} {t:Value} {gt:Fs} (h:bM l t gt):∃ p n c,t=.slice p n c:=by
 unfold bM at h
 obtain ⟨q,c,rfl⟩:=h.form
 exact ⟨_,_,_,rfl⟩
theorem Step_calls (f:FrV) (L:FrL) (e0 e1 e2 e3:Nat) (he0:e0 < 18446744073709551616) (he1:e1 < 18446744073709551616) (he2:e2 < 18446744073709551616) (he3:e3 < 18446744073709551616) (hF:okF f L) (hn:FrNum f L) (w:World) (hT:SK.TurnAt w) (hNum:SK.NumAt w) (h:FrRows w f L) :
  Calls prog 10 #[frv f,.agg (enva e0 e1 e2 e3)] w (RetG w [] (StepRes f L (stepV f L e0 e1 e2 e3))):=by
 have hC:∀ w' {fs:Fs},St w [] fs w'→Calls prog 34 #[frv f] w' (Ret w' (.int .i64 0)):=fun w' fs hst=>by
  have h0:=fCheck_calls f L w' (h.st hst)
  rwa [if_pos hF] at h0
 have hs1:=h.sl
 obtain ⟨o,ho⟩:∃ o,stepV f L e0 e1 e2 e3=o:=⟨_,rfl⟩
 rw [ho]
 refine dQBxyQ ?_
 (refine goZ ?_;intro _ _ _ _;refine cEz (c:=fun w _=>by exact hC w (by assumption)) (k:=?_))
 refine dQBpVj ?_
 rintro v g ⟨bm,c,s,mm,i,b5x,g1,rfl,rfl,hfr⟩
 rename_i b2 b3 b4 b5
 have hn':FrNum (f.rows c s mm i b5x) L:=⟨hn.gas,hn.self,hn.frm,hn.val,hn.ws⟩
 have hF':okF (f.rows c s mm i b5x) L:=hF
 (refine goZ ?_;apply qN;rfl;rfl;apply ValP.makeFunc;exact .cons rfl .nil;exact qT)
 cases o with
 |some o =>
  refine qO (K:=fun v fs'=>v=.bool true∧∃ m' gs',SoM (f.rows c s mm i b5x) L o m' gs'∧fs'=(bm,maO m')::(gs'++[(b5,.cells #[.int .i64 0,.int .u8 0,.slice none 0 0,.slice none 0 0] 37 (0,0)),(b4,.cells #[.slice none 0 0,.int .i64 0,.slice none 0 0,.slice none 0 0,.int .u64 0,.int .u64 0,.int .u64 0,.int .u64 0,.int .u64 0,.int .u64 0,.int .u64 0,.slice none 0 0,.slice none 0 0,.bool false] 31 (0,0)),(b3,.cells (enva e0 e1 e2 e3) 33 (0,0)),(b2,.cells (fra f) 31 (0,0))])) rfl rfl vF agZ (fun w' hst=>vG (tries_bound w [] 42 #[.pointer (some ⟨bm,0,none⟩)] (fun x fs'=>StepK bm (f.rows c s mm i b5x) L (some o) [] x fs') (fun x fs' h=>.inl h.1) vF ((bm,maO (ma0 (f.rows c s mm i b5x) e0 e1 e2 e3))::g1) [(b5,.cells #[.int .i64 0,.int .u8 0,.slice none 0 0,.slice none 0 0] 37 (0,0)),(b4,.cells #[.slice none 0 0,.int .i64 0,.slice none 0 0,.slice none 0 0,.int .u64 0,.int .u64 0,.int .u64 0,.int .u64 0,.int .u64 0,.int .u64 0,.int .u64 0,.slice none 0 0,.slice none 0 0,.bool false] 31 (0,0)),(b3,.cells (enva e0 e1 e2 e3) 33 (0,0)),(b2,.cells (fra f) 31 (0,0))] w' (fun rest w2 h2=>vG (step_all w bm (f.rows c s mm i b5x) L e0 e1 e2 e3 g1 rest hT hNum he0 he1 he2 he3 hF' hn' hfr w2 h2) fun x w3 ⟨fs',h3,hst⟩=>?_) hst) fun x w3 ⟨fs',⟨ok,own',h3,h4,h5⟩,hst⟩=>?_) ?_
  ·rw [stepV_like,ho] at h3
   obtain ⟨e1',m',gs',h4,h5⟩:=h3
   exact ⟨fs',⟨_,⟨e1',m',gs',h4,rfl⟩,by rw [h5,yM];rfl⟩,hst⟩
  ·cases ok with
   |false=>obtain ⟨h6,_⟩:=h4;cases h6
   |true =>
    obtain ⟨_,m',gs',h7,h8⟩:=h4
    exact ⟨_,_,h3,⟨rfl,m',gs',h7,by rw [h5,h8,yM];rfl⟩,hst⟩
  rintro _ _ ⟨rfl,m',gs',⟨s9,k9,u1,u2,u3,hf3,hk3,ho3,hpm3,hP3,hw3,hb3⟩,rfl⟩
  have hsf:=hP3.sl
  have hsw:=wM_sl hw3
  have hsd:=bM_sl hb3
  refine dQBUXS ?_
  refine fin (vs:=[frv m'.fr,.agg (aska m'.kind m'.op m'.words m'.data),.int .i64 0]) gs' (.inl rfl) rfl rfl (by (apply zD;apply zH;rfl;apply qH;apply zX;apply zZ;apply zX;apply zY;exact fr_rdW;apply zD;apply zH;rfl;apply qH;apply zX;apply zZ;apply zY;exact qI rfl;apply zD;exact zG rfl;exact zF)) (jK _ (jJ _ _)) ⟨c,s9,k9,i,b5x,m'.words,m'.data,u1,u2,u3,?_,?_,hw3,hb3,hpm3⟩
  ·rw [hf3,hk3,ho3];rfl
  ·rw [hf3] at hP3;exact hP3
 |none =>
  refine qO (K:=fun v fs'=>v=.bool false∧fs'=[(b5,.cells #[.int .i64 0,.int .u8 0,.slice none 0 0,.slice none 0 0] 37 (0,0)),(b4,.cells #[.slice none 0 0,.int .i64 0,.slice none 0 0,.slice none 0 0,.int .u64 0,.int .u64 0,.int .u64 0,.int .u64 0,.int .u64 0,.int .u64 0,.int .u64 0,.slice none 0 0,.slice none 0 0,.bool false] 31 (0,0)),(b3,.cells (enva e0 e1 e2 e3) 33 (0,0)),(b2,.cells (fra f) 31 (0,0))]) rfl rfl vF agZ (fun w' hst=>vG (tries_bound w [] 42 #[.pointer (some ⟨bm,0,none⟩)] (fun x fs'=>StepK bm (f.rows c s mm i b5x) L none [] x fs') (fun x fs' h=>.inr h.1) vF ((bm,maO (ma0 (f.rows c s mm i b5x) e0 e1 e2 e3))::g1) [(b5,.cells #[.int .i64 0,.int .u8 0,.slice none 0 0,.slice none 0 0] 37 (0,0)),(b4,.cells #[.slice none 0 0,.int .i64 0,.slice none 0 0,.slice none 0 0,.int .u64 0,.int .u64 0,.int .u64 0,.int .u64 0,.int .u64 0,.int .u64 0,.int .u64 0,.slice none 0 0,.slice none 0 0,.bool false] 31 (0,0)),(b3,.cells (enva e0 e1 e2 e3) 33 (0,0)),(b2,.cells (fra f) 31 (0,0))] w' (fun rest w2 h2=>vG (step_all w bm (f.rows c s mm i b5x) L e0 e1 e2 e3 g1 rest hT hNum he0 he1 he2 he3 hF' hn' hfr w2 h2) fun x w3 ⟨fs',h3,hst⟩=>?_) hst) fun x w3 ⟨fs',⟨ok,own',h3,h4,h5⟩,hst⟩=>?_) ?_
  ·rw [stepV_like,ho] at h3
   obtain ⟨e1',h5⟩:=h3
   exact ⟨fs',⟨_,⟨e1',rfl⟩,by rw [h5];rfl⟩,hst⟩
  ·cases ok with
   |true=>obtain ⟨h6,_⟩:=h4;cases h6
   |false =>
    obtain ⟨_,h8⟩:=h4
    exact ⟨_,_,h3,⟨rfl,by rw [h5,h8];rfl⟩,hst⟩
  rintro _ _ ⟨rfl,rfl⟩
  (refine goZ ?_)
  refine dQBpVj ?_
  rintro v g ⟨bn,c2,s2,m2,i2,b2x,g2,rfl,rfl,hfr2⟩
  have hfr3:FrO (f.rowsG 0 c2 s2 m2 i2 b2x) L g2:=hfr2
  (refine goZ ?_;refine bTz ?_;apply zR;rfl;rfl;apply qA;apply ma_wr4 (z:=.int .u64 0);refine goZ ?_;refine zR rfl rfl .head ma_wr19 ?_;refine goZ ?_)
  generalize hm9:(((ma0 (f.rows c2 s2 m2 i2 b2x) e0 e1 e2 e3).setGas 0).setAsk 6 0 (.slice none 0 0) (.slice none 0 0))=m9
  have hsf:FrSl m9.fr:=by rw [← hm9];exact hfr3.sl
  have hsw:∃ p n c,m9.words=.slice p n c:=by rw [← hm9];exact ⟨_,_,_,rfl⟩
  have hsd:∃ p n c,m9.data=.slice p n c:=by rw [← hm9];exact ⟨_,_,_,rfl⟩
  try simp only [List.append_eq]
  apply CW.pre
  (refine qY [] 9 mixed (by decide +kernel) ?_)
  (refine tsZ ?_;refine dlz (c:=by exact ma_rdF) (k:=?_);refine dlz (c:=by exact ma_rdA) (k:=?_);apply DW.store;rfl;rfl;exact zC;rfl;rfl;apply qQ;apply TSet.app;apply qQ;apply qR;exact zN;exact zN;apply fr_wrW;rfl;exact hsf;refine goZ ?_)
  refine fsZ ?_
  (refine goZ ?_)
  refine fin (vs:=[frv m9.fr,.agg (aska m9.kind m9.op m9.words m9.data),.int .i64 0]) g2 (.inl rfl) rfl rfl (by (apply zD;apply zH;rfl;apply qH;apply zX;apply zZ;apply zX;apply zY;exact fr_rdW;apply zD;apply zH;rfl;apply qH;apply zX;apply zZ;apply zY;exact qI rfl;apply zD;exact zG rfl;exact zF)) (jK _ (jJ _ _)) ⟨c2,s2,m2,i2,b2x,by rw [← hm9];rfl,hfr2⟩
theorem Step_bad (f:FrV) (L:FrL) (e0 e1 e2 e3:Nat) (hF:¬ okF f L) (w:World) (h:FrRows w f L) :
  Calls prog 10 #[frv f,.agg (enva e0 e1 e2 e3)] w (Ret w (.tuple #[frv zeroF,.agg (aska 0 0 (.slice none 0 0) (.slice none 0 0)),.int .i64 240])):=by
 have hC:∀ w' {fs:Fs},St w [] fs w'→Calls prog 34 #[frv f] w' (Ret w' (.int .i64 240)):=fun w' fs hst=>by
  have h0:=fCheck_calls f L w' (h.st hst)
  rwa [if_neg hF] at h0
 have hs1:=h.sl
 refine dQBxyQ ?_
 (refine goZ ?_;intro _ _ _ _;refine cEz (c:=fun w _=>by exact hC w (by assumption)) (k:=?_);refine bTz ?_;refine bTz ?_)
 (refine fiz ?_)
 rfl
end
theorem None_calls (a:Nat) (ha:a < M256) (w:World):Calls prog 112 #[wv a] w (Ret w (.bool (decide (a=0)))):=by
 have ha':a < 115792089237316195423570985008687907853269984665640564039457584007913129639936:=ha
 have e:∀ x:Bool,(x=true↔a=0)→x=decide (a=0):=fun x h=>by
  cases x
  ·exact (vA fun h0=>by cases h.2 h0).symm
  ·exact (vE (h.1 rfl)).symm
 refine enter (args:=[_]) _ [] [] func112 rfl ntmps112 rfl (by simp) .nil ?_
 (refine goZ ?_;intro _;refine lvz (.eq rfl rfl) ?_;refine goZ ?_;refine LW.guardDT rfl rfl rfl (fun hsq hsp=>?_) (fun hsq hsp=>?_);refine goZ ?_;refine lvz (.eq rfl rfl) ?_;refine goZ ?_;refine LW.guardDT rfl rfl rfl (fun hsq hsp=>?_) (fun hsq hsp=>?_);refine goZ ?_;refine lvz (.eq rfl rfl) ?_;refine goZ ?_;refine LW.guardDT rfl rfl rfl (fun hsq hsp=>?_) (fun hsq hsp=>?_);refine goZ ?_;refine lvz (.eq rfl rfl) ?_;refine goZ ?_;refine fiz ?_;show Value.bool _=Value.bool _;(exact congrArg Value.bool (e _ ⟨fun h=>by have h:=of_decide_eq_true h;omega,fun h=>vE (by omega)⟩));refine goZ ?_;refine fiz ?_;show Value.bool _=Value.bool _;(exact congrArg Value.bool (e _ ⟨(fun h=>by cases h),fun h=>by omega⟩));refine goZ ?_;refine fiz ?_;show Value.bool _=Value.bool _;(exact congrArg Value.bool (e _ ⟨(fun h=>by cases h),fun h=>by omega⟩));refine goZ ?_;refine fiz ?_;show Value.bool _=Value.bool _;(exact congrArg Value.bool (e _ ⟨(fun h=>by cases h),fun h=>by omega⟩)))
def RPopR (ws:List Nat) (ms:List UInt8) (n:Nat) (v:Value) (gs:Fs):Prop:=∃ s m t g1 g2 g3,v=.tuple #[.agg #[s,m],t,.int .i64 0]∧gs=g3++(g2++g1)∧wM (ws.take (ws.length - n)) s g1∧bM ms m g2∧wM (ws.drop (ws.length - n)).reverse t g3
theorem rev_drop (ws:List Nat) (k:Nat) (hk:k < ws.length):(ws.drop (ws.length - (k+1))).reverse=(ws.drop (ws.length - k)).reverse++[ws.getD (ws.length - k - 1) 0]:=by
 rw [List.drop_eq_getElem_cons (show ws.length - (k+1) < ws.length by omega),List.reverse_cons,show ws.length - (k+1)+1=ws.length - k by omega]
 congr 2
 rw [jU,jO (by omega)]
 rfl
theorem rPop_calls (ws:List Nat) (ms:List UInt8) (n:Nat) (s m:Value) (w:World) (hn:n≤ws.length) (hrs:RowAt w 4 s ws.length (wcs ws)) (hrm:RowAt w 1 m ms.length (ucs ms)) (hl:ws.length≤100000) (hl2:ms.length≤100000) :
  Calls prog 57 #[.agg #[s,m],.int .i64 (n:Int)] w (RetG w [] (RPopR ws ms n)):=by
 obtain ⟨p,c,rfl,_,_⟩:=id hrs.form
 obtain ⟨p2,c2,rfl,_,_⟩:=id hrm.form
 refine enter (args:=[_,_]) _ [] [] func57 rfl ntmps57 rfl (by simp) .nil ?_
 (refine goZ ?_;intro _ _)
 refine dQBahU ?_
 rintro vo gso ⟨s1,m1,g1,g2,rfl,rfl,h1,h2,h00⟩
 have h1':=h1
 have h2':=h2
 unfold wM at h1'
 unfold bM at h2'
 obtain ⟨q1,k1,rfl⟩:=h1'.form
 obtain ⟨q2,k2,rfl⟩:=h2'.form
 rw [jR]
 (refine goZ ?_;intro _)
 rename_i b2 b4 b7
 refine qM (fun x:Nat × Option Addr × Nat × Fs=>([(9,.int .i64 (x.1:Int)),(8,.slice x.2.1 x.1 x.2.2.1),(7,.pointer (some ⟨b7,0,none⟩)),(4,.pointer (some ⟨b4,0,none⟩)),(1,.int .i64 (n:Int))],x.2.2.2++(b7,.cells #[.slice q1 (ws.length - x.1) k1,.slice q2 ms.length k2] 25 (0,0))::(g2++(g1++[(b4,.cells #[.slice none 0 0,.slice none 0 0] 25 (0,0))]))))
  (fun x=>x.1≤n∧IsRow 29 4 (.slice x.2.1 x.1 x.2.2.1) x.1 (wcs (ws.drop (ws.length - x.1)).reverse) x.2.2.2) (fun x=>n - x.1) (0,none,0,[]) ⟨Nat.zero_le _,by simp;exact .nil⟩ ⟨rfl,rfl,rfl,rfl,rfl,trivial⟩ (by simp) ?_
 rintro ⟨k,q,kc,seg⟩ ⟨hk,hrow⟩
 dsimp only at hk hrow ⊢
 rcases jM k n with hlt|hge
 ·obtain ⟨g,cur,rfl,rfl,hle1,_,_,htk⟩:=h1'.pos (by omega)
  have hrd:Rd prog 29 (.cells cur 29 (0,0)) (0+(ws.length - k - 1) * 4) (wv (ws.getD (ws.length - k - 1) 0)):=word_rd (by rw [yW];exact htk) _ (by omega)
  (refine goZ ?_;intro _)
  rename_i b35
  (apply LW.appendAny;(case hrow=>exact hrow);rfl;rfl;exact vF;exact vF;exact vF;rfl;rfl;rfl;exact qK qJ)
  ·exact fun w hs=>row_cells (n:=1) (xs:=wcs [ws.getD (ws.length - k - 1) 0]) (hs.own (b35,_) (jW _)).2 rfl rfl (by decide)
  ·exact wcs_cells _
  ·simp only [maxLen];omega
  ·omega
  intro v8 seg8 hrow8
  obtain ⟨p8,c8,rfl⟩:=hrow8.form
  refine ⟨_,(by exact qK qJ),?_⟩
  rw [← wcs_app,← rev_drop ws k (by omega)] at hrow8
  (refine goZ ?_;refine lvz (.cutTo vF vF rfl rfl (by omega)) ?_;refine goZ ?_)
  apply thenX
  refine ⟨rfl,(k+1,p8,c8,seg8),⟨hlt,hrow8⟩,by show n - (k+1) < n - k;omega,⟨rfl,rfl,rfl,rfl,rfl,trivial⟩,?_⟩
  exact jK _ (jG _)
 ·obtain rfl:k=n:=by omega
  (refine goZ ?_)
  refine fin (vs:=[.agg #[.slice q1 (ws.length - k) k1,.slice q2 ms.length k2],.slice q k kc,.int .i64 0]) (seg++(g2++g1)) (.inl rfl) rfl rfl rsZ ?_ ⟨_,_,_,g1,g2,seg,rfl,rfl,?_,h2,?_⟩
  ·exact jL (jK _ (jL (jJ _ _) _)) _
  ·unfold wM
   have h:=h1'.take (k:=ws.length - k) (Nat.sub_le _ _)
   rw [yH,Nat.min_eq_left (Nat.sub_le _ _),← wcs_take]
   exact h
  ·unfold wM
   rw [List.length_reverse,yL,show ws.length - (ws.length - k)=k by omega]
   exact hrow
theorem rDup_calls (ws:List Nat) (ms:List UInt8) (n:Nat) (s m:Value) (h1:1≤n) (h2:n≤16) (hn:n≤ws.length) (hf:ws.length+1≤64) (w:World) (hs:RowAt w 4 s ws.length (wcs ws)) (hm:RowAt w 1 m ms.length (ucs ms)) (hok:okSc ws.length ms.length) :
  Calls prog 55 #[.agg #[s,m],.int .i64 (n:Int)] w (RetG w [] (fun r gs=>∃ s m g1 g2,r=.tuple #[.agg #[s,m],.int .i64 0]∧gs=g2++g1∧wM (ws++[ws.getD (ws.length - n) 0]) s g1∧bM ms m g2)):=by
 have hs0:=hs
 have hm0:=hm
 obtain ⟨b0,off,c,cs,E,fr,rfl,hb,hx⟩:=hs.pos (by omega)
 obtain ⟨p2,c2,rfl,_,hc2⟩:=id hm.form
 obtain ⟨_,_,he,_,hc⟩:=id hs.form
 cases he
 have hrd:Rd prog 29 (.cells cs E fr) (off+(ws.length - n) * 4) (wv (ws.getD (ws.length - n) 0)):=word_rd hx (ws.length - n) (by omega)
 obtain ⟨x,hxe⟩:∃ x,ws.getD (ws.length - n) 0=x:=⟨_,rfl⟩
 rw [hxe] at hrd ⊢
 refine enter (args:=[_,_]) _ [] [] func55 rfl ntmps55 rfl (by simp) .nil ?_
 (refine sRz ?_;apply zT;rfl;rfl;intro _;apply zU;rfl;intro _;refine vAz<|nNz<|zI<|sRz<|vMz ?_;refine lvz (.lssF rfl rfl (by omega)) ?_;refine vMz<|gTz<|vMz<|gTz ?_;refine lvz (.gtrF rfl rfl (by omega)) ?_;refine pFz<|nNz<|cFz<|zJ<|thenN<|zI<|sRz<|vFz<|ldz rfl (.tail .head) sc_rd0<|lvz (.lenR rfl vF rfl)<|vMz ?_;refine lvz (.lssF rfl rfl (by omega)) ?_;refine nNz<|cFz<|zJ<|thenN<|zI ?_)
 apply CW.pre
 (refine qY [(11,RPushR ws ms [x])] 14 mixed (by decide +kernel) ?_)
 ((try simp only [tsOf_cons,tsOf_nil,tsOf_app]);apply qG;rfl;rfl;rfl;exact zC;rfl;apply zO;apply zP;exact zN;exact qI rfl;refine dvz (.fieldAddr rfl rfl) ?_;apply qG;rfl;rfl;rfl;exact zC;rfl;apply zO;apply zP;exact zN;exact sc_rd0;refine dvz (.fieldAddr rfl rfl) ?_;apply qG;rfl;rfl;rfl;exact zC;rfl;apply zO;apply zP;exact zN;exact sc_rd0;refine dvz (.lenR rfl vF rfl)<|dvz (.move rfl) ?_;refine dvz (.subZ rfl rfl (by omega) (by omega)) ?_;refine dvz (.indexAddrS rfl rfl rfl (by omega)) ?_;apply DW.loadX;rfl;rfl;rfl;exact zC;rfl;assumption;simp;assumption;apply DW.layA;rfl;rfl;rfl;exact zC;exact vF;exact vF;rfl;rfl;rfl;rfl;rfl;intro _)
 rename_i b35
 refine DW.manyW (vs':=[.slice (some ⟨b0,off,none⟩) ws.length c,.slice p2 ms.length c2,.slice (some ⟨b35,0,none⟩) 1 1]) rfl rfl rfl (by (exact zC)) rfl vF agZ (by simp only [yJ,List.flatMap_nil,yM];rw [← blocks_sl ⟨some ⟨b0,off,none⟩,ws.length,c,rfl⟩,← blocks_sl ⟨p2,ms.length,c2,rfl⟩];show (blocksN 3 _++(blocksN 3 _++[]))++_=_;simp) (.ext hs0 rfl (.ext hm0 rfl (.own (by omega) (by (apply zP;kernel_rfl)) .nil))) (fun w hb hu=>rPush_calls ws ms [x] _ _ _ w (hs0.bel hb) (hm0.bel hb) (row_cells (hu _ jV) rfl rfl (by show 1≤maxLen;decide)) (by omega) (by have:=hok.2.1;omega) (by show 1≤100000;omega)) ?_
 rintro vP gP (⟨_,s1,m1,gg1,gg2,rfl,rfl,hw1,hb1⟩|⟨h64,_⟩)
 rotate_left
 ·exact absurd h64 (by show ¬ 64 < ws.length+1;omega)
 have hw1':=hw1
 have hb1':=hb1
 unfold wM at hw1'
 unfold bM at hb1'
 obtain ⟨q5,k5,rfl⟩:=hw1'.form
 obtain ⟨q6,k6,rfl⟩:=hb1'.form
 ((try simp only [tsOf_cons,tsOf_nil,tsOf_app]);refine dvz (.extractN rfl rfl) ?_;refine dvz (.extractN rfl rfl) ?_;apply DW.nil;simp only [fsOf_cons,fsOf_nil,fsOf_app,fsOf_tsOf,fsOf_new,fsOf_tag,fsOf_mark])
 try simp only [fsOf_mark,fsOf_cons,fsOf_nil,fsOf_app,fsOf_tsOf,fsOf_new,fsOf_tag,List.append_eq,jQ]
 (refine zR rfl rfl (.app (.tail .head)) (.whole rfl rfl rfl)<|vAz<|nNz<|zK ?_)
 refine fin (vs:=[.agg #[.slice q5 (ws++[x]).length k5,.slice q6 ms.length k6],.int .i64 0]) (gg2++gg1) (.inl rfl) rfl rfl rsZ ?_ ⟨_,_,gg1,gg2,rfl,rfl,hw1,hb1⟩
 exact jJ _ _
theorem rSwap_calls (ws:List Nat) (ms:List UInt8) (n:Nat) (s m:Value) (h1:1≤n) (h2:n≤16) (hn:n < ws.length) (w:World) (hs:RowAt w 4 s ws.length (wcs ws)) (hm:RowAt w 1 m ms.length (ucs ms)) (hok:okSc ws.length ms.length) :
  Calls prog 56 #[.agg #[s,m],.int .i64 (n:Int)] w (RetG w [] (fun r gs=>∃ s m g1 g2,r=.tuple #[.agg #[s,m],.int .i64 0]∧gs=g2++g1∧wM (swapL ws n) s g1∧bM ms m g2)):=by
 have hs0:=hs
 have hm0:=hm
 obtain ⟨bb,off,c,cs,E,fr,rfl,hb',hx9⟩:=hs0.pos (by omega)
 obtain ⟨_,_,he,_,hc⟩:=id hs.form
 cases he
 obtain ⟨p2,c2,rfl,_,hc2⟩:=hm.form
 obtain ⟨hn1,hk1,hk2⟩:=id hok
 refine enter (args:=[_,_]) _ [] [] func56 rfl ntmps56 rfl (by simp) .nil ?_
 (refine sRz ?_;apply zT;rfl;rfl;intro _;apply zU;rfl;intro _;refine vAz<|nNz<|zI<|sRz<|vMz ?_;refine lvz (.lssF rfl rfl (by omega)) ?_;refine vMz<|gTz<|vMz<|gTz ?_;refine lvz (.gtrF rfl rfl (by omega)) ?_;refine pFz<|nNz<|cFz<|zJ<|thenN<|zI<|sRz<|vFz<|ldz rfl (.tail .head) sc_rd0<|lvz (.lenR rfl vF rfl)<|vMz ?_;refine lvz (.leqF rfl rfl (by omega)) ?_;refine nNz<|cFz<|zJ<|thenN<|sRz<|ldz rfl (.tail .head) (qI rfl) ?_)
 (apply LW.callR;rfl;rfl;exact vF;exact .cons rfl .nil;intro w hs)
 exact rScCopy_calls ws ms _ _ w (hs0.st hs) (hm0.st hs) (by omega) (by omega)
 rintro vo gso ⟨s1,m1,g1,g2,rfl,rfl,hw1,hb1,_⟩
 have hw1':=hw1
 have hb1':=hb1
 unfold wM at hw1'
 unfold bM at hb1'
 obtain ⟨q1,k1,rfl⟩:=hw1'.form
 obtain ⟨q2,k2,rfl⟩:=hb1'.form
 obtain ⟨gm,cur,rfl,rfl,hn9,hm9,hsz9,htk9⟩:=hw1'.pos (by omega)
 rw [jR]
 simp only [yA,jQ]
 obtain ⟨t,ht⟩:∃ t,ws.length - 1=t:=⟨_,rfl⟩
 have hrdK:Rd prog 29 (.cells cs E fr) (off+(t - n) * 4) (wv (ws.getD (t - n) 0)):=word_rd hx9 (t - n) (by omega)
 have hrdJ:Rd prog 29 (.cells cs E fr) (off+t * 4) (wv (ws.getD t 0)):=word_rd hx9 t (by omega)
 have hsw:swapL ws n=(ws.set t (ws.getD (t - n) 0)).set (t - n) (ws.getD t 0):=by unfold swapL;rw [ht]
 obtain ⟨x,hx⟩:∃ x,ws.getD (t - n) 0=x:=⟨_,rfl⟩
 obtain ⟨y,hy⟩:∃ y,ws.getD t 0=y:=⟨_,rfl⟩
 rw [hx] at hrdK hsw
 rw [hy] at hrdJ hsw
 obtain ⟨w1,w2⟩:=wr_take (i:=t) (vs:=(wc x).toList) htk9 rfl (by omega) (by omega)
 rw [wcs_set ws t x (by omega)] at w1
 obtain ⟨w3,w4⟩:=wr_take (i:=t - n) (vs:=(wc y).toList) w1 rfl (by omega) (by omega)
 rw [wcs_set _ (t - n) y (by rw [List.length_set];omega)] at w3
 have hW1:Wr prog 29 (.cells cur 29 (0,0)) (0+t * 4) (wv x) (.cells (wrCells cur (t * 4) (wc x).toList) 29 (0,0)):=qU (z:=wv 0) (n:=4) rfl rfl (by rw [hsz9];show 0+t * 4+4≤k1 * 4;omega) (by rw [jH];rfl)
 have hW2:Wr prog 29 (.cells (wrCells cur (t * 4) (wc x).toList) 29 (0,0)) (0+(t - n) * 4) (wv y) (.cells (wrCells (wrCells cur (t * 4) (wc x).toList) ((t - n) * 4) (wc y).toList) 29 (0,0)):=qU (z:=wv 0) (n:=4) rfl rfl (by rw [w2,hsz9];show 0+(t - n) * 4+4≤k1 * 4;omega) (by rw [jH];rfl)
 (apply zU;rfl;intro _;refine zR rfl rfl .head (.whole rfl rfl rfl)<|nSz<|vFz<|ldz rfl .head sc_rd0<|lvz (.lenR rfl vF rfl) ?_;refine lvz (.subZL rfl rfl (by decide) (by omega) (by omega)) ?_;refine vAz<|nNz<|zI ?_)
 rw [ht]
 apply CW.pre
 (refine qY [] 10 mixed (by decide +kernel) ?_)
 ((try simp only [tsOf_cons,tsOf_nil,tsOf_app]);refine dvz (.fieldAddr rfl rfl) ?_;apply qG;rfl;rfl;rfl;exact zC;rfl;apply zP;exact zN;exact sc_rd0;refine dvz (.move rfl)<|dvz (.fieldAddr rfl rfl) ?_;apply qG;rfl;rfl;rfl;exact zC;rfl;apply zO;apply zQ;apply zO;apply zO;apply zP;exact zN;exact sc_rd0;refine dvz (.move rfl)<|dvz (.move rfl) ?_;refine dvz (.subZ rfl rfl (by omega) (by omega)) ?_;refine dvz (.indexAddrS rfl rfl rfl (by omega)) ?_;apply DW.loadX;rfl;rfl;rfl;exact zC;rfl;exact hb';simp;exact hrdK;apply DW.nil;simp only [fsOf_cons,fsOf_nil,fsOf_app,fsOf_tsOf,fsOf_new,fsOf_tag,fsOf_mark])
 try simp only [fsOf_mark,fsOf_cons,fsOf_nil,fsOf_app,fsOf_tsOf,fsOf_new,fsOf_tag,List.append_eq,jQ]
 (refine lvz (.indexAddrS rfl rfl rfl (by omega)) ?_;refine zR rfl rfl (.tail (.app .head)) hW1<|nNz<|zI ?_;apply CW.pre;refine AnyW.any 10 mixed (by decide +kernel) ?_;(try simp only [tsOf_cons,tsOf_nil,tsOf_app]);refine dvz (.fieldAddr rfl rfl) ?_;apply qG;rfl;rfl;rfl;exact zC;rfl;apply zP;exact zN;exact sc_rd0;refine dvz (.move rfl)<|dvz (.move rfl) ?_;refine dvz (.subZ rfl rfl (by omega) (by omega)) ?_;refine dvz (.fieldAddr rfl rfl) ?_;apply qG;rfl;rfl;rfl;exact zC;rfl;apply zO;apply zQ;apply zO;apply zO;apply zP;exact zN;exact sc_rd0;refine dvz (.move rfl) ?_;refine dvz (.indexAddrS rfl rfl rfl (by omega)) ?_;apply DW.loadX;rfl;rfl;rfl;exact zC;rfl;exact hb';simp;exact hrdJ;apply DW.nil;simp only [fsOf_cons,fsOf_nil,fsOf_app,fsOf_tsOf,fsOf_new,fsOf_tag,fsOf_mark];refine lvz (.indexAddrS rfl rfl rfl (by omega)) ?_;refine zR rfl rfl (.tail (.app .head)) hW2<|nSz<|ldz rfl .head (qI rfl) ?_;refine zR rfl rfl (.tail (.app (.tail .head))) (.whole rfl rfl rfl)<|vAz<|nNz<|zK ?_)
 refine fin (vs:=[.agg #[.slice (some ⟨gm,0,none⟩) ws.length k1,.slice q2 ms.length k2],.int .i64 0]) (g2++[(gm,.cells (wrCells (wrCells cur (t * 4) (wc x).toList) ((t - n) * 4) (wc y).toList) 29 (0,0))]) (.inl rfl) rfl rfl rsZ ?_ ⟨_,_,[(gm,_)],g2,rfl,rfl,?_,hb1⟩
 ·exact jK _ (jL (jP _ (List.nil_sublist _)) _)
 ·exact dTBVNs
theorem dTBOsN {P:Prop} (h:P:=by
 refine enter (args:=[_,_,_]) _ [] [] func177 rfl ntmps177 rfl (by simp) .nil ?_
 (refine goZ ?_;intro _)
 refine LW.makeOwn rfl vF vF vF rfl rfl (by omega) (by simp only [maxLen];omega) fun g=>?_
 (refine goZ ?_)
 exact fin (vs:=[.slice (some ⟨g,0,none⟩) n n]) [(g,_)] (.inl rfl) rfl rfl rsZ (jP _ (List.nil_sublist _)) (hfin g _ (by simp) hz)):P:=h
def winP (bs:List UInt8) (a n i:Nat):List UInt8:=(winL bs a n).take i++List.replicate (n - i) 0
theorem winP_zero (bs:List UInt8) (a n:Nat):winP bs a n 0=List.replicate n 0:=by unfold winP;simp
theorem winP_end {bs:List UInt8} {a n i:Nat} (h:i=n∨bs.length≤a+i) (hi:i≤n):winP bs a n i=winL bs a n:=by
 unfold winP
 refine List.ext_getElem? fun j=>?_
 rcases h with rfl|h
 ·rw [Nat.sub_self,List.replicate_zero,yM,yI (by rw [winL_len];exact yD _)]
 ·rcases jM j i with hj|hj
  ·rw [List.getElem?_append_left (by rw [yH,winL_len];omega),List.getElem?_take_of_lt hj]
  ·rw [List.getElem?_append_right (by rw [yH,winL_len];omega),yH,winL_len,Nat.min_eq_left hi,List.getElem?_replicate]
   unfold winL
   rw [List.getElem?_map]
   rcases jM j n with hjn|hjn
   ·rw [if_pos (by omega),List.getElem?_range hjn,Option.map_some,jU,yN (by omega)]
    rfl
   ·rw [if_neg (by omega),yN (by rw [List.length_range];exact hjn)]
    rfl
theorem winP_step (bs:List UInt8) (a n i:Nat) (hi:i < n):(ucs (winP bs a n i)).take (i * 1)++[.int .u8 ((bs.getD (a+i) 0).toNat:Int)]++(ucs (winP bs a n i)).drop ((i+1) * 1)=ucs (winP bs a n (i+1)):=by
 have hl:((winL bs a n).take i).length=i:=by rw [yH,winL_len];omega
 have h1:(winP bs a n i).take i=(winL bs a n).take i:=by unfold winP;rw [List.take_append_of_le_length (by omega),yI (by omega)]
 have h2:(winP bs a n i).drop (i+1)=List.replicate (n - (i+1)) 0:=by
  unfold winP
  rw [List.drop_append,hl,List.drop_eq_nil_of_le (by omega),jQ,List.drop_replicate]
  congr 1
  omega
 have h3:(winL bs a n).take (i+1)=(winL bs a n).take i++[bs.getD (a+i) 0]:=by
  rw [List.take_add_one]
  congr 1
  unfold winL
  rw [List.getElem?_map,List.getElem?_range hi]
  rfl
 rw [ucs_take,ucs_drop,h1,h2]
 unfold winP
 rw [h3,ucs_app,ucs_app]
 rfl
theorem rwindow_calls (bs:List UInt8) (a n:Nat) (hn:n≤1024) (ha:a < M256) (hb:bs.length≤100000) (v:Value) (w:World) (hv:RowAt w 1 v bs.length (ucs bs)):Calls prog 177 #[v,wv a,.int .i64 (n:Int)] w (RetG w [] (bM (winL bs a n))):=by
 have ha':a < 115792089237316195423570985008687907853269984665640564039457584007913129639936:=ha
 obtain ⟨p,c,rfl,_,_⟩:=id hv.form
 have hfin:∀ (g:Nat) (cur:Array Value),cur.size=n→cur.toList.take (n * 1)=ucs (winL bs a n)→bM (winL bs a n) (.slice (some ⟨g,0,none⟩) n n) [(g,.cells cur 5 (0,0))]:=fun g cur h1 h2=>by
  unfold bM
  rw [winL_len]
  exact .own (yD _) (by simp only [maxLen];omega) (by rw [h1,yE]) h2 (by rw [ucs_len,winL_len,yE])
 rcases jM a bs.length with hlt|hge
 ·obtain ⟨bb,off,c',cs,E,fr,heq,hb',hx⟩:=hv.pos (by omega)
  cases heq
  have hmod:a % 18446744073709551616=a:=jY (by omega)
  refine enter (args:=[_,_,_]) _ [] [] func177 rfl ntmps177 rfl (by simp) .nil ?_
  (refine goZ ?_;intro _)
  refine LW.makeOwn rfl vF vF vF rfl rfl (by omega) (by simp only [maxLen];omega) fun g=>?_
  (refine goZ ?_)
  rename_i b4
  refine qM (fun x:Nat × Array Value=>([(8,.int .i64 (x.1:Int)),(7,.slice (some ⟨g,0,none⟩) n n),(4,.pointer (some ⟨b4,0,none⟩)),(2,.int .i64 (n:Int)),(0,.slice (some ⟨bb,off,none⟩) bs.length c)],[(g,.cells x.2 5 (0,0)),(b4,.cells (wc a) 29 (0,0))]))
   (fun x=>x.1≤n∧x.2.size=n∧x.2.toList.take (n * 1)=ucs (winP bs a n x.1)) (fun x=>n - x.1) (0,(List.replicate n (Value.int .u8 0)).toArray) ⟨Nat.zero_le _,by simp,by rw [winP_zero,ucs_zero,yE];exact yI (by simp)⟩ ⟨rfl,rfl,rfl,rfl,rfl,trivial⟩ (jG _) ?_
  rintro ⟨i,cur⟩ ⟨hi,hcs,htk⟩
  dsimp only at hi hcs htk ⊢
  rcases jM i n with hin|hin
  ·rcases jM (a+i) bs.length with hai|hai
   ·have hrd:Rd prog 5 (.cells cs E fr) (off+(a+i) * 1) (.int .u8 ((bs.getD (a+i) 0).toNat:Int)):=Rd.elem1 (l:=bs) (i:=a+i) (a:=bs.getD (a+i) 0) hx (ucs_one bs) (by rw [jU,jO hai];rfl) rfl
    obtain ⟨w1,w2⟩:=wr_take (i:=i) (vs:=[Value.int .u8 ((bs.getD (a+i) 0).toNat:Int)]) htk rfl hin (by omega)
    rw [winP_step bs a n i hin] at w1
    obtain ⟨u,hu⟩:∃ u:UInt8,bs.getD (a+i) 0=u:=⟨_,rfl⟩
    rw [hu] at hrd w1 w2
    have hW:Wr prog 5 (.cells cur 5 (0,0)) (0+i * 1) (.int .u8 (u.toNat:Int)) (.cells (wrCells cur (i * 1) [.int .u8 (u.toNat:Int)]) 5 (0,0)):=qU (z:=.int .u8 0) (n:=1) rfl rfl (by rw [hcs];show 0+i * 1+1≤n;omega) (by rw [jH];rfl)
    (refine goZ ?_)
    rw [hmod]
    (refine goZ ?_)
    apply thenX
    refine ⟨rfl,(i+1,wrCells cur (i * 1) [.int .u8 (u.toNat:Int)]),⟨hin,w2.trans hcs,w1⟩,by show n - (i+1) < n - i;omega,⟨rfl,rfl,rfl,rfl,rfl,trivial⟩,jG _⟩
   ·rw [winP_end (.inr hai) hi] at htk
    (refine goZ ?_)
    exact fin (vs:=[.slice (some ⟨g,0,none⟩) n n]) [(g,_)] (.inl rfl) rfl rfl rsZ (jP _ (List.nil_sublist _)) (hfin g _ hcs htk)
  ·rw [winP_end (.inl (by omega)) hi] at htk
   (refine goZ ?_)
   exact fin (vs:=[.slice (some ⟨g,0,none⟩) n n]) [(g,_)] (.inl rfl) rfl rfl rsZ (jP _ (List.nil_sublist _)) (hfin g _ hcs htk)
 ·have hz:(List.replicate n (Value.int .u8 0)).toArray.toList.take (n * 1)=ucs (winL bs a n):=by
   rw [winL_far hge,ucs_zero,yE]
   exact yI (by simp)
  rcases (by omega:a / 18446744073709551616 % 18446744073709551616 > 0∨(a / 18446744073709551616 % 18446744073709551616=0∧a / 340282366920938463463374607431768211456 % 18446744073709551616 > 0)∨(a / 18446744073709551616 % 18446744073709551616=0∧a / 340282366920938463463374607431768211456 % 18446744073709551616=0∧a / 6277101735386680763835789423207666416102355444464034512896 % 18446744073709551616 > 0)∨(a / 18446744073709551616 % 18446744073709551616=0∧a / 340282366920938463463374607431768211456 % 18446744073709551616=0∧a / 6277101735386680763835789423207666416102355444464034512896 % 18446744073709551616=0∧bs.length≤a % 18446744073709551616)) with h|⟨h1,h⟩|⟨h1,h2,h⟩|⟨h1,h2,h3,h⟩
  ·exact dTBOsN
  ·exact dTBOsN
  ·exact dTBOsN
  ·exact dTBOsN
section
theorem dTBynT {P:Prop} (h:P:=by
 rintro v fs' ⟨rfl,h⟩
 (refine goZ ?_)
 exact inPI (.inr rfl) .nil rfl .nil rfl ⟨_,⟨_,rfl,rfl,h⟩,.refl _⟩):P:=h
attribute [local irreducible] SL.inP
def CallsS (P:Program) (w0:World) (S:List Nat) (f:FuncId) (args:Array Value) (w:World) (K:Value→Fs→Prop):Prop:=Calls P f args w (fun x w'=>∃ v fs',x=.returned v∧K v fs'∧St w0 S fs' w')
def outV (K:Value→Fs→Prop):Out:=fun x fs'=>∃ v,x=.returned v∧K v fs'
theorem enterS {P:Program} {w0:World} {S:List Nat} {f:FuncId} {fn:Func} {c:Code} {args:List Value} {N:Nat} {K:Value→Fs→Prop} {fs:Fs} {w:World} (hf:P.funcs[f]?=some fn) (hb:fn.body=some c) (hN:fn.ntmps=N) (hsz:Nat.ble args.length N=true)
  (hw:St w0 S fs w) (h:CW ⟨P,w0,S,N,[],none⟩ c (inP ⟨P,w0,S,N,[],none⟩ fn (anyO (outV K))) (Env.ofL args 0) fs):CallsS P w0 S f args.toArray w K :=
 vG (qX hf hb hN hsz h hw) fun x w' ⟨fs',⟨fs'',⟨v,hx,hk⟩,hp⟩,hst⟩=>⟨v,fs'',hx,hk,hp.st hst⟩
theorem SubP.refl {α:Type} (l:List α):SubP l l:=⟨l,.refl _,.refl _⟩
def tuc (f:FrV) (fl:Bool):Array Value:=(frc f++[Value.bool fl]).toArray
abbrev tuO (f:FrV) (fl:Bool):Obj:=.cells (tuc f fl) 92 (0,0)
def FrV.setS (f:FrV) (s:Value):FrV:={ f with stk:=s }
section rd
variable {P : Program} {T E : TypeId} {fr : Nat × Nat} {f : FrV} {fl : Bool}
theorem tu_rd0 [AgI P T false]:Rd P T (.cells (tuc f fl) E fr) 0 f.code:=Rd.one rfl
theorem tu_rd2 [AgI P T true] {z:Value} [InfoI P T 2 z]:Rd P T (.cells (tuc f fl) E fr) 2 (.agg #[f.stk,f.mem]):=Rd.mid (cs:=[f.stk,f.mem]) rfl rfl
theorem tu_rd2s [AgI P T false]:Rd P T (.cells (tuc f fl) E fr) 2 f.stk:=Rd.one rfl
theorem tu_rd3 [AgI P T false]:Rd P T (.cells (tuc f fl) E fr) 3 f.mem:=Rd.one rfl
theorem tu_rd7 [AgI P T true] {z:Value} [InfoI P T 4 z]:Rd P T (.cells (tuc f fl) E fr) 7 (wv f.val):=Rd.mid (cs:=(wc f.val).toList) rfl rfl
theorem tu_rd11 [AgI P T false]:Rd P T (.cells (tuc f fl) E fr) 11 f.inp:=Rd.one rfl
theorem tu_rd12 [AgI P T false]:Rd P T (.cells (tuc f fl) E fr) 12 f.back:=Rd.one rfl
theorem tu_rd13 [AgI P T false]:Rd P T (.cells (tuc f fl) E fr) 13 (.bool f.stat):=Rd.one rfl
theorem tu_rdF [AgI P T true] {z:Value} [InfoI P T 14 z]:Rd P T (.cells (tuc f fl) E fr) 0 (frv f):=Rd.mid (cs:=frc f) rfl rfl
theorem tu_wr2 {z:Value} {p:Option Addr} {n c:Nat} [InfoI P T 1 z]:Wr P T (.cells (tuc f fl) E (0,0)) 2 (.slice p n c) (.cells (tuc (f.setS (.slice p n c)) fl) E (0,0)):=qU (n:=1) (z:=z) rfl rfl (by show 2+1≤15;omega) rfl
theorem tu_wr4 {z:Value} {x:Nat} [InfoI P T 1 z]:Wr P T (.cells (tuc f fl) E (0,0)) 4 (.int .u64 (x:Int)) (.cells (tuc (f.setG x) fl) E (0,0)):=qU (n:=1) (z:=z) rfl rfl (by show 4+1≤15;omega) rfl
theorem tu_wr1 {z:Value} {x:Int} [InfoI P T 1 z]:Wr P T (.cells (tuc f fl) E (0,0)) 1 (.int .i64 x) (.cells (tuc (f.setPc x) fl) E (0,0)):=qU (n:=1) (z:=z) rfl rfl (by show 1+1≤15;omega) rfl
theorem tu_wr14 {z:Value} {x:Bool} [InfoI P T 1 z]:Wr P T (.cells (tuc f fl) E (0,0)) 14 (.bool x) (.cells (tuc f x) E (0,0)):=qU (n:=1) (z:=z) rfl rfl (by show 14+1≤15;omega) rfl
end rd
def LayD (b:Nat) (f:FrV) (fl:Bool) (L:FrL) (x:Nat) (rest:Fs) :Value→Fs→Prop:=fun v fs'=>v=.tuple #[]∧∃ s gs',FrO (f.setS s) (L.setW (L.ws++[x])) gs'∧fs'=(b,tuO (f.setS s) fl)::(gs'++rest)
theorem tlay_calls (w0:World) (S:List Nat) (b:Nat) (f:FrV) (fl:Bool) (L:FrL) (gs:Fs) (x:Nat) (rest:Fs) (w:World) (hl:L.ws.length≤100000) (hfr:FrO f L gs) (hs:St w0 S ((b,tuO f fl)::(gs++rest)) w) :
  CallsS prog w0 S 52 #[.pointer (some ⟨b,0,none⟩),wv x] w (LayD b f fl L x rest):=by
 obtain ⟨g1,g2,g3,g4,g5,hp,h1,h2,h3,h4,h5⟩:=hfr
 replace hs:St w0 S ((b,tuO f fl)::(g1++(g2++(g3++(g4++g5)))++rest)) w:=hs.perm (List.Perm.cons _ (hp.append_right rest))
 have h2':=h2
 unfold wM at h2'
 obtain ⟨q,c,hq⟩:=h2'.form
 rw [hq] at h2'
 have hrdS:∀ {E fr},Rd prog 23 (.cells (tuc f fl) E fr) 2 (.slice q L.ws.length c):=fun {E fr}=>by rw [← hq];exact tu_rd2s
 refine enterS (args:=[_,_]) func52 rfl ntmps52 rfl (by assumption) ?_
 (refine goZ ?_;intro _)
 simp only [jR]
 apply CW.pre
 (refine qY [(9,fun v' gs=>IsRow 29 4 v' (L.ws.length+1) (wcs L.ws++(wc x).toList) gs)] 10 mixed (by decide +kernel) ?_)
 (refine tsZ ?_;apply DW.layA;rfl;rfl;rfl;exact zC;exact vF;exact vF;rfl;rfl;rfl;rfl;rfl;intro _)
 rename_i b3 b12
 have hat:∀ w:World,(∀ p∈[(b12,Obj.cells (wc x) 29 (0,0))],w.heap[p.1]?=some p.2)→RowAt w 4 (.slice (some ⟨b12,0,none⟩) 1 1) 1 (wc x).toList:=fun w hu=>row_cells (hu _ jV) rfl rfl (by decide)
 have hone:∀ u∈(wc x).toList,u.oneCell'=true:=fun u hu=>wcs_cells [x] u (by unfold wcs;simpa using hu)
 have hin:∀ (q9:Option Addr) (k9:Nat) (seg9:Fs),IsRow 29 4 (.slice q9 (L.ws.length+1) k9) (L.ws.length+1) (wcs L.ws++(wc x).toList) seg9→FrO (f.setS (.slice q9 (L.ws.length+1) k9)) (L.setW (L.ws++[x])) (g1++(seg9++(g3++(g4++g5)))):=fun q9 k9 seg9 h9=>by
  refine ⟨g1,seg9,g3,g4,g5,.refl _,h1,?_,h3,h4,h5⟩
  unfold wM
  show IsRow _ _ _ (L.ws++[x]).length (wcs (L.ws++[x])) seg9
  rw [yC,wcs_app,show wcs [x]=(wc x).toList by unfold wcs;simp]
  exact h9
 have hcase:(∃ a,q=some a∧c=0)∨(blocksN 4 (.slice q L.ws.length c)=keys g2∧blocksN 1 (.slice q L.ws.length c)=keys g2):=by
  cases q with
  |none=>rw [h2'.none];exact .inr ⟨rfl,rfl⟩
  |some a =>
   by_cases h0:c=0
   ·exact .inl ⟨a,rfl,h0⟩
   ·exact .inr (h2'.some h0)
 rcases hcase with ⟨a,rfl,rfl⟩|hbl
 ·have hn0:L.ws.length=0:=Nat.le_zero.1 (IsRow.le h2')
  have hw0:L.ws=[]:=List.eq_nil_of_length_eq_zero hn0
  rw [hn0] at hin ⊢
  refine DW.appendF (m:=1) (news:=(wc x).toList) rfl rfl rfl (by (exact zC)) rfl vF vF vF rfl rfl rfl (.own (by decide) (by (apply zP;kernel_rfl)) .nil) (fun w hu=>hat w hu) (by decide) (by decide) (by decide) (fun v gs h=>by rw [hw0];exact h) ?_
  intro v9 seg9 h9
  obtain ⟨q9,k9,rfl⟩:=h9.form
  (refine tsZ ?_)
  refine fsZ ?_
  (refine goZ ?_;apply zR;rfl;rfl;apply qF;apply qE;apply qE;apply qA;apply tu_wr2 (z:=.slice none 0 0);refine goZ ?_)
  refine inPI (.inr rfl) .nil rfl .nil rfl ⟨_,⟨_,rfl,rfl,_,_,hin q9 k9 seg9 h9,rfl⟩,?_⟩
  simp only [jR,yA,jQ]
  exact subp_ix [seg9,[_],[_],[_],g1,g2,g3,g4,g5] (xs:=[3,4,0,6,7,8]) (ys:=[0,1,2,3,4,5,6,7,8]) rest rfl
 ·refine DW.appendC (m:=1) (news:=(wc x).toList) rfl rfl rfl (by (exact zC)) rfl vF vF vF rfl rfl rfl h2' hbl (by (apply TOut.cons;apply TOut.cons;apply TOut.cons;apply TOut.app;exact TOut.old)) (by (apply RdV.own;omega;apply zP;kernel_rfl;exact RdV.nil)) (fun w' _ hu=>hat w' hu) hone (by simp only [maxLen];omega) (by omega) ?_
  intro v9 seg9 h9
  obtain ⟨q9,k9,rfl⟩:=h9.form
  (refine tsZ ?_)
  refine fsZ ?_
  (refine goZ ?_;apply zR;rfl;rfl;apply qF;apply qE;apply qE;apply qA;apply tu_wr2 (z:=.slice none 0 0);refine goZ ?_)
  refine inPI (.inr rfl) .nil rfl .nil rfl ⟨_,⟨_,rfl,rfl,_,_,hin q9 k9 seg9 h9,rfl⟩,?_⟩
  simp only [jR,yA,jQ]
  exact subp_ix [seg9,[_],[_],[_],g1,g3,g4,g5] (xs:=[3,4,0,5,6,7]) (ys:=[0,1,2,3,4,5,6,7]) rest rfl
theorem tyes_calls (w0:World) (S:List Nat) (b:Nat) (f:FrV) (fl:Bool) (L:FrL) (gs:Fs) (is:Bool) (rest:Fs) (w:World) (hl:L.ws.length≤100000) (hfr:FrO f L gs) (hs:St w0 S ((b,tuO f fl)::(gs++rest)) w) :
  CallsS prog w0 S 111 #[.pointer (some ⟨b,0,none⟩),.bool is] w (LayD b f fl L (if is then 1 else 0) rest):=by
 refine enterS (args:=[_,_]) func111 rfl ntmps111 rfl (by assumption) ?_
 cases is with
 |true =>
  (refine goZ ?_;refine lvz (.buildW1L rfl (by decide) rfl) ?_)
  refine cSz rfl rfl (fun w' hst=>tlay_calls w0 S b f fl L gs 1 rest w' hl hfr hst) ?_
  exact dTBynT
 |false =>
  (refine goZ ?_;apply qN;rfl;rfl;exact ValP.buildW0)
  refine cSz rfl rfl (fun w' hst=>tlay_calls w0 S b f fl L gs 0 rest w' hl hfr hst) ?_
  exact dTBynT
def SpnD (b:Nat) (f:FrV) (fl:Bool) (c:Nat) (rest:Fs):Value→Fs→Prop:=fun v fs'=>v=.tuple #[]∧((c≤f.gas∧fs'=(b,tuO (f.setG (f.gas - c)) fl)::rest)∨(f.gas < c∧fs'=(b,tuO f true)::rest))
theorem tspend_calls (w0:World) (S:List Nat) (b:Nat) (f:FrV) (fl:Bool) (c:Nat) (rest:Fs) (w:World) (hg:f.gas < 18446744073709551616) (hs:St w0 S ((b,tuO f fl)::rest) w) :
  CallsS prog w0 S 211 #[.pointer (some ⟨b,0,none⟩),.int .u64 (c:Int)] w (SpnD b f fl c rest):=by
 refine enterS (args:=[_,_]) func211 rfl ntmps211 rfl (by assumption) ?_
 rcases jM f.gas c with h|h
 ·(refine goZ ?_;apply zR;rfl;rfl;apply qA;apply tu_wr14 (z:=.bool false);refine goZ ?_)
  exact inPI (.inl rfl) .nil rfl .nil rfl ⟨_,⟨_,rfl,rfl,.inr ⟨h,rfl⟩⟩,.refl _⟩
 ·(refine goZ ?_;refine lvz (.subN rfl rfl (by omega) (by omega)) ?_;refine goZ ?_;apply zR;rfl;rfl;apply qA;apply tu_wr4 (z:=.int .u64 0);refine goZ ?_)
  exact inPI (.inr rfl) .nil rfl .nil rfl ⟨_,⟨_,rfl,rfl,.inl ⟨h,rfl⟩⟩,.refl _⟩
end
section
theorem dTBXUV {P:Prop} (h:P:=by
 refine enterS (args:=[_,_]) func114 rfl ntmps114 rfl (by assumption) ?_
 (refine goZ ?_;intro _)
 (refine CW.quiet rfl mixed (by decide +kernel) ?_;refine goZ ?_)
 (refine goZ ?_;apply zR;rfl;rfl;apply qE;apply qA;apply tu_wr14 (z:=.bool false);refine goZ ?_)
 exact inPI (.inl rfl) .nil rfl .nil rfl ⟨_,⟨_,rfl,rfl,.inr ⟨(fun h9=>by omega),rfl⟩⟩,SubP.cons (SubP.refl _)⟩):P:=h
attribute [local irreducible] SL.inP
namespace CK
attribute [local irreducible] opOf szOf
def hitAt (bs:List UInt8) (p i:Nat):Bool:=decide ((bs.getD (i - p) 0).toNat=91) && (segsAt p bs).any fun s=>decide (s.1=i)
theorem jmps_gen (n:Nat):∀ (bs:List UInt8) (p:Nat),bs.length≤n→jmpOf (segsAt p bs)=(List.range' p bs.length).filter (hitAt bs p):=by
 induction n with
 |zero =>
  intro bs p h
  rw [List.eq_nil_of_length_eq_zero (show bs.length=0 by omega),segsAt_nil];rfl
 |succ n ih =>
  intro bs p h
  cases bs with
  |nil=>rw [segsAt_nil];rfl
  |cons b r =>
   have hr:(r.drop (szOf b.toNat)).length≤n:=by simp at h ⊢;omega
   have IH:=ih (r.drop (szOf b.toNat)) (p+1+szOf b.toNat) hr
   obtain ⟨z,hz⟩:∃ z,szOf b.toNat=z:=⟨_,rfl⟩
   have hge:∀ s∈segsAt (p+1+z) (r.drop z),p+1+z≤s.1:=segsAt_ge _ _ _ (yD _)
   rw [hz] at IH
   have hself:hitAt (b::r) p p=decide (b.toNat=91):=by
    unfold hitAt
    rw [segsAt_cons,List.any_cons,Nat.sub_self]
    simp
   have hlow:∀ i,p < i→i < p+1+z→hitAt (b::r) p i=false:=fun i h1 h2=>by
    unfold hitAt
    rw [segsAt_cons,hz]
    have:((p,b,r.take z)::segsAt (p+1+z) (r.drop z)).any (fun s=>decide (s.1=i))=false:=by
     refine List.any_eq_false.2 fun s hs=>?_
     rcases List.mem_cons.1 hs with rfl|hs
     ·simp;omega
     ·have:=hge s hs;simp;omega
    rw [this,Bool.and_false]
   have hhigh:∀ i,p+1+z≤i→hitAt (b::r) p i=hitAt (r.drop z) (p+1+z) i:=fun i h1=>by
    unfold hitAt
    rw [segsAt_cons,hz,List.any_cons,show decide (p=i)=false from vA (by omega),Bool.false_or]
    congr 3
    obtain ⟨j,rfl⟩:∃ j,i=p+1+z+j:=⟨i - (p+1+z),by omega⟩
    rw [show p+1+z+j - p=(z+j)+1 by omega,show p+1+z+j - (p+1+z)=j by omega,List.getD_cons_succ,jU,jU,List.getElem?_drop]
   have htail:(List.range' (p+1) r.length).filter (hitAt (b::r) p)=(List.range' (p+1+z) (r.drop z).length).filter (hitAt (r.drop z) (p+1+z)):=by
    rcases jM r.length z with h1|h1
    ·rw [List.drop_eq_nil_of_le (by omega)]
     exact List.filter_eq_nil_iff.2 fun i hi=>by
      have:=List.mem_range'_1.1 hi
      rw [hlow i (by omega) (by omega)];decide
    ·rw [yL,show r.length=z+(r.length - z) by omega,← List.range'_append_1,List.filter_append,show z+(r.length - z) - z=r.length - z by omega]
     rw [List.filter_eq_nil_iff.2 fun i hi=>by
      have:=List.mem_range'_1.1 hi
      rw [hlow i (by omega) (by omega)];decide,jQ]
     exact List.filter_congr fun i hi=>hhigh i (List.mem_range'_1.1 hi).1
   rw [segsAt_cons,hz,yK,List.range'_succ,List.filter_cons,hself,htail,← IH]
   by_cases h91:b.toNat=91
   ·rw [jmpOf_hit h91,vE h91,if_pos rfl]
   ·rw [jmpOf_miss h91,vA h91,if_neg (by decide)]
theorem jumps_eq (bs:List UInt8):jumpsL bs=jmpR bs bs.length:=by
 unfold jumpsL jmpR
 rw [jmps_gen _ bs 0 (yD _),List.range_eq_range']
 refine List.filter_congr fun i _=>?_
 unfold hitAt hitB readB
 rw [Nat.sub_zero]
 congr 2
 funext s
 exact decide_eq_decide.2 (by omega)
theorem jump_eq (bs:List UInt8) (h:bs.length≤200) (n:Nat):jumpC bs n=rJumpC bs n:=by
 unfold jumpC rJumpC jumpsC
 rw [if_pos h,jumps_eq]
 have hmem:(jmpR bs bs.length).contains n=(decide (n < bs.length) && hitB bs n):=by
  unfold jmpR
  cases hh:hitB bs n with
  |true =>
   rw [Bool.and_true]
   rcases jM n bs.length with hn|hn
   ·rw [vE hn];exact List.contains_iff_mem.2 (List.mem_filter.2 ⟨List.mem_range.2 hn,hh⟩)
   ·rw [vA (by omega),Bool.eq_false_iff]
    intro hc
    have:=List.mem_range.1 (List.mem_filter.1 (List.contains_iff_mem.1 hc)).1
    omega
  |false =>
   rw [Bool.and_false,Bool.eq_false_iff]
   intro hc
   have:=(List.mem_filter.1 (List.contains_iff_mem.1 hc)).2
   rw [hh] at this;cases this
 rw [hmem]
 rcases jM n bs.length with hn|hn
 ·rw [vE hn,vE (show n < 200 by omega),Bool.true_and,Bool.true_and]
 ·rw [vA (show ¬ n < bs.length by omega),Bool.false_and,Bool.and_false]
end CK
theorem SubP.cons {α:Type} {x:α} {l l':List α} (h:SubP l l'):SubP l (x::l'):=by
 obtain ⟨m,h1,h2⟩:=h
 exact ⟨x::m,.cons _ h1,h2.cons _⟩
def JmpD (b:Nat) (f:FrV) (fl:Bool) (L:FrL) (a:Nat) (rest:Fs):Value→Fs→Prop:=fun v fs'=>v=.tuple #[]∧((a < 18446744073709551616∧CK.jumpC L.cl a=true∧fs'=(b,tuO (f.setPc (a:Int)) fl)::rest)∨(¬ (a < 18446744073709551616∧CK.jumpC L.cl a=true)∧fs'=(b,tuO f true)::rest))
theorem tjump_calls (w0:World) (S:List Nat) (b:Nat) (f:FrV) (fl:Bool) (L:FrL) (gs:Fs) (a:Nat) (rest:Fs) (w:World) (ha:a < M256) (hl:L.cl.length≤200) (hfr:FrO f L gs) (hs:St w0 S ((b,tuO f fl)::(gs++rest)) w) :
  CallsS prog w0 S 114 #[.pointer (some ⟨b,0,none⟩),wv a] w (JmpD b f fl L a (gs++rest)):=by
 have ha':a < 115792089237316195423570985008687907853269984665640564039457584007913129639936:=ha
 obtain ⟨q,c,hq⟩:∃ q c,f.code=.slice q L.cl.length c:=by
  obtain ⟨g1,g2,g3,g4,g5,_,h1,_⟩:=hfr
  unfold bM at h1
  exact h1.form
 have hrdC:∀ {E fr},Rd prog 22 (.cells (tuc f fl) E fr) 0 (.slice q L.cl.length c):=fun {E fr}=>by rw [← hq];exact tu_rd0
 rcases (by omega:a / 18446744073709551616 % 18446744073709551616 > 0∨(a / 18446744073709551616 % 18446744073709551616=0∧a / 340282366920938463463374607431768211456 % 18446744073709551616 > 0)∨(a / 18446744073709551616 % 18446744073709551616=0∧a / 340282366920938463463374607431768211456 % 18446744073709551616=0∧a / 6277101735386680763835789423207666416102355444464034512896 % 18446744073709551616 > 0)∨(a / 18446744073709551616 % 18446744073709551616=0∧a / 340282366920938463463374607431768211456 % 18446744073709551616=0∧a / 6277101735386680763835789423207666416102355444464034512896 % 18446744073709551616=0∧a < 18446744073709551616)) with h|⟨h1,h⟩|⟨h1,h2,h⟩|⟨h1,h2,h3,h⟩
 case inr.inr.inr =>
  have hmod:a % 18446744073709551616=a:=jY h
  have hJ0:∀ (w':World) {fs:Fs},St w0 S fs w'→(∀ p∈gs,p∈fs)→Calls prog 193 #[.slice q L.cl.length c,.int .u64 ((a % 18446744073709551616:Nat):Int)] w' (Ret w' (.bool (CK.jumpC L.cl a))):=fun w' fs hst hsub=>by
   rw [CK.jump_eq _ hl,hmod]
   exact CK.rJump_calls L.cl (by omega) a h _ w' (by rw [← hq];exact (hfr.st hst hsub).c)
  cases hj:CK.jumpC L.cl a with
  |true =>
   have hJ:∀ (w':World) {fs:Fs},St w0 S fs w'→(∀ p∈gs,p∈fs)→Calls prog 193 #[.slice q L.cl.length c,.int .u64 ((a % 18446744073709551616:Nat):Int)] w' (Ret w' (.bool true)):=hj ▸ hJ0
   refine enterS (args:=[_,_]) func114 rfl ntmps114 rfl (by assumption) ?_
   (refine goZ ?_;intro _)
   (refine CW.quiet rfl mixed (by decide +kernel) ?_;refine goZ ?_;apply QW.callE;rfl;apply wantYes;rfl;rfl;(with_reducible rfl);rfl;exact vF;exact .cons rfl (.cons rfl .nil);intro w _;rename_i hst;exact hJ _ hst (fun p hp=>by simp [hp]);refine goZ ?_)
   (refine goZ ?_)
   rw [hmod]
   have h200:a < 200:=by
    unfold CK.jumpC at hj
    simp only [yQ,decide_eq_true_eq] at hj
    exact hj.1
   (refine goZ ?_;apply zR;rfl;rfl;apply qE;apply qA;apply tu_wr1 (z:=.int .i64 0);refine goZ ?_)
   exact inPI (.inr rfl) .nil rfl .nil rfl ⟨_,⟨_,rfl,rfl,.inl ⟨h,hj,rfl⟩⟩,SubP.cons (SubP.refl _)⟩
  |false =>
   have hJ:∀ (w':World) {fs:Fs},St w0 S fs w'→(∀ p∈gs,p∈fs)→Calls prog 193 #[.slice q L.cl.length c,.int .u64 ((a % 18446744073709551616:Nat):Int)] w' (Ret w' (.bool false)):=hj ▸ hJ0
   refine enterS (args:=[_,_]) func114 rfl ntmps114 rfl (by assumption) ?_
   (refine goZ ?_;intro _)
   (refine CW.quiet rfl mixed (by decide +kernel) ?_;refine goZ ?_;apply QW.callE;rfl;apply wantYes;rfl;rfl;(with_reducible rfl);rfl;exact vF;exact .cons rfl (.cons rfl .nil);intro w _;rename_i hst;exact hJ _ hst (fun p hp=>by simp [hp]);refine goZ ?_)
   (refine goZ ?_;apply zR;rfl;rfl;apply qE;apply qA;apply tu_wr14 (z:=.bool false);refine goZ ?_)
   exact inPI (.inl rfl) .nil rfl .nil rfl ⟨_,⟨_,rfl,rfl,.inr ⟨(fun h=>by rw [hj] at h;cases h.2),rfl⟩⟩,SubP.cons (SubP.refl _)⟩
 ·exact dTBXUV
 ·exact dTBXUV
 ·exact dTBXUV
def PutD (b:Nat) (f:FrV) (fl:Bool) (L:FrL) (a:Nat) (l:List UInt8) (rest:Fs):Value→Fs→Prop:=fun v fs'=>v=.tuple #[]∧∃ gs',FrO f (L.setM (layL L.ms a l)) gs'∧fs'=(b,tuO f fl)::(gs'++rest)
theorem layL_step {ms l:List UInt8} {a i:Nat} (hi:i < l.length) (h:a+l.length≤ms.length):(ucs (layL ms a (l.take i))).take ((a+i) * 1)++[.int .u8 ((l.getD i 0).toNat:Int)]++(ucs (layL ms a (l.take i))).drop ((a+i+1) * 1)=ucs (layL ms a (l.take (i+1))):=by
 have h1:(ms.take a).length=a:=by rw [yH];omega
 have h2:(l.take i).length=i:=by rw [yH];omega
 have h3:(l.take (i+1)).length=i+1:=by rw [yH];omega
 have h4:l.take (i+1)=l.take i++[l.getD i 0]:=by rw [List.take_add_one,jO hi,jU,jO hi];rfl
 have e1:(layL ms a (l.take i)).take (a+i)=ms.take a++l.take i:=by
  unfold layL
  rw [List.take_append_of_le_length (by rw [yC];omega),yI (by rw [yC];omega)]
 have e2:(layL ms a (l.take i)).drop (a+i+1)=ms.drop (a+i+1):=by
  unfold layL
  rw [List.drop_append,yC,h1,h2,List.drop_eq_nil_of_le (by rw [yC];omega),jQ,List.drop_drop]
  congr 1
  omega
 rw [ucs_take,ucs_drop,e1,e2]
 unfold layL
 rw [h3,h4,← jR,ucs_app (ms.take a++l.take i++[l.getD i 0]) (ms.drop (a+(i+1))),ucs_app (ms.take a++l.take i) [l.getD i 0]]
 rfl
theorem tput_nil (w0:World) (S:List Nat) (b:Nat) (f:FrV) (fl:Bool) (L:FrL) (gs:Fs) (a:Nat) (q:Option Addr) (cc:Nat) (rest:Fs) (w:World) (ha:a≤100000) (hfr:FrO f L gs) (hs:St w0 S ((b,tuO f fl)::(gs++rest)) w) :
  CallsS prog w0 S 179 #[.pointer (some ⟨b,0,none⟩),.int .i64 (a:Int),.slice q 0 cc] w (PutD b f fl L a [] rest):=by
 refine enterS (args:=[_,_,_]) func179 rfl ntmps179 rfl (by assumption) ?_
 (refine goZ ?_)
 apply CW.rounds 1
 apply RW.step
 (refine goZ ?_)
 exact inPI (.inr rfl) .nil rfl .nil rfl ⟨_,⟨_,rfl,rfl,gs,by rw [layL_nil];exact hfr,rfl⟩,SubP.refl _⟩
theorem tput_calls (w0:World) (S:List Nat) (b:Nat) (f:FrV) (fl:Bool) (L:FrL) (gs:Fs) (a:Nat) (l:List UInt8) (gl off cc:Nat) (cl:Array Value) (rest:Fs) (w:World) (hm:L.ms.length≤1024) (hl:l=[]∨a+l.length≤L.ms.length) (ha:a≤100000) (hfr:FrO f L gs) (hs:St w0 S ((b,tuO f fl)::(gs++rest)) w)
  (hin:(gl,Obj.cells cl 5 (0,0))∈rest) (hcl:(cl.toList.drop off).take (l.length * 1)=ucs l) :
  CallsS prog w0 S 179 #[.pointer (some ⟨b,0,none⟩),.int .i64 (a:Int),.slice (some ⟨gl,off,none⟩) l.length cc] w (PutD b f fl L a l rest):=by
 rcases yB l.length with h0|h0
 ·have hl0:l=[]:=List.eq_nil_of_length_eq_zero h0
  subst hl0
  exact tput_nil w0 S b f fl L gs a _ _ rest w ha hfr hs
 ·have hl':a+l.length≤L.ms.length:=hl.resolve_left (fun h=>by rw [h] at h0;cases h0)
  obtain ⟨g1,g2,g3,g4,g5,hp,h1,h2,h3,h4,h5⟩:=hfr
  replace hs:St w0 S ((b,tuO f fl)::(g1++(g2++(g3++(g4++g5)))++rest)) w:=hs.perm (List.Perm.cons _ (hp.append_right rest))
  have h3':=h3
  unfold bM at h3'
  obtain ⟨q,c,hq⟩:=h3'.form
  rw [hq] at h3'
  obtain ⟨gm,cur0,rfl,rfl,hn9,hm9,hsz9,htk9⟩:=h3'.pos (by omega)
  have hrdM:∀ {E fr},Rd prog 22 (.cells (tuc f fl) E fr) 3 (.slice (some ⟨gm,0,none⟩) L.ms.length c):=fun {E fr}=>by rw [← hq];exact tu_rd3
  refine enterS (args:=[_,_,_]) func179 rfl ntmps179 rfl (by assumption) ?_
  (refine goZ ?_)
  simp only [jR,yA,jQ]
  refine qM (fun x:Nat × Array Value=>([(10,.int .i64 (x.1:Int)),(9,.int .i64 (l.length:Int)),(8,.slice (some ⟨gl,off,none⟩) l.length cc),(1,.int .i64 (a:Int)),(0,.pointer (some ⟨b,0,none⟩))],(b,tuO f fl)::(g1++(g2++((gm,.cells x.2 5 (0,0))::(g4++(g5++rest)))))))
   (fun x=>x.1≤l.length∧x.2.size=c * 1∧x.2.toList.take (L.ms.length * 1)=ucs (layL L.ms a (l.take x.1))) (fun x=>l.length - x.1) (0,cur0) ⟨Nat.zero_le _,hsz9,by rw [List.take_zero,layL_nil];exact htk9⟩ ⟨rfl,rfl,rfl,rfl,rfl,trivial⟩ (jG _) ?_
  rintro ⟨i,cur⟩ ⟨hi,hcs,htk⟩
  dsimp only at hi hcs htk ⊢
  rcases jM i l.length with hil|hil
  ·have hrdL:Rd prog 5 (.cells cl 5 (0,0)) (off+i * 1) (.int .u8 ((l.getD i 0).toNat:Int)):=Rd.elem1 (l:=l) (i:=i) (a:=l.getD i 0) hcl (ucs_one l) (by rw [jU,jO hil];rfl) rfl
   obtain ⟨w1,w2⟩:=wr_take (i:=a+i) (vs:=[Value.int .u8 ((l.getD i 0).toNat:Int)]) htk rfl (by omega) (by omega)
   rw [layL_step hil hl'] at w1
   obtain ⟨u,hu⟩:∃ u:UInt8,l.getD i 0=u:=⟨_,rfl⟩
   rw [hu] at hrdL w1 w2
   have hW:Wr prog 5 (.cells cur 5 (0,0)) (0+(a+i) * 1) (.int .u8 (u.toNat:Int)) (.cells (wrCells cur ((a+i) * 1) [.int .u8 (u.toNat:Int)]) 5 (0,0)):=qU (z:=.int .u8 0) (n:=1) rfl rfl (by rw [hcs];show 0+(a+i) * 1+1≤c * 1;omega) (by rw [jH];rfl)
   (refine goZ ?_;apply LW.load;rfl;rfl;apply Known.own;apply jI;apply jT;apply jT;apply jI;apply jT;apply jT;exact hin;exact hrdL;refine goZ ?_)
   apply thenX
   refine ⟨rfl,(i+1,wrCells cur ((a+i) * 1) [.int .u8 (u.toNat:Int)]),⟨hil,w2.trans hcs,w1⟩,by show l.length - (i+1) < l.length - i;omega,⟨rfl,rfl,rfl,rfl,rfl,trivial⟩,jG _⟩
  ·obtain rfl:i=l.length:=by omega
   rw [List.take_length] at htk
   (refine goZ ?_)
   refine inPI (.inr rfl) .nil rfl .nil rfl ⟨_,⟨_,rfl,rfl,g1++(g2++([(gm,.cells cur 5 (0,0))]++(g4++g5))),⟨g1,g2,_,g4,g5,.refl _,h1,h2,?_,h4,h5⟩,rfl⟩,?_⟩
   ·have hll:(layL L.ms a l).length=L.ms.length:=layL_len hl
    rw [hq]
    show bM (layL L.ms a l) _ _
    unfold bM
    rw [hll]
    exact .own hn9 hm9 hcs htk (by rw [ucs_len,hll,yE])
   ·simp only [jR,yA,jQ]
    exact SubP.refl _
end
end Go.Proofs.YtdeggbkbblfpoaaGreatDoor
namespace Go.Proofs.YtdeggbkbblfpoaaGreatDoor
open Go Go.RowKit SL
open CK (dataC jumpC readB segsAt szOf)
attribute [local irreducible] opOf opX gasB halvesF saysF doesF szOf
namespace CK
theorem segs_byte (n:Nat):∀ (bs:List UInt8) (p:Nat),bs.length≤n→∀ s∈segsAt p bs,bs.getD (s.1 - p) 0=s.2.1∧s.1 < p+bs.length:=by
 induction n with
 |zero =>
  intro bs p h s hs
  rw [List.eq_nil_of_length_eq_zero (show bs.length=0 by omega),segsAt_nil] at hs
  cases hs
 |succ n ih =>
  intro bs p h s hs
  cases bs with
  |nil=>rw [segsAt_nil] at hs;cases hs
  |cons b r =>
   rw [segsAt_cons] at hs
   obtain ⟨z,hz⟩:∃ z,szOf b.toNat=z:=⟨_,rfl⟩
   rw [hz] at hs
   rcases List.mem_cons.1 hs with rfl|hs
   ·rw [Nat.sub_self];simp
   ·have h1:=ih (r.drop z) (p+1+z) (by simp at h ⊢;omega) s hs
    have h2:=segsAt_ge _ _ _ (yD _) s hs
    obtain ⟨j,hj⟩:∃ j,s.1=p+1+z+j:=⟨s.1 - (p+1+z),by omega⟩
    rw [hj,show p+1+z+j - (p+1+z)=j by omega,jU,List.getElem?_drop] at h1
    refine ⟨?_,?_⟩
    ·rw [hj,show p+1+z+j - p=(z+j)+1 by omega,List.getD_cons_succ,jU];exact h1.1
    ·have:=h1.2;rw [yL] at this;rw [yK];omega
theorem readB_mem {bs:List UInt8} {k:Nat} (h:readB bs (k:Int)=true):∃ s∈segsAt 0 bs,s.1=k:=by
 unfold readB at h
 obtain ⟨s,hs,he⟩:=List.any_eq_true.1 h
 have he':(s.1:Int)=(k:Int):=by simpa using he
 exact ⟨s,hs,by omega⟩
theorem mem_readB {bs:List UInt8} {s:Nat × UInt8 × List UInt8} (h:s∈segsAt 0 bs):readB bs (s.1:Int)=true:=by
 unfold readB
 exact List.any_eq_true.2 ⟨s,h,by simp⟩
end CK
theorem seg_next (n:Nat):∀ (bs:List UInt8) (p:Nat),bs.length≤n→∀ s∈segsAt p bs,p+bs.length≤s.1+1+szOf s.2.1.toNat∨∃ s'∈segsAt p bs,s'.1=s.1+1+szOf s.2.1.toNat:=by
 induction n with
 |zero =>
  intro bs p h s hs
  rw [List.eq_nil_of_length_eq_zero (show bs.length=0 by omega),CK.segsAt_nil] at hs
  cases hs
 |succ n ih =>
  intro bs p h s hs
  cases bs with
  |nil=>rw [CK.segsAt_nil] at hs;cases hs
  |cons b r =>
   rw [CK.segsAt_cons] at hs ⊢
   rw [yK] at h ⊢
   rcases List.mem_cons.1 hs with rfl|hs
   ·cases hr:r.drop (szOf b.toNat) with
    |nil =>
     have h1:(r.drop (szOf b.toNat)).length=0:=by rw [hr];rfl
     rw [yL] at h1
     exact .inl (by show p+(r.length+1)≤p+1+szOf b.toNat;omega)
    |cons c r2=>exact .inr ⟨_,jI _ (by rw [CK.segsAt_cons];exact jV ..),rfl⟩
   ·have hl:(r.drop (szOf b.toNat)).length=r.length - szOf b.toNat:=yL ..
    rcases ih _ _ (by omega) s hs with h1|⟨s',h1,h2⟩
    ·rw [hl] at h1
     exact .inl (by omega)
    ·exact .inr ⟨s',jI _ h1,h2⟩
theorem readB_next {bs:List UInt8} {k:Nat} (h:readB bs (k:Int)=true):bs.length≤k+1+szOf (bs.getD k 0).toNat∨readB bs ((k+1+szOf (bs.getD k 0).toNat:Nat):Int)=true:=by
 obtain ⟨s,hs,rfl⟩:=CK.readB_mem h
 have hb:=(CK.segs_byte _ bs 0 (yD _) s hs).1
 rw [Nat.sub_zero] at hb
 rw [hb]
 rcases seg_next _ bs 0 (yD _) s hs with h1|⟨s',h1,h2⟩
 ·exact .inl (by omega)
 ·rw [← h2]
  exact .inr (CK.mem_readB h1)
theorem jumpC_read {bs:List UInt8} {n:Nat} (h:jumpC bs n=true):readB bs (n:Int)=true:=by
 unfold CK.jumpC at h
 rw [yQ] at h
 have h2:n∈CK.jumpsC bs:=by simpa using h.2
 unfold CK.jumpsC at h2
 split at h2
 ·unfold CK.jumpsL CK.jmpOf at h2
  obtain ⟨s,hs,he⟩:=List.mem_filterMap.1 h2
  split at he
  ·cases he
   exact CK.mem_readB hs
  ·cases he
 ·cases h2
structure KeepO (f:FrV) (L:FrL) (op:Nat) (o:SO):Prop where
 pc:o.pc=(L.cl.length:Int)∨readB L.cl o.pc=true
 wsl:o.ws.length≤64
 msl:o.ms.length≤1024∧o.ms.length % 32=0
 gas:o.gas≤f.gas
 ms:L.ms.length≤o.ms.length
 wsn:∀ x∈o.ws,x < M256
 on:o.kind=0→o.gas < f.gas∧(o.pc ≠ f.pc∨op=86∨op=87)
 call:o.kind=1∨o.kind=2→o.op=op∧o.data=[]
 ends : o.kind ≠ 0 → o.kind ≠ 1 → o.kind ≠ 2 → o.kind ≠ 6 ∧ o.words = [] ∧ o.op = 0 ∧ (o.kind = 3 ↔ op = 0)
structure BaseO (f f1:FrV) (L L1:FrL) (op:Nat):Prop where
 gas:f1.gas+gasB op=f.gas
 g20:f.gas≤20000
 pc:f1.pc=(L.cl.length:Int)∨readB L.cl f1.pc=true
 ne:op ≠ 0→f1.pc ≠ f.pc
 cl:L1.cl=L.cl
 ms:L1.ms=L.ms
 ws:∀ x∈L1.ws,x < M256
 ly:L1.ws.length+(opX op).ly≤64
 sc:okSc L.ws.length L.ms.length
 val:f1.val < M256
theorem BaseO.on {f f1:FrV} {L L1:FrL} {op:Nat} (B:BaseO f f1 L L1 op) (hg0:0 < gasB op) (h0:op ≠ 0) {G:Nat} (hG:G≤f1.gas) {ws:List Nat} {ms:List UInt8} (hl:ws.length≤64) (hw:∀ x∈ws,x < M256) (hm:L.ms.length≤ms.length∧ms.length≤1024∧ms.length % 32=0):KeepO f L op (soOn (f1.setG G) ws ms) :=
 { pc:=B.pc,wsl:=hl,msl:=hm.2,gas:=by have:=B.gas;show G≤f.gas;omega,ms:=hm.1,wsn:=hw,on:=fun _=>⟨(by have:=B.gas;show G < f.gas;omega),.inl (B.ne h0)⟩,call:=fun h=>(by rcases h with h|h<;>cases h),ends:=fun h=>absurd rfl h }
theorem BaseO.m0 {f f1:FrV} {L L1:FrL} {op:Nat} (B:BaseO f f1 L L1 op):L.ms.length≤L1.ms.length∧L1.ms.length≤1024∧L1.ms.length % 32=0:=by
 rw [B.ms];exact ⟨Nat.le_refl _,B.sc.2.1,B.sc.2.2⟩
theorem BaseO.push {f f1:FrV} {L L1:FrL} {op:Nat} (B:BaseO f f1 L L1 op) (hg0:0 < gasB op) (h0:op ≠ 0) (hly:1≤(opX op).ly) {G:Nat} (hG:G≤f1.gas) {x:Nat} (hx:x < M256) {ms:List UInt8} (hm:L.ms.length≤ms.length∧ms.length≤1024∧ms.length % 32=0):KeepO f L op (soOn (f1.setG G) (L1.ws++[x]) ms) :=
 B.on hg0 h0 hG (by have:=B.ly;simp only [yC,List.length_singleton];omega) (fun y hy=>by
  rcases List.mem_append.1 hy with hy|hy
  ·exact B.ws y hy
  ·rw [List.mem_singleton.1 hy];exact hx) hm
theorem BaseO.l64 {f f1:FrV} {L L1:FrL} {op:Nat} (B:BaseO f f1 L L1 op):L1.ws.length≤64:=by have:=B.ly;omega
theorem rea_some {f f1 g:FrV} {L L1:FrL} {op a n:Nat} {ms:List UInt8} (B:BaseO f f1 L L1 op) (h:reaV f1 L1 a n=some (g,ms)):(∃ G,g=f1.setG G∧G≤f1.gas)∧(L.ms.length≤ms.length∧ms.length≤1024∧ms.length % 32=0)∧(0 < n→a+n≤ms.length):=by
 unfold reaV at h
 split at h
 ·rename_i hc
  cases h
  have hsc:okSc L1.ws.length L1.ms.length:=⟨B.l64,by rw [B.ms];exact B.sc.2.1,by rw [B.ms];exact B.sc.2.2⟩
  obtain ⟨h1,h2⟩:=reach_in (by have:=B.gas;have:=B.g20;omega) hsc hc
  refine ⟨⟨_,rfl,Nat.sub_le _ _⟩,⟨?_,h1.2.1,h1.2.2⟩,h2⟩
  unfold memR FrL.setM
  rw [← B.ms]
  simp
 ·cases h
theorem spn_some {f g:FrV} {c:Nat} (h:spnV f c=some g):∃ G,g=f.setG G∧G≤f.gas:=by
 unfold spnV at h
 split at h
 ·cases h
  exact ⟨_,rfl,Nat.sub_le _ _⟩
 ·cases h
theorem layOk {L:FrL} {ms l:List UInt8} {a n:Nat} (hm:L.ms.length≤ms.length∧ms.length≤1024∧ms.length % 32=0) (hn:0 < n→a+n≤ms.length) (hl:l.length=n):L.ms.length≤(layL ms a l).length∧(layL ms a l).length≤1024∧(layL ms a l).length % 32=0:=by
 rw [layL_len (by
  rcases yB n with h|h
  ·exact .inl (List.eq_nil_of_length_eq_zero (by omega))
  ·exact .inr (by rw [hl];exact hn h))]
 exact hm
theorem bev_w {l:List UInt8} (h:l.length≤32):bev l < M256:=by
 refine Nat.lt_of_lt_of_le (bev_lt l) ?_
 exact yU (by decide) (show 8 * l.length≤256 by omega)
theorem copy_keep {f f1:FrV} {L L1:FrL} {op a t n:Nat} {b:List UInt8} {o:SO} (B:BaseO f f1 L L1 op) (hg0:0 < gasB op) (h0:op ≠ 0) (h:copyV f1 L1 b a t n=some o):KeepO f L op o:=by
 unfold copyV at h
 cases hr:reaV f1 L1 a n with
 |none=>rw [hr] at h;cases h
 |some p =>
  obtain ⟨f2,ms⟩:=p
  rw [hr] at h
  replace h:(spnV f2 (timesV ((n+31) / 32) 3)).bind (fun f3=>some (soOn f3 L1.ws (layL ms a (winL b t n))))=some o:=h
  obtain ⟨⟨G,rfl,hG⟩,hm,hn⟩:=rea_some B hr
  cases hs:spnV (f1.setG G) (timesV ((n+31) / 32) 3) with
  |none=>rw [hs] at h;cases h
  |some f3 =>
   rw [hs] at h
   cases h
   obtain ⟨G2,rfl,hG2⟩:=spn_some hs
   exact B.on (G:=G2) hg0 h0 (Nat.le_trans hG2 hG) B.l64 B.ws (layOk hm hn (winL_len _ _ _))
theorem hash_keep {f f1:FrV} {L L1:FrL} {op a n:Nat} {o:SO} (B:BaseO f f1 L L1 op) (hg0:0 < gasB op) (h0:op ≠ 0) (hly:1≤(opX op).ly) (h:hashV f1 L1 a n=some o):KeepO f L op o:=by
 unfold hashV at h
 cases hr:reaV f1 L1 a n with
 |none=>rw [hr] at h;cases h
 |some p =>
  obtain ⟨f2,ms⟩:=p
  rw [hr] at h
  replace h:(spnV f2 (timesV ((n+31) / 32) 6)).bind (fun f3=>some (soOn f3 (L1.ws++[digW ((ms.drop a).take n)]) ms))=some o:=h
  obtain ⟨⟨G,rfl,hG⟩,hm,hn⟩:=rea_some B hr
  cases hs:spnV (f1.setG G) (timesV ((n+31) / 32) 6) with
  |none=>rw [hs] at h;cases h
  |some f3 =>
   rw [hs] at h
   cases h
   obtain ⟨G2,rfl,hG2⟩:=spn_some hs
   exact B.push (G:=G2) hg0 h0 hly (Nat.le_trans hG2 hG) (digW_lt _) hm
theorem load_keep {f f1:FrV} {L L1:FrL} {op a:Nat} {o:SO} (B:BaseO f f1 L L1 op) (hg0:0 < gasB op) (h0:op ≠ 0) (hly:1≤(opX op).ly) (h:loadV14 f1 L1 a=some o):KeepO f L op o:=by
 unfold loadV14 at h
 cases hr:reaV f1 L1 a 32 with
 |none=>rw [hr] at h;cases h
 |some p =>
  obtain ⟨f2,ms⟩:=p
  rw [hr] at h
  cases h
  obtain ⟨⟨G,rfl,hG⟩,hm,hn⟩:=rea_some B hr
  exact B.push hg0 h0 hly hG (bev_w (List.length_take_le ..)) hm
theorem store_keep {f f1:FrV} {L L1:FrL} {op a n:Nat} {l:List UInt8} {o:SO} (B:BaseO f f1 L L1 op) (hg0:0 < gasB op) (h0:op ≠ 0) (hl:l.length=n) (h:storeV f1 L1 a n l=some o):KeepO f L op o:=by
 unfold storeV at h
 cases hr:reaV f1 L1 a n with
 |none=>rw [hr] at h;cases h
 |some p =>
  obtain ⟨f2,ms⟩:=p
  rw [hr] at h
  cases h
  obtain ⟨⟨G,rfl,hG⟩,hm,hn⟩:=rea_some B hr
  exact B.on hg0 h0 hG B.l64 B.ws (layOk hm hn hl)
theorem ends_keep {f f1:FrV} {L L1:FrL} {op a n:Nat} {o:SO} (B:BaseO f f1 L L1 op) (h0:op ≠ 0) (h:endsV op f1 L1 a n=some o):KeepO f L op o:=by
 unfold endsV at h
 cases hr:reaV f1 L1 a n with
 |none=>rw [hr] at h;cases h
 |some p =>
  obtain ⟨f2,ms⟩:=p
  rw [hr] at h
  cases h
  obtain ⟨⟨G,rfl,hG⟩,hm,hn⟩:=rea_some B hr
  have hg:=B.gas
  refine { pc:=B.pc,wsl:=B.l64,msl:=hm.2,gas:=by show G≤f.gas;omega,ms:=hm.1,wsn:=B.ws,on:=?_,call:=?_,ends:=?_ }
  ·intro h;dsimp only at h;split at h<;>cases h
  ·intro h;dsimp only at h;split at h<;>rcases h with h|h<;>cases h
  ·intro _ _ _
   dsimp only
   split
   ·exact ⟨by decide,rfl,rfl,⟨fun h=>(by cases h),fun h=>absurd h h0⟩⟩
   ·exact ⟨by decide,rfl,rfl,⟨fun h=>(by cases h),fun h=>absurd h h0⟩⟩
theorem jump_keep {f f1:FrV} {L L1:FrL} {op a:Nat} {o:SO} (B:BaseO f f1 L L1 op) (hg0:0 < gasB op) (h0:op=86∨op=87) (h:jumpV f1 L1 a=some o):KeepO f L op o:=by
 unfold jumpV at h
 split at h
 ·rename_i hj
  cases h
  have hg:=B.gas
  have hm:=B.m0
  exact { pc:=.inr (by rw [← B.cl];exact jumpC_read hj.2),wsl:=B.l64,msl:=hm.2,gas:=by show f1.gas≤f.gas;omega,ms:=hm.1,wsn:=B.ws,on:=fun _=>⟨by show f1.gas < f.gas;omega,.inr h0⟩,call:=fun h=>(by rcases h with h|h<;>cases h),ends:=fun h=>absurd rfl h }
 ·cases h
theorem ask_keep {f f1:FrV} {L L1:FrL} {op:Nat} {k:Int} {l:List Nat} (B:BaseO f f1 L L1 op) (hk:k=1∨k=2):KeepO f L op ⟨k,op,f1.gas,f1.pc,L1.ws,L1.ms,l,[]⟩:=by
 have hg:=B.gas
 have hm:=B.m0
 exact { pc:=B.pc,wsl:=B.l64,msl:=hm.2,gas:=by show f1.gas≤f.gas;omega,ms:=hm.1,wsn:=B.ws,on:=fun h=>(by rcases hk with rfl|rfl<;>cases h),call:=fun _=>⟨rfl,rfl⟩,ends:=fun _ h1 h2=>by rcases hk with h|h;exact absurd h h1;exact absurd h h2 }
theorem gas_no (op:Nat) (h:op < 256):0 < gasB op∨op=49∨op=84∨op=85∨op=241∨op=244∨op=250∨op=245∨op=0∨op=243∨op=253∨op=254:=by
 have h1:((List.range 256).all fun op=>decide (0 < gasB op∨op=49∨op=84∨op=85∨op=241∨op=244∨op=250∨op=245∨op=0∨op=243∨op=253∨op=254))=true:=by kernel_rfl
 exact of_decide_eq_true (List.all_eq_true.1 h1 op (List.mem_range.2 h))
theorem lays_one (op:Nat) (h:op < 256):((halvesF op).isSome=true→1≤(opX op).ly∧0 < gasB op)∧((saysF op).isSome=true→1≤(opX op).ly∧0 < gasB op):=by
 have h1:((List.range 256).all fun op=>(!(halvesF op).isSome ||(Nat.ble 1 (opX op).ly && Nat.blt 0 (gasB op))) && (!(saysF op).isSome ||(Nat.ble 1 (opX op).ly && Nat.blt 0 (gasB op))))=true:=by kernel_rfl
 have h2:=List.all_eq_true.1 h1 op (List.mem_range.2 h)
 simp only [yQ,Bool.or_eq_true,Bool.not_eq_true',Nat.ble_eq,Nat.blt_eq] at h2
 refine ⟨fun h=>?_,fun h=>?_⟩
 ·rcases h2.1 with h3|h3
  ·rw [h] at h3;cases h3
  ·exact h3
 ·rcases h2.2 with h3|h3
  ·rw [h] at h3;cases h3
  ·exact h3
theorem lays_do:((((1≤(opX 21).ly∧1≤(opX 25).ly)∧1≤(opX 52).ly)∧1≤(opX 53).ly)∧1≤(opX 81).ly)∧1≤(opX 32).ly :=
 ⟨⟨⟨⟨⟨Nat.le_of_ble_eq_true (by kernel_rfl),yP (by kernel_rfl)⟩,yP (by kernel_rfl)⟩,yP (by kernel_rfl)⟩,yP (by kernel_rfl)⟩,yP (by kernel_rfl)⟩
theorem notV_lt (a:Nat):M256 - 1 - a < M256:=by
 have:0 < M256:=by decide
 omega
theorem do_keep {f f1:FrV} {L L1:FrL} {op:Nat} {l:List Nat} {o:SO} (B:BaseO f f1 L L1 op) (hlt:op < 256) (hlast:op ≠ 254) (h:doV op f1 L1 l=some o):KeepO f L op o:=by
 have hg:=gas_no op hlt
 obtain ⟨⟨⟨⟨⟨y1,y2⟩,y3⟩,y4⟩,y5⟩,y6⟩:=lays_do
 have gp:∀ {n:Nat},op=n→n ≠ 49→n ≠ 84→n ≠ 85→n ≠ 241→n ≠ 244→n ≠ 250→n ≠ 245→n ≠ 0→n ≠ 243→n ≠ 253→n ≠ 254→0 < gasB op:=by
  rintro n rfl
  omega
 unfold doV at h
 dsimp only at h
 by_cases e0:op=21
 ·rw [if_pos e0] at h
  cases h
  exact B.push (G:=f1.gas) (gp e0 (by decide) (by decide) (by decide) (by decide) (by decide) (by decide) (by decide) (by decide) (by decide) (by decide) (by decide)) (by omega) (by rw [e0];exact y1) (yD _) (by split<;>decide) B.m0
 rw [if_neg e0] at h
 by_cases e1:op=25
 ·rw [if_pos e1] at h
  cases h
  exact B.push (G:=f1.gas) (gp e1 (by decide) (by decide) (by decide) (by decide) (by decide) (by decide) (by decide) (by decide) (by decide) (by decide) (by decide)) (by omega) (by rw [e1];exact y2) (yD _) (notV_lt _) B.m0
 rw [if_neg e1] at h
 by_cases e2:op=52
 ·rw [if_pos e2] at h
  cases h
  exact B.push (G:=f1.gas) (gp e2 (by decide) (by decide) (by decide) (by decide) (by decide) (by decide) (by decide) (by decide) (by decide) (by decide) (by decide)) (by omega) (by rw [e2];exact y3) (yD _) B.val B.m0
 rw [if_neg e2] at h
 by_cases e3:op=53
 ·rw [if_pos e3] at h
  cases h
  exact B.push (G:=f1.gas) (gp e3 (by decide) (by decide) (by decide) (by decide) (by decide) (by decide) (by decide) (by decide) (by decide) (by decide) (by decide)) (by omega) (by rw [e3];exact y4) (yD _) (bev_w (by rw [winL_len];exact yD _)) B.m0
 rw [if_neg e3] at h
 by_cases e4:op=55
 ·rw [if_pos e4] at h
  exact copy_keep B (gp e4 (by decide) (by decide) (by decide) (by decide) (by decide) (by decide) (by decide) (by decide) (by decide) (by decide) (by decide)) (by omega) h
 rw [if_neg e4] at h
 by_cases e5:op=62
 ·rw [if_pos e5] at h
  split at h
  ·exact copy_keep B (gp e5 (by decide) (by decide) (by decide) (by decide) (by decide) (by decide) (by decide) (by decide) (by decide) (by decide) (by decide)) (by omega) h
  ·cases h
 rw [if_neg e5] at h
 by_cases e6:op=81
 ·rw [if_pos e6] at h
  exact load_keep B (gp e6 (by decide) (by decide) (by decide) (by decide) (by decide) (by decide) (by decide) (by decide) (by decide) (by decide) (by decide)) (by omega) (by rw [e6];exact y5) h
 rw [if_neg e6] at h
 by_cases e7:op=82
 ·rw [if_pos e7] at h
  exact store_keep B (gp e7 (by decide) (by decide) (by decide) (by decide) (by decide) (by decide) (by decide) (by decide) (by decide) (by decide) (by decide)) (by omega) (beb_len _ _) h
 rw [if_neg e7] at h
 by_cases e8:op=83
 ·rw [if_pos e8] at h
  exact store_keep B (gp e8 (by decide) (by decide) (by decide) (by decide) (by decide) (by decide) (by decide) (by decide) (by decide) (by decide) (by decide)) (by omega) (by rw [yL,beb_len]) h
 rw [if_neg e8] at h
 by_cases e9:op=32
 ·rw [if_pos e9] at h
  exact hash_keep B (gp e9 (by decide) (by decide) (by decide) (by decide) (by decide) (by decide) (by decide) (by decide) (by decide) (by decide) (by decide)) (by omega) (by rw [e9];exact y6) h
 rw [if_neg e9] at h
 by_cases e10:op=86
 ·rw [if_pos e10] at h
  exact jump_keep B (gp e10 (by decide) (by decide) (by decide) (by decide) (by decide) (by decide) (by decide) (by decide) (by decide) (by decide) (by decide)) (.inl e10) h
 rw [if_neg e10] at h
 by_cases e11:op=87
 ·rw [if_pos e11] at h
  split at h
  ·cases h
   exact B.on (G:=f1.gas) (gp e11 (by decide) (by decide) (by decide) (by decide) (by decide) (by decide) (by decide) (by decide) (by decide) (by decide) (by decide)) (by omega) (yD _) B.l64 B.ws B.m0
  ·exact jump_keep B (gp e11 (by decide) (by decide) (by decide) (by decide) (by decide) (by decide) (by decide) (by decide) (by decide) (by decide) (by decide)) (.inr e11) h
 rw [if_neg e11] at h
 by_cases e12:op=49∨op=71∨op=84∨op=92
 ·rw [if_pos e12] at h
  cases h
  exact ask_keep B (.inl rfl)
 rw [if_neg e12] at h
 by_cases e13:op=85∨op=93
 ·rw [if_pos e13] at h
  split at h
  ·cases h
  ·cases h
   exact ask_keep B (.inl rfl)
 rw [if_neg e13] at h
 by_cases e14:op=241∨op=244∨op=250∨op=245
 ·rw [if_pos e14] at h
  unfold callV14 at h
  split at h
  ·cases h
  ·cases h
   exact ask_keep B (.inr rfl)
 rw [if_neg e14] at h
 by_cases e15:op=0
 ·rw [if_pos e15] at h
  cases h
  have hm:=B.m0
  have hg:=B.gas
  exact { pc:=B.pc,wsl:=B.l64,msl:=hm.2,gas:=by show f1.gas≤f.gas;omega,ms:=hm.1,wsn:=B.ws,on:=fun h=>(by cases h),call:=fun h=>(by rcases h with h|h<;>cases h),ends:=fun _ _ _=>⟨by show (3:Int) ≠ 6;decide,rfl,rfl,⟨fun _=>e15,fun _=>rfl⟩⟩ }
 rw [if_neg e15] at h
 by_cases e16:op=243∨op=253
 ·rw [if_pos e16] at h
  exact ends_keep B (by omega) h
 ·rw [if_neg e16] at h
  cases h
  exact B.on (G:=f1.gas) (by omega) (by omega) (yD _) B.l64 B.ws B.m0
theorem getD_in {ws:List Nat} (h:∀ x∈ws,x < M256) (i:Nat):ws.getD i 0 < M256:=by
 rw [jU]
 cases hi:ws[i]? with
 |none=>exact (by decide:0 < M256)
 |some x=>exact h x (List.mem_of_getElem? hi)
theorem mem_set {ws:List Nat} (h:∀ x∈ws,x < M256) {i y:Nat} (hy:y < M256):∀ x∈ws.set i y,x < M256:=fun x hx=>by
 rcases List.mem_or_eq_of_mem_set hx with h1|rfl
 ·exact h x h1
 ·exact hy
theorem stepV_keep {f:FrV} {L:FrL} {e0 e1 e2 e3:Nat} {o:SO} (he0:e0 < 18446744073709551616) (he1:e1 < 18446744073709551616) (he2:e2 < 18446744073709551616) (he3:e3 < 18446744073709551616) (hF:okF f L) (hn:FrNum f L) (h:stepV f L e0 e1 e2 e3=some o):KeepO f L (opF f L) o:=by
 have hlt:=opF_lt f L
 obtain ⟨⟨hil,hbl,hgas⟩,hself,hcl,hsc,hpc⟩:=hF
 have hop0:opF f L=if f.pc=(L.cl.length:Int) then 0 else (L.cl.getD f.pc.toNat 0).toNat:=rfl
 unfold stepV at h
 dsimp only at h
 obtain ⟨op,hop⟩:∃ op,opF f L=op:=⟨_,rfl⟩
 rw [hop] at hlt h hop0 ⊢
 have hz:szOf 0=0:=by kernel_rfl
 have hP:∃ P:Nat,min (f.pc.toNat+1+(opX op).dt) L.cl.length=P∧(((P:Nat):Int)=(L.cl.length:Int)∨readB L.cl (P:Int)=true)∧(op ≠ 0→((P:Nat):Int) ≠ f.pc):=by
  refine ⟨_,rfl,?_,?_⟩
  ·rw [opX_dt]
   by_cases hc:f.pc=(L.cl.length:Int)
   ·left;rw [hc];show ((min (L.cl.length+1+szOf op) L.cl.length:Nat):Int)=_;omega
   ·rw [if_neg hc] at hop0
    have hr:=hpc.resolve_left hc
    obtain ⟨r1,r2⟩:=CK.readB_range hr
    obtain ⟨k,hk⟩:∃ k:Nat,f.pc=(k:Int):=⟨f.pc.toNat,by omega⟩
    rw [hk] at hr hop0 ⊢
    rw [yY] at hop0 ⊢
    rcases readB_next hr with h1|h1
    ·rw [← hop0] at h1;left;omega
    ·rw [← hop0] at h1
     have:=(CK.readB_range h1).2
     right
     rw [show min (k+1+szOf op) L.cl.length=k+1+szOf op by omega]
     exact h1
  ·intro h0
   by_cases hc:f.pc=(L.cl.length:Int)
   ·rw [if_pos hc] at hop0;exact absurd hop0 h0
   ·obtain ⟨r1,r2⟩:=CK.readB_range (hpc.resolve_left hc)
    omega
 obtain ⟨P,hPe,hP1,hP2⟩:=hP
 rw [hPe] at h
 split at h
 ·cases h
 rename_i hno
 split at h
 ·cases h
 rename_i hgb
 split at h
 ·cases h
 rename_i htk
 have hlay:L.ws.length - (opX op).tk+(opX op).ly≤64:=by omega
 have htk2:(opX op).tk≤L.ws.length:=by omega
 obtain ⟨⟨hr1,hr2⟩,hr3⟩:=opX_rows _ hlt
 have hgno:=gas_no op hlt
 have hg0:gasB op≤f.gas:=by omega
 have base:∀ M:FrL,M.cl=L.cl→M.ms=L.ms→(∀ x∈M.ws,x < M256)→M.ws.length+(opX op).ly≤64→BaseO f { f with gas:=f.gas - gasB op,pc:=(P:Int) } L M op:=fun M m1 m2 m3 m4 =>
  ⟨by show f.gas - gasB op+gasB op=f.gas;omega,hgas,hP1,hP2,m1,m2,m3,m4,hsc,hn.val⟩
 have hm0:L.ms.length≤L.ms.length∧L.ms.length≤1024∧L.ms.length % 32=0:=⟨Nat.le_refl _,hsc.2.1,hsc.2.2⟩
 have pw:∀ x,x < M256→∀ y∈L.ws++[x],y < M256:=fun x hx y hy=>by
  rcases List.mem_append.1 hy with hy|hy
  ·exact hn.ws y hy
  ·rw [List.mem_singleton.1 hy];exact hx
 have B0:=base (L.setW []) rfl rfl (fun x hx=>by cases hx) (by show 0+_≤64;omega)
 split at h
 ·rename_i c
  cases h
  obtain ⟨a1,a2⟩:=hr1 c
  exact B0.on (G:=f.gas - gasB op) (by omega) (by omega) (yD _) (by rw [yC,List.length_singleton];omega) (pw _ (bev_w (dataC_len _ _))) hm0
 split at h
 ·rename_i c
  cases h
  obtain ⟨a1,a2⟩:=hr2 c
  exact B0.on (G:=f.gas - gasB op) (by omega) (by omega) (yD _) (by rw [yC,List.length_singleton];omega) (pw _ (getD_in hn.ws _)) hm0
 split at h
 ·rename_i c
  cases h
  refine B0.on (G:=f.gas - gasB op) (by omega) (by omega) (yD _) (by unfold swapL;rw [List.length_set,List.length_set];exact hsc.1) ?_ hm0
  unfold swapL
  exact mem_set (mem_set hn.ws (getD_in hn.ws _)) (getD_in hn.ws _)
 have hl:∀ x∈(L.ws.drop (L.ws.length - (opX op).tk)).reverse,x < M256:=fun x hx=>hn.ws x (List.mem_of_mem_drop (List.mem_reverse.1 hx))
 have B:=base (L.setW (L.ws.take (L.ws.length - (opX op).tk))) rfl rfl (fun x hx=>hn.ws x (List.mem_of_mem_take hx)) (by show (L.ws.take _).length+_≤64;rw [yH];omega)
 obtain ⟨hh,hsy⟩:=lays_one op hlt
 split at h
 ·rename_i c
  cases h
  obtain ⟨a1,a2⟩:=hh c
  exact B.push (G:=f.gas - gasB op) a2 (by rintro rfl;revert a2;exact fun h=>absurd h (Nat.not_lt.2 (yP (show Nat.ble (gasB 0) 0=true by kernel_rfl)))) a1 (yD _) (halfV_lt _ _ _ (getD_in hl _) (getD_in hl _)) hm0
 split at h
 ·rename_i c
  cases h
  obtain ⟨a1,a2⟩:=hsy c
  refine B.push (G:=f.gas - gasB op) a2 (by rintro rfl;revert a2;exact fun h=>absurd h (Nat.not_lt.2 (yP (show Nat.ble (gasB 0) 0=true by kernel_rfl)))) a1 (yD _) ?_ hm0
  have hM:18446744073709551616 < M256:=by decide
  have:=hn.self
  have:=hn.frm
  unfold sayV
  dsimp only
  split
  ·omega
  split
  ·omega
  split
  ·omega
  split
  ·omega
  split
  ·omega
  split
  ·omega
  split
  ·show L.il.length < M256;omega
  split
  ·show L.bl.length < M256;omega
  ·omega
 ·exact do_keep B hlt (by omega) h
end Go.Proofs.YtdeggbkbblfpoaaGreatDoor
namespace Go.Proofs.YtdeggbkbblfpoaaGreatDoor
open Go Go.RowKit SL
set_option maxRecDepth 8000
set_option maxHeartbeats 4000000
set_option linter.unusedSimpArgs false
set_option linter.unusedVariables false
attribute [local irreducible] SL.CW SL.LW SL.DW Calls SL.Ret SL.RetG SL.beginQ SL.roundQ SL.rangeQ SL.inQ SL.RW SL.AnyW SL.thenQ SL.thenC SL.thenW SL.blkQ SL.finQ SL.ValP SL.NewP SL.SetP SL.CallP SL.Rd SL.Wr SL.Known

section
theorem dQBScc {P Q:Prop} (k:Q) (h:BoxZ Q→P:=by
 intro kQ
 (refine goZ ?_;refine lvz (.addBL rfl rfl (by decide)) ?_;refine goZ ?_)
 apply thenX
 exact kQ.k):P:=h ⟨k⟩
attribute [local irreducible] SL.inP
theorem ucs_ints (l:List UInt8):∀ u∈ucs l,∃ m:Nat,u=.int .u8 (m:Int):=fun u hu=>by
 rw [ucs_map] at hu
 obtain ⟨x,_,rfl⟩:=List.mem_map.1 hu
 exact ⟨x.toNat,rfl⟩
theorem wcs_ints (l:List Nat):∀ u∈wcs l,∃ m:Nat,u=.int .u64 (m:Int):=fun u hu=>by
 obtain ⟨x,_,hx⟩:=List.mem_flatMap.1 hu
 simp only [wc,List.mem_cons,List.not_mem_nil,or_false] at hx
 rcases hx with h|h|h|h<;>exact ⟨_,h⟩
theorem ints_set {xs:List Value} {kd:IntKind} {k j:Nat} {v:Value} (h:∀ u∈xs,∃ m:Nat,u=.int kd (m:Int)) (hj:k≤j) (hv:∃ m:Nat,v=.int kd (m:Int)):∀ u∈xs.take k++[v]++xs.drop j,∃ m:Nat,u=.int kd (m:Int):=fun u hu=>by
 simp only [List.mem_append,List.mem_singleton] at hu
 rcases hu with (hu|rfl)|hu
 ·exact h u (List.mem_of_mem_take hu)
 ·exact hv
 ·exact h u (List.mem_of_mem_drop hu)
def SpW (v:Value) (n:Nat) (seg:Fs):Prop:=n=0∨∃ g cur c,v=.slice (some ⟨g,0,none⟩) n c∧seg=[(g,.cells cur 29 (0,0))]∧n≤maxLen∧n * 4≤cur.size∧∀ i,i < n * 4→∃ m:Nat,cur[i]?=some (.int .u64 (m:Int))
theorem cur_ints {cur:Array Value} {l:List Nat} {n:Nat} (h:cur.toList.take n=wcs l) {i:Nat} (hi:i < n) (hn:n≤cur.size):∃ m:Nat,cur[i]?=some (.int .u64 (m:Int)):=by
 have h1:cur.toList[i]?=(wcs l)[i]?:=by rw [← h,List.getElem?_take,if_pos hi]
 have h2:cur.toList[i]?=some (cur[i]'(by omega)):=by rw [Array.getElem?_toList,Array.getElem?_eq_getElem (by omega)]
 rw [h2] at h1
 obtain ⟨m,hm⟩:=wcs_ints l _ (List.mem_of_getElem? h1.symm)
 exact ⟨m,by rw [Array.getElem?_eq_getElem (by omega),hm]⟩
theorem wP.sp {l:List Nat} {v:Value} {gs:Fs} (h:wP l v gs):SpW v l.length gs:=by
 rcases h with h|⟨g,cur,rfl,rfl,hsz,htk,hm⟩
 ·unfold wM at h
  rcases yB l.length with h0|h0
  ·exact .inl h0
  ·obtain ⟨p,c,rfl⟩:=id h.form
   obtain ⟨g,cur,rfl,rfl,hn,hm,hsz,htk⟩:=h.pos h0
   exact .inr ⟨g,cur,_,rfl,rfl,by omega,by omega,fun i hi=>cur_ints htk hi (by omega)⟩
 ·exact .inr ⟨g,cur,_,rfl,rfl,hm,hsz,fun i hi=>cur_ints htk hi hsz⟩
theorem spoil_calls (w0:World) (S:List Nat) (f:FrV) (L:FrL) (gs rest:Fs) (hf:FrP f L gs) (w:World) (hs:St w0 S (gs++rest) w) :
  Calls prog 15 #[frv f,.agg (aska 0 0 (.slice none 0 0) (.slice none 0 0))] w (fun x w'=>∃ fs',(x=.returned (.tuple #[])∧fs'=rest)∧St w0 S fs' w'):=by
 obtain ⟨g1,g2,g3,g4,g5,hp,r1,r2,r3,r4,r5⟩:=hf
 obtain ⟨code,pc,stk,mem,gas,self,frm,val,inp,back,stat⟩:=f
 unfold bM at r1 r3 r4 r5
 dsimp only at r1 r2 r3 r4 r5
 obtain ⟨q1,k1,rfl⟩:=r1.form
 obtain ⟨q2,k2,rfl⟩:=r2.form
 obtain ⟨q3,k3,rfl⟩:=r3.form
 obtain ⟨q4,k4,rfl⟩:=r4.form
 obtain ⟨q5,k5,rfl⟩:=r5.form
 replace r2:=r2.sp
 replace hs:St w0 S (g1++(g4++(g5++(g3++(g2++rest))))) w:=by
  refine SubP.st ?_ (hs.perm (hp.append_right _))
  simp only [jR]
  exact subp_ix [g1,g2,g3,g4,g5] (xs:=[0,3,4,2,1]) (ys:=[0,1,2,3,4]) rest rfl
 refine calls_anyO (qX (K:=anyO fun x fs'=>x=.returned (.tuple #[])∧fs'=rest) (args:=[_,_]) func15 rfl ntmps15 rfl ?_ hs)
 (refine goZ ?_;intro _ _)
 rename_i b2 b3
 refine LW.n0 rfl rfl (NewP.buildSN (vs:=[(0,.slice q1 L.cl.length k1),(1,.slice q4 L.il.length k4),(2,.slice q5 L.bl.length k5),(3,.slice q3 L.ms.length k3),(4,.slice none 0 0)]) (c:=#[.slice q1 L.cl.length k1,.slice q4 L.il.length k4,.slice q5 L.bl.length k5,.slice q3 L.ms.length k3,.slice none 0 0]) vF vF (by (apply zA;rfl;apply zA;rfl;apply zA;rfl;apply zA;rfl;apply zA;rfl;exact zB)) rfl rfl (by kernel_rfl) (by kernel_rfl)) fun b19=>?_
 simp only [Sh.val]
 (refine goZ ?_)
 apply CW.rounds 6
 apply RW.step
 (refine goZ ?_)
 refine qM (fun x:Nat × Fs=>([(27,.int .i64 (x.1:Int)),(26,.int .i64 (L.cl.length:Int)),(5,.slice q1 L.cl.length k1),(21,.int .i64 ((0:Nat):Int)),(19,.slice (some ⟨b19,0,none⟩) 5 5),(20,.int .i64 ((5:Nat):Int)),(2,.pointer (some ⟨b2,0,none⟩))],(b19,.cells #[.slice q1 L.cl.length k1,.slice q4 L.il.length k4,.slice q5 L.bl.length k5,.slice q3 L.ms.length k3,.slice none 0 0] 22 (0,0))::(b3,.cells (aska 0 0 (.slice none 0 0) (.slice none 0 0)) 37 (0,0))::(b2,.cells (fra ⟨.slice q1 L.cl.length k1,pc,.slice q2 L.ws.length k2,.slice q3 L.ms.length k3,gas,self,frm,val,.slice q4 L.il.length k4,.slice q5 L.bl.length k5,stat⟩) 31 (0,0))::(x.2++(g4++(g5++(g3++(g2++(rest))))))))
  (fun x=>x.1≤L.cl.length∧∃ xs:List Value,(∀ u∈xs,∃ m:Nat,u=.int .u8 (m:Int))∧IsRow 5 1 (.slice q1 L.cl.length k1) L.cl.length xs x.2) (fun x=>L.cl.length - x.1) (0,g1) ⟨Nat.zero_le _,_,ucs_ints L.cl,r1⟩ ⟨rfl,rfl,rfl,rfl,rfl,rfl,rfl,trivial⟩ (jG _) ?_
 rintro ⟨k,seg⟩ ⟨hk,xs,hall,hrow⟩
 dsimp only at hk hrow ⊢
 rcases jM k L.cl.length with hlt|hge
 ·obtain ⟨gm,cur,rfl,rfl,hn9,hm9,hsz9,htk9⟩:=hrow.pos (by omega)
  have hxl:=hrow.len
  have hmx:maxLen=9223372036854775807:=rfl
  obtain ⟨m9,hm8⟩:=hall (xs[k]'(by omega)) (List.getElem_mem _)
  have hrd9:Rd prog 5 (.cells cur 5 (0,0)) (0+k * 1) (.int .u8 (m9:Int)):=by have h:=Rd.one (P:=prog) (T:=5) (E:=5) (fr:=(0,0)) (cut_get (off:=0) (by rw [yW];exact htk9) (show xs[k]?=some (.int .u8 (m9:Int)) by rw [jO (by omega),hm8]));simpa using h
  obtain ⟨w1,w2⟩:=wr_take (i:=k) (vs:=[Value.int .u8 (((m9+1) % 256:Nat):Int)]) htk9 rfl hlt (by omega)
  have hW:Wr prog 5 (.cells cur 5 (0,0)) (0+k * 1) (.int .u8 (((m9+1) % 256:Nat):Int)) (.cells (wrCells cur (k * 1) [Value.int .u8 (((m9+1) % 256:Nat):Int)]) 5 (0,0)):=qU (z:=.int .u8 0) (n:=1) rfl rfl (by rw [hsz9];show 0+k * 1+1≤k1 * 1;omega) (by rw [jH];rfl)
  refine dQBScc ?_
  refine ⟨rfl,(k+1,_),⟨hlt,_,ints_set (k:=k * 1) (j:=(k+1) * 1) hall (by omega) ⟨_,rfl⟩,.own hn9 hm9 (by rw [w2,hsz9]) w1 (by simp only [yC,yH,yL,yK,List.length_nil];omega)⟩,by show L.cl.length - (k+1) < L.cl.length - k;omega,⟨rfl,rfl,rfl,rfl,rfl,rfl,rfl,trivial⟩,jG _⟩
 ·(refine goZ ?_;refine thenL ?_)
  apply RW.step
  (refine goZ ?_)
  refine qM (fun x:Nat × Fs=>([(27,.int .i64 (x.1:Int)),(26,.int .i64 (L.il.length:Int)),(5,.slice q4 L.il.length k4),(21,.int .i64 ((1:Nat):Int)),(19,.slice (some ⟨b19,0,none⟩) 5 5),(20,.int .i64 ((5:Nat):Int)),(2,.pointer (some ⟨b2,0,none⟩))],(b19,.cells #[.slice q1 L.cl.length k1,.slice q4 L.il.length k4,.slice q5 L.bl.length k5,.slice q3 L.ms.length k3,.slice none 0 0] 22 (0,0))::(b3,.cells (aska 0 0 (.slice none 0 0) (.slice none 0 0)) 37 (0,0))::(b2,.cells (fra ⟨.slice q1 L.cl.length k1,pc,.slice q2 L.ws.length k2,.slice q3 L.ms.length k3,gas,self,frm,val,.slice q4 L.il.length k4,.slice q5 L.bl.length k5,stat⟩) 31 (0,0))::(x.2++(g5++(g3++(g2++(rest)))))))
   (fun x=>x.1≤L.il.length∧∃ xs:List Value,(∀ u∈xs,∃ m:Nat,u=.int .u8 (m:Int))∧IsRow 5 1 (.slice q4 L.il.length k4) L.il.length xs x.2) (fun x=>L.il.length - x.1) (0,g4) ⟨Nat.zero_le _,_,ucs_ints L.il,r4⟩ ⟨rfl,rfl,rfl,rfl,rfl,rfl,rfl,trivial⟩ (jP _ (jP _ (jP _ (jN _ _)))) ?_
  rintro ⟨k,seg⟩ ⟨hk,xs,hall,hrow⟩
  dsimp only at hk hrow ⊢
  rcases jM k L.il.length with hlt|hge
  ·obtain ⟨gm,cur,rfl,rfl,hn9,hm9,hsz9,htk9⟩:=hrow.pos (by omega)
   have hxl:=hrow.len
   have hmx:maxLen=9223372036854775807:=rfl
   obtain ⟨m9,hm8⟩:=hall (xs[k]'(by omega)) (List.getElem_mem _)
   have hrd9:Rd prog 5 (.cells cur 5 (0,0)) (0+k * 1) (.int .u8 (m9:Int)):=by have h:=Rd.one (P:=prog) (T:=5) (E:=5) (fr:=(0,0)) (cut_get (off:=0) (by rw [yW];exact htk9) (show xs[k]?=some (.int .u8 (m9:Int)) by rw [jO (by omega),hm8]));simpa using h
   obtain ⟨w1,w2⟩:=wr_take (i:=k) (vs:=[Value.int .u8 (((m9+1) % 256:Nat):Int)]) htk9 rfl hlt (by omega)
   have hW:Wr prog 5 (.cells cur 5 (0,0)) (0+k * 1) (.int .u8 (((m9+1) % 256:Nat):Int)) (.cells (wrCells cur (k * 1) [Value.int .u8 (((m9+1) % 256:Nat):Int)]) 5 (0,0)):=qU (z:=.int .u8 0) (n:=1) rfl rfl (by rw [hsz9];show 0+k * 1+1≤k4 * 1;omega) (by rw [jH];rfl)
   refine dQBScc ?_
   refine ⟨rfl,(k+1,_),⟨hlt,_,ints_set (k:=k * 1) (j:=(k+1) * 1) hall (by omega) ⟨_,rfl⟩,.own hn9 hm9 (by rw [w2,hsz9]) w1 (by simp only [yC,yH,yL,yK,List.length_nil];omega)⟩,by show L.il.length - (k+1) < L.il.length - k;omega,⟨rfl,rfl,rfl,rfl,rfl,rfl,rfl,trivial⟩,jG _⟩
  ·(refine goZ ?_;refine thenL ?_)
   apply RW.step
   (refine goZ ?_)
   refine qM (fun x:Nat × Fs=>([(27,.int .i64 (x.1:Int)),(26,.int .i64 (L.bl.length:Int)),(5,.slice q5 L.bl.length k5),(21,.int .i64 ((2:Nat):Int)),(19,.slice (some ⟨b19,0,none⟩) 5 5),(20,.int .i64 ((5:Nat):Int)),(2,.pointer (some ⟨b2,0,none⟩))],(b19,.cells #[.slice q1 L.cl.length k1,.slice q4 L.il.length k4,.slice q5 L.bl.length k5,.slice q3 L.ms.length k3,.slice none 0 0] 22 (0,0))::(b3,.cells (aska 0 0 (.slice none 0 0) (.slice none 0 0)) 37 (0,0))::(b2,.cells (fra ⟨.slice q1 L.cl.length k1,pc,.slice q2 L.ws.length k2,.slice q3 L.ms.length k3,gas,self,frm,val,.slice q4 L.il.length k4,.slice q5 L.bl.length k5,stat⟩) 31 (0,0))::(x.2++(g3++(g2++(rest))))))
    (fun x=>x.1≤L.bl.length∧∃ xs:List Value,(∀ u∈xs,∃ m:Nat,u=.int .u8 (m:Int))∧IsRow 5 1 (.slice q5 L.bl.length k5) L.bl.length xs x.2) (fun x=>L.bl.length - x.1) (0,g5) ⟨Nat.zero_le _,_,ucs_ints L.bl,r5⟩ ⟨rfl,rfl,rfl,rfl,rfl,rfl,rfl,trivial⟩ (jP _ (jP _ (jP _ (jN _ _)))) ?_
   rintro ⟨k,seg⟩ ⟨hk,xs,hall,hrow⟩
   dsimp only at hk hrow ⊢
   rcases jM k L.bl.length with hlt|hge
   ·obtain ⟨gm,cur,rfl,rfl,hn9,hm9,hsz9,htk9⟩:=hrow.pos (by omega)
    have hxl:=hrow.len
    have hmx:maxLen=9223372036854775807:=rfl
    obtain ⟨m9,hm8⟩:=hall (xs[k]'(by omega)) (List.getElem_mem _)
    have hrd9:Rd prog 5 (.cells cur 5 (0,0)) (0+k * 1) (.int .u8 (m9:Int)):=by have h:=Rd.one (P:=prog) (T:=5) (E:=5) (fr:=(0,0)) (cut_get (off:=0) (by rw [yW];exact htk9) (show xs[k]?=some (.int .u8 (m9:Int)) by rw [jO (by omega),hm8]));simpa using h
    obtain ⟨w1,w2⟩:=wr_take (i:=k) (vs:=[Value.int .u8 (((m9+1) % 256:Nat):Int)]) htk9 rfl hlt (by omega)
    have hW:Wr prog 5 (.cells cur 5 (0,0)) (0+k * 1) (.int .u8 (((m9+1) % 256:Nat):Int)) (.cells (wrCells cur (k * 1) [Value.int .u8 (((m9+1) % 256:Nat):Int)]) 5 (0,0)):=qU (z:=.int .u8 0) (n:=1) rfl rfl (by rw [hsz9];show 0+k * 1+1≤k5 * 1;omega) (by rw [jH];rfl)
    refine dQBScc ?_
    refine ⟨rfl,(k+1,_),⟨hlt,_,ints_set (k:=k * 1) (j:=(k+1) * 1) hall (by omega) ⟨_,rfl⟩,.own hn9 hm9 (by rw [w2,hsz9]) w1 (by simp only [yC,yH,yL,yK,List.length_nil];omega)⟩,by show L.bl.length - (k+1) < L.bl.length - k;omega,⟨rfl,rfl,rfl,rfl,rfl,rfl,rfl,trivial⟩,jG _⟩
   ·(refine goZ ?_;refine thenL ?_)
    apply RW.step
    (refine goZ ?_)
    refine qM (fun x:Nat × Fs=>([(27,.int .i64 (x.1:Int)),(26,.int .i64 (L.ms.length:Int)),(5,.slice q3 L.ms.length k3),(21,.int .i64 ((3:Nat):Int)),(19,.slice (some ⟨b19,0,none⟩) 5 5),(20,.int .i64 ((5:Nat):Int)),(2,.pointer (some ⟨b2,0,none⟩))],(b19,.cells #[.slice q1 L.cl.length k1,.slice q4 L.il.length k4,.slice q5 L.bl.length k5,.slice q3 L.ms.length k3,.slice none 0 0] 22 (0,0))::(b3,.cells (aska 0 0 (.slice none 0 0) (.slice none 0 0)) 37 (0,0))::(b2,.cells (fra ⟨.slice q1 L.cl.length k1,pc,.slice q2 L.ws.length k2,.slice q3 L.ms.length k3,gas,self,frm,val,.slice q4 L.il.length k4,.slice q5 L.bl.length k5,stat⟩) 31 (0,0))::(x.2++(g2++(rest)))))
     (fun x=>x.1≤L.ms.length∧∃ xs:List Value,(∀ u∈xs,∃ m:Nat,u=.int .u8 (m:Int))∧IsRow 5 1 (.slice q3 L.ms.length k3) L.ms.length xs x.2) (fun x=>L.ms.length - x.1) (0,g3) ⟨Nat.zero_le _,_,ucs_ints L.ms,r3⟩ ⟨rfl,rfl,rfl,rfl,rfl,rfl,rfl,trivial⟩ (jP _ (jP _ (jP _ (jN _ _)))) ?_
    rintro ⟨k,seg⟩ ⟨hk,xs,hall,hrow⟩
    dsimp only at hk hrow ⊢
    rcases jM k L.ms.length with hlt|hge
    ·obtain ⟨gm,cur,rfl,rfl,hn9,hm9,hsz9,htk9⟩:=hrow.pos (by omega)
     have hxl:=hrow.len
     have hmx:maxLen=9223372036854775807:=rfl
     obtain ⟨m9,hm8⟩:=hall (xs[k]'(by omega)) (List.getElem_mem _)
     have hrd9:Rd prog 5 (.cells cur 5 (0,0)) (0+k * 1) (.int .u8 (m9:Int)):=by have h:=Rd.one (P:=prog) (T:=5) (E:=5) (fr:=(0,0)) (cut_get (off:=0) (by rw [yW];exact htk9) (show xs[k]?=some (.int .u8 (m9:Int)) by rw [jO (by omega),hm8]));simpa using h
     obtain ⟨w1,w2⟩:=wr_take (i:=k) (vs:=[Value.int .u8 (((m9+1) % 256:Nat):Int)]) htk9 rfl hlt (by omega)
     have hW:Wr prog 5 (.cells cur 5 (0,0)) (0+k * 1) (.int .u8 (((m9+1) % 256:Nat):Int)) (.cells (wrCells cur (k * 1) [Value.int .u8 (((m9+1) % 256:Nat):Int)]) 5 (0,0)):=qU (z:=.int .u8 0) (n:=1) rfl rfl (by rw [hsz9];show 0+k * 1+1≤k3 * 1;omega) (by rw [jH];rfl)
     refine dQBScc ?_
     refine ⟨rfl,(k+1,_),⟨hlt,_,ints_set (k:=k * 1) (j:=(k+1) * 1) hall (by omega) ⟨_,rfl⟩,.own hn9 hm9 (by rw [w2,hsz9]) w1 (by simp only [yC,yH,yL,yK,List.length_nil];omega)⟩,by show L.ms.length - (k+1) < L.ms.length - k;omega,⟨rfl,rfl,rfl,rfl,rfl,rfl,rfl,trivial⟩,jG _⟩
    ·(refine goZ ?_;refine thenL ?_)
     apply RW.step
     (refine goZ ?_)
     refine qM (fun _:Nat=>([(27,.int .i64 0),(26,.int .i64 0),(5,.slice none 0 0),(21,.int .i64 ((4:Nat):Int)),(19,.slice (some ⟨b19,0,none⟩) 5 5),(20,.int .i64 ((5:Nat):Int)),(2,.pointer (some ⟨b2,0,none⟩))],(b19,.cells #[.slice q1 L.cl.length k1,.slice q4 L.il.length k4,.slice q5 L.bl.length k5,.slice q3 L.ms.length k3,.slice none 0 0] 22 (0,0))::(b3,.cells (aska 0 0 (.slice none 0 0) (.slice none 0 0)) 37 (0,0))::(b2,.cells (fra ⟨.slice q1 L.cl.length k1,pc,.slice q2 L.ws.length k2,.slice q3 L.ms.length k3,gas,self,frm,val,.slice q4 L.il.length k4,.slice q5 L.bl.length k5,stat⟩) 31 (0,0))::(g2++rest)))
      (fun _=>True) (fun _=>0) 0 trivial ⟨rfl,rfl,rfl,rfl,rfl,rfl,rfl,trivial⟩ (jP _ (jP _ (jP _ (jN _ _)))) ?_
     rintro _ _
     dsimp only
     (refine goZ ?_;refine thenL ?_)
     apply RW.step
     (refine sRz ?_;refine lvz (.lssF rfl rfl (by omega)) ?_;refine nNz<|zI<|cFz<|CW.exit<|thenE<|thenE<|blkE rfl<|thenN<|sRz<|vFz<|vFz<|ldz rfl (.tail (.tail .head)) fr_rd2s<|lvz (.lenR rfl vF rfl)<|vMz ?_;refine nNz<|zM ?_)
     refine qM (fun x:Nat × Fs=>([(42,.int .i64 (x.1:Int)),(41,.int .i64 (L.ws.length:Int)),(2,.pointer (some ⟨b2,0,none⟩))],(b19,.cells #[.slice q1 L.cl.length k1,.slice q4 L.il.length k4,.slice q5 L.bl.length k5,.slice q3 L.ms.length k3,.slice none 0 0] 22 (0,0))::(b3,.cells (aska 0 0 (.slice none 0 0) (.slice none 0 0)) 37 (0,0))::(b2,.cells (fra ⟨.slice q1 L.cl.length k1,pc,.slice q2 L.ws.length k2,.slice q3 L.ms.length k3,gas,self,frm,val,.slice q4 L.il.length k4,.slice q5 L.bl.length k5,stat⟩) 31 (0,0))::(x.2++rest)))
      (fun x=>x.1≤L.ws.length∧SpW (.slice q2 L.ws.length k2) L.ws.length x.2) (fun x=>L.ws.length - x.1) (0,g2) ⟨Nat.zero_le _,r2⟩ ⟨rfl,rfl,rfl,trivial⟩ (jG _) ?_
     rintro ⟨k,seg⟩ ⟨hk,hrow⟩
     dsimp only at hk hrow ⊢
     rcases jM k L.ws.length with hlt|hge
     ·rcases hrow with h0|⟨gm,cur,c9,he,rfl,hmx9,hsz9,hm9⟩
      ·omega
      cases he
      have hmx:maxLen=9223372036854775807:=rfl
      obtain ⟨m9,hm8⟩:=hm9 (k * 4) (by omega)
      have hrd9:Rd prog 26 (.cells cur 29 (0,0)) (0+k * 4+0 * 1) (.int .u64 (m9:Int)):=Rd.one (by rw [show 0+k * 4+0 * 1=k * 4 by omega];exact hm8)
      have hW:Wr prog 26 (.cells cur 29 (0,0)) (0+k * 4+0 * 1) (.int .u64 (((m9+1) % 18446744073709551616:Nat):Int)) (.cells (wrCells cur (k * 4) [Value.int .u64 (((m9+1) % 18446744073709551616:Nat):Int)]) 29 (0,0)):=qU (z:=.int .u64 0) (n:=1) rfl rfl (by omega) (by rw [show 0+k * 4+0 * 1=k * 4 by omega];rfl)
      (refine sRz ?_;refine lvz (.lssT rfl rfl (by omega)) ?_;refine nNz<|zI<|cTz<|zJ<|thenN<|zI<|zM<|sRz<|vMz<|vAz<|nNz ?_;apply CW.pre;refine AnyW.any 9 mixed (by decide +kernel) ?_;(try simp only [tsOf_cons,tsOf_nil,tsOf_app]);refine dvz (.fieldAddr rfl rfl)<|dvz (.fieldAddr rfl rfl) ?_;apply qG;rfl;rfl;rfl;exact zC;rfl;apply zO;apply zO;apply zP;exact zN;exact fr_rd2s;refine dvz (.move rfl) ?_;refine dvz (.indexAddrS rfl rfl rfl (by omega)) ?_;refine dvz (.indexAddrL rfl rfl rfl) ?_;apply qG;rfl;rfl;rfl;exact zC;rfl;apply zO;apply zO;apply zO;apply zP;exact zN;exact hrd9;refine dvz (.addNL rfl rfl (by decide)) ?_;refine dvz (.indexAddrS rfl rfl rfl (by omega)) ?_;apply DW.nil;simp only [fsOf_cons,fsOf_nil,fsOf_app,fsOf_tsOf,fsOf_new];refine lvz (.indexAddrL rfl rfl rfl) ?_;refine zR rfl rfl (.tail (.tail (.tail .head))) hW ?_;apply zV;refine blkN<|thenN<|zL ?_;refine lvz (.addZL rfl rfl (by decide) (by omega)) ?_;refine vMz ?_;apply zV)
      apply thenX
      refine ⟨rfl,(k+1,[(gm,.cells (wrCells cur (k * 4) [Value.int .u64 (((m9+1) % 18446744073709551616:Nat):Int)]) 29 (0,0))]),⟨hlt,.inr ⟨gm,_,k2,rfl,rfl,hmx9,by show _≤(cur.setIfInBounds _ _).size;rw [Array.size_setIfInBounds];exact hsz9,fun i hi=>?_⟩⟩,by show L.ws.length - (k+1) < L.ws.length - k;omega,⟨rfl,rfl,rfl,trivial⟩,by show List.Sublist _ (_::_::_::_::fsOf (tsOf rest));rw [fsOf_tsOf];exact jG _⟩
      show ∃ m:Nat,(cur.setIfInBounds (k * 4) _)[i]?=_
      rw [Array.getElem?_setIfInBounds]
      split
      ·exact ⟨_,by rw [if_pos (by omega)]⟩
      ·exact hm9 i hi
     ·(refine goZ ?_)
      exact inPI (.inr rfl) .nil rfl .nil rfl ⟨rest,⟨rfl,rfl⟩,_,jK _ (jK _ (jK _ (jN _ _))),.refl _⟩
end
theorem fewQ_idem (X:FrL):fewQ (fewQ X)=fewQ X:=by unfold fewQ;simp [List.take_take]
theorem LikeF.trans {x y z:FrV} (h:LikeF x y) (h2:LikeF y z):LikeF x z:=by
 obtain ⟨c,s,m,i,b,rfl⟩:=h
 obtain ⟨c2,s2,m2,i2,b2,rfl⟩:=h2
 exact ⟨c2,s2,m2,i2,b2,rfl⟩
theorem LikeF.refl (x:FrV):LikeF x x:=⟨x.code,x.stk,x.mem,x.inp,x.back,rfl⟩
theorem LikeF.ok {x y:FrV} {L:FrL} (h:LikeF x y):okF y L↔okF x L:=by
 obtain ⟨c,s,m,i,b,rfl⟩:=h
 exact Iff.rfl
theorem FewR.at {y:FrV} {Y:FrL} {v:Value} {gs:Fs} (h:FewR y Y v gs) (hY:fewQ Y=Y):∃ z,v=frv z∧FrO z Y gs∧LikeF y z:=by
 have h:=h.like
 rwa [hY] at h
section
theorem rowU_wP {l:List Nat} {v:Value} {gs:Fs} (h:wP l v gs):∃ us:Fs,blocksN 4 v=us.map (·.1)∧(∀ p∈us,p∈gs)∧∀ w:World,(∀ p∈us,w.heap[p.1]?=some p.2)→RowAt w 4 v l.length (wcs l):=by
 rcases h with h|⟨g,cur,rfl,rfl,hsz,htk,hm⟩
 ·unfold wM at h
  exact rowU_own h
 ·rcases yB l.length with h0|h0
  ·refine ⟨[],by simp [blocksN,h0],(fun p h=>by cases h),fun w _=>?_⟩
   have hl:l=[]:=List.eq_nil_of_length_eq_zero h0
   subst hl
   exact ⟨⟨_,_,rfl,yD _,hm⟩,rfl,(fun h=>by cases h),fun p n c he=>by cases he;exact .inr (.inl rfl)⟩
  ·exact ⟨[(g,.cells cur 29 (0,0))],by simp [blocksN,Nat.ne_of_gt h0],(fun p h=>h),fun w hw=>RowAt.us (us:=[]) hw (yD _) hm htk (wcs_lenN l)⟩
theorem FrP.lie {f:FrV} {L:FrL} {gs:Fs} (h:FrP f L gs):∃ us:Fs,blocksN 4 (frv f)=us.map (·.1)∧(∀ p∈us,p∈gs)∧∀ w:World,(∀ p∈us,w.heap[p.1]?=some p.2)→FrRows w f L:=by
 have hsl:=h.sl
 obtain ⟨g1,g2,g3,g4,g5,hp,h1,h2,h3,h4,h5⟩:=h
 unfold bM at h1 h3 h4 h5
 obtain ⟨u1,a1,b1,c1⟩:=rowU_own h1
 obtain ⟨u2,a2,b2,c2⟩:=rowU_wP h2
 exact dTBSYc
section wr
variable {P : Program} {T E : TypeId} {code stk mem inp back : Value} {pc : Int} {gas self frm val : Nat} {stat : Bool} {z : Value}
end wr
end
section
theorem dTBgJu {P:Prop} (h:P:=by
 rcases hnn with h0|⟨h0,hle⟩
 ·subst h0
  (refine goZ ?_)
  refine inPI (.inl rfl) .nil rfl rsZ rfl ⟨_,⟨_,rfl,.inr ⟨hge,Y,gR,⟨c,s,m,i,bb,hY.symm⟩,hfo,rfl,?_⟩⟩,hfin _ _ _ rfl⟩
  rw [hT]
  first|exact .inl ⟨h1,rfl⟩|exact .inr ⟨h1,rfl⟩
 ·have hmodA:a % 18446744073709551616=a:=jY (by omega)
  have hn0:n ≠ 0:=by omega
  (refine goZ ?_)
  (refine CW.quiet rfl mixed (by decide +kernel) ?_;refine goZ ?_)
  (refine goZ ?_)
  rw [hmod,hmodA]
  refine inPI (.inl rfl) .nil rfl rsZ rfl ⟨_,⟨_,rfl,.inr ⟨hge,Y,gR,⟨c,s,m,i,bb,hY.symm⟩,hfo,by rw [if_neg hn0];rfl,?_⟩⟩,hfin _ _ _ rfl⟩
  rw [hT]
  first|exact .inl ⟨h1,rfl⟩|exact .inr ⟨h1,rfl⟩):P:=h
attribute [local irreducible] SL.inP
theorem cost_in {L:FrL} {a n:Nat} (hm:L.ms.length≤1024) (h:costR L a n≤20000):n=0∨(0 < n∧a+n≤1024):=by
 have hE:endV a n≤1024:=by
  unfold costR memV at h
  split at h
  ·omega
  ·split at h
   ·omega
   ·omega
 have hNG:NOG=1099511627776:=rfl
 unfold endV at hE
 rcases yB n with h|h
 ·exact .inl h
 ·rw [if_neg (by omega),hNG] at hE
  exact .inr ⟨h,by omega⟩
theorem wr_list:∀ (l:List Value) (c:Array Value) (off:Nat),off+l.length≤c.size→(wrCells c off l).toList=c.toList.take off++l++c.toList.drop (off+l.length)
 |[],c,off,_=>by simp [wrCells]
 |v::r,c,off,h=>by
  rw [yK] at h
  unfold wrCells
  rw [wr_list r (c.setIfInBounds off v) (off+1) (by rw [Array.size_setIfInBounds];omega),Array.toList_setIfInBounds,yK,show off+1+r.length=off+(r.length+1) by omega]
  have hlt:off < c.toList.length:=by rw [Array.length_toList];omega
  rw [List.take_add_one,List.take_set_of_le (by omega),List.getElem?_set_self hlt,List.drop_set_of_lt (by omega)]
  simp
theorem tu_wrF {P:Program} {T E:TypeId} {f g:FrV} {fl:Bool} {z:Value} [InfoI P T 14 z] (hf:FrSl g):Wr P T (.cells (tuc f fl) E (0,0)) 0 (frv g) (.cells (tuc g fl) E (0,0)) :=
 qU (n:=14) (z:=z) rfl (fr_cells hf) (by show 0+14≤15;omega) (by
  apply Array.toList_inj.1
  have h:=wr_list (frc g) (tuc f fl) 0 (by show 0+14≤15;omega)
  show (wrCells (tuc f fl) 0 (frc g)).toList=_
  rw [h]
  show []++frc g++(frc f++[Value.bool fl]).drop (0+(frc g).length)=frc g++[Value.bool fl]
  rw [jQ,jH,show (frc g).length=(frc f).length from rfl,List.drop_left])
def ReaD (b:Nat) (f:FrV) (fl:Bool) (L:FrL) (gs:Fs) (a n each:Nat) (rest:Fs):Value→Fs→Prop:=fun v fs' =>
 (f.gas < costR L a n∧v=.tuple #[.int .i64 0,.int .i64 0]∧fs'=(b,tuO f true)::(gs++rest)) ∨
 (costR L a n≤f.gas∧∃ g gs',(∃ c s m i bb,g=f.rowsG (f.gas - costR L a n) c s m i bb)∧FrO g (memR L a n) gs'∧v=.tuple #[.int .i64 ((if n=0 then 0 else a:Nat):Int),.int .i64 (n:Int)] ∧
  ((timesV ((n+31) / 32) each≤g.gas∧fs'=(b,tuO (g.setG (g.gas - timesV ((n+31) / 32) each)) fl)::(gs'++(gs++rest)))∨(g.gas < timesV ((n+31) / 32) each∧fs'=(b,tuO g true)::(gs'++(gs++rest)))))
theorem treach_calls (w0:World) (b:Nat) (f:FrV) (fl:Bool) (L:FrL) (gs:Fs) (a n each:Nat) (rest:Fs) (w:World) (ha:a < M256) (hn:n < M256) (he:each≤1000) (hF:okF f L) (hfr:FrO f L gs) (hs:St w0 [] ((b,tuO f fl)::(gs++rest)) w) :
  CallsS prog w0 [] 176 #[.pointer (some ⟨b,0,none⟩),wv a,wv n,.int .u64 (each:Int)] w (ReaD b f fl L gs a n each rest):=by
 have hgas:=hF.1.2.2
 have hR:∀ {r} (w':World),reachR f L a n=r→FrRows w' f L→Calls prog 31 #[frv f,wv a,wv n] w' (RetG w' [] (ToldR f r)):=fun {r} w' hr h=>by
  have h:=rReach_calls f L a n ha hn hF w' h
  rwa [hr] at h
 obtain ⟨us,hu1,hu2,hu3⟩:=hfr.toP.lie
 rcases jM f.gas (costR L a n) with hlt|hge
 ·have hr:reachR f L a n=none:=if_neg (by omega)
  have hslG:FrSl zeroF:=zero_sl
  refine enterS (args:=[_,_,_,_]) func176 rfl ntmps176 rfl (by assumption) ?_
  (refine goZ ?_;intro _ _)
  apply CW.pre
  (refine qY [(6,ToldR f none)] 12 mixed (by decide +kernel) ?_)
  (refine tsZ ?_;refine dlz (c:=by exact tu_rdF) (k:=?_))
  refine DW.manyA us rfl rfl rfl (by (exact zC)) rfl vF agZ (by rw [yJ,hu1];exact yM _) (fun p hp=>AncT.lie (by (refine AncT.cons ?_ ?_;exact zN;refine AncT.cons ?_ ?_;exact zN;refine AncT.cons ?_ ?_;exact zN;refine AncT.app ?_ ?_;exact AncT.tsOf;exact AncT.tsOf)) (by have hp:=hu2 p hp;simp [fsOf,tsOf,tsNew,tsTag,markAll,Function.comp_def,hp])) (fun w _ hu=>hR w hr (hu3 w hu)) ?_
  rintro v gR ⟨rfl,rfl⟩
  (try simp only [markAll_cons,markAll_app,markAll_tsOf,markAll_tag,markAll_new,markAll_nil])
  (refine tsZ ?_;intro _;apply DW.store;rfl;rfl;exact zC;rfl;rfl;apply qR;kernel_rfl;exact zN;apply fr_wrW;rfl;exact hslG;refine goZ ?_)
  refine fsZ ?_
  (refine goZ ?_;apply zR;rfl;rfl;apply qE;apply qE;apply qE;apply qA;apply tu_wr14 (z:=.bool false);refine goZ ?_)
  exact inPI (.inl rfl) .nil rfl rsZ rfl ⟨_,⟨_,rfl,.inl ⟨hlt,rfl,rfl⟩⟩,SubP.cons (SubP.cons (SubP.cons (SubP.refl _)))⟩
 ·have hnn:=cost_in hF.2.2.2.1.2.1 (Nat.le_trans hge hgas)
  have hmod:n % 18446744073709551616=n:=jY (by omega)
  have hWd:∀ w,Calls prog 81 #[.int .u64 ((n % 18446744073709551616:Nat):Int)] w (Ret w (.int .u64 (((n+31) / 32:Nat):Int))):=fun w=>by
   rw [hmod];exact rWords_calls n (by omega) w
  have hr:reachR f L a n=some (f.gas - costR L a n,memR L a n):=if_pos hge
  refine enterS (args:=[_,_,_,_]) func176 rfl ntmps176 rfl (by assumption) ?_
  (refine goZ ?_;intro _ _)
  apply CW.pre
  (refine qY [(6,ToldR f (some (f.gas - costR L a n,memR L a n)))] 12 mixed (by decide +kernel) ?_)
  (refine tsZ ?_;refine dlz (c:=by exact tu_rdF) (k:=?_))
  refine DW.manyA us rfl rfl rfl (by (exact zC)) rfl vF agZ (by rw [yJ,hu1];exact yM _) (fun p hp=>AncT.lie (by (refine AncT.cons ?_ ?_;exact zN;refine AncT.cons ?_ ?_;exact zN;refine AncT.cons ?_ ?_;exact zN;refine AncT.app ?_ ?_;exact AncT.tsOf;exact AncT.tsOf)) (by have hp:=hu2 p hp;simp [fsOf,tsOf,tsNew,tsTag,markAll,Function.comp_def,hp])) (fun w _ hu=>hR w hr (hu3 w hu)) ?_
  rintro v gR ⟨c,s,m,i,bb,rfl,hfo⟩
  obtain ⟨Y,hY⟩:∃ Y,f.rowsG (f.gas - costR L a n) c s m i bb=Y:=⟨_,rfl⟩
  have hYg:Y.gas=f.gas - costR L a n:=by rw [← hY];rfl
  rw [hY] at hfo
  rw [hY]
  have hslG:=hfo.sl
  (try simp only [markAll_cons,markAll_app,markAll_tsOf,markAll_tag,markAll_new,markAll_nil])
  (refine tsZ ?_;intro _;apply DW.store;rfl;rfl;exact zC;rfl;rfl;apply qR;kernel_rfl;exact zN;apply fr_wrW;rfl;exact hslG;refine goZ ?_)
  refine fsZ ?_
  (refine goZ ?_;refine zR rfl rfl (.tail (.app (.tail (.tail .head)))) (tu_wrF hslG) ?_;refine goZ ?_;refine cEv hWd ?_;refine cEw (c:=by exact rTimes_calls _ _ (by omega) (by omega)) (k:=?_))
  rename_i b5 b6 b10
  obtain ⟨T,hT⟩:∃ T,timesV ((n+31) / 32) each=T:=⟨_,rfl⟩
  rw [hT]
  refine LW.subP (fs':=(b,tuO Y fl)::(gR++((b6,.cells (wc n) 29 (0,0))::(b5,.cells (wc a) 29 (0,0))::(gs++rest)))) (by exact subp_ix [[_],gR,[_],[_],[_],gs] (xs:=[4,1,2,3,5]) (ys:=[0,1,2,3,4,5]) rest rfl) ?_
  refine cSz rfl rfl (fun w' hst=>tspend_calls w0 [] b Y fl T _ w' (by rw [hYg];omega) hst) ?_
  have hfin:∀ (Z:FrV) (fz:Bool) (fs':Fs),(fs'=(b,tuO Z fz)::(gR++((b6,Obj.cells (wc n) 29 (0,0))::(b5,Obj.cells (wc a) 29 (0,0))::(gs++rest))))→SubP ((b,tuO Z fz)::(gR++(gs++rest))) fs':=fun Z fz fs' h=>by
   rw [h]
   exact subp_ix [[_],gR,[_],[_],gs] (xs:=[0,1,4]) (ys:=[0,1,2,3,4]) rest rfl
  rintro v fs' ⟨rfl,⟨h1,rfl⟩|⟨h1,rfl⟩⟩
  ·exact dTBgJu
  ·exact dTBgJu
end
section
theorem dQBsmE {P Q:Prop} (k:Q) (h:BoxZ Q→P:=by
 intro kQ
 apply CW.pre
 refine AnyW.mid 7 1 mixed (by decide +kernel) ?_
 (refine tsZ ?_)
 refine fsZ ?_
 exact kQ.k):P:=h ⟨k⟩
theorem dQBNfR {P Q:Prop} (k:Q) (h:BoxZ Q→P:=by
 intro kQ
 refine enterS (args:=[_,_,_]) func178 rfl ntmps178 rfl (by assumption) ?_
 exact kQ.k):P:=h ⟨k⟩
theorem dTBWRx {P:Prop} (h:P:=by
 have hYg:Y.gas=f.gas - costR L x z:=by rw [hY];rfl
 have hg0:=hF.1.2.2
 have hzz:=cost_in hF.2.2.2.1.2.1 (Nat.le_trans h1 hg0)
 obtain ⟨hok1,hin1⟩:=reach_in hg0 hF.2.2.2.1 h1
 rcases h2 with ⟨h3,rfl⟩|⟨h3,rfl⟩
 rotate_left
 ·apply zV
  refine midN ?_
  (refine tsZ ?_)
  refine fsZ ?_
  (refine goZ ?_)
  refine inPI (.inr rfl) .nil rfl .nil rfl ⟨_,⟨_,rfl,rfl,by rw [copyV_none2 h1 (by rw [← hYg];exact h3)];exact ⟨Y,gR,rfl⟩⟩,?_⟩
  exact subp_ix [[_],gR,gs] (xs:=[0,1]) (ys:=[0,1,2]) _ rfl
 ·apply zV
  refine midN ?_
  (refine tsZ ?_)
  refine fsZ ?_
  (refine goZ ?_)
  refine LW.callR rfl rfl vF agZ (fun w' hst=>rwindow_calls bs y z (by omega) hy hbl _ w' (hbv w' hst (fun p hp=>by simp [hp]))) ?_
  intro vW gW hW
  have hW':=hW
  unfold bM at hW'
  obtain ⟨qW,kW,rfl⟩:=hW'.form
  skip
  have hso:copyV f L bs x y z=some (soOn (f.setG (f.gas - costR L x z - timesV ((z+31) / 32) 3)) L.ws (layL (memR L x z).ms x (winL bs y z))):=copyV_some h1 (by rw [← hYg];exact h3)
  rw [hso]
  obtain ⟨T,hT⟩:∃ T,timesV ((z+31) / 32) 3=T:=⟨_,rfl⟩
  rw [hT]
  have hYs:Y.setG (Y.gas - T)=f.so (soOn (f.setG (f.gas - costR L x z - T)) L.ws (layL (memR L x z).ms x (winL bs y z))) c s m i bb:=by rw [hY];rfl
  obtain ⟨Z,hZ⟩:∃ Z,Y.setG (Y.gas - T)=Z:=⟨_,rfl⟩
  have hfo2:FrO Z (memR L x z) gR:=hZ ▸ hfo
  rw [hZ]
  rw [hZ] at hYs
  refine LW.subP (fs':=(b,tuO Z false)::(gR++(gW++((gt,.cells cur 29 (0,0))::rest)))) (by exact subp_ix [gW,[_],gR,gs] (xs:=[1,2,0]) (ys:=[0,1,2,3]) _ rfl) ?_
  have hend:∀ (v:Value) (fs':Fs),PutD b Z false (memR L x z) x (winL bs y z) (gW++((gt,.cells cur 29 (0,0))::rest)) v fs'→v=.tuple #[]∧∃ fs2,TurD b f L (some (soOn (f.setG (f.gas - costR L x z - T)) L.ws (layL (memR L x z).ms x (winL bs y z)))) ((gt,.cells cur 29 (0,0))::rest) fs2∧SubP fs2 fs':=fun v fs' ⟨h1,gs',h2,h3⟩=>by
   refine ⟨h1,_,⟨c,s,m,i,bb,gs',?_,rfl⟩,?_⟩
   ·rw [← hYs];exact h2
   ·rw [h3,← hYs]
    exact subp_ix [[_],gs',gW] (xs:=[0,1]) (ys:=[0,1,2]) _ rfl
  rcases hzz with h0|⟨h0,hle⟩
  ·subst h0
   have hw0:winL bs y 0=[]:=rfl
   have hP:∀ w',St w0 [] ((b,tuO Z false)::(gR++(gW++((gt,.cells cur 29 (0,0))::rest)))) w'→CallsS prog w0 [] 179 #[.pointer (some ⟨b,0,none⟩),.int .i64 ((0:Nat):Int),.slice qW 0 kW] w' (PutD b Z false (memR L x 0) 0 [] (gW++((gt,.cells cur 29 (0,0))::rest))):=fun w' hst=>tput_nil w0 [] b Z false (memR L x 0) gR 0 qW kW _ w' (by omega) hfo2 hst
   rw [winL_len,if_pos rfl]
   refine qO rfl rfl vF agZ hP ?_
   rintro v fs' h9
   obtain ⟨rfl,fs2,h10,h11⟩:=hend v fs' (by rw [hw0];obtain ⟨a1,gs',a2,a3⟩:=h9;exact ⟨a1,gs',by rw [layL_nil] at a2 ⊢;exact a2,a3⟩)
   (refine goZ ?_)
   exact inPI (.inr rfl) .nil rfl .nil rfl ⟨_,⟨_,rfl,rfl,h10⟩,h11⟩
  ·rw [if_neg (by omega)]
   rw [winL_len] at hW' ⊢
   obtain ⟨gl,cl,rfl,rfl,_,_,_,htkW⟩:=hW'.pos h0
   have hP:∀ w',St w0 [] ((b,tuO Z false)::(gR++([(gl,Obj.cells cl 5 (0,0))]++((gt,.cells cur 29 (0,0))::rest)))) w'→CallsS prog w0 [] 179 #[.pointer (some ⟨b,0,none⟩),.int .i64 (x:Int),.slice (some ⟨gl,0,none⟩) z kW] w' (PutD b Z false (memR L x z) x (winL bs y z) ([(gl,Obj.cells cl 5 (0,0))]++((gt,.cells cur 29 (0,0))::rest))):=fun w' hst=>by
    have h:=tput_calls w0 [] b Z false (memR L x z) gR x (winL bs y z) gl 0 kW cl ([(gl,Obj.cells cl 5 (0,0))]++((gt,.cells cur 29 (0,0))::rest)) w' hok1.2.1 (.inr (by rw [winL_len];exact hin1 h0)) (by omega) hfo2 hst (yG _ (List.mem_singleton.2 rfl)) (by rw [winL_len,yW];exact htkW)
    rwa [winL_len] at h
   refine qO rfl rfl vF agZ hP ?_
   rintro v fs' h9
   obtain ⟨rfl,fs2,h10,h11⟩:=hend v fs' h9
   (refine goZ ?_)
   exact inPI (.inr rfl) .nil rfl .nil rfl ⟨_,⟨_,rfl,rfl,h10⟩,h11⟩):P:=h
theorem dTBiNg {P:Prop} (h:P:=by
 apply zV
 refine midN ?_
 (refine tsZ ?_)
 refine fsZ ?_
 (refine goZ ?_)
 exact inPI (.inr rfl) .nil rfl .nil rfl ⟨_,⟨_,rfl,rfl,by rw [copyV_none1 h1];exact ⟨f,gs,rfl⟩⟩,SubP.refl _⟩):P:=h
attribute [local irreducible] SL.inP
theorem cw_subP {C:Cu} {c:Code} {Q:Post} {e:Env} {fs fs':Fs} (hp:SubP fs' fs) (h:CW C c Q e fs'):CW C c Q e fs:=by
 unfold CW at h ⊢
 exact fun a w hs=>h a w ⟨hs.env,hp.st hs.st⟩
theorem copyV_none1 {f:FrV} {L:FrL} {bs:List UInt8} {x y z:Nat} (h:f.gas < costR L x z):copyV f L bs x y z=none:=by
 unfold copyV reaV
 rw [if_neg (by omega)]
 rfl
theorem copyV_none2 {f:FrV} {L:FrL} {bs:List UInt8} {x y z:Nat} (h:costR L x z≤f.gas) (h2:f.gas - costR L x z < timesV ((z+31) / 32) 3):copyV f L bs x y z=none:=by
 unfold copyV reaV
 rw [if_pos h]
 show (spnV (f.setG (f.gas - costR L x z)) _).bind _=_
 unfold spnV
 rw [if_neg (by show ¬ _≤f.gas - costR L x z;omega)]
 rfl
theorem copyV_some {f:FrV} {L:FrL} {bs:List UInt8} {x y z:Nat} (h:costR L x z≤f.gas) (h2:timesV ((z+31) / 32) 3≤f.gas - costR L x z):copyV f L bs x y z=some (soOn (f.setG (f.gas - costR L x z - timesV ((z+31) / 32) 3)) L.ws (layL (memR L x z).ms x (winL bs y z))):=by
 unfold copyV reaV
 rw [if_pos h]
 show (spnV (f.setG (f.gas - costR L x z)) _).bind _=_
 unfold spnV
 rw [if_pos (by exact h2)]
 rfl
def TurD (b:Nat) (f:FrV) (L:FrL) (o:Option SO) (rest fs':Fs):Prop:=match o with
 |none=>∃ f' gs',fs'=(b,tuO f' true)::(gs'++rest)
 |some o=>∃ c s m i bb gs',FrO (f.so o c s m i bb) (soL L o) gs'∧fs'=(b,tuO (f.so o c s m i bb) false)::(gs'++rest)
theorem tcopies_calls (w0:World) (b:Nat) (op:Nat) (f:FrV) (L:FrL) (gs:Fs) (x y z:Nat) (gt ct:Nat) (cur:Array Value) (rest:Fs) (w:World) (hop:op=55∨op=62) (hx:x < M256) (hy:y < M256) (hz:z < M256) (hF:okF f L) (hfr:FrO f L gs) (hs:St w0 [] ((b,tuO f false)::(gs++((gt,Obj.cells cur 29 (0,0))::rest))) w) (hcur:(cur.toList.drop 0).take ([x,y,z].length * 4)=wcs [x,y,z]) :
  CallsS prog w0 [] 178 #[.pointer (some ⟨b,0,none⟩),.int .u8 (op:Int),.slice (some ⟨gt,0,none⟩) 3 ct] w (fun v fs'=>v=.tuple #[]∧TurD b f L (if op=55 then copyV f L L.il x y z else if y+z≤L.bl.length then copyV f L L.bl x y z else none) ((gt,Obj.cells cur 29 (0,0))::rest) fs'):=by
 have hrdX:Rd prog 29 (.cells cur 29 (0,0)) (0+0 * 4) (wv x):=word_rd hcur 0 (by show 0 < 3;decide)
 have hrdY:Rd prog 29 (.cells cur 29 (0,0)) (0+1 * 4) (wv y):=word_rd hcur 1 (by show 1 < 3;decide)
 have hrdZ:Rd prog 29 (.cells cur 29 (0,0)) (0+2 * 4) (wv z):=word_rd hcur 2 (by show 2 < 3;decide)
 obtain ⟨qi,ki,hqi⟩:∃ q k,f.inp=.slice q L.il.length k:=by
  obtain ⟨g1,g2,g3,g4,g5,_,_,_,_,h4,_⟩:=hfr
  unfold bM at h4
  exact h4.form
 have hrdI:∀ {E fr},Rd prog 22 (.cells (tuc f false) E fr) 11 (.slice qi L.il.length ki):=fun {E fr}=>by rw [← hqi];exact tu_rd11
 rcases hop with rfl|rfl
 ·rw [if_pos rfl]
  refine dQBNfR ?_
  (refine goZ ?_)
  obtain ⟨bs,hbs⟩:∃ bs,L.il=bs:=⟨_,rfl⟩
  have hbl:bs.length≤100000:=by rw [← hbs];have:=hF.1.1;omega
  have hbv:∀ (w':World) {fs:Fs},St w0 [] fs w'→(∀ p∈gs,p∈fs)→RowAt w' 1 (.slice qi bs.length ki) bs.length (ucs bs):=fun w' fs hst hsub=>by rw [← hbs,← hqi];exact (hfr.st hst hsub).i
  rw [hbs]
  refine dQBsmE ?_
  refine cSz rfl rfl (fun w' hst=>treach_calls w0 b f false L gs x z 3 _ w' hx hz (by decide) hF hfr hst) ?_
  rintro v fs' (⟨h1,rfl,rfl⟩|⟨h1,Y,gR,⟨c,s,m,i,bb,hY⟩,hfo,rfl,h2⟩)
  ·exact dTBiNg
  ·exact dTBWRx
 ·rw [if_neg (by decide)]
  obtain ⟨qj,kj,hqj⟩:∃ q k,f.back=.slice q L.bl.length k:=by
   obtain ⟨g1,g2,g3,g4,g5,_,_,_,_,_,h5⟩:=hfr
   unfold bM at h5
   exact h5.form
  have hrdZ2:∀ {E fr},Rd prog 22 (.cells (tuc f false) E fr) 12 (.slice qj L.bl.length kj):=fun {E fr}=>by rw [← hqj];exact tu_rd12
  have hbl:L.bl.length≤100000:=by have:=hF.1.2.1;omega
  have hbv:∀ (w':World) {fs:Fs},St w0 [] fs w'→(∀ p∈gs,p∈fs)→RowAt w' 1 (.slice qj L.bl.length kj) L.bl.length (ucs L.bl):=fun w' fs hst hsub=>by rw [← hqj];exact (hfr.st hst hsub).b
  obtain ⟨bs,hbs⟩:∃ bs,L.bl=bs:=⟨_,rfl⟩
  rw [hbs] at hrdZ2 hbl hbv ⊢
  have hM:M256=115792089237316195423570985008687907853269984665640564039457584007913129639936:=rfl
  have hAdd0:=rAdd_calls y z hy hz
  rcases jM (y+z) M256 with hlt|hge
  ·have hAdd:∀ w,Calls prog 123 #[wv y,wv z] w (Ret w (.tuple #[wv (y+z),.bool false])):=fun w=>by
    have h:=hAdd0 w
    rwa [jY hlt,vA (by omega)] at h
   have hCm0:=rCmp_calls (y+z) bs.length hlt (by rw [hM];omega)
   rcases jM bs.length (y+z) with hc|hc
   ·have hCm:∀ w,Calls prog 124 #[wv (y+z),wv bs.length] w (Ret w (.int .i64 1)):=fun w=>by
     have h:=hCm0 w
     rwa [if_neg (by omega),if_pos hc] at h
    rw [if_neg (by omega)]
    obtain ⟨S,hS⟩:∃ S,y+z=S:=⟨_,rfl⟩
    rw [hS] at hAdd hCm
    refine dQBNfR ?_
    (refine goZ ?_;refine anz 12 ?_;refine dcz (c:=fun w _ _=>by exact hAdd w) (k:=?_);intro _;apply DW.store;rfl;rfl;exact zC;rfl;rfl;apply qR;kernel_rfl;exact zN;apply Wr.whole;rfl;rfl;rfl;refine goZ ?_;refine lvz (.buildW1 rfl (by omega)) ?_;refine goZ ?_;refine cEv hCm ?_;apply zR;rfl;rfl;apply qE;apply qA;apply tu_wr14 (z:=.bool false);refine goZ ?_)
    exact inPI (.inl rfl) .nil rfl .nil rfl ⟨_,⟨_,rfl,rfl,f,gs,rfl⟩,SubP.cons (SubP.refl _)⟩
   ·have hCm:∀ w,∃ j:Int,j≤0∧Calls prog 124 #[wv (y+z),wv bs.length] w (Ret w (.int .i64 j)):=fun w=>by
     have h:=hCm0 w
     refine ⟨_,?_,h⟩
     rw [if_neg (show ¬ bs.length < y+z by omega)]
     split<;>omega
    rw [if_pos hc]
    obtain ⟨j,hj,hCm⟩:∃ j:Int,j≤0∧∀ w,Calls prog 124 #[wv (y+z),wv bs.length] w (Ret w (.int .i64 j)):=⟨_,by rw [if_neg (show ¬ bs.length < y+z by omega)];split<;>omega,hCm0⟩
    obtain ⟨S,hS⟩:∃ S,y+z=S:=⟨_,rfl⟩
    rw [hS] at hAdd hCm
    refine enterS (args:=[_,_,_]) func178 rfl ntmps178 rfl (by assumption) ?_
    (refine goZ ?_)
    apply CW.pre
    (refine qY [] 12 mixed (by decide +kernel) ?_)
    (refine tsZ ?_;refine dcz (c:=fun w _ _=>by exact hAdd w) (k:=?_);intro _;apply DW.store;rfl;rfl;exact zC;rfl;rfl;apply qR;kernel_rfl;exact zN;apply Wr.whole;rfl;rfl;rfl;refine goZ ?_)
    refine fsZ ?_
    (refine goZ ?_;refine lvz (.buildW1 rfl (by omega)) ?_;refine goZ ?_;refine cEv hCm ?_)
    refine cw_subP (SubP.cons (SubP.refl _)) ?_
    apply CW.pre
    refine AnyW.mid 7 1 mixed (by decide +kernel) ?_
    (refine tsZ ?_)
    refine fsZ ?_
    refine cSz rfl rfl (fun w' hst=>treach_calls w0 b f false L gs x z 3 _ w' hx hz (by decide) hF hfr hst) ?_
    rintro v fs' (⟨h1,rfl,rfl⟩|⟨h1,Y,gR,⟨c,s,m,i,bb,hY⟩,hfo,rfl,h2⟩)
    ·exact dTBiNg
    ·exact dTBWRx
  ·have hAdd:∀ w,Calls prog 123 #[wv y,wv z] w (Ret w (.tuple #[wv ((y+z) % M256),.bool true])):=fun w=>by
    have h:=hAdd0 w
    rwa [vE hge] at h
   rw [if_neg (by omega)]
   obtain ⟨S,hS⟩:∃ S,(y+z) % M256=S:=⟨_,rfl⟩
   rw [hS] at hAdd
   refine dQBNfR ?_
   (refine goZ ?_;refine anz 12 ?_;refine dcz (c:=fun w _ _=>by exact hAdd w) (k:=?_);intro _;apply DW.store;rfl;rfl;exact zC;rfl;rfl;apply qR;kernel_rfl;exact zN;apply Wr.whole;rfl;rfl;rfl;refine goZ ?_;apply zR;rfl;rfl;apply qE;apply qA;apply tu_wr14 (z:=.bool false);refine goZ ?_)
   exact inPI (.inl rfl) .nil rfl .nil rfl ⟨_,⟨_,rfl,rfl,f,gs,rfl⟩,SubP.cons (SubP.refl _)⟩
end
section
theorem dQBjUx {P Q:Prop} (k:Q) (h:BoxZ Q→P:=by
 intro kQ
 refine enterS (args:=[_,_,_]) func109 rfl ntmps109 rfl (by assumption) ?_
 exact kQ.k):P:=h ⟨k⟩
theorem dQBxDi {P Q:Prop} (k:Q) (h:BoxZ Q→P:=by
 intro kQ
 (refine goZ ?_;refine lvz (.buildW1L rfl (by decide) rfl) ?_)
 refine cSz rfl rfl (fun w' hst=>treach_calls w0 b f false L gs x 32 0 _ w' hx (by decide) (by decide) hF hfr hst) ?_
 exact kQ.k):P:=h ⟨k⟩
theorem dTBCLz {P:Prop} (h:P:=by
 refine enterS (args:=[_,_,_]) func109 rfl ntmps109 rfl (by assumption) ?_
 (refine goZ ?_)
 refine qO rfl rfl vF agZ h1 ?_
 rintro v fs' ⟨rfl,h⟩
 (refine goZ ?_)
 exact inPI (.inl rfl) .nil rfl rsZ rfl ⟨_,⟨_,rfl,rfl,h⟩,SubP.refl _⟩):P:=h
attribute [local irreducible] SL.inP
def MemD (b:Nat) (f:FrV) (L:FrL) (o:Option SO) (rest:Fs):Value→Fs→Prop:=fun v fs'=>v=.bool true∧TurD b f L o rest fs'
abbrev lw (gt:Nat) (cur:Array Value):Nat × Obj:=(gt,.cells cur 29 (0,0))
theorem lay_tur {b:Nat} {f:FrV} {L:FrL} {x:Nat} {rest fs':Fs} {v:Value} (h:LayD b f false L x rest v fs'):v=.tuple #[]∧TurD b f L (some (soOn f (L.ws++[x]) L.ms)) rest fs':=by
 obtain ⟨h1,s,gs',h2,h3⟩:=h
 exact ⟨h1,f.code,s,f.mem,f.inp,f.back,gs',h2,h3⟩
section
variable (w0 : World) (b : Nat) (f : FrV) (L : FrL) (gs : Fs) (gt ct : Nat) (cur : Array Value) (rest : Fs) (w : World) (hF : okF f L) (hfr : FrO f L gs) (hs : St w0 [] ((b, tuO f false) :: (gs ++ (lw gt cur :: rest))) w)
include hF hfr hs
theorem tmem53 (x:Nat) (hx:x < M256) (hl:L.ws.length < 64) (hcur:(cur.toList.drop 0).take ([x].length * 4)=wcs [x]) :
  CallsS prog w0 [] 109 #[.pointer (some ⟨b,0,none⟩),.int .u8 53,.slice (some ⟨gt,0,none⟩) 1 ct] w (MemD b f L (some (soOn f (L.ws++[bev (winL L.il x 32)]) L.ms)) (lw gt cur::rest)):=by
 have hrdX:Rd prog 29 (.cells cur 29 (0,0)) (0+0 * 4) (wv x):=word_rd hcur 0 (by show 0 < 1;decide)
 obtain ⟨g1,g2,g3,g4,g5,hp,_,_,_,h4,_⟩:=id hfr
 unfold bM at h4
 obtain ⟨us4,hb4,hi4,hr4⟩:=rowU_own h4
 obtain ⟨qi,ki,hqi⟩:=h4.form
 rw [hqi] at hb4 hr4
 have hrdI:∀ {E fr},Rd prog 22 (.cells (tuc f false) E fr) 11 (.slice qi L.il.length ki):=fun {E fr}=>by rw [← hqi];exact tu_rd11
 have hi4':∀ p∈us4,p∈gs:=fun p hq=>hp.subset (by simp [hi4 p hq])
 refine dQBjUx ?_
 (refine goZ ?_)
 apply CW.pre
 (refine qY [(9,bM (winL L.il x 32))] 11 mixed (by decide +kernel) ?_)
 (refine tsZ ?_)
 refine DW.manyA us4 rfl rfl rfl (by (exact zC)) rfl vF agZ (by rw [yJ,hb4];exact yM _) (fun p hp=>AncT.lie (by (refine AncT.cons ?_ ?_;exact zN;refine AncT.app ?_ ?_;exact AncT.tsOf;refine AncT.cons ?_ ?_;exact zN;exact AncT.tsOf)) (by have hp:=hi4' p hp;simp [fsOf,tsOf,tsNew,tsTag,markAll,Function.comp_def,hp])) (fun w _ hu=>rwindow_calls L.il x 32 (by decide) hx (by have:=hF.1.1;omega) _ w (hr4 w hu)) ?_
 intro vW gW hW
 have hW':=hW
 unfold bM at hW'
 obtain ⟨us5,hb5,hi5,hr5⟩:=rowU_own hW'
 obtain ⟨qW,kW,rfl⟩:=hW'.form
 (try simp only [markAll_cons,markAll_app,markAll_tsOf,markAll_tag,markAll_new,markAll_nil])
 (refine tsZ ?_)
 refine DW.callA us5 (v:=wv (bev (winL L.il x 32))) rfl rfl rfl (by (exact zC)) rfl vF agZ (by rw [yJ,hb5];exact yM _) (fun p hp=>AncT.lie (by (refine AncT.app ?_ ?_;refine AncT.new ?_;kernel_rfl;refine AncT.cons ?_ ?_;exact zN;refine AncT.app ?_ ?_;refine AncT.tag ?_;exact zN;refine AncT.cons ?_ ?_;exact zN;refine AncT.tag ?_;exact zN)) (by have hp:=hi5 p hp;simp [fsOf,tsOf,tsNew,tsTag,markAll,Function.comp_def,hp])) (fun w _ hu=>rRead_calls _ _ w (hr5 w hu) (by rw [winL_len];decide)) ?_
 (try simp only [markAll_cons,markAll_app,markAll_tsOf,markAll_tag,markAll_new,markAll_nil])
 (refine tsZ ?_)
 refine fsZ ?_
 obtain ⟨X,hX⟩:∃ X,bev (winL L.il x 32)=X:=⟨_,rfl⟩
 rw [hX]
 refine LW.subP (fs':=(b,tuO f false)::(gs++(lw gt cur::rest))) (by exact subp_ix [gW,[_],gs] (xs:=[1,2]) (ys:=[0,1,2]) _ rfl) ?_
 refine cSz rfl rfl (fun w' hst=>tlay_calls w0 [] b f false L gs X _ w' (by omega) hfr hst) ?_
 intro v fs' h9
 obtain ⟨rfl,h⟩:=lay_tur h9
 (refine goZ ?_)
 exact inPI (.inl rfl) .nil rfl rsZ rfl ⟨_,⟨_,rfl,rfl,h⟩,SubP.refl _⟩
theorem tmemcp (op:Nat) (hop:op=55∨op=62) (x y z:Nat) (hx:x < M256) (hy:y < M256) (hz:z < M256) (hcur:(cur.toList.drop 0).take ([x,y,z].length * 4)=wcs [x,y,z]) :
  CallsS prog w0 [] 109 #[.pointer (some ⟨b,0,none⟩),.int .u8 (op:Int),.slice (some ⟨gt,0,none⟩) 3 ct] w (MemD b f L (if op=55 then copyV f L L.il x y z else if y+z≤L.bl.length then copyV f L L.bl x y z else none) (lw gt cur::rest)):=by
 have h1:∀ w',St w0 [] ((b,tuO f false)::(gs++(lw gt cur::rest))) w'→_:=fun w' hst=>tcopies_calls w0 b op f L gs x y z gt ct cur rest w' hop hx hy hz hF hfr hst hcur
 obtain ⟨o,ho⟩:∃ o,(if op=55 then copyV f L L.il x y z else if y+z≤L.bl.length then copyV f L L.bl x y z else none)=o:=⟨_,rfl⟩
 rw [ho] at h1 ⊢
 clear ho
 rcases hop with rfl|rfl
 ·exact dTBCLz
 ·exact dTBCLz
theorem tmem81 (x:Nat) (hx:x < M256) (hl:L.ws.length < 64) (hcur:(cur.toList.drop 0).take ([x].length * 4)=wcs [x]) :
  CallsS prog w0 [] 109 #[.pointer (some ⟨b,0,none⟩),.int .u8 81,.slice (some ⟨gt,0,none⟩) 1 ct] w (MemD b f L (loadV14 f L x) (lw gt cur::rest)):=by
 have hrdX:Rd prog 29 (.cells cur 29 (0,0)) (0+0 * 4) (wv x):=word_rd hcur 0 (by show 0 < 1;decide)
 have hg0:=hF.1.2.2
 refine dQBjUx ?_
 refine dQBxDi ?_
 rintro v fs' (⟨h1,rfl,rfl⟩|⟨h1,Y,gR,⟨c,s,m,i,bb,hY⟩,hfo,rfl,h2⟩)
 ·(refine goZ ?_)
  exact inPI (.inl rfl) .nil rfl rsZ rfl ⟨_,⟨_,rfl,rfl,by unfold loadV14 reaV;rw [if_neg (by omega)];exact ⟨f,gs,rfl⟩⟩,SubP.refl _⟩
 ·obtain ⟨hok1,hin1⟩:=reach_in hg0 hF.2.2.2.1 h1
  have hzz:=cost_in hF.2.2.2.1.2.1 (Nat.le_trans h1 hg0)
  have ht0:timesV ((32+31) / 32) 0=0:=by kernel_rfl
  rw [ht0] at h2
  rcases h2 with ⟨h3,rfl⟩|⟨h3,rfl⟩
  rotate_left
  ·omega
  have hx2:x+32≤1024:=by omega
  have hYg:Y.setG (Y.gas - 0)=Y:=rfl
  rw [hYg]
  obtain ⟨M,hM⟩:∃ M,(memR L x 32).ms=M:=⟨_,rfl⟩
  have hsome:loadV14 f L x=some (soOn (f.setG (f.gas - costR L x 32)) (L.ws++[bev ((M.drop x).take 32)]) M):=by unfold loadV14 reaV;rw [if_pos h1,← hM];rfl
  rw [hsome]
  have hmlen:=hin1 (by decide)
  rw [hM] at hmlen
  have h5:∀ (w':World) {fs:Fs},St w0 [] fs w'→(∀ p∈gR,p∈fs)→RowAt w' 1 Y.mem M.length (ucs M):=fun w' fs hst hsub=>by rw [← hM];exact (hfo.st hst hsub).m
  obtain ⟨qm,km,hqm⟩:∃ q k,Y.mem=.slice q M.length k:=by
   obtain ⟨_,_,_,_,_,_,_,_,h3,_,_⟩:=hfo
   unfold bM at h3
   rw [hM] at h3
   exact h3.form
  have hkm:M.length≤km:=by
   obtain ⟨_,_,_,_,_,_,_,_,h3,_,_⟩:=hfo
   unfold bM at h3
   rw [hM,hqm] at h3
   exact IsRow.le h3
  rw [hqm] at h5
  have hrdM:∀ {E fr},Rd prog 22 (.cells (tuc Y false) E fr) 3 (.slice qm M.length km):=fun {E fr}=>by rw [← hqm];exact tu_rd3
  obtain ⟨X,hX⟩:∃ X,bev ((M.drop x).take 32)=X:=⟨_,rfl⟩
  have hRd:∀ (w':World) {fs:Fs},St w0 [] fs w'→(∀ p∈gR,p∈fs)→Calls prog 53 #[cutAt qm x (x+32) km 1] w' (Ret w' (wv X)):=fun w' fs hst hsub=>by
   have h:=RowAt.midU (h5 w' hst hsub) (show x≤x+32 by omega) (by omega)
   have h:=rRead_calls _ _ w' h (by rw [yH];omega)
   rwa [show x+32 - x=32 by omega,hX] at h
  rw [hX,if_neg (show ¬ (32:Nat)=0 by decide)]
  (refine goZ ?_;apply qN;rfl;rfl;apply ValP.cutMid;exact vF;exact vF;rfl;rfl;rfl;omega;omega;refine cEz (c:=fun w hst=>by exact hRd _ hst (fun p hp=>by simp [hp])) (k:=?_))
  refine LW.subP (fs':=(b,tuO Y false)::(gR++(lw gt cur::rest))) (by exact subp_ix [[_],gR,gs] (xs:=[0,1]) (ys:=[0,1,2]) _ rfl) ?_
  refine cSz rfl rfl (fun w' hst=>tlay_calls w0 [] b Y false (memR L x 32) gR X _ w' (by show L.ws.length≤_;omega) hfo hst) ?_
  rintro v fs' ⟨rfl,s2,gs2,h6,h7⟩
  (refine goZ ?_)
  refine inPI (.inl rfl) .nil rfl rsZ rfl ⟨_,⟨_,rfl,rfl,c,s2,m,i,bb,gs2,?_,?_⟩,SubP.refl _⟩
  ·rw [hY,← hM] at *;exact h6
  ·rw [h7,hY];rfl
end
end
section
theorem dQBhau {P Q:Prop} (k:Q) (h:BoxZ Q→P:=by
 intro kQ
 refine LW.subP (fs':=(b,tuO Y false)::(gR++([(gl,Obj.cells cl 5 (0,0))]++(lw gt cur::rest)))) (by exact subp_ix [[_],[_],gR,gs] (xs:=[1,2,0]) (ys:=[0,1,2,3]) _ rfl) ?_
 exact kQ.k):P:=h ⟨k⟩
theorem dTBDNS {P:Prop} (h:P:=by
 unfold bM at h3
 rw [hM] at h3
 obtain ⟨q,k,hq⟩:=h3.form
 rw [hq] at h3
 exact ⟨q,k,hq,IsRow.le h3⟩):P:=h
theorem dTBVUz {P:Prop} (h:P:=by
 refine qO rfl rfl vF agZ hP ?_
 rintro v fs' h9
 obtain ⟨rfl,fs2,h10,h11⟩:=put_tur hY h9
 (refine goZ ?_)
 exact inPI (.inl rfl) .nil rfl rsZ rfl ⟨_,⟨_,rfl,rfl,h10⟩,h11⟩):P:=h
theorem dTBlZZ {P:Prop} (h:P:=by
 (refine goZ ?_)
 exact inPI (.inl rfl) .nil rfl rsZ rfl ⟨_,⟨_,rfl,rfl,by unfold storeV reaV;rw [if_neg (by omega)];exact ⟨f,gs,rfl⟩⟩,SubP.refl _⟩):P:=h
theorem dTBMgQ {P:Prop} (h:P:=by
 rw [← hP,← hM]
 split
 ·omega
 ·exact hin1 (by omega)):P:=h
attribute [local irreducible] SL.inP
theorem put_tur {b:Nat} {f Y:FrV} {L:FrL} {x n:Nat} {l:List UInt8} {rest r2 fs':Fs} {v c s m i bb:Value} (hY:Y=f.rowsG (f.gas - costR L x n) c s m i bb) (h:PutD b Y false (memR L x n) x l (r2++rest) v fs'):v=.tuple #[]∧∃ fs2,TurD b f L (some (soOn (f.setG (f.gas - costR L x n)) L.ws (layL (memR L x n).ms x l))) rest fs2∧SubP fs2 fs':=by
 obtain ⟨h1,gs',h2,h3⟩:=h
 refine ⟨h1,_,⟨c,s,m,i,bb,gs',?_,rfl⟩,?_⟩
 ·rw [hY] at h2;exact h2
 ·rw [h3,hY]
  exact subp_ix [[_],gs',r2] (xs:=[0,1]) (ys:=[0,1,2]) _ rfl
section
variable (w0 : World) (b : Nat) (f : FrV) (L : FrL) (gs : Fs) (gt ct : Nat) (cur : Array Value) (rest : Fs) (w : World) (hF : okF f L) (hfr : FrO f L gs) (hs : St w0 [] ((b, tuO f false) :: (gs ++ (lw gt cur :: rest))) w)
include hF hfr hs
theorem tmem82 (x y:Nat) (hx:x < M256) (hy:y < M256) (hcur:(cur.toList.drop 0).take ([x,y].length * 4)=wcs [x,y]) :
  CallsS prog w0 [] 109 #[.pointer (some ⟨b,0,none⟩),.int .u8 82,.slice (some ⟨gt,0,none⟩) 2 ct] w (MemD b f L (storeV f L x 32 (beb 32 y)) (lw gt cur::rest)):=by
 have hrdX:Rd prog 29 (.cells cur 29 (0,0)) (0+0 * 4) (wv x):=word_rd hcur 0 (by show 0 < 2;decide)
 have hrdY:Rd prog 29 (.cells cur 29 (0,0)) (0+1 * 4) (wv y):=word_rd hcur 1 (by show 1 < 2;decide)
 have hg0:=hF.1.2.2
 refine dQBjUx ?_
 refine dQBxDi ?_
 rintro v fs' (⟨h1,rfl,rfl⟩|⟨h1,Y,gR,⟨c,s,m,i,bb,hY⟩,hfo,rfl,h2⟩)
 ·exact dTBlZZ
 obtain ⟨hok1,hin1⟩:=reach_in hg0 hF.2.2.2.1 h1
 have hzz:=cost_in hF.2.2.2.1.2.1 (Nat.le_trans h1 hg0)
 have ht0:timesV ((32+31) / 32) 0=0:=by kernel_rfl
 rw [ht0] at h2
 rcases h2 with ⟨h3,rfl⟩|⟨h3,rfl⟩
 rotate_left
 ·omega
 rw [show Y.setG (Y.gas - 0)=Y from rfl]
 rw [if_neg (show ¬ (32:Nat)=0 by decide)]
 have hsome:storeV f L x 32 (beb 32 y)=some (soOn (f.setG (f.gas - costR L x 32)) L.ws (layL (memR L x 32).ms x (beb 32 y))):=by unfold storeV reaV;rw [if_pos h1];rfl
 rw [hsome]
 (refine goZ ?_)
 (refine crz (c:=fun w hs=>by exact rBytes_calls y hy w) (k:=?_))
 intro vB gB hB
 obtain ⟨qB,kB,rfl⟩:=hB.form
 obtain ⟨gl,cl,rfl,rfl,_,_,_,htkB⟩:=hB.pos (by decide)
 refine dQBhau ?_
 have hP:∀ w',St w0 [] ((b,tuO Y false)::(gR++([(gl,Obj.cells cl 5 (0,0))]++(lw gt cur::rest)))) w'→CallsS prog w0 [] 179 #[.pointer (some ⟨b,0,none⟩),.int .i64 (x:Int),.slice (some ⟨gl,0,none⟩) 32 kB] w' (PutD b Y false (memR L x 32) x (beb 32 y) ([(gl,Obj.cells cl 5 (0,0))]++(lw gt cur::rest))):=fun w' hst=>by
  have h:=tput_calls w0 [] b Y false (memR L x 32) gR x (beb 32 y) gl 0 kB cl ([(gl,Obj.cells cl 5 (0,0))]++(lw gt cur::rest)) w' hok1.2.1 (.inr (by rw [beb_len];exact hin1 (by decide))) (by omega) hfo hst (yG _ (List.mem_singleton.2 rfl)) (by rw [beb_len,yW];exact htkB)
  rwa [beb_len] at h
 exact dTBVUz
theorem tmem83 (x y:Nat) (hx:x < M256) (hy:y < M256) (hcur:(cur.toList.drop 0).take ([x,y].length * 4)=wcs [x,y]) :
  CallsS prog w0 [] 109 #[.pointer (some ⟨b,0,none⟩),.int .u8 83,.slice (some ⟨gt,0,none⟩) 2 ct] w (MemD b f L (storeV f L x 1 ((beb 32 y).drop 31)) (lw gt cur::rest)):=by
 have hrdX:Rd prog 29 (.cells cur 29 (0,0)) (0+0 * 4) (wv x):=word_rd hcur 0 (by show 0 < 2;decide)
 have hrdY:Rd prog 29 (.cells cur 29 (0,0)) (0+1 * 4) (wv y):=word_rd hcur 1 (by show 1 < 2;decide)
 have hg0:=hF.1.2.2
 refine dQBjUx ?_
 (refine goZ ?_;refine lvz (.buildW1L rfl (by decide) rfl) ?_)
 refine cSz rfl rfl (fun w' hst=>treach_calls w0 b f false L gs x 1 0 _ w' hx (by decide) (by decide) hF hfr hst) ?_
 rintro v fs' (⟨h1,rfl,rfl⟩|⟨h1,Y,gR,⟨c,s,m,i,bb,hY⟩,hfo,rfl,h2⟩)
 ·exact dTBlZZ
 obtain ⟨hok1,hin1⟩:=reach_in hg0 hF.2.2.2.1 h1
 have hzz:=cost_in hF.2.2.2.1.2.1 (Nat.le_trans h1 hg0)
 have ht0:timesV ((1+31) / 32) 0=0:=by kernel_rfl
 rw [ht0] at h2
 rcases h2 with ⟨h3,rfl⟩|⟨h3,rfl⟩
 rotate_left
 ·omega
 rw [show Y.setG (Y.gas - 0)=Y from rfl]
 rw [if_neg (show ¬ (1:Nat)=0 by decide)]
 have hsome:storeV f L x 1 ((beb 32 y).drop 31)=some (soOn (f.setG (f.gas - costR L x 1)) L.ws (layL (memR L x 1).ms x ((beb 32 y).drop 31))):=by unfold storeV reaV;rw [if_pos h1];rfl
 rw [hsome]
 (refine goZ ?_)
 (refine crz (c:=fun w hs=>by exact rBytes_calls y hy w) (k:=?_))
 intro vB gB hB
 obtain ⟨qB,kB,rfl⟩:=hB.form
 obtain ⟨gl,cl,rfl,rfl,hkB,_,_,htkB⟩:=hB.pos (by decide)
 (refine lvz (.cutFromL vF vF rfl rfl (by decide) (by omega)) ?_)
 have hcut:cutAt (some ⟨gl,0,none⟩) 31 32 kB 1=.slice (some ⟨gl,31,none⟩) 1 (kB - 31):=by
  unfold cutAt
  rw [if_neg (by omega)]
  rfl
 rw [hcut]
 have hbl:((beb 32 y).drop 31).length=1:=by rw [yL,beb_len]
 have hcl:(cl.toList.drop 31).take (((beb 32 y).drop 31).length * 1)=ucs ((beb 32 y).drop 31):=by
  rw [hbl,← ucs_drop,← htkB,List.drop_take]
 refine dQBhau ?_
 have hP:∀ w',St w0 [] ((b,tuO Y false)::(gR++([(gl,Obj.cells cl 5 (0,0))]++(lw gt cur::rest)))) w'→CallsS prog w0 [] 179 #[.pointer (some ⟨b,0,none⟩),.int .i64 (x:Int),.slice (some ⟨gl,31,none⟩) 1 (kB - 31)] w' (PutD b Y false (memR L x 1) x ((beb 32 y).drop 31) ([(gl,Obj.cells cl 5 (0,0))]++(lw gt cur::rest))):=fun w' hst=>by
  have h:=tput_calls w0 [] b Y false (memR L x 1) gR x ((beb 32 y).drop 31) gl 31 (kB - 31) cl ([(gl,Obj.cells cl 5 (0,0))]++(lw gt cur::rest)) w' hok1.2.1 (.inr (by rw [hbl];exact hin1 (by decide))) (by omega) hfo hst (yG _ (List.mem_singleton.2 rfl)) hcl
  rwa [hbl] at h
 exact dTBVUz
theorem tmem32 (x z:Nat) (hx:x < M256) (hz:z < M256) (hl:L.ws.length < 64) (hcur:(cur.toList.drop 0).take ([x,z].length * 4)=wcs [x,z]) :
  CallsS prog w0 [] 109 #[.pointer (some ⟨b,0,none⟩),.int .u8 32,.slice (some ⟨gt,0,none⟩) 2 ct] w (MemD b f L (hashV f L x z) (lw gt cur::rest)):=by
 have hrdX:Rd prog 29 (.cells cur 29 (0,0)) (0+0 * 4) (wv x):=word_rd hcur 0 (by show 0 < 2;decide)
 have hrdY:Rd prog 29 (.cells cur 29 (0,0)) (0+1 * 4) (wv z):=word_rd hcur 1 (by show 1 < 2;decide)
 have hg0:=hF.1.2.2
 refine dQBjUx ?_
 (refine goZ ?_)
 refine dQBsmE ?_
 refine cSz rfl rfl (fun w' hst=>treach_calls w0 b f false L gs x z 6 _ w' hx hz (by decide) hF hfr hst) ?_
 rintro v fs' (⟨h1,rfl,rfl⟩|⟨h1,Y,gR,⟨c,s,m,i,bb,hY⟩,hfo,rfl,h2⟩)
 ·apply zV
  refine midN ?_
  (refine tsZ ?_)
  refine fsZ ?_
  (refine goZ ?_)
  exact inPI (.inl rfl) .nil rfl rsZ rfl ⟨_,⟨_,rfl,rfl,by unfold hashV reaV;rw [if_neg (by omega)];exact ⟨f,gs,rfl⟩⟩,SubP.refl _⟩
 obtain ⟨hok1,hin1⟩:=reach_in hg0 hF.2.2.2.1 h1
 have hzz:=cost_in hF.2.2.2.1.2.1 (Nat.le_trans h1 hg0)
 have hYg:Y.gas=f.gas - costR L x z:=by rw [hY];rfl
 obtain ⟨T,hTT⟩:∃ T,timesV ((z+31) / 32) 6=T:=⟨_,rfl⟩
 rw [hTT] at h2
 rcases h2 with ⟨h3,rfl⟩|⟨h3,rfl⟩
 rotate_left
 ·apply zV
  refine midN ?_
  (refine tsZ ?_)
  refine fsZ ?_
  (refine goZ ?_)
  refine inPI (.inl rfl) .nil rfl rsZ rfl ⟨_,⟨_,rfl,rfl,?_⟩,subp_ix [[_],gR,gs] (xs:=[0,1]) (ys:=[0,1,2]) _ rfl⟩
  have hn:hashV f L x z=none:=by
   unfold hashV reaV
   rw [if_pos h1]
   show (spnV (f.setG (f.gas - costR L x z)) _).bind _=_
   unfold spnV
   rw [hTT,if_neg (by show ¬ _≤f.gas - costR L x z;omega)]
   rfl
  rw [hn]
  exact ⟨Y,gR,rfl⟩
 obtain ⟨M,hM⟩:∃ M,(memR L x z).ms=M:=⟨_,rfl⟩
 obtain ⟨P,hP⟩:∃ P:Nat,(if z=0 then 0 else x)=P:=⟨_,rfl⟩
 have hPz:P+z≤M.length:=by
  exact dTBMgQ
 have hcutP:(M.drop P).take z=(M.drop x).take z:=by
  rw [← hP]
  split
  ·rename_i h;subst h;simp
  ·rfl
 obtain ⟨X,hX⟩:∃ X,digW ((M.drop x).take z)=X:=⟨_,rfl⟩
 have hsome:hashV f L x z=some (soOn (f.setG (f.gas - costR L x z - T)) (L.ws++[X]) M):=by
  unfold hashV reaV
  rw [if_pos h1]
  show (spnV (f.setG (f.gas - costR L x z)) _).bind _=_
  unfold spnV
  rw [hTT,if_pos (by show _≤f.gas - costR L x z;omega),hM]
  show some (soOn _ (L.ws++[digW ((M.drop x).take z)]) M)=_
  rw [hX]
  rfl
 rw [hsome,hP]
 obtain ⟨Z,hZ⟩:∃ Z,Y.setG (Y.gas - T)=Z:=⟨_,rfl⟩
 have hfo2:FrO Z (memR L x z) gR:=hZ ▸ hfo
 have hZs:Z=f.rowsG (f.gas - costR L x z - T) c s m i bb:=by rw [← hZ,hY];rfl
 rw [hZ]
 have h5:∀ (w':World) {fs:Fs},St w0 [] fs w'→(∀ p∈gR,p∈fs)→RowAt w' 1 Z.mem M.length (ucs M):=fun w' fs hst hsub=>by rw [← hM];exact (hfo2.st hst hsub).m
 obtain ⟨qm,km,hqm,hkm⟩:∃ q k,Z.mem=.slice q M.length k∧M.length≤k:=by
  obtain ⟨_,_,_,_,_,_,_,_,h3,_,_⟩:=hfo2
  exact dTBDNS
 rw [hqm] at h5
 have hrdM:∀ {E fr},Rd prog 22 (.cells (tuc Z false) E fr) 3 (.slice qm M.length km):=fun {E fr}=>by rw [← hqm];exact tu_rd3
 have hRd:∀ (w':World) {fs:Fs},St w0 [] fs w'→(∀ p∈gR,p∈fs)→Calls prog 181 #[cutAt qm P (P+z) km 1] w' (Ret w' (wv X)):=fun w' fs hst hsub=>by
  have h:=RowAt.midU (h5 w' hst hsub) (show P≤P+z by omega) hPz
  have h:=rDigest_calls _ _ w' h (by rw [yH];omega)
  rwa [show P+z - P=z by omega,hcutP,hX] at h
 apply zV
 refine midN ?_
 (refine tsZ ?_)
 refine fsZ ?_
 have hM1:M.length≤1024:=by rw [← hM];exact hok1.2.1
 (refine goZ ?_;apply qN;rfl;rfl;apply ValP.cutMid;exact vF;exact vF;rfl;rfl;rfl;omega;omega;refine cEz (c:=fun w hst=>by exact hRd _ hst (fun p hp=>by simp [hp])) (k:=?_))
 refine LW.subP (fs':=(b,tuO Z false)::(gR++(lw gt cur::rest))) (by exact subp_ix [[_],gR,gs] (xs:=[0,1]) (ys:=[0,1,2]) _ rfl) ?_
 refine cSz rfl rfl (fun w' hst=>tlay_calls w0 [] b Z false (memR L x z) gR X _ w' (by show L.ws.length≤_;omega) hfo2 hst) ?_
 rintro v fs' ⟨rfl,s2,gs2,h6,h7⟩
 (refine goZ ?_)
 refine inPI (.inl rfl) .nil rfl rsZ rfl ⟨_,⟨_,rfl,rfl,c,s2,m,i,bb,gs2,?_,?_⟩,SubP.refl _⟩
 ·rw [hZs,← hM] at *;exact h6
 ·rw [h7,hZs];rfl
end
end
section
theorem dQBAML {P Q:Prop} (k:Q) (h:BoxZ Q→P:=by
 intro kQ
 refine enterS (args:=[_,_,_]) func107 rfl ntmps107 rfl (by assumption) ?_
 exact kQ.k):P:=h ⟨k⟩
theorem dTBHRy {P:Prop} (h:P:=by
 refine enterS (args:=[_,_,_]) func107 rfl ntmps107 rfl (by assumption) ?_
 (refine goZ ?_;intro _;refine bTz ?_)
 exact inPI (.inl rfl) .nil rfl rsZ rfl ⟨_,⟨_,rfl,_,rfl,hA _ 0⟩,SubP.cons (SubP.refl _)⟩):P:=h
attribute [local irreducible] SL.inP
def AkF (v:Value):Prop:=∃ k op t d,v=.agg (aska k op t d)∧(∃ p n c,t=.slice p n c)∧∃ p n c,d=.slice p n c
def AskD (b:Nat) (f:FrV) (L:FrL) (o:Option SO) (R rest:Fs) (a:Value) (fs':Fs):Prop:=match o with
 |none=>AkF a∧∃ f' gs',fs'=(b,tuO f' true)::(gs'++rest)
 |some o=>∃ c s m i bb gs' t d,a=.agg (aska o.kind o.op t d)∧(∃ p n c,t=.slice p n c)∧(∃ p n c,d=.slice p n c)∧FrO (f.so o c s m i bb) (soL L o) gs'∧fs'=(b,tuO (f.so o c s m i bb) false)::(gs'++rest) ∧
  ∀ w':World,(∀ p∈gs'++R,w'.heap[p.1]?=some p.2)→RowAt w' 4 t o.words.length (wcs o.words)∧RowAt w' 1 d o.data.length (ucs o.data)
theorem nil_sl:∃ p n c,Value.slice none 0 0=.slice p n c:=⟨_,_,_,rfl⟩
section
variable (w0 : World) (b : Nat) (f : FrV) (L : FrL) (gs R rest : Fs) (w : World) (l : List Nat) (lv : Value) (hfr : FrO f L gs) (hs : St w0 [] ((b, tuO f false) :: (gs ++ rest)) w) (hlf : ∃ p n c, lv = .slice p n c) (hrow : ∀ w' : World, (∀ p ∈ R, w'.heap[p.1]? = some p.2) → RowAt w' 4 lv l.length (wcs l))
include hfr hs hlf hrow
theorem ask_words (k:Int) (op:Nat) (g:Nat):AskD b f L (some ⟨k,op,f.gas,f.pc,L.ws,L.ms,l,[]⟩) R rest (.agg (aska k op lv (.slice none 0 0))) ((b,tuO f false)::(gs++rest)) :=
 have _:=hs
 ⟨f.code,f.stk,f.mem,f.inp,f.back,gs,lv,_,rfl,hlf,nil_sl,hfr,rfl,fun w' h=>⟨hrow w' fun p hp=>h p (jT _ hp),.nil⟩⟩
theorem tasks_state (op:Nat) (hop:op=49∨op=71∨op=84∨op=92) :
  CallsS prog w0 [] 107 #[.pointer (some ⟨b,0,none⟩),.int .u8 (op:Int),lv] w (fun v fs'=>∃ a,v=.tuple #[a,.bool true]∧AskD b f L (some (stateV op f L l)) R rest a fs'):=by
 obtain ⟨pl,nl,cl,rfl⟩:=id hlf
 have hA:=ask_words w0 b f L gs R rest w l _ hfr hs hlf hrow 1
 rcases hop with rfl|rfl|rfl|rfl
 ·exact dTBHRy
 ·exact dTBHRy
 ·exact dTBHRy
 ·exact dTBHRy
theorem tasks_change (op:Nat) (hop:op=85∨op=93) :
  CallsS prog w0 [] 107 #[.pointer (some ⟨b,0,none⟩),.int .u8 (op:Int),lv] w (fun v fs'=>∃ a,v=.tuple #[a,.bool true]∧AskD b f L (if f.stat=true then none else some (stateV op f L l)) R rest a fs'):=by
 obtain ⟨pl,nl,cl,rfl⟩:=id hlf
 have hA:=ask_words w0 b f L gs R rest w l _ hfr hs hlf hrow 1
 obtain ⟨st,hst⟩:∃ st,f.stat=st:=⟨_,rfl⟩
 have hst13:∀ {E fr},Rd prog 4 (.cells (tuc f false) E fr) 13 (.bool st):=fun {E fr}=>by rw [← hst];exact tu_rd13
 rw [hst]
 cases st with
 |false =>
  rcases hop with rfl|rfl
  ·refine dQBAML ?_
   (refine sRz ?_;apply zU;rfl;intro _;refine vAz<|nNz<|zI<|sRz<|vMz<|nNz<|zM<|zI<|sRz ?_;refine lvz (.eqT rfl rfl (by omega)) ?_;refine vAz<|nNz<|cTz<|zJ<|thenN<|cTz<|sRz<|vMz<|vMz<|vNz<|vFz<|vFz<|ldz rfl (.tail .head) hst13<|vNz ?_;refine vFz ?_;apply zR;rfl;rfl;apply qE;apply qA;apply tu_wr14 (z:=.bool false);refine nSz<|vMz<|vMz ?_;apply qN;rfl;rfl;apply zW;exact vF;exact vF;apply zA;rfl;apply zA;rfl;apply zA;rfl;exact zB;rfl;simp only [fillP,wrCells,Value.cells,jB,jC,jD,jA,jF,jE,Nat.reduceAdd,jH];rfl;apply zR;rfl;rfl;apply qA;apply aq_wrW;rfl;exact hlf;exact nil_sl;refine vAz<|nNz<|zK<|blkR<|thenR ?_)
   exact inPI (.inl rfl) .nil rfl rsZ rfl ⟨_,⟨_,rfl,_,rfl,hA _ 0⟩,SubP.cons (SubP.refl _)⟩
  ·refine dQBAML ?_
   (refine sRz ?_;apply zU;rfl;intro _;refine vAz<|nNz<|zI<|sRz<|vMz<|nNz<|zM<|zI<|sRz ?_;refine lvz (.eqF rfl rfl (by omega)) ?_;refine vAz<|nNz<|cFz<|zL ?_;refine lvz (.eqT rfl rfl (by omega)) ?_;refine vAz<|nNz<|cTz<|sRz<|vMz<|vMz<|vNz<|vFz<|vFz<|ldz rfl (.tail .head) hst13<|vNz<|vFz ?_;apply zR;rfl;rfl;apply qE;apply qA;apply tu_wr14 (z:=.bool false);refine nSz<|vMz<|vMz ?_;apply qN;rfl;rfl;apply zW;exact vF;exact vF;apply zA;rfl;apply zA;rfl;apply zA;rfl;exact zB;rfl;simp only [fillP,wrCells,Value.cells,jB,jC,jD,jA,jF,jE,Nat.reduceAdd,jH];rfl;apply zR;rfl;rfl;apply qA;apply aq_wrW;rfl;exact hlf;exact nil_sl;refine vAz<|nNz<|zK<|blkR<|thenR ?_)
   exact inPI (.inl rfl) .nil rfl rsZ rfl ⟨_,⟨_,rfl,_,rfl,hA _ 0⟩,SubP.cons (SubP.refl _)⟩
 |true =>
  rcases hop with rfl|rfl
  ·refine dQBAML ?_
   (refine sRz ?_;apply zU;rfl;intro _;refine vAz<|nNz<|zI<|sRz<|vMz<|nNz<|zM<|zI<|sRz ?_;refine lvz (.eqT rfl rfl (by omega)) ?_;refine vAz<|nNz<|cTz<|zJ<|thenN<|cTz<|sRz<|vMz<|vMz<|vNz<|vFz<|vFz<|ldz rfl (.tail .head) hst13<|vNz ?_;refine vFz ?_;apply zR;rfl;rfl;apply qE;apply qA;apply tu_wr14 (z:=.bool false);refine nSz<|vMz<|vMz ?_;apply qN;rfl;rfl;apply zW;exact vF;exact vF;apply zA;rfl;apply zA;rfl;apply zA;rfl;exact zB;rfl;simp only [fillP,wrCells,Value.cells,jB,jC,jD,jA,jF,jE,Nat.reduceAdd,jH];rfl;apply zR;rfl;rfl;apply qA;apply aq_wrW;rfl;exact hlf;exact nil_sl;refine vAz<|nNz<|zK<|blkR<|thenR ?_)
   exact inPI (.inl rfl) .nil rfl rsZ rfl ⟨_,⟨_,rfl,_,rfl,⟨_,_,_,_,rfl,hlf,nil_sl⟩,f,gs,rfl⟩,SubP.cons (SubP.refl _)⟩
  ·refine dQBAML ?_
   (refine sRz ?_;apply zU;rfl;intro _;refine vAz<|nNz<|zI<|sRz<|vMz<|nNz<|zM<|zI<|sRz ?_;refine lvz (.eqF rfl rfl (by omega)) ?_;refine vAz<|nNz<|cFz<|zL ?_;refine lvz (.eqT rfl rfl (by omega)) ?_;refine vAz<|nNz<|cTz<|sRz<|vMz<|vMz<|vNz<|vFz<|vFz<|ldz rfl (.tail .head) hst13<|vNz<|vFz ?_;apply zR;rfl;rfl;apply qE;apply qA;apply tu_wr14 (z:=.bool false);refine nSz<|vMz<|vMz ?_;apply qN;rfl;rfl;apply zW;exact vF;exact vF;apply zA;rfl;apply zA;rfl;apply zA;rfl;exact zB;rfl;simp only [fillP,wrCells,Value.cells,jB,jC,jD,jA,jF,jE,Nat.reduceAdd,jH];rfl;apply zR;rfl;rfl;apply qA;apply aq_wrW;rfl;exact hlf;exact nil_sl;refine vAz<|nNz<|zK<|blkR<|thenR ?_)
   exact inPI (.inl rfl) .nil rfl rsZ rfl ⟨_,⟨_,rfl,_,rfl,⟨_,_,_,_,rfl,hlf,nil_sl⟩,f,gs,rfl⟩,SubP.cons (SubP.refl _)⟩
theorem tasks_stop :
  CallsS prog w0 [] 107 #[.pointer (some ⟨b,0,none⟩),.int .u8 0,lv] w (fun v fs'=>∃ a,v=.tuple #[a,.bool true]∧AskD b f L (some ⟨3,0,f.gas,f.pc,L.ws,L.ms,[],[]⟩) R rest a fs'):=by
 have _:=hlf
 have _:=hrow
 refine dQBAML ?_
 (refine goZ ?_;intro _;refine bTz ?_)
 exact inPI (.inl rfl) .nil rfl rsZ rfl ⟨_,⟨_,rfl,_,rfl,f.code,f.stk,f.mem,f.inp,f.back,gs,_,_,rfl,nil_sl,nil_sl,hfr,rfl,fun w' h=>⟨.nil,.nil⟩⟩,SubP.cons (SubP.refl _)⟩
theorem tasks_no (op:Nat) (hop:op < 256) (h:op ≠ 85∧op ≠ 93∧op ≠ 49∧op ≠ 71∧op ≠ 84∧op ≠ 92∧op ≠ 241∧op ≠ 244∧op ≠ 250∧op ≠ 245∧op ≠ 0∧op ≠ 243∧op ≠ 253) :
  CallsS prog w0 [] 107 #[.pointer (some ⟨b,0,none⟩),.int .u8 (op:Int),lv] w (fun v fs'=>v=.tuple #[.agg (aska 0 0 (.slice none 0 0) (.slice none 0 0)),.bool false]∧fs'=(b,tuO f false)::(gs++rest)):=by
 have _:=hfr
 have _:=hlf
 have _:=hrow
 obtain ⟨h1,h2,h3,h4,h5,h6,h7,h8,h9,h10,h11,h12,h13⟩:=h
 refine dQBAML ?_
 (refine goZ ?_;intro _;refine bTz ?_)
 exact inPI (.inl rfl) .nil rfl rsZ rfl ⟨_,⟨_,rfl,rfl,rfl⟩,SubP.cons (SubP.refl _)⟩
end
end
section
theorem dQBdcx {P Q:Prop} (k:Q) (h:BoxZ Q→P:=by
 intro kQ
 refine LW.subP (fs':=(b,tuO f false)::(gs++((b6,.cells (aska 0 0 (.slice none 0 0) (.slice none 0 0)) 37 (0,0))::lw gt cur::rest))) (by exact subp_ix [[_],[_],gs] (xs:=[1,2,0]) (ys:=[0,1,2]) _ rfl) ?_
 refine cSz rfl rfl (fun w' hst=>treach_calls w0 b f false L gs x z 0 _ w' hx hz (by decide) hF hfr hst) ?_
 exact kQ.k):P:=h ⟨k⟩
theorem dTBSNW {P:Prop} (h:P:=by
 refine enterS (args:=[_,_,_]) func107 rfl ntmps107 rfl (by assumption) ?_
 (refine goZ ?_;intro _;apply zR;rfl;rfl;apply qE;apply qA;apply tu_wr14 (z:=.bool false);refine goZ ?_;refine bTz ?_)
 exact inPI (.inl rfl) .nil rfl rsZ rfl ⟨_,⟨_,rfl,_,rfl,hA _ 0⟩,SubP.cons (SubP.refl _)⟩):P:=h
theorem dTBWeN {P:Prop} (h:P:=by
 have h:=RowAt.midU (h5 w' fun p hp=>h p (yG _ hp)) (show P≤P+z by omega) hPz
 rw [show P+z - P=z by omega,hcutP] at h
 exact h):P:=h
theorem dTBAeN {P:Prop} (h:P:=by
 rw [← hTT]
 unfold timesV
 rw [if_neg (by show ¬ 1099511627776≤_;omega),Nat.mul_zero,Nat.zero_min]):P:=h
attribute [local irreducible] SL.inP
theorem endsV_none {op:Nat} {f:FrV} {L:FrL} {x z:Nat} (h:f.gas < costR L x z):endsV op f L x z=none:=by
 unfold endsV reaV
 rw [if_neg (by omega)]
 rfl
theorem endsV_some {op:Nat} {f:FrV} {L:FrL} {x z:Nat} (h:costR L x z≤f.gas):endsV op f L x z=some ⟨if op=253 then 5 else 4,0,f.gas - costR L x z,f.pc,L.ws,(memR L x z).ms,[],((memR L x z).ms.drop x).take z⟩:=by
 unfold endsV reaV
 rw [if_pos h]
 rfl
section wr
variable {P : Program} {T E : TypeId} {k k' : Int} {op : Nat} {u d d' z : Value}
theorem aq_wr0 [InfoI P T 1 z]:Wr P T (.cells (aska k op u d) E (0,0)) 0 (.int .i64 k') (.cells (aska k' op u d) E (0,0)):=qU (n:=1) (z:=z) rfl rfl (by show 0+1≤4;omega) rfl
theorem aq_wr3 [InfoI P T 1 z] {p:Option Addr} {n c:Nat}:Wr P T (.cells (aska k op u d) E (0,0)) 3 (.slice p n c) (.cells (aska k op u (.slice p n c)) E (0,0)):=qU (n:=1) (z:=z) rfl rfl (by show 3+1≤4;omega) rfl
end wr
section
variable (w0 : World) (b : Nat) (f : FrV) (L : FrL) (gs : Fs) (gt ct : Nat) (cur : Array Value) (R rest : Fs) (w : World) (l : List Nat) (hfr : FrO f L gs) (hs : St w0 [] ((b, tuO f false) :: (gs ++ (lw gt cur :: rest))) w) (hrow : ∀ w' : World, (∀ p ∈ R, w'.heap[p.1]? = some p.2) → RowAt w' 4 (.slice (some ⟨gt, 0, none⟩) l.length ct) l.length (wcs l)) (hcur : (cur.toList.drop 0).take (l.length * 4) = wcs l) (hlt : ∀ x ∈ l, x < M256)
include hfr hs hrow hcur hlt
theorem tasks_call (op:Nat) (hop:op=241∧2 < l.length∨op=244∨op=250∨op=245) :
  CallsS prog w0 [] 107 #[.pointer (some ⟨b,0,none⟩),.int .u8 (op:Int),.slice (some ⟨gt,0,none⟩) l.length ct] w (fun v fs'=>∃ a,v=.tuple #[a,.bool true]∧AskD b f L (callV14 op f L l) R (lw gt cur::rest) a fs'):=by
 have hA:=ask_words w0 b f L gs R _ w l _ hfr hs ⟨_,_,_,rfl⟩ hrow 2
 have hlf:∃ p n c,Value.slice (some ⟨gt,0,none⟩) l.length ct=.slice p n c:=⟨_,_,_,rfl⟩
 obtain ⟨st,hst⟩:∃ st,f.stat=st:=⟨_,rfl⟩
 have hst13:∀ {E fr},Rd prog 4 (.cells (tuc f false) E fr) 13 (.bool st):=fun {E fr}=>by rw [← hst];exact tu_rd13
 unfold callV14
 rw [hst]
 cases st with
 |false =>
  rw [if_neg (fun h=>by cases h.1)]
  rcases hop with ⟨rfl,_⟩|rfl|rfl|rfl
  ·exact dTBSNW
  ·exact dTBSNW
  ·exact dTBSNW
  ·exact dTBSNW
 |true =>
  rcases hop with ⟨rfl,h2⟩|rfl|rfl|rfl
  ·have hx:l.getD 2 0 < M256:=getD_wlt hlt h2
   have hrdZ:Rd prog 29 (.cells cur 29 (0,0)) (0+2 * 4) (wv (l.getD 2 0)):=word_rd hcur 2 h2
   have hNo0:=None_calls (l.getD 2 0) hx
   obtain ⟨X,hX⟩:∃ X,l.getD 2 0=X:=⟨_,rfl⟩
   rw [hX] at hrdZ hNo0 ⊢
   by_cases h0:X=0
   ·have hNo:∀ w,Calls prog 112 #[wv X] w (Ret w (.bool true)):=fun w=>by have h:=hNo0 w;rwa [vE h0] at h
    rw [if_neg (fun h=>by rcases h.2 with h|h;cases h;exact h.2 h0)]
    refine dQBAML ?_
    (refine goZ ?_;intro _;refine cEv hNo ?_;apply zR;rfl;rfl;apply qE;apply qA;apply tu_wr14 (z:=.bool false);refine goZ ?_;refine bTz ?_)
    exact inPI (.inl rfl) .nil rfl rsZ rfl ⟨_,⟨_,rfl,_,rfl,hA _ 0⟩,SubP.cons (SubP.refl _)⟩
   ·have hNo:∀ w,Calls prog 112 #[wv X] w (Ret w (.bool false)):=fun w=>by have h:=hNo0 w;rwa [vA h0] at h
    rw [if_pos ⟨rfl,.inr ⟨rfl,h0⟩⟩]
    refine dQBAML ?_
    (refine goZ ?_;intro _;refine cEv hNo ?_;apply zR;rfl;rfl;apply qE;apply qA;apply tu_wr14 (z:=.bool false);refine goZ ?_;refine bTz ?_)
    exact inPI (.inl rfl) .nil rfl rsZ rfl ⟨_,⟨_,rfl,_,rfl,⟨_,_,_,_,rfl,hlf,nil_sl⟩,f,gs,rfl⟩,SubP.cons (SubP.refl _)⟩
  ·rw [if_neg (fun h=>by rcases h.2 with h|h;cases h;cases h.1)]
   exact dTBSNW
  ·rw [if_neg (fun h=>by rcases h.2 with h|h;cases h;cases h.1)]
   exact dTBSNW
  ·rw [if_pos ⟨rfl,.inl rfl⟩]
   refine dQBAML ?_
   (refine goZ ?_;intro _;apply zR;rfl;rfl;apply qE;apply qA;apply tu_wr14 (z:=.bool false);refine goZ ?_;refine bTz ?_)
   exact inPI (.inl rfl) .nil rfl rsZ rfl ⟨_,⟨_,rfl,_,rfl,⟨_,_,_,_,rfl,hlf,nil_sl⟩,f,gs,rfl⟩,SubP.cons (SubP.refl _)⟩
theorem tasks_ends (op x z:Nat) (hl:l=[x,z]) (hop:op=243∨op=253) (hF:okF f L) :
  CallsS prog w0 [] 107 #[.pointer (some ⟨b,0,none⟩),.int .u8 (op:Int),.slice (some ⟨gt,0,none⟩) 2 ct] w (fun v fs'=>∃ a,v=.tuple #[a,.bool true]∧AskD b f L (endsV op f L x z) R (lw gt cur::rest) a fs'):=by
 subst hl
 have hx:x < M256:=hlt x (by simp)
 have hz:z < M256:=hlt z (by simp)
 have hrdX:Rd prog 29 (.cells cur 29 (0,0)) (0+0 * 4) (wv x):=word_rd hcur 0 (by show 0 < 2;decide)
 have hrdY:Rd prog 29 (.cells cur 29 (0,0)) (0+1 * 4) (wv z):=word_rd hcur 1 (by show 1 < 2;decide)
 have hg0:=hF.1.2.2
 rcases hop with rfl|rfl
 ·refine dQBAML ?_
  (refine goZ ?_;intro _)
  refine dQBsmE ?_
  rename_i b6
  refine dQBdcx ?_
  rintro v fs' (⟨h1,rfl,rfl⟩|⟨h1,Y,gR,⟨c,s,m,i,bb,hY⟩,hfo,rfl,h2⟩)
  ·apply zV
   refine midN ?_
   (refine tsZ ?_)
   refine fsZ ?_
   (refine goZ ?_;refine bTz ?_;intro _)
   refine inPI (.inl rfl) .nil rfl rsZ rfl ⟨_,⟨_,rfl,_,rfl,?_⟩,subp_ix [[_],[_],gs,[_]] (xs:=[1,2]) (ys:=[0,1,2,3]) (lw gt cur::rest) rfl⟩
   rw [endsV_none h1]
   exact ⟨⟨_,_,_,_,rfl,nil_sl,nil_sl⟩,f,gs,rfl⟩
  ·obtain ⟨hok1,hin1⟩:=reach_in hg0 hF.2.2.2.1 h1
   have hzz:=cost_in hF.2.2.2.1.2.1 (Nat.le_trans h1 hg0)
   obtain ⟨T,hTT⟩:∃ T,timesV ((z+31) / 32) 0=T:=⟨_,rfl⟩
   have hT0:T=0:=by
    exact dTBAeN
   rw [hTT,hT0] at h2
   rcases h2 with ⟨h3,rfl⟩|⟨h3,rfl⟩
   rotate_left
   ·omega
   rw [show Y.setG (Y.gas - 0)=Y from rfl]
   obtain ⟨M,hM⟩:∃ M,(memR L x z).ms=M:=⟨_,rfl⟩
   obtain ⟨P,hP⟩:∃ P:Nat,(if z=0 then 0 else x)=P:=⟨_,rfl⟩
   have hPz:P+z≤M.length:=by
    exact dTBMgQ
   have hcutP:(M.drop P).take z=(M.drop x).take z:=by
    rw [← hP]
    split
    ·rename_i h;subst h;simp
    ·rfl
   have hM1:M.length≤1024:=by rw [← hM];exact hok1.2.1
   rw [hP,endsV_some h1,hM]
   have h5:∀ (w':World),(∀ p∈gR,w'.heap[p.1]?=some p.2)→RowAt w' 1 Y.mem M.length (ucs M):=fun w' hst=>by rw [← hM];exact (hfo.rows hst).m
   obtain ⟨qm,km,hqm,hkm⟩:∃ q k,Y.mem=.slice q M.length k∧M.length≤k:=by
    obtain ⟨_,_,_,_,_,_,_,_,h3,_,_⟩:=hfo
    exact dTBDNS
   rw [hqm] at h5
   have hrdM:∀ {E fr},Rd prog 22 (.cells (tuc Y false) E fr) 3 (.slice qm M.length km):=fun {E fr}=>by rw [← hqm];exact tu_rd3
   apply zV
   refine midN ?_
   (refine tsZ ?_)
   refine fsZ ?_
   (refine goZ ?_;refine bTz ?_;intro _;apply qN;rfl;rfl;apply ValP.cutMid;exact vF;exact vF;rfl;rfl;rfl;omega;omega;refine goZ ?_;apply zR;rfl;rfl;apply qA;apply aq_wr3 (z:=.slice none 0 0);refine goZ ?_)
   refine inPI (.inl rfl) .nil rfl rsZ rfl ⟨_,⟨_,rfl,_,rfl,c,s,m,i,bb,gR,_,_,rfl,nil_sl,⟨_,_,_,rfl⟩,by rw [hY,← hM] at *;exact hfo,rfl,fun w' h=>⟨.nil,?_⟩⟩,?_⟩
   ·exact dTBWeN
   ·rw [hY]
    exact subp_ix [[_],[_],gR,gs,[_]] (xs:=[1,2]) (ys:=[0,1,2,3,4]) (lw gt cur::rest) rfl
 ·refine dQBAML ?_
  (refine goZ ?_;intro _)
  refine dQBsmE ?_
  rename_i b6
  refine dQBdcx ?_
  rintro v fs' (⟨h1,rfl,rfl⟩|⟨h1,Y,gR,⟨c,s,m,i,bb,hY⟩,hfo,rfl,h2⟩)
  ·apply zV
   refine midN ?_
   (refine tsZ ?_)
   refine fsZ ?_
   (refine goZ ?_;refine bTz ?_;intro _;apply zR;rfl;rfl;apply qA;apply aq_wr0 (z:=.int .i64 0);refine goZ ?_)
   refine inPI (.inl rfl) .nil rfl rsZ rfl ⟨_,⟨_,rfl,_,rfl,?_⟩,subp_ix [[_],[_],gs,[_]] (xs:=[1,2]) (ys:=[0,1,2,3]) (lw gt cur::rest) rfl⟩
   rw [endsV_none h1]
   exact ⟨⟨_,_,_,_,rfl,nil_sl,nil_sl⟩,f,gs,rfl⟩
  ·obtain ⟨hok1,hin1⟩:=reach_in hg0 hF.2.2.2.1 h1
   have hzz:=cost_in hF.2.2.2.1.2.1 (Nat.le_trans h1 hg0)
   obtain ⟨T,hTT⟩:∃ T,timesV ((z+31) / 32) 0=T:=⟨_,rfl⟩
   have hT0:T=0:=by
    exact dTBAeN
   rw [hTT,hT0] at h2
   rcases h2 with ⟨h3,rfl⟩|⟨h3,rfl⟩
   rotate_left
   ·omega
   rw [show Y.setG (Y.gas - 0)=Y from rfl]
   obtain ⟨M,hM⟩:∃ M,(memR L x z).ms=M:=⟨_,rfl⟩
   obtain ⟨P,hP⟩:∃ P:Nat,(if z=0 then 0 else x)=P:=⟨_,rfl⟩
   have hPz:P+z≤M.length:=by
    exact dTBMgQ
   have hcutP:(M.drop P).take z=(M.drop x).take z:=by
    rw [← hP]
    split
    ·rename_i h;subst h;simp
    ·rfl
   have hM1:M.length≤1024:=by rw [← hM];exact hok1.2.1
   rw [hP,endsV_some h1,hM]
   have h5:∀ (w':World),(∀ p∈gR,w'.heap[p.1]?=some p.2)→RowAt w' 1 Y.mem M.length (ucs M):=fun w' hst=>by rw [← hM];exact (hfo.rows hst).m
   obtain ⟨qm,km,hqm,hkm⟩:∃ q k,Y.mem=.slice q M.length k∧M.length≤k:=by
    obtain ⟨_,_,_,_,_,_,_,_,h3,_,_⟩:=hfo
    exact dTBDNS
   rw [hqm] at h5
   have hrdM:∀ {E fr},Rd prog 22 (.cells (tuc Y false) E fr) 3 (.slice qm M.length km):=fun {E fr}=>by rw [← hqm];exact tu_rd3
   apply zV
   refine midN ?_
   (refine tsZ ?_)
   refine fsZ ?_
   (refine goZ ?_;refine bTz ?_;intro _;apply zR;rfl;rfl;apply qA;apply aq_wr0 (z:=.int .i64 0);refine goZ ?_;apply qN;rfl;rfl;apply ValP.cutMid;exact vF;exact vF;rfl;rfl;rfl;omega;omega;refine goZ ?_;apply zR;rfl;rfl;apply qA;apply aq_wr3 (z:=.slice none 0 0);refine goZ ?_)
   refine inPI (.inl rfl) .nil rfl rsZ rfl ⟨_,⟨_,rfl,_,rfl,c,s,m,i,bb,gR,_,_,rfl,nil_sl,⟨_,_,_,rfl⟩,by rw [hY,← hM] at *;exact hfo,rfl,fun w' h=>⟨.nil,?_⟩⟩,?_⟩
   ·exact dTBWeN
   ·rw [hY]
    exact subp_ix [[_],[_],gR,gs,[_]] (xs:=[1,2]) (ys:=[0,1,2,3,4]) (lw gt cur::rest) rfl
end
end
section
theorem dTBton {P:Prop} (h:P:=by
 refine enterS (args:=[_,_,_]) func108 rfl ntmps108 rfl (by assumption) ?_
 (refine goZ ?_;intro _;refine lvz (.buildW1 rfl (by omega)) ?_)
 rename_i b5
 refine LW.subP (fs':=(b,tuO f false)::(gs++rest)) (SubP.cons (SubP.refl _)) ?_
 refine qO rfl rfl vF agZ (fun w' hst=>tlay_calls w0 [] b f false L gs _ rest w' (by omega) hfr hst) ?_
 intro v fs' h9
 obtain ⟨rfl,h⟩:=lay_tur h9
 (refine goZ ?_)
 exact inPI (.inl rfl) .nil rfl rsZ rfl ⟨_,⟨_,rfl,rfl,h⟩,SubP.refl _⟩):P:=h
theorem dTBTIV {P:Prop} (h:P:=by
 intro v fs' h9
 obtain ⟨rfl,h⟩:=lay_tur h9
 (refine goZ ?_)
 exact inPI (.inl rfl) .nil rfl rsZ rfl ⟨_,⟨_,rfl,rfl,h⟩,SubP.refl _⟩):P:=h
attribute [local irreducible] SL.inP
theorem told_no (p v:Value) (op:Nat) (hop:op < 256) (e0 e1 e2 e3:Nat) (h:op ≠ 52∧op ≠ 48∧op ≠ 51∧op ≠ 50∧op ≠ 66∧op ≠ 67∧op ≠ 72∧op ≠ 54∧op ≠ 61∧op ≠ 90) (w:World) :
  Calls prog 108 #[p,.int .u8 (op:Int),.agg (enva e0 e1 e2 e3)] w (Ret w (.bool false)):=by
 obtain ⟨h1,h2,h3,h4,h5,h6,h7,h8,h9,h10⟩:=h
 refine enter (args:=[_,_,_]) _ [] [] func108 rfl ntmps108 rfl (by simp) .nil ?_
 (refine sRz ?_;apply zT;rfl;rfl;intro _;refine vAz<|nSz<|vAz<|nNz<|zI<|sRz<|vMz<|nNz<|zM<|sRz ?_;refine lvz (.eqF rfl rfl (by omega)) ?_;refine vAz<|nNz<|cFz<|sRz ?_;refine lvz (.eqF rfl rfl (by omega)) ?_;refine vAz<|nNz<|cFz<|sRz ?_;refine lvz (.eqF rfl rfl (by omega)) ?_;refine vAz<|nNz<|cFz<|sRz ?_;refine lvz (.eqF rfl rfl (by omega)) ?_;refine vAz<|nNz<|cFz<|sRz ?_;refine lvz (.eqF rfl rfl (by omega)) ?_;refine vAz<|nNz<|cFz<|sRz ?_;refine lvz (.eqF rfl rfl (by omega)) ?_;refine vAz<|nNz<|cFz<|sRz ?_;refine lvz (.eqF rfl rfl (by omega)) ?_;refine vAz<|nNz<|cFz<|sRz ?_;refine lvz (.eqF rfl rfl (by omega)) ?_;refine vAz<|nNz<|cFz<|sRz ?_;refine lvz (.eqF rfl rfl (by omega)) ?_;refine vAz<|nNz<|cFz<|sRz ?_;refine lvz (.eqF rfl rfl (by omega)) ?_;refine vAz<|nNz<|cFz<|sRz<|vAz<|nNz<|zK<|blkR<|thenR ?_)
 (refine fiz ?_)
 rfl
section
variable (w0 : World) (b : Nat) (f : FrV) (L : FrL) (gs rest : Fs) (w : World) (hF : okF f L) (hn : FrNum f L) (hfr : FrO f L gs) (hs : St w0 [] ((b, tuO f false) :: (gs ++ rest)) w) (e0 e1 e2 e3 : Nat) (he0 : e0 < 18446744073709551616) (he1 : e1 < 18446744073709551616) (he2 : e2 < 18446744073709551616) (he3 : e3 < 18446744073709551616)
include hF hn hfr hs he0 he1 he2 he3
theorem told_yes (op:Nat) (hop:op=48∨op=51∨op=50∨op=66∨op=67∨op=72∨op=54∨op=61∨op=90) (hl:L.ws.length < 64) :
  CallsS prog w0 [] 108 #[.pointer (some ⟨b,0,none⟩),.int .u8 (op:Int),.agg (enva e0 e1 e2 e3)] w (MemD b f L (some (soOn f (L.ws++[sayV op f L e0 e1 e2 e3]) L.ms)) rest):=by
 have n1:=hn.self
 have n2:=hn.frm
 have n3:=hn.gas
 have n4:=hF.1.1
 have n5:=hF.1.2.1
 obtain ⟨qi,ki,hqi⟩:∃ q k,f.inp=.slice q L.il.length k:=by
  obtain ⟨g1,g2,g3,g4,g5,_,_,_,_,h4,_⟩:=hfr
  unfold bM at h4
  exact h4.form
 obtain ⟨qj,kj,hqj⟩:∃ q k,f.back=.slice q L.bl.length k:=by
  obtain ⟨g1,g2,g3,g4,g5,_,_,_,_,_,h5⟩:=hfr
  unfold bM at h5
  exact h5.form
 have hrdI:∀ {E fr},Rd prog 22 (.cells (tuc f false) E fr) 11 (.slice qi L.il.length ki):=fun {E fr}=>by rw [← hqi];exact tu_rd11
 have hrdJ:∀ {E fr},Rd prog 22 (.cells (tuc f false) E fr) 12 (.slice qj L.bl.length kj):=fun {E fr}=>by rw [← hqj];exact tu_rd12
 rcases hop with rfl|rfl|rfl|rfl|rfl|rfl|rfl|rfl|rfl
 ·exact dTBton
 ·exact dTBton
 ·exact dTBton
 ·exact dTBton
 ·exact dTBton
 ·exact dTBton
 ·exact dTBton
 ·exact dTBton
 ·exact dTBton
theorem told_52 (hl:L.ws.length < 64) :
  CallsS prog w0 [] 108 #[.pointer (some ⟨b,0,none⟩),.int .u8 52,.agg (enva e0 e1 e2 e3)] w (MemD b f L (some (soOn f (L.ws++[f.val]) L.ms)) rest):=by
 have _:=hF
 have _:=hn
 have _:=he0
 have _:=he1
 have _:=he2
 have _:=he3
 refine enterS (args:=[_,_,_]) func108 rfl ntmps108 rfl (by assumption) ?_
 (refine sRz ?_;apply zT;rfl;rfl;intro _;refine vAz<|nSz<|vAz<|nNz<|zI<|sRz<|vMz<|nNz<|zM<|sRz ?_;refine lvz (.eqT rfl rfl (by omega)) ?_;refine vAz<|nNz<|cTz<|sRz<|vMz<|vMz<|vNz<|vFz<|vFz<|ldz rfl (.tail .head) tu_rd7 ?_)
 refine LW.subP (fs':=(b,tuO f false)::(gs++rest)) (SubP.cons (SubP.refl _)) ?_
 refine qO rfl rfl vF agZ (fun w' hst=>tlay_calls w0 [] b f false L gs _ rest w' (by omega) hfr hst) ?_
 exact dTBTIV
end
end
section
theorem dQBxbi {P Q:Prop} (k:Q) (h:BoxZ Q→P:=by
 intro kQ
 refine LW.subP (fs':=(b,tuO f false)::(gs++rest)) (SubP.cons (SubP.cons (SubP.cons (SubP.refl _)))) ?_
 refine cSz rfl rfl (fun w' hst=>tlay_calls w0 [] b f false L gs V rest w' (by omega) hfr hst) ?_
 exact kQ.k):P:=h ⟨k⟩
theorem dQBBEv {P Q:Prop} (k:Q) (h:BoxZ Q→P:=by
 intro kQ
 refine enterS (args:=[_,_,_,_]) func110 rfl ntmps110 rfl (by assumption) ?_
 exact kQ.k):P:=h ⟨k⟩
theorem dTBvYZ {P:Prop} (h:P:=by
 refine enterS (args:=[_,_,_,_]) func110 rfl ntmps110 rfl (by assumption) ?_
 (refine goZ ?_;intro _ _ _;refine cEv hW ?_)
 refine LW.subP (fs':=(b,tuO f false)::(gs++rest)) (SubP.cons (SubP.cons (SubP.cons (SubP.refl _)))) ?_
 refine cSz rfl rfl (fun w' hst=>tyes_calls w0 [] b f false L gs _ rest w' (by omega) hfr hst) ?_
 intro v fs' h9
 obtain ⟨rfl,h⟩:=lay_tur h9
 (refine goZ ?_)
 exact inPI (.inl rfl) .nil rfl rsZ rfl ⟨_,⟨_,rfl,rfl,h⟩,SubP.refl _⟩):P:=h
attribute [local irreducible] SL.inP
theorem halfV_1 (a b:Nat):halfV 1 a b=((a+b) % M256):=by 
 unfold halfV
 rw [if_pos rfl]
theorem halfV_3 (a b:Nat):halfV 3 a b=((a+M256 - b) % M256):=by 
 unfold halfV
 iterate 1 rw [if_neg (by decide)]
 rw [if_pos rfl]
theorem halfV_2 (a b:Nat):halfV 2 a b=(a * b % M256):=by 
 unfold halfV
 iterate 2 rw [if_neg (by decide)]
 rw [if_pos rfl]
theorem halfV_4 (a b:Nat):halfV 4 a b=(if b=0 then 0 else a / b):=by 
 unfold halfV
 iterate 3 rw [if_neg (by decide)]
 rw [if_pos rfl]
theorem halfV_6 (a b:Nat):halfV 6 a b=(if b=0 then 0 else a % b):=by 
 unfold halfV
 iterate 4 rw [if_neg (by decide)]
 rw [if_pos rfl]
theorem halfV_22 (a b:Nat):halfV 22 a b=(a &&& b):=by 
 unfold halfV
 iterate 5 rw [if_neg (by decide)]
 rw [if_pos rfl]
theorem halfV_23 (a b:Nat):halfV 23 a b=(a |||b):=by 
 unfold halfV
 iterate 6 rw [if_neg (by decide)]
 rw [if_pos rfl]
theorem halfV_24 (a b:Nat):halfV 24 a b=(a ^^^ b):=by 
 unfold halfV
 iterate 7 rw [if_neg (by decide)]
 rw [if_pos rfl]
theorem halfV_27 (a b:Nat):halfV 27 a b=(b * 2 ^ min a 256 % M256):=by 
 unfold halfV
 iterate 8 rw [if_neg (by decide)]
 rw [if_pos rfl]
theorem halfV_28 (a b:Nat):halfV 28 a b=(b / 2 ^ min a 256):=by 
 unfold halfV
 iterate 9 rw [if_neg (by decide)]
 rw [if_pos rfl]
theorem two_no (p:Value) (op:Nat) (hop:op < 256) (x y:Nat) (h:op ≠ 1∧op ≠ 3∧op ≠ 2∧op ≠ 4∧op ≠ 6∧op ≠ 22∧op ≠ 23∧op ≠ 24∧op ≠ 27∧op ≠ 28∧op ≠ 16∧op ≠ 17∧op ≠ 20) (w:World) :
  Calls prog 110 #[p,.int .u8 (op:Int),wv x,wv y] w (Ret w (.bool false)):=by
 obtain ⟨h1,h2,h3,h4,h5,h6,h7,h8,h9,h10,h11,h12,h13⟩:=h
 refine enter (args:=[_,_,_,_]) _ [] [] func110 rfl ntmps110 rfl (by simp) .nil ?_
 (refine goZ ?_;intro _ _ _)
 (refine fiz ?_)
 rfl
section
variable (w0 : World) (b : Nat) (f : FrV) (L : FrL) (gs rest : Fs) (w : World) (hfr : FrO f L gs) (hs : St w0 [] ((b, tuO f false) :: (gs ++ rest)) w) (x y : Nat) (hx : x < M256) (hy : y < M256) (hl : L.ws.length < 64)
include hfr hs hx hy hl
theorem two_w (V op:Nat) (hop:op=1∧(∃ o,∀ w,Calls prog 123 #[wv x,wv y] w (Ret w (.tuple #[wv V,.bool o])))∨op=3∧(∃ o,∀ w,Calls prog 182 #[wv x,wv y] w (Ret w (.tuple #[wv V,.bool o])))∨op=2∧(∃ o,∀ w,Calls prog 183 #[wv x,wv y] w (Ret w (.tuple #[wv V,.bool o])))∨op=4∧(∃ o,∀ w,Calls prog 184 #[wv x,wv y] w (Ret w (.tuple #[wv V,wv o])))∨op=6∧(∃ o,∀ w,Calls prog 184 #[wv x,wv y] w (Ret w (.tuple #[wv o,wv V])))∨op=22∧(∀ w,Calls prog 185 #[wv x,wv y] w (Ret w (wv V)))∨op=23∧(∀ w,Calls prog 186 #[wv x,wv y] w (Ret w (wv V)))∨op=24∧(∀ w,Calls prog 187 #[wv x,wv y] w (Ret w (wv V)))) :
  CallsS prog w0 [] 110 #[.pointer (some ⟨b,0,none⟩),.int .u8 (op:Int),wv x,wv y] w (MemD b f L (some (soOn f (L.ws++[V]) L.ms)) rest):=by
 have _:=hx
 have _:=hy
 rcases hop with ⟨rfl,o,hW⟩|⟨rfl,o,hW⟩|⟨rfl,o,hW⟩|⟨rfl,o,hW⟩|⟨rfl,o,hW⟩|⟨rfl,hW⟩|⟨rfl,hW⟩|⟨rfl,hW⟩
 ·refine dQBBEv ?_
  (refine goZ ?_;intro _ _ _;refine cEv hW ?_)
  refine dQBxbi ?_
  exact dTBTIV
 ·refine dQBBEv ?_
  (refine goZ ?_;intro _ _ _;refine cEv hW ?_)
  refine dQBxbi ?_
  exact dTBTIV
 ·refine dQBBEv ?_
  (refine goZ ?_;intro _ _ _;refine cEv hW ?_)
  refine dQBxbi ?_
  exact dTBTIV
 ·refine dQBBEv ?_
  (refine goZ ?_;intro _ _ _;refine cEv hW ?_)
  refine dQBxbi ?_
  exact dTBTIV
 ·refine dQBBEv ?_
  (refine goZ ?_;intro _ _ _;refine cEv hW ?_)
  refine dQBxbi ?_
  exact dTBTIV
 ·refine dQBBEv ?_
  (refine goZ ?_;intro _ _ _;refine cEv hW ?_)
  refine dQBxbi ?_
  exact dTBTIV
 ·refine dQBBEv ?_
  (refine goZ ?_;intro _ _ _;refine cEv hW ?_)
  refine dQBxbi ?_
  exact dTBTIV
 ·refine dQBBEv ?_
  (refine goZ ?_;intro _ _ _;refine cEv hW ?_)
  refine dQBxbi ?_
  exact dTBTIV
theorem two_sh (V n op:Nat) (hM:∀ w,Calls prog 189 #[wv x] w (Ret w (.int .i64 (n:Int)))) (hop:op=27∧(∀ w,Calls prog 188 #[wv y,.int .i64 (n:Int)] w (Ret w (wv V)))∨op=28∧(∀ w,Calls prog 190 #[wv y,.int .i64 (n:Int)] w (Ret w (wv V)))) :
  CallsS prog w0 [] 110 #[.pointer (some ⟨b,0,none⟩),.int .u8 (op:Int),wv x,wv y] w (MemD b f L (some (soOn f (L.ws++[V]) L.ms)) rest):=by
 have _:=hx
 have _:=hy
 rcases hop with ⟨rfl,hW⟩|⟨rfl,hW⟩
 ·refine dQBBEv ?_
  (refine goZ ?_;intro _ _ _;refine anz 3 ?_;refine dcz (c:=fun w _ _=>by exact hM w) (k:=?_);refine cEv hW ?_)
  refine dQBxbi ?_
  exact dTBTIV
 ·refine dQBBEv ?_
  (refine goZ ?_;intro _ _ _;refine anz 3 ?_;refine dcz (c:=fun w _ _=>by exact hM w) (k:=?_);refine cEv hW ?_)
  refine dQBxbi ?_
  exact dTBTIV
theorem two_cmp (op:Nat) (hop:op=16∨op=17∨op=20) (j:Int) (hW:∀ w,Calls prog 124 #[wv x,wv y] w (Ret w (.int .i64 j))) (hj:x < y∧j=-1∨y < x∧j=1∨x=y∧j=0) :
  CallsS prog w0 [] 110 #[.pointer (some ⟨b,0,none⟩),.int .u8 (op:Int),wv x,wv y] w (MemD b f L (some (soOn f (L.ws++[halfV op x y]) L.ms)) rest):=by
 have _:=hx
 have _:=hy
 rcases hop with rfl|rfl|rfl
 ·show CallsS _ _ _ _ _ _ (MemD b f L (some (soOn f (L.ws++[if x < y then 1 else 0]) L.ms)) rest)
  rcases hj with ⟨h,rfl⟩|⟨h,rfl⟩|⟨h,rfl⟩
  ·rw [if_pos h]
   exact dTBvYZ
  ·rw [if_neg (by omega)]
   exact dTBvYZ
  ·rw [if_neg (by omega)]
   exact dTBvYZ
 ·show CallsS _ _ _ _ _ _ (MemD b f L (some (soOn f (L.ws++[if y < x then 1 else 0]) L.ms)) rest)
  rcases hj with ⟨h,rfl⟩|⟨h,rfl⟩|⟨h,rfl⟩
  ·rw [if_neg (by omega)]
   exact dTBvYZ
  ·rw [if_pos h]
   exact dTBvYZ
  ·rw [if_neg (by omega)]
   exact dTBvYZ
 ·show CallsS _ _ _ _ _ _ (MemD b f L (some (soOn f (L.ws++[if x=y then 1 else 0]) L.ms)) rest)
  rcases hj with ⟨h,rfl⟩|⟨h,rfl⟩|⟨h,rfl⟩
  ·rw [if_neg (by omega)]
   exact dTBvYZ
  ·rw [if_neg (by omega)]
   exact dTBvYZ
  ·rw [if_pos h]
   exact dTBvYZ
theorem two_yes (op:Nat) (hop:op=1∨op=3∨op=2∨op=4∨op=6∨op=22∨op=23∨op=24∨op=27∨op=28∨op=16∨op=17∨op=20) :
  CallsS prog w0 [] 110 #[.pointer (some ⟨b,0,none⟩),.int .u8 (op:Int),wv x,wv y] w (MemD b f L (some (soOn f (L.ws++[halfV op x y]) L.ms)) rest):=by
 have hD:∀ w,Calls prog 184 #[wv x,wv y] w (Ret w (.tuple #[wv (if y=0 then 0 else x / y),wv (if y=0 then 0 else x % y)])):=fun w=>by
  have h:=rDiv_calls x y hx hy w
  by_cases h0:y=0
  ·subst h0;rw [if_pos rfl] at h ⊢;rw [Nat.div_zero] at h;rw [if_pos rfl];exact h
  ·rw [if_neg h0] at h ⊢;rw [if_neg h0];exact h
 rcases hop with rfl|rfl|rfl|rfl|rfl|rfl|rfl|rfl|rfl|rfl|h
 ·exact halfV_1 x y ▸ two_w w0 b f L gs rest w hfr hs x y hx hy hl _ 1 (.inl ⟨rfl,_,rAdd_calls x y hx hy⟩)
 ·exact halfV_3 x y ▸ two_w w0 b f L gs rest w hfr hs x y hx hy hl _ 3 (.inr (.inl ⟨rfl,_,rSub_calls x y hx hy⟩))
 ·exact halfV_2 x y ▸ two_w w0 b f L gs rest w hfr hs x y hx hy hl _ 2 (.inr (.inr (.inl ⟨rfl,_,rMul_calls x y hx hy⟩)))
 ·exact halfV_4 x y ▸ two_w w0 b f L gs rest w hfr hs x y hx hy hl _ 4 (.inr (.inr (.inr (.inl ⟨rfl,_,hD⟩))))
 ·exact halfV_6 x y ▸ two_w w0 b f L gs rest w hfr hs x y hx hy hl _ 6 (.inr (.inr (.inr (.inr (.inl ⟨rfl,_,hD⟩)))))
 ·exact halfV_22 x y ▸ two_w w0 b f L gs rest w hfr hs x y hx hy hl _ 22 (.inr (.inr (.inr (.inr (.inr (.inl ⟨rfl,rAnd_calls x y hx hy⟩))))))
 ·exact halfV_23 x y ▸ two_w w0 b f L gs rest w hfr hs x y hx hy hl _ 23 (.inr (.inr (.inr (.inr (.inr (.inr (.inl ⟨rfl,rOr_calls x y hx hy⟩)))))))
 ·exact halfV_24 x y ▸ two_w w0 b f L gs rest w hfr hs x y hx hy hl _ 24 (.inr (.inr (.inr (.inr (.inr (.inr (.inr ⟨rfl,rXor_calls x y hx hy⟩)))))))
 ·exact halfV_27 x y ▸ two_sh w0 b f L gs rest w hfr hs x y hx hy hl _ (min x 256) 27 (rMoves_calls x hx) (.inl ⟨rfl,rShl_calls y (min x 256) hy (Nat.min_le_right _ _)⟩)
 ·exact halfV_28 x y ▸ two_sh w0 b f L gs rest w hfr hs x y hx hy hl _ (min x 256) 28 (rMoves_calls x hx) (.inr ⟨rfl,rShr_calls y (min x 256) hy (Nat.min_le_right _ _)⟩)
 ·refine two_cmp w0 b f L gs rest w hfr hs x y hx hy hl op h _ (rCmp_calls x y hx hy) ?_
  rcases Nat.lt_trichotomy x y with h|h|h
  ·rw [if_pos h];exact .inl ⟨h,rfl⟩
  ·rw [if_neg (by omega),if_neg (by omega)];exact .inr (.inr ⟨h,rfl⟩)
  ·rw [if_neg (by omega),if_pos h];exact .inr (.inl ⟨h,rfl⟩)
end
end
section
theorem dQBaPy {P Q:Prop} (k:Q) (h:BoxZ Q→P:=by
 intro kQ
 refine LW.subP (fs':=(b,tuO f false)::(gs++(lw gt cur::(rest++[(b8,_),(b7,_)])))) (sub_back (rest:=lw gt cur::rest)) ?_
 refine cSz rfl rfl (fun w' hst=>hNo _ w' hst) ?_
 exact kQ.k):P:=h ⟨k⟩
theorem dQBklS {P Q:Prop} (k:Q) (h:BoxZ Q→P:=by
 intro kQ
 refine enterS (args:=[_,_,_,_]) func58 rfl ntmps58 rfl (by assumption) ?_
 exact kQ.k):P:=h ⟨k⟩
theorem dQBwRV {P Q:Prop} (k:Q) (h:BoxZ Q→P:=by
 intro kQ
 refine LW.subP (fs':=(b,tuO f false)::(gs++(rest++[(b8,_),(b7,_)]))) sub_back ?_
 refine cSz rfl rfl (fun w' hst=>hNo _ w' hst) ?_
 exact kQ.k):P:=h ⟨k⟩
theorem dTBNWE {P:Prop} (h:P:=by
 obtain ⟨c,s,m,i,bb,gs',hfo,rfl⟩:=h
 apply zV
 refine midN ?_
 (refine tsZ ?_)
 refine fsZ ?_
 (refine goZ ?_)
 exact inPI (.inl rfl) .nil rfl rsZ rfl ⟨_,⟨_,rfl,tur_ask hz ⟨c,s,m,i,bb,gs',hfo,rfl⟩⟩,sub_front (Y:=[])⟩):P:=h
theorem dTBNAN {P:Prop} (h:P:=by
 obtain ⟨f',gs',rfl⟩:=h
 apply zV
 refine midN ?_
 (refine tsZ ?_)
 refine fsZ ?_
 (refine goZ ?_)
 exact inPI (.inl rfl) .nil rfl rsZ rfl ⟨_,⟨_,rfl,tur_ask hz ⟨f',gs',rfl⟩⟩,sub_front (Y:=[])⟩):P:=h
attribute [local irreducible] SL.inP
theorem sub_back {α:Type} {x:α} {gs rest X:List α}:SubP (x::(gs++(rest++X))) (X++(x::(gs++rest))):=by
 rw [← jR,← yA]
 exact ⟨_,.refl _,List.perm_append_comm⟩
theorem sub_front {α:Type} {x:α} {gs rest X Y:List α}:SubP (x::(gs++rest)) (Y++(x::(gs++(rest++X)))):=by
 refine ⟨_,?_,.refl _⟩
 exact (jP _ (jL (jJ _ _) _)).trans (jN _ _)
theorem sub_back2 {α:Type} {x:α} {gs rest X Y:List α}:SubP (x::(gs++(rest++(X++Y)))) (Y++(x::(gs++(rest++X)))):=by
 rw [← jR rest]
 exact sub_back
def ZeroO (o:Option SO):Prop:=∀ o',o=some o'→o'.kind=0∧o'.op=0∧o'.words=[]∧o'.data=[]
theorem zero_on (f:FrV) (ws:List Nat) (ms:List UInt8):ZeroO (some (soOn f ws ms)):=fun o' h=>by cases h;exact ⟨rfl,rfl,rfl,rfl⟩
abbrev zask:Value:=.agg (aska 0 0 (.slice none 0 0) (.slice none 0 0))
theorem tur_ask {b:Nat} {f:FrV} {L:FrL} {o:Option SO} {R T fs':Fs} (hz:ZeroO o) (h:TurD b f L o T fs'):AskD b f L o R T zask fs':=by
 cases o with
 |none=>obtain ⟨f',gs',h⟩:=h;exact ⟨⟨_,_,_,_,rfl,nil_sl,nil_sl⟩,f',gs',h⟩
 |some o =>
  obtain ⟨h1,h2,h3,h4⟩:=hz o rfl
  obtain ⟨c,s,m,i,bb,gs',hfo,h⟩:=h
  exact ⟨c,s,m,i,bb,gs',_,_,by rw [h1,h2],nil_sl,nil_sl,hfo,h,fun w' _=>by rw [h3,h4];exact ⟨.nil,.nil⟩⟩
theorem mem_no (p lv:Value) (op:Nat) (hop:op < 256) (h:op ≠ 53∧op ≠ 55∧op ≠ 62∧op ≠ 81∧op ≠ 82∧op ≠ 83∧op ≠ 32) (w:World) :
  Calls prog 109 #[p,.int .u8 (op:Int),lv] w (Ret w (.bool false)):=by
 obtain ⟨h1,h2,h3,h4,h5,h6,h7⟩:=h
 refine enter (args:=[_,_,_]) _ [] [] func109 rfl ntmps109 rfl (by simp) .nil ?_
 exact dTBJyT
section
variable (w0 : World) (b : Nat) (f : FrV) (L : FrL) (gs R rest : Fs) (w : World) (hs : St w0 [] ((b, tuO f false) :: (gs ++ rest)) w) (e0 e1 e2 e3 : Nat) (op : Nat) (lv : Value)
include hs
theorem does_ask (o:Option SO) (hA:∀ (X:Fs) (w':World),St w0 [] ((b,tuO f false)::(gs++(rest++X))) w'→CallsS prog w0 [] 107 #[.pointer (some ⟨b,0,none⟩),.int .u8 (op:Int),lv] w' (fun v fs'=>∃ a,v=.tuple #[a,.bool true]∧AskD b f L o R (rest++X) a fs')) :
  CallsS prog w0 [] 58 #[.pointer (some ⟨b,0,none⟩),.int .u8 (op:Int),lv,.agg (enva e0 e1 e2 e3)] w (AskD b f L o R rest):=by
 refine dQBklS ?_
 (refine goZ ?_;intro _ _)
 rename_i b7 b8
 refine LW.subP (fs':=(b,tuO f false)::(gs++(rest++[(b8,_),(b7,_)]))) sub_back ?_
 refine cSz rfl rfl (fun w' hst=>hA _ w' hst) ?_
 rintro v fs' ⟨a,rfl,h⟩
 cases o with
 |none =>
  obtain ⟨⟨k,o',t,d,rfl,ht,hd⟩,f',gs',rfl⟩:=h
  (refine goZ ?_;intro _)
  (refine CW.quiet rfl mixed (by decide +kernel) ?_;refine goZ ?_)
  (refine goZ ?_)
  exact inPI (.inl rfl) .nil rfl rsZ rfl ⟨_,⟨_,rfl,⟨_,_,_,_,rfl,ht,hd⟩,f',gs',rfl⟩,sub_front (Y:=[_])⟩
 |some o =>
  obtain ⟨c,s,m,i,bb,gs',t,d,rfl,ht,hd,hfo,rfl,hR⟩:=h
  (refine goZ ?_;intro _)
  (refine CW.quiet rfl mixed (by decide +kernel) ?_;refine goZ ?_)
  (refine goZ ?_)
  exact inPI (.inl rfl) .nil rfl rsZ rfl ⟨_,⟨_,rfl,c,s,m,i,bb,gs',t,d,rfl,ht,hd,hfo,rfl,hR⟩,sub_front (Y:=[_])⟩
def NoAsk (P:Program) (w0:World) (b:Nat) (f:FrV) (gs rest:Fs) (op:Nat) (lv:Value):Prop:=∀ (X:Fs) (w':World),St w0 [] ((b,tuO f false)::(gs++(rest++X))) w'→CallsS P w0 [] 107 #[.pointer (some ⟨b,0,none⟩),.int .u8 (op:Int),lv] w' (fun v fs'=>v=.tuple #[zask,.bool false]∧fs'=(b,tuO f false)::(gs++(rest++X)))
theorem does_told (o:Option SO) (hz:ZeroO o) (hlf:∃ p n c,lv=.slice p n c) (hNo:NoAsk prog w0 b f gs rest op lv) (hT:∀ (X:Fs) (w':World),St w0 [] ((b,tuO f false)::(gs++(rest++X))) w'→CallsS prog w0 [] 108 #[.pointer (some ⟨b,0,none⟩),.int .u8 (op:Int),.agg (enva e0 e1 e2 e3)] w' (MemD b f L o (rest++X))) :
  CallsS prog w0 [] 58 #[.pointer (some ⟨b,0,none⟩),.int .u8 (op:Int),lv,.agg (enva e0 e1 e2 e3)] w (AskD b f L o R rest):=by
 refine dQBklS ?_
 (refine goZ ?_;intro _ _)
 rename_i b7 b8
 refine dQBwRV ?_
 rintro v fs' ⟨rfl,rfl⟩
 (refine goZ ?_;intro _)
 apply CW.pre
 refine AnyW.mid 5 1 mixed (by decide +kernel) ?_
 ((try simp only [tsOf_cons,tsOf_nil,tsOf_app]);refine dvz (.move rfl)<|dvz (.move rfl)<|dwz (.move rfl)<|dwz (.move rfl) ?_;apply qG;rfl;rfl;rfl;apply wantYes;rfl;rfl;(with_reducible rfl);rfl;apply zO;apply zO;apply zQ;apply zQ;apply zO;apply zP;exact zN;exact qI rfl;apply DW.nil;simp only [fsOf_cons,fsOf_nil,fsOf_app,fsOf_tsOf,fsOf_new])
 refine fsZ ?_
 rename_i b9
 refine LW.subP (fs':=(b,tuO f false)::(gs++(rest++([(b8,_),(b7,_)]++[(b9,_)])))) (sub_back2 (Y:=[_])) ?_
 refine LW.guardT rfl rfl ?_
 refine cSz rfl rfl (fun w' hst=>hT _ w' hst) ?_
 rintro v fs' ⟨rfl,h⟩
 simp only [yA,jQ] at h
 cases o with
 |none =>
  exact dTBNAN
 |some o =>
  exact dTBNWE
theorem does_mem (o:Option SO) (hz:ZeroO o) (hop:op < 256) (hlf:∃ p n c,lv=.slice p n c) (hNo:NoAsk prog w0 b f gs rest op lv) (ht:op ≠ 52∧op ≠ 48∧op ≠ 51∧op ≠ 50∧op ≠ 66∧op ≠ 67∧op ≠ 72∧op ≠ 54∧op ≠ 61∧op ≠ 90)
  (hT:∀ (X:Fs) (w':World),St w0 [] ((b,tuO f false)::(gs++(rest++X))) w'→CallsS prog w0 [] 109 #[.pointer (some ⟨b,0,none⟩),.int .u8 (op:Int),lv] w' (MemD b f L o (rest++X))) :
  CallsS prog w0 [] 58 #[.pointer (some ⟨b,0,none⟩),.int .u8 (op:Int),lv,.agg (enva e0 e1 e2 e3)] w (AskD b f L o R rest):=by
 have hTN:∀ (p:Value) (w:World),Calls prog 108 #[p,.int .u8 (op:Int),.agg (enva e0 e1 e2 e3)] w (Ret w (.bool false)):=fun p w=>told_no p (.bool false) op hop e0 e1 e2 e3 ht w
 refine dQBklS ?_
 (refine goZ ?_;intro _ _)
 rename_i b7 b8
 refine dQBwRV ?_
 rintro v fs' ⟨rfl,rfl⟩
 (refine goZ ?_;intro _)
 apply CW.pre
 refine AnyW.mid 11 1 mixed (by decide +kernel) ?_
 ((try simp only [tsOf_cons,tsOf_nil,tsOf_app]);refine dvz (.move rfl)<|dvz (.move rfl)<|dwz (.move rfl)<|dwz (.move rfl) ?_;apply qG;rfl;rfl;rfl;apply wantYes;rfl;rfl;(with_reducible rfl);rfl;apply zO;apply zO;apply zQ;apply zQ;apply zO;apply zP;exact zN;exact qI rfl;apply DW.callE;rfl;rfl;rfl;apply wantYes;rfl;rfl;(with_reducible rfl);rfl;exact vF;exact .cons rfl (.cons rfl (.cons rfl .nil));rfl;apply ReadAll.own;apply zO;apply zP;exact zN;exact qS;intro w _ _;exact hTN _ w;refine dvz (.pickF' rfl (by with_reducible rfl) rfl) ?_;refine dvz (.move rfl)<|dwz (.move rfl)<|dwz (.move rfl)<|dwz (.move rfl) ?_;apply DW.nil;simp only [fsOf_cons,fsOf_nil,fsOf_app,fsOf_tsOf,fsOf_new])
 refine fsZ ?_
 rename_i b9
 refine LW.subP (fs':=(b,tuO f false)::(gs++(rest++([(b8,_),(b7,_)]++[(b9,_)])))) (sub_back2 (Y:=[_])) ?_
 refine LW.guardT rfl rfl ?_
 refine cSz rfl rfl (fun w' hst=>hT _ w' hst) ?_
 rintro v fs' ⟨rfl,h⟩
 simp only [yA,jQ] at h
 cases o with
 |none =>
  exact dTBNAN
 |some o =>
  exact dTBNWE
end
section
variable (w0 : World) (b : Nat) (f : FrV) (L : FrL) (gs R rest : Fs) (w : World) (e0 e1 e2 e3 : Nat) (op : Nat)
theorem does_two (gt ct x y:Nat) (cur:Array Value) (hs:St w0 [] ((b,tuO f false)::(gs++(lw gt cur::rest))) w) (o:Option SO) (hz:ZeroO o) (hop:op < 256) (hcur:(cur.toList.drop 0).take ([x,y].length * 4)=wcs [x,y]) (hNo:NoAsk prog w0 b f gs (lw gt cur::rest) op (.slice (some ⟨gt,0,none⟩) 2 (ct+1))) (ht:op ≠ 52∧op ≠ 48∧op ≠ 51∧op ≠ 50∧op ≠ 66∧op ≠ 67∧op ≠ 72∧op ≠ 54∧op ≠ 61∧op ≠ 90) (hm:op ≠ 53∧op ≠ 55∧op ≠ 62∧op ≠ 81∧op ≠ 82∧op ≠ 83∧op ≠ 32)
  (hT:∀ (X:Fs) (w':World),St w0 [] ((b,tuO f false)::(gs++(lw gt cur::(rest++X)))) w'→CallsS prog w0 [] 110 #[.pointer (some ⟨b,0,none⟩),.int .u8 (op:Int),wv x,wv y] w' (MemD b f L o (lw gt cur::(rest++X)))) :
  CallsS prog w0 [] 58 #[.pointer (some ⟨b,0,none⟩),.int .u8 (op:Int),.slice (some ⟨gt,0,none⟩) 2 (ct+1),.agg (enva e0 e1 e2 e3)] w (AskD b f L o R (lw gt cur::rest)):=by
 have hTN:∀ (p:Value) (w:World),Calls prog 108 #[p,.int .u8 (op:Int),.agg (enva e0 e1 e2 e3)] w (Ret w (.bool false)):=fun p w=>told_no p (.bool false) op hop e0 e1 e2 e3 ht w
 have hMN:∀ (p:Value) (w:World),Calls prog 109 #[p,.int .u8 (op:Int),.slice (some ⟨gt,0,none⟩) 2 (ct+1)] w (Ret w (.bool false)):=fun p w=>mem_no p _ op hop hm w
 have hrdX:Rd prog 29 (.cells cur 29 (0,0)) (0+0 * 4) (wv x):=word_rd hcur 0 (by show 0 < 2;decide)
 have hrdY:Rd prog 29 (.cells cur 29 (0,0)) (0+1 * 4) (wv y):=word_rd hcur 1 (by show 1 < 2;decide)
 refine dQBklS ?_
 (refine goZ ?_;intro _ _)
 rename_i b7 b8
 refine dQBaPy ?_
 rintro v fs' ⟨rfl,rfl⟩
 (refine goZ ?_;intro _)
 apply CW.pre
 refine AnyW.mid 26 1 mixed (by decide +kernel) ?_
 ((try simp only [tsOf_cons,tsOf_nil,tsOf_app]);refine dvz (.move rfl)<|dvz (.move rfl)<|dwz (.move rfl)<|dwz (.move rfl) ?_;apply qG;rfl;rfl;rfl;apply wantYes;rfl;rfl;(with_reducible rfl);rfl;apply zO;apply zO;apply zQ;apply zO;apply zQ;apply zO;apply zP;exact zN;exact qI rfl;apply DW.callE;rfl;rfl;rfl;apply wantYes;rfl;rfl;(with_reducible rfl);rfl;exact vF;exact .cons rfl (.cons rfl (.cons rfl .nil));rfl;apply ReadAll.own;apply zO;apply zP;exact zN;exact qS;intro w _ _;exact hTN _ w;refine dvz (.pickF' rfl (by with_reducible rfl) rfl) ?_;refine dvz (.move rfl)<|dwz (.move rfl)<|dwz (.move rfl)<|dwz (.move rfl) ?_;apply DW.callE;rfl;rfl;rfl;apply wantYes;rfl;rfl;(with_reducible rfl);rfl;exact vF;exact .cons rfl (.cons rfl (.cons rfl .nil));rfl;apply ReadAll.own;apply zO;apply zP;exact zN;apply ReadAll.own;apply zO;apply zO;apply zQ;apply zP;exact zN;exact qS;intro w _ _;exact hMN _ w;refine dvz (.pickF' rfl (by with_reducible rfl) rfl) ?_;refine dvz (.move rfl)<|dwz (.move rfl)<|dwz (.lenR rfl vF rfl) ?_;refine dwz (.eqT rfl rfl (by omega)) ?_;refine dwz (.move rfl)<|dwz (.move rfl)<|dwz (.move rfl)<|dwz (.move rfl) ?_;refine dwz (.indexAddrSL rfl rfl (by decide) (by omega)) ?_;apply qG;rfl;rfl;rfl;apply wantYes;rfl;rfl;(with_reducible rfl);rfl;apply zO;apply zO;apply zQ;apply zP;exact zN;exact hrdX;refine dwz (.move rfl) ?_;refine dwz (.indexAddrSL rfl rfl (by decide) (by omega)) ?_;apply qG;rfl;rfl;rfl;apply wantYes;rfl;rfl;(with_reducible rfl);rfl;apply zO;apply zO;apply zQ;apply zP;exact zN;exact hrdY;apply DW.nil;simp only [fsOf_cons,fsOf_nil,fsOf_app,fsOf_tsOf,fsOf_new])
 refine fsZ ?_
 rename_i b9
 refine LW.subP (fs':=(b,tuO f false)::(gs++(lw gt cur::(rest++([(b8,_),(b7,_)]++[(b9,_)]))))) (sub_back2 (rest:=lw gt cur::rest) (Y:=[_])) ?_
 refine LW.guardT rfl rfl ?_
 refine cSz rfl rfl (fun w' hst=>hT _ w' hst) ?_
 rintro v fs' ⟨rfl,h⟩
 simp only [yA,jQ] at h
 cases o with
 |none =>
  exact dTBNAN
 |some o =>
  exact dTBNWE
end
end
section
theorem dTBczm {P:Prop} (h:P:=by
 obtain ⟨h8,h7,rfl⟩:=h9
 (refine goZ ?_;refine bTz ?_)
 refine inPI (.inl rfl) .nil rfl rsZ rfl ⟨_,⟨_,rfl,tur_ask (jump_zero f L x) ?_⟩,sub_front (rest:=lw gt cur::rest) (Y:=[])⟩
 rw [show jumpV f L x=some (soOn { f with pc:=((x:Nat):Int) } L.ws L.ms) from if_pos ⟨h8,h7⟩]
 exact ⟨f.code,f.stk,f.mem,f.inp,f.back,gs,hfr,rfl⟩):P:=h
theorem dTBXCV {P:Prop} (h:P:=by
 obtain ⟨h8,rfl⟩:=h9
 (refine goZ ?_;refine bTz ?_)
 refine inPI (.inl rfl) .nil rfl rsZ rfl ⟨_,⟨_,rfl,tur_ask (jump_zero f L x) ?_⟩,sub_front (rest:=lw gt cur::rest) (Y:=[])⟩
 rw [show jumpV f L x=none from if_neg h8]
 exact ⟨_,gs,rfl⟩):P:=h
attribute [local irreducible] SL.inP
theorem jump_zero (f:FrV) (L:FrL) (a:Nat):ZeroO (jumpV f L a):=fun o' h=>by
 unfold jumpV at h
 split at h
 ·cases h
  exact ⟨rfl,rfl,rfl,rfl⟩
 ·cases h
section
variable (w0 : World) (b : Nat) (f : FrV) (L : FrL) (gs R rest : Fs) (w : World) (hs : St w0 [] ((b, tuO f false) :: (gs ++ rest)) w) (e0 e1 e2 e3 : Nat) (op : Nat)
include hs
theorem does_nop (n:Nat) (hn:n ≠ 2) (p:Option Addr) (ct:Nat) (hop:op < 256) (hfr:FrO f L gs) (hNo:NoAsk prog w0 b f gs rest op (.slice p n ct)) (ht:op ≠ 52∧op ≠ 48∧op ≠ 51∧op ≠ 50∧op ≠ 66∧op ≠ 67∧op ≠ 72∧op ≠ 54∧op ≠ 61∧op ≠ 90) (hm:op ≠ 53∧op ≠ 55∧op ≠ 62∧op ≠ 81∧op ≠ 82∧op ≠ 83∧op ≠ 32) (h1:op ≠ 21) (h2:op ≠ 25) (h3:op ≠ 86) (h4:op ≠ 87) :
  CallsS prog w0 [] 58 #[.pointer (some ⟨b,0,none⟩),.int .u8 (op:Int),.slice p n ct,.agg (enva e0 e1 e2 e3)] w (AskD b f L (some (soOn f L.ws L.ms)) R rest):=by
 have hTN:∀ (p:Value) (w:World),Calls prog 108 #[p,.int .u8 (op:Int),.agg (enva e0 e1 e2 e3)] w (Ret w (.bool false)):=fun p w=>told_no p (.bool false) op hop e0 e1 e2 e3 ht w
 have hMN:∀ (q:Value) (w:World),Calls prog 109 #[q,.int .u8 (op:Int),.slice p n ct] w (Ret w (.bool false)):=fun q w=>mem_no q _ op hop hm w
 have hn':¬ ((n:Int)=2):=by omega
 refine dQBklS ?_
 (refine goZ ?_;intro _ _)
 rename_i b7 b8
 refine dQBwRV ?_
 rintro v fs' ⟨rfl,rfl⟩
 (refine goZ ?_;intro _)
 (refine CW.quiet rfl mixed (by decide +kernel) ?_;refine goZ ?_;apply QW.callE;rfl;apply wantYes;rfl;rfl;(with_reducible rfl);rfl;exact vF;exact .cons rfl (.cons rfl (.cons rfl .nil));intro w _;exact hTN _ w;refine goZ ?_;apply QW.callE;rfl;apply wantYes;rfl;rfl;(with_reducible rfl);rfl;exact vF;exact .cons rfl (.cons rfl (.cons rfl .nil));intro w _;exact hMN _ w;refine goZ ?_)
 (refine goZ ?_;refine bTz ?_)
 exact inPI (.inl rfl) .nil rfl rsZ rfl ⟨_,⟨_,rfl,tur_ask (zero_on f L.ws L.ms) ⟨f.code,f.stk,f.mem,f.inp,f.back,gs,hfr,rfl⟩⟩,sub_front (Y:=[_])⟩
end
section
variable (w0 : World) (b : Nat) (f : FrV) (L : FrL) (gs R rest : Fs) (w : World) (gt ct : Nat) (cur : Array Value) (hs : St w0 [] ((b, tuO f false) :: (gs ++ (lw gt cur :: rest))) w) (hfr : FrO f L gs) (e0 e1 e2 e3 : Nat)
include hs hfr
theorem does_21 (x:Nat) (hx:x < M256) (hl:L.ws.length < 64) (hcur:(cur.toList.drop 0).take ([x].length * 4)=wcs [x]) (hNo:NoAsk prog w0 b f gs (lw gt cur::rest) 21 (.slice (some ⟨gt,0,none⟩) 1 ct)) :
  CallsS prog w0 [] 58 #[.pointer (some ⟨b,0,none⟩),.int .u8 ((21:Nat):Int),.slice (some ⟨gt,0,none⟩) 1 ct,.agg (enva e0 e1 e2 e3)] w (AskD b f L (some (soOn f (L.ws++[if x=0 then 1 else 0]) L.ms)) R (lw gt cur::rest)):=by
 have hTN:∀ (p:Value) (w:World),Calls prog 108 #[p,.int .u8 ((21:Nat):Int),.agg (enva e0 e1 e2 e3)] w (Ret w (.bool false)):=fun p w=>told_no p (.bool false) _ (by omega) e0 e1 e2 e3 (by omega) w
 have hMN:∀ (q:Value) (w:World),Calls prog 109 #[q,.int .u8 ((21:Nat):Int),.slice (some ⟨gt,0,none⟩) 1 ct] w (Ret w (.bool false)):=fun q w=>mem_no q _ _ (by omega) (by omega) w
 have hrdX:Rd prog 29 (.cells cur 29 (0,0)) (0+0 * 4) (wv x):=word_rd hcur 0 (by show 0 < 1;decide)
 refine dQBklS ?_
 (refine goZ ?_;intro _ _)
 rename_i b7 b8
 refine dQBaPy ?_
 rintro v fs' ⟨rfl,rfl⟩
 (refine goZ ?_;intro _)
 (refine CW.quiet rfl mixed (by decide +kernel) ?_;refine goZ ?_;apply QW.callE;rfl;apply wantYes;rfl;rfl;(with_reducible rfl);rfl;exact vF;exact .cons rfl (.cons rfl (.cons rfl .nil));intro w _;exact hTN _ w;refine goZ ?_;apply QW.callE;rfl;apply wantYes;rfl;rfl;(with_reducible rfl);rfl;exact vF;exact .cons rfl (.cons rfl (.cons rfl .nil));intro w _;exact hMN _ w;refine goZ ?_)
 (refine goZ ?_;refine cEw (c:=by exact None_calls x hx) (k:=?_))
 rename_i b9
 refine LW.subP (fs':=(b,tuO f false)::(gs++(lw gt cur::(rest++([(b8,_),(b7,_)]++[(b9,_)]))))) (sub_back2 (rest:=lw gt cur::rest) (Y:=[_])) ?_
 refine cSz rfl rfl (fun w' hst=>tyes_calls w0 [] b f false L gs _ _ w' (by omega) hfr hst) ?_
 intro v fs' h9
 obtain ⟨rfl,h⟩:=lay_tur h9
 simp only [decide_eq_true_eq] at h
 obtain ⟨c,s,m,i,bb,gs',hfo,rfl⟩:=h
 (refine goZ ?_;refine bTz ?_)
 exact inPI (.inl rfl) .nil rfl rsZ rfl ⟨_,⟨_,rfl,tur_ask (zero_on f _ L.ms) ⟨c,s,m,i,bb,gs',hfo,rfl⟩⟩,sub_front (rest:=lw gt cur::rest) (Y:=[])⟩
theorem does_25 (x:Nat) (hx:x < M256) (hl:L.ws.length < 64) (hcur:(cur.toList.drop 0).take ([x].length * 4)=wcs [x]) (hNo:NoAsk prog w0 b f gs (lw gt cur::rest) 25 (.slice (some ⟨gt,0,none⟩) 1 ct)) :
  CallsS prog w0 [] 58 #[.pointer (some ⟨b,0,none⟩),.int .u8 ((25:Nat):Int),.slice (some ⟨gt,0,none⟩) 1 ct,.agg (enva e0 e1 e2 e3)] w (AskD b f L (some (soOn f (L.ws++[M256 - 1 - x]) L.ms)) R (lw gt cur::rest)):=by
 have hTN:∀ (p:Value) (w:World),Calls prog 108 #[p,.int .u8 ((25:Nat):Int),.agg (enva e0 e1 e2 e3)] w (Ret w (.bool false)):=fun p w=>told_no p (.bool false) _ (by omega) e0 e1 e2 e3 (by omega) w
 have hMN:∀ (q:Value) (w:World),Calls prog 109 #[q,.int .u8 ((25:Nat):Int),.slice (some ⟨gt,0,none⟩) 1 ct] w (Ret w (.bool false)):=fun q w=>mem_no q _ _ (by omega) (by omega) w
 have hrdX:Rd prog 29 (.cells cur 29 (0,0)) (0+0 * 4) (wv x):=word_rd hcur 0 (by show 0 < 1;decide)
 refine dQBklS ?_
 (refine goZ ?_;intro _ _)
 rename_i b7 b8
 refine dQBaPy ?_
 rintro v fs' ⟨rfl,rfl⟩
 (refine goZ ?_;intro _)
 (refine CW.quiet rfl mixed (by decide +kernel) ?_;refine goZ ?_;apply QW.callE;rfl;apply wantYes;rfl;rfl;(with_reducible rfl);rfl;exact vF;exact .cons rfl (.cons rfl (.cons rfl .nil));intro w _;exact hTN _ w;refine goZ ?_;apply QW.callE;rfl;apply wantYes;rfl;rfl;(with_reducible rfl);rfl;exact vF;exact .cons rfl (.cons rfl (.cons rfl .nil));intro w _;exact hMN _ w;refine goZ ?_)
 (refine goZ ?_;refine cEw (c:=by exact rNot_calls x hx) (k:=?_))
 rename_i b9
 refine LW.subP (fs':=(b,tuO f false)::(gs++(lw gt cur::(rest++([(b8,_),(b7,_)]++[(b9,_)]))))) (sub_back2 (rest:=lw gt cur::rest) (Y:=[_])) ?_
 refine cSz rfl rfl (fun w' hst=>tlay_calls w0 [] b f false L gs _ _ w' (by omega) hfr hst) ?_
 intro v fs' h9
 obtain ⟨rfl,h⟩:=lay_tur h9
 obtain ⟨c,s,m,i,bb,gs',hfo,rfl⟩:=h
 (refine goZ ?_;refine bTz ?_)
 exact inPI (.inl rfl) .nil rfl rsZ rfl ⟨_,⟨_,rfl,tur_ask (zero_on f _ L.ms) ⟨c,s,m,i,bb,gs',hfo,rfl⟩⟩,sub_front (rest:=lw gt cur::rest) (Y:=[])⟩
theorem does_86 (x:Nat) (hx:x < M256) (hl:L.cl.length≤200) (hcur:(cur.toList.drop 0).take ([x].length * 4)=wcs [x]) (hNo:NoAsk prog w0 b f gs (lw gt cur::rest) 86 (.slice (some ⟨gt,0,none⟩) 1 ct)) :
  CallsS prog w0 [] 58 #[.pointer (some ⟨b,0,none⟩),.int .u8 ((86:Nat):Int),.slice (some ⟨gt,0,none⟩) 1 ct,.agg (enva e0 e1 e2 e3)] w (AskD b f L (jumpV f L x) R (lw gt cur::rest)):=by
 have hTN:∀ (p:Value) (w:World),Calls prog 108 #[p,.int .u8 ((86:Nat):Int),.agg (enva e0 e1 e2 e3)] w (Ret w (.bool false)):=fun p w=>told_no p (.bool false) _ (by omega) e0 e1 e2 e3 (by omega) w
 have hMN:∀ (q:Value) (w:World),Calls prog 109 #[q,.int .u8 ((86:Nat):Int),.slice (some ⟨gt,0,none⟩) 1 ct] w (Ret w (.bool false)):=fun q w=>mem_no q _ _ (by omega) (by omega) w
 have hrdX:Rd prog 29 (.cells cur 29 (0,0)) (0+0 * 4) (wv x):=word_rd hcur 0 (by show 0 < 1;decide)
 refine dQBklS ?_
 (refine goZ ?_;intro _ _)
 rename_i b7 b8
 refine dQBaPy ?_
 rintro v fs' ⟨rfl,rfl⟩
 (refine goZ ?_;intro _)
 (refine CW.quiet rfl mixed (by decide +kernel) ?_;refine goZ ?_;apply QW.callE;rfl;apply wantYes;rfl;rfl;(with_reducible rfl);rfl;exact vF;exact .cons rfl (.cons rfl (.cons rfl .nil));intro w _;exact hTN _ w;refine goZ ?_;apply QW.callE;rfl;apply wantYes;rfl;rfl;(with_reducible rfl);rfl;exact vF;exact .cons rfl (.cons rfl (.cons rfl .nil));intro w _;exact hMN _ w;refine goZ ?_)
 (refine goZ ?_)
 rename_i b9
 refine LW.subP (fs':=(b,tuO f false)::(gs++(lw gt cur::(rest++([(b8,_),(b7,_)]++[(b9,_)]))))) (sub_back2 (rest:=lw gt cur::rest) (Y:=[_])) ?_
 refine cSz rfl rfl (fun w' hst=>tjump_calls w0 [] b f false L gs x _ w' (by assumption) (by omega) hfr hst) ?_
 rintro v fs' ⟨rfl,h9|h9⟩
 ·exact dTBczm
 ·exact dTBXCV
theorem does_87 (x y:Nat) (hx:x < M256) (hy:y < M256) (hl:L.cl.length≤200) (hcur:(cur.toList.drop 0).take ([x,y].length * 4)=wcs [x,y]) (hNo:NoAsk prog w0 b f gs (lw gt cur::rest) 87 (.slice (some ⟨gt,0,none⟩) 2 ct)) :
  CallsS prog w0 [] 58 #[.pointer (some ⟨b,0,none⟩),.int .u8 ((87:Nat):Int),.slice (some ⟨gt,0,none⟩) 2 ct,.agg (enva e0 e1 e2 e3)] w (AskD b f L (if y=0 then some (soOn f L.ws L.ms) else jumpV f L x) R (lw gt cur::rest)):=by
 have hTN:∀ (p:Value) (w:World),Calls prog 108 #[p,.int .u8 ((87:Nat):Int),.agg (enva e0 e1 e2 e3)] w (Ret w (.bool false)):=fun p w=>told_no p (.bool false) _ (by omega) e0 e1 e2 e3 (by omega) w
 have hMN:∀ (q:Value) (w:World),Calls prog 109 #[q,.int .u8 ((87:Nat):Int),.slice (some ⟨gt,0,none⟩) 2 ct] w (Ret w (.bool false)):=fun q w=>mem_no q _ _ (by omega) (by omega) w
 have hrdX:Rd prog 29 (.cells cur 29 (0,0)) (0+0 * 4) (wv x):=word_rd hcur 0 (by show 0 < 2;decide)
 have hWN:∀ (q:Value) (w:World),Calls prog 110 #[q,.int .u8 ((87:Nat):Int),wv x,wv y] w (Ret w (.bool false)):=fun q w=>two_no q _ (by omega) x y (by omega) w
 have hrdY:Rd prog 29 (.cells cur 29 (0,0)) (0+1 * 4) (wv y):=word_rd hcur 1 (by show 1 < 2;decide)
 refine dQBklS ?_
 (refine goZ ?_;intro _ _)
 rename_i b7 b8
 refine dQBaPy ?_
 rintro v fs' ⟨rfl,rfl⟩
 (refine goZ ?_;intro _)
 (refine CW.quiet rfl mixed (by decide +kernel) ?_;refine goZ ?_;apply QW.callE;rfl;apply wantYes;rfl;rfl;(with_reducible rfl);rfl;exact vF;exact .cons rfl (.cons rfl (.cons rfl .nil));intro w _;exact hTN _ w;refine goZ ?_;apply QW.callE;rfl;apply wantYes;rfl;rfl;(with_reducible rfl);rfl;exact vF;exact .cons rfl (.cons rfl (.cons rfl .nil));intro w _;exact hMN _ w;refine goZ ?_;apply QW.callE;rfl;apply wantYes;rfl;rfl;(with_reducible rfl);rfl;exact vF;exact .cons rfl (.cons rfl (.cons rfl (.cons rfl .nil)));intro w _;exact hWN _ w;refine goZ ?_)
 by_cases h0:y=0
 ·rw [if_pos h0]
  have hd:(!decide (y=0))=false:=by simp [h0]
  (refine goZ ?_;refine cEw (c:=by exact None_calls y hy) (k:=?_);refine lvz (.notB rfl) ?_;refine goZ ?_;refine bTz ?_)
  exact inPI (.inl rfl) .nil rfl rsZ rfl ⟨_,⟨_,rfl,tur_ask (zero_on f L.ws L.ms) ⟨f.code,f.stk,f.mem,f.inp,f.back,gs,hfr,rfl⟩⟩,sub_front (rest:=lw gt cur::rest) (Y:=[_])⟩
 ·rw [if_neg h0]
  have hd:(!decide (y=0))=true:=by simp [h0]
  (refine goZ ?_;refine cEw (c:=by exact None_calls y hy) (k:=?_);refine lvz (.notB rfl) ?_;refine goZ ?_)
  rename_i b9
  refine LW.subP (fs':=(b,tuO f false)::(gs++(lw gt cur::(rest++([(b8,_),(b7,_)]++[(b9,_)]))))) (sub_back2 (rest:=lw gt cur::rest) (Y:=[_])) ?_
  refine cSz rfl rfl (fun w' hst=>tjump_calls w0 [] b f false L gs x _ w' (by assumption) (by omega) hfr hst) ?_
  rintro v fs' ⟨rfl,h9|h9⟩
  ·exact dTBczm
  ·exact dTBXCV
theorem does_nop2 (x y:Nat) (op:Nat) (hop:op < 256) (ht:op ≠ 52∧op ≠ 48∧op ≠ 51∧op ≠ 50∧op ≠ 66∧op ≠ 67∧op ≠ 72∧op ≠ 54∧op ≠ 61∧op ≠ 90) (hm:op ≠ 53∧op ≠ 55∧op ≠ 62∧op ≠ 81∧op ≠ 82∧op ≠ 83∧op ≠ 32) (hw:op ≠ 1∧op ≠ 3∧op ≠ 2∧op ≠ 4∧op ≠ 6∧op ≠ 22∧op ≠ 23∧op ≠ 24∧op ≠ 27∧op ≠ 28∧op ≠ 16∧op ≠ 17∧op ≠ 20) (h87:op ≠ 87) (h1:op ≠ 21) (h2:op ≠ 25) (h3:op ≠ 86) (hcur:(cur.toList.drop 0).take ([x,y].length * 4)=wcs [x,y]) (hNo:NoAsk prog w0 b f gs (lw gt cur::rest) op (.slice (some ⟨gt,0,none⟩) 2 ct)) :
  CallsS prog w0 [] 58 #[.pointer (some ⟨b,0,none⟩),.int .u8 ((op:Nat):Int),.slice (some ⟨gt,0,none⟩) 2 ct,.agg (enva e0 e1 e2 e3)] w (AskD b f L (some (soOn f L.ws L.ms)) R (lw gt cur::rest)):=by
 have hTN:∀ (p:Value) (w:World),Calls prog 108 #[p,.int .u8 ((op:Nat):Int),.agg (enva e0 e1 e2 e3)] w (Ret w (.bool false)):=fun p w=>told_no p (.bool false) _ (by omega) e0 e1 e2 e3 (by omega) w
 have hMN:∀ (q:Value) (w:World),Calls prog 109 #[q,.int .u8 ((op:Nat):Int),.slice (some ⟨gt,0,none⟩) 2 ct] w (Ret w (.bool false)):=fun q w=>mem_no q _ _ (by omega) (by omega) w
 have hrdX:Rd prog 29 (.cells cur 29 (0,0)) (0+0 * 4) (wv x):=word_rd hcur 0 (by show 0 < 2;decide)
 have hWN:∀ (q:Value) (w:World),Calls prog 110 #[q,.int .u8 ((op:Nat):Int),wv x,wv y] w (Ret w (.bool false)):=fun q w=>two_no q _ (by omega) x y (by omega) w
 have hrdY:Rd prog 29 (.cells cur 29 (0,0)) (0+1 * 4) (wv y):=word_rd hcur 1 (by show 1 < 2;decide)
 refine dQBklS ?_
 (refine goZ ?_;intro _ _)
 rename_i b7 b8
 refine dQBaPy ?_
 rintro v fs' ⟨rfl,rfl⟩
 (refine goZ ?_;intro _)
 (refine CW.quiet rfl mixed (by decide +kernel) ?_;refine goZ ?_;apply QW.callE;rfl;apply wantYes;rfl;rfl;(with_reducible rfl);rfl;exact vF;exact .cons rfl (.cons rfl (.cons rfl .nil));intro w _;exact hTN _ w;refine goZ ?_;apply QW.callE;rfl;apply wantYes;rfl;rfl;(with_reducible rfl);rfl;exact vF;exact .cons rfl (.cons rfl (.cons rfl .nil));intro w _;exact hMN _ w;refine goZ ?_;apply QW.callE;rfl;apply wantYes;rfl;rfl;(with_reducible rfl);rfl;exact vF;exact .cons rfl (.cons rfl (.cons rfl (.cons rfl .nil)));intro w _;exact hWN _ w;refine goZ ?_)
 (refine goZ ?_;refine bTz ?_)
 exact inPI (.inl rfl) .nil rfl rsZ rfl ⟨_,⟨_,rfl,tur_ask (zero_on f L.ws L.ms) ⟨f.code,f.stk,f.mem,f.inp,f.back,gs,hfr,rfl⟩⟩,sub_front (rest:=lw gt cur::rest) (Y:=[_])⟩
end
end
section
theorem zero_none:ZeroO none:=fun _ h=>by cases h
theorem zero_copy (f:FrV) (L:FrL) (bs:List UInt8) (x y z:Nat):ZeroO (copyV f L bs x y z):=by
 by_cases h1:costR L x z≤f.gas
 ·by_cases h2:timesV ((z+31) / 32) 3≤f.gas - costR L x z
  ·rw [copyV_some h1 h2];exact zero_on _ _ _
  ·rw [copyV_none2 h1 (by omega)];exact zero_none
 ·rw [copyV_none1 (by omega)];exact zero_none
theorem zero_store (f:FrV) (L:FrL) (x n:Nat) (l:List UInt8):ZeroO (storeV f L x n l):=by
 unfold storeV reaV
 split
 ·exact zero_on _ _ _
 ·exact zero_none
theorem zero_load (f:FrV) (L:FrL) (x:Nat):ZeroO (loadV14 f L x):=by
 unfold loadV14 reaV
 split
 ·exact zero_on _ _ _
 ·exact zero_none
theorem zero_hash (f:FrV) (L:FrL) (x n:Nat):ZeroO (hashV f L x n):=by
 unfold hashV reaV spnV
 split
 ·show ZeroO (Option.bind (if _ then _ else _) _)
  split
  ·exact zero_on _ _ _
  ·exact zero_none
 ·exact zero_none
def WordsD (lv:Value) (l:List Nat) (rest:Fs):Prop:=(l=[]∧∃ p c,lv=.slice p 0 c)∨(∃ gt ct cur r,lv=.slice (some ⟨gt,0,none⟩) l.length (ct+1)∧rest=lw gt cur::r∧(cur.toList.drop 0).take (l.length * 4)=wcs l)
theorem len1 {l:List Nat} (h:l.length=1):∃ x,l=[x]:=by
 match l,h with
 |[x],_=>exact ⟨x,rfl⟩
theorem len2 {l:List Nat} (h:l.length=2):∃ x y,l=[x,y]:=by
 match l,h with
 |[x,y],_=>exact ⟨x,y,rfl⟩
theorem len3 {l:List Nat} (h:l.length=3):∃ x y z,l=[x,y,z]:=by
 match l,h with
 |[x,y,z],_=>exact ⟨x,y,z,rfl⟩
theorem WordsD.pos {lv:Value} {l:List Nat} {rest:Fs} (h:WordsD lv l rest) (hl:0 < l.length):∃ gt ct cur r,lv=.slice (some ⟨gt,0,none⟩) l.length (ct+1)∧rest=lw gt cur::r∧(cur.toList.drop 0).take (l.length * 4)=wcs l:=by
 rcases h with ⟨rfl,_⟩|h
 ·exact absurd hl (Nat.lt_irrefl 0)
 ·exact h
theorem tks:(opX 241).tk=7∧(opX 244).tk=6∧(opX 250).tk=6∧(opX 245).tk=4∧(opX 243).tk=2∧(opX 253).tk=2∧(opX 53).tk=1∧(opX 55).tk=3∧(opX 62).tk=3∧(opX 81).tk=1∧(opX 82).tk=2∧(opX 83).tk=2∧(opX 32).tk=2∧(opX 21).tk=1∧(opX 25).tk=1∧(opX 86).tk=1∧(opX 87).tk=2:=by
 refine ⟨?_,?_,?_,?_,?_,?_,?_,?_,?_,?_,?_,?_,?_,?_,?_,?_,?_⟩<;>kernel_rfl
theorem lys:(opX 53).ly=1∧(opX 81).ly=1∧(opX 32).ly=1∧(opX 21).ly=1∧(opX 25).ly=1∧(opX 52).ly=1:=by
 refine ⟨?_,?_,?_,?_,?_,?_⟩<;>kernel_rfl
section
variable (w0 : World) (b : Nat) (f : FrV) (L : FrL) (gs R rest : Fs) (w : World) (hF : okF f L) (hn : FrNum f L) (hfr : FrO f L gs) (hs : St w0 [] ((b, tuO f false) :: (gs ++ rest)) w) (e0 e1 e2 e3 : Nat) (he0 : e0 < 18446744073709551616) (he1 : e1 < 18446744073709551616) (he2 : e2 < 18446744073709551616) (he3 : e3 < 18446744073709551616) (l : List Nat) (lv : Value) (hW : WordsD lv l rest) (hrow : ∀ w' : World, (∀ p ∈ R, w'.heap[p.1]? = some p.2) → RowAt w' 4 lv l.length (wcs l)) (hlt : ∀ x ∈ l, x < M256)
include hF hn hfr hs he0 he1 he2 he3 hW hrow hlt
theorem tdoes_calls (op:Nat) (hop:op < 256) (hlen:l.length=(opX op).tk) (hly:L.ws.length+(opX op).ly≤64) :
  CallsS prog w0 [] 58 #[.pointer (some ⟨b,0,none⟩),.int .u8 (op:Int),lv,.agg (enva e0 e1 e2 e3)] w (AskD b f L (restV op f L l e0 e1 e2 e3) R rest):=by
 have hlf:∃ p n c,lv=.slice p n c:=by
  rcases hW with ⟨_,p,c,h⟩|⟨gt,ct,cur,r,h,_⟩
  ·exact ⟨_,_,_,h⟩
  ·exact ⟨_,_,_,h⟩
 obtain ⟨k1,k2,k3,k4,k5,k6,k7,k8,k9,k10,k11,k12,k13,k14,k15,k16,k17⟩:=tks
 obtain ⟨y1,y2,y3,y4,y5,y6⟩:=lys
 by_cases hA:op=49∨op=71∨op=84∨op=92
 ·rw [show restV op f L l e0 e1 e2 e3=some (stateV op f L l) by rcases hA with rfl|rfl|rfl|rfl<;>kernel_rfl]
  exact does_ask w0 b f L gs R rest w hs e0 e1 e2 e3 op lv _ (fun X w' hst=>tasks_state w0 b f L gs R (rest++X) w' l lv hfr hst hlf hrow op hA)
 by_cases hB:op=85∨op=93
 ·rw [show restV op f L l e0 e1 e2 e3=(if f.stat=true then none else some (stateV op f L l)) by rcases hB with rfl|rfl<;>kernel_rfl]
  exact does_ask w0 b f L gs R rest w hs e0 e1 e2 e3 op lv _ (fun X w' hst=>tasks_change w0 b f L gs R (rest++X) w' l lv hfr hst hlf hrow op hB)
 by_cases hC:op=241∨op=244∨op=250∨op=245
 ·obtain ⟨gt,ct,cur,r,rfl,rfl,hcur⟩:=hW.pos (by rcases hC with rfl|rfl|rfl|rfl<;>omega)
  rw [show restV op f L l e0 e1 e2 e3=callV14 op f L l by rcases hC with rfl|rfl|rfl|rfl<;>kernel_rfl]
  exact does_ask w0 b f L gs R (lw gt cur::r) w hs e0 e1 e2 e3 op _ _ (fun X w' hst=>tasks_call w0 b f L gs gt (ct+1) cur R (r++X) w' l hfr hst hrow hcur hlt op (by rcases hC with rfl|rfl|rfl|rfl<;>omega))
 by_cases hD:op=0
 ·subst hD
  exact does_ask w0 b f L gs R rest w hs e0 e1 e2 e3 0 lv _ (fun X w' hst=>tasks_stop w0 b f L gs R (rest++X) w' l lv hfr hst hlf hrow)
 by_cases hE:op=243∨op=253
 ·obtain ⟨x,z,rfl⟩:=len2 (l:=l) (by rcases hE with rfl|rfl<;>omega)
  obtain ⟨gt,ct,cur,r,rfl,rfl,hcur⟩:=hW.pos (Nat.succ_pos _)
  rw [show restV op f L [x,z] e0 e1 e2 e3=endsV op f L x z by rcases hE with rfl|rfl<;>kernel_rfl]
  exact does_ask w0 b f L gs R (lw gt cur::r) w hs e0 e1 e2 e3 op _ _ (fun X w' hst=>tasks_ends w0 b f L gs gt (ct+1) cur R (r++X) w' [x,z] hfr hst hrow hcur hlt op x z rfl hE hF)
 have hNo:NoAsk prog w0 b f gs rest op lv:=fun X w' hst=>tasks_no w0 b f L gs R (rest++X) w' l lv hfr hst hlf hrow op hop (by omega)
 by_cases hG:op=48∨op=51∨op=50∨op=66∨op=67∨op=72∨op=54∨op=61∨op=90
 ·have hy:(opX op).ly=1:=by rcases hG with rfl|rfl|rfl|rfl|rfl|rfl|rfl|rfl|rfl<;>kernel_rfl
  rw [show restV op f L l e0 e1 e2 e3=some (soOn f (L.ws++[sayV op f L e0 e1 e2 e3]) L.ms) by rcases hG with rfl|rfl|rfl|rfl|rfl|rfl|rfl|rfl|rfl<;>kernel_rfl]
  exact does_told w0 b f L gs R rest w hs e0 e1 e2 e3 op lv _ (zero_on _ _ _) hlf hNo (fun X w' hst=>told_yes w0 b f L gs (rest++X) w' hF hn hfr hst e0 e1 e2 e3 he0 he1 he2 he3 op hG (by omega))
 by_cases h52:op=52
 ·subst h52
  exact does_told w0 b f L gs R rest w hs e0 e1 e2 e3 52 lv _ (zero_on f (L.ws++[f.val]) L.ms) hlf hNo (fun X w' hst=>told_52 w0 b f L gs (rest++X) w' hF hn hfr hst e0 e1 e2 e3 he0 he1 he2 he3 (by omega))
 have ht:op ≠ 52∧op ≠ 48∧op ≠ 51∧op ≠ 50∧op ≠ 66∧op ≠ 67∧op ≠ 72∧op ≠ 54∧op ≠ 61∧op ≠ 90:=by omega
 by_cases h53:op=53
 ·subst h53
  obtain ⟨x,rfl⟩:=len1 (l:=l) (by omega)
  obtain ⟨gt,ct,cur,r,rfl,rfl,hcur⟩:=hW.pos (Nat.succ_pos _)
  exact does_mem w0 b f L gs R (lw gt cur::r) w hs e0 e1 e2 e3 53 _ _ (zero_on f (L.ws++[bev (winL L.il x 32)]) L.ms) hop ⟨_,_,_,rfl⟩ hNo ht (fun X w' hst=>tmem53 w0 b f L gs gt (ct+1) cur (r++X) w' hF hfr hst x (hlt x (by simp)) (by omega) hcur)
 by_cases h55:op=55
 ·subst h55
  obtain ⟨x,y,z,rfl⟩:=len3 (l:=l) (by omega)
  obtain ⟨gt,ct,cur,r,rfl,rfl,hcur⟩:=hW.pos (Nat.succ_pos _)
  exact does_mem w0 b f L gs R (lw gt cur::r) w hs e0 e1 e2 e3 55 _ _ (zero_copy f L L.il x y z) hop ⟨_,_,_,rfl⟩ hNo ht (fun X w' hst=>tmemcp w0 b f L gs gt (ct+1) cur (r++X) w' hF hfr hst 55 (.inl rfl) x y z (hlt x (by simp)) (hlt y (by simp)) (hlt z (by simp)) hcur)
 by_cases h62:op=62
 ·subst h62
  obtain ⟨x,y,z,rfl⟩:=len3 (l:=l) (by omega)
  obtain ⟨gt,ct,cur,r,rfl,rfl,hcur⟩:=hW.pos (Nat.succ_pos _)
  exact does_mem w0 b f L gs R (lw gt cur::r) w hs e0 e1 e2 e3 62 _ _ (by
   show ZeroO (if y+z≤L.bl.length then copyV f L L.bl x y z else none)
   split
   ·exact zero_copy _ _ _ _ _ _
   ·exact zero_none) hop ⟨_,_,_,rfl⟩ hNo ht (fun X w' hst=>tmemcp w0 b f L gs gt (ct+1) cur (r++X) w' hF hfr hst 62 (.inr rfl) x y z (hlt x (by simp)) (hlt y (by simp)) (hlt z (by simp)) hcur)
 by_cases h81:op=81
 ·subst h81
  obtain ⟨x,rfl⟩:=len1 (l:=l) (by omega)
  obtain ⟨gt,ct,cur,r,rfl,rfl,hcur⟩:=hW.pos (Nat.succ_pos _)
  exact does_mem w0 b f L gs R (lw gt cur::r) w hs e0 e1 e2 e3 81 _ _ (zero_load f L x) hop ⟨_,_,_,rfl⟩ hNo ht (fun X w' hst=>tmem81 w0 b f L gs gt (ct+1) cur (r++X) w' hF hfr hst x (hlt x (by simp)) (by omega) hcur)
 by_cases h82:op=82
 ·subst h82
  obtain ⟨x,y,rfl⟩:=len2 (l:=l) (by omega)
  obtain ⟨gt,ct,cur,r,rfl,rfl,hcur⟩:=hW.pos (Nat.succ_pos _)
  exact does_mem w0 b f L gs R (lw gt cur::r) w hs e0 e1 e2 e3 82 _ _ (zero_store f L x 32 (beb 32 y)) hop ⟨_,_,_,rfl⟩ hNo ht (fun X w' hst=>tmem82 w0 b f L gs gt (ct+1) cur (r++X) w' hF hfr hst x y (hlt x (by simp)) (hlt y (by simp)) hcur)
 by_cases h83:op=83
 ·subst h83
  obtain ⟨x,y,rfl⟩:=len2 (l:=l) (by omega)
  obtain ⟨gt,ct,cur,r,rfl,rfl,hcur⟩:=hW.pos (Nat.succ_pos _)
  exact does_mem w0 b f L gs R (lw gt cur::r) w hs e0 e1 e2 e3 83 _ _ (zero_store f L x 1 ((beb 32 y).drop 31)) hop ⟨_,_,_,rfl⟩ hNo ht (fun X w' hst=>tmem83 w0 b f L gs gt (ct+1) cur (r++X) w' hF hfr hst x y (hlt x (by simp)) (hlt y (by simp)) hcur)
 by_cases h32:op=32
 ·subst h32
  obtain ⟨x,y,rfl⟩:=len2 (l:=l) (by omega)
  obtain ⟨gt,ct,cur,r,rfl,rfl,hcur⟩:=hW.pos (Nat.succ_pos _)
  exact does_mem w0 b f L gs R (lw gt cur::r) w hs e0 e1 e2 e3 32 _ _ (zero_hash f L x y) hop ⟨_,_,_,rfl⟩ hNo ht (fun X w' hst=>tmem32 w0 b f L gs gt (ct+1) cur (r++X) w' hF hfr hst x y (hlt x (by simp)) (hlt y (by simp)) (by omega) hcur)
 have hm:op ≠ 53∧op ≠ 55∧op ≠ 62∧op ≠ 81∧op ≠ 82∧op ≠ 83∧op ≠ 32:=by omega
 by_cases hH:op=1∨op=3∨op=2∨op=4∨op=6∨op=22∨op=23∨op=24∨op=27∨op=28∨op=16∨op=17∨op=20
 ·have hy:(opX op).tk=2∧(opX op).ly=1:=by rcases hH with rfl|rfl|rfl|rfl|rfl|rfl|rfl|rfl|rfl|rfl|rfl|rfl|rfl<;>exact ⟨by kernel_rfl,by kernel_rfl⟩
  obtain ⟨x,y,rfl⟩:=len2 (l:=l) (by omega)
  obtain ⟨gt,ct,cur,r,rfl,rfl,hcur⟩:=hW.pos (Nat.succ_pos _)
  rw [show restV op f L [x,y] e0 e1 e2 e3=some (soOn f (L.ws++[halfV op x y]) L.ms) by rcases hH with rfl|rfl|rfl|rfl|rfl|rfl|rfl|rfl|rfl|rfl|rfl|rfl|rfl<;>kernel_rfl]
  exact does_two w0 b f L gs R r w e0 e1 e2 e3 op gt ct x y cur hs _ (zero_on _ _ _) hop hcur hNo ht hm (fun X w' hst=>two_yes w0 b f L gs (lw gt cur::(r++X)) w' hfr hst x y (hlt x (by simp)) (hlt y (by simp)) (by omega) op hH)
 have hw:op ≠ 1∧op ≠ 3∧op ≠ 2∧op ≠ 4∧op ≠ 6∧op ≠ 22∧op ≠ 23∧op ≠ 24∧op ≠ 27∧op ≠ 28∧op ≠ 16∧op ≠ 17∧op ≠ 20:=by omega
 by_cases h21:op=21
 ·subst h21
  obtain ⟨x,rfl⟩:=len1 (l:=l) (by omega)
  obtain ⟨gt,ct,cur,r,rfl,rfl,hcur⟩:=hW.pos (Nat.succ_pos _)
  exact does_21 w0 b f L gs R r w gt (ct+1) cur hs hfr e0 e1 e2 e3 x (hlt x (by simp)) (by omega) hcur hNo
 by_cases h25:op=25
 ·subst h25
  obtain ⟨x,rfl⟩:=len1 (l:=l) (by omega)
  obtain ⟨gt,ct,cur,r,rfl,rfl,hcur⟩:=hW.pos (Nat.succ_pos _)
  exact does_25 w0 b f L gs R r w gt (ct+1) cur hs hfr e0 e1 e2 e3 x (hlt x (by simp)) (by omega) hcur hNo
 by_cases h86:op=86
 ·subst h86
  obtain ⟨x,rfl⟩:=len1 (l:=l) (by omega)
  obtain ⟨gt,ct,cur,r,rfl,rfl,hcur⟩:=hW.pos (Nat.succ_pos _)
  exact does_86 w0 b f L gs R r w gt (ct+1) cur hs hfr e0 e1 e2 e3 x (hlt x (by simp)) hF.2.2.1 hcur hNo
 by_cases h87:op=87
 ·subst h87
  obtain ⟨x,y,rfl⟩:=len2 (l:=l) (by omega)
  obtain ⟨gt,ct,cur,r,rfl,rfl,hcur⟩:=hW.pos (Nat.succ_pos _)
  exact does_87 w0 b f L gs R r w gt (ct+1) cur hs hfr e0 e1 e2 e3 x y (hlt x (by simp)) (hlt y (by simp)) hF.2.2.1 hcur hNo
 have hr:restV op f L l e0 e1 e2 e3=some (soOn f L.ws L.ms):=by
  have t1:=of_decide_eq_true (List.all_eq_true.1 (show ((List.range 256).all fun op=>decide ((op ≠ 1∧op ≠ 3∧op ≠ 2∧op ≠ 4∧op ≠ 6∧op ≠ 22∧op ≠ 23∧op ≠ 24∧op ≠ 27∧op ≠ 28∧op ≠ 16∧op ≠ 17∧op ≠ 20)→(op ≠ 48∧op ≠ 51∧op ≠ 50∧op ≠ 66∧op ≠ 67∧op ≠ 72∧op ≠ 54∧op ≠ 61∧op ≠ 90)→(halvesF op).isSome=false∧(saysF op).isSome=false))=true by kernel_rfl) op (List.mem_range.2 hop)) hw ht.2
  unfold restV doV
  rw [t1.1,t1.2]
  dsimp only
  rw [if_neg Bool.false_ne_true,if_neg Bool.false_ne_true,if_neg h21,if_neg h25,if_neg h52,if_neg h53,if_neg h55,if_neg h62,if_neg h81,if_neg h82,if_neg h83,if_neg h32,if_neg h86,if_neg h87,if_neg hA,if_neg hB,if_neg hC,if_neg hD,if_neg hE]
 rw [hr]
 rcases hW with ⟨rfl,p,c,rfl⟩|⟨gt,ct,cur,r,rfl,rfl,hcur⟩
 ·exact does_nop w0 b f L gs R rest w hs e0 e1 e2 e3 op 0 (by decide) p c hop hfr hNo ht hm h21 h25 h86 h87
 ·by_cases h2:l.length=2
  ·obtain ⟨x,y,rfl⟩:=len2 h2
   exact does_nop2 w0 b f L gs R r w gt (ct+1) cur hs hfr e0 e1 e2 e3 x y op hop ht hm hw h87 h21 h25 h86 hcur hNo
  ·exact does_nop w0 b f L gs R (lw gt cur::r) w hs e0 e1 e2 e3 op l.length h2 _ _ hop hfr hNo ht hm h21 h25 h86 h87
end
end
end Go.Proofs.YtdeggbkbblfpoaaGreatDoor
