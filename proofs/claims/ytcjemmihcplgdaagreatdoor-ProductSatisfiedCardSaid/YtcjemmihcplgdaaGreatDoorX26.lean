/- The walks of the functions and the plain laws. Own texts of this claim, packed: Zdprody. -/
import Derived.Test.YtcjemmihcplgdaaGreatDoorX25
import Derived.Test.YtcjemmihcplgdaaGreatDoorX24
set_option linter.all false
namespace Go.Proofs.YtcjemmihcplgdaaGreatDoor
open AL Go
set_option maxRecDepth 100000
section
open ValidM ref01 ref03 ref04 ref06 prog prog2 prog3 prog4 prog5 prog6 prog7 prog8 prog9 prog13 prog15 starts Part Rungs LeftM TrimM Itoa Keys RoundM MergeM BisM BisM4 BisM5 WalkM StepM WitM JudgM JudgM2 refw judg wit refj sysw satj divr divs divd dive divg divw divv LevM LevM2 ChsM TrimI QuoM FailM DivM RefM GenW CompM CrossM CompP EncM EncM2 prodc divp prodm prodp BesM prodb prodr ForkM prodk SevM SatC TogM ProdM prodw
theorem sat_fP {m n:SSys} {s t:SS} (h:(((((((decide ((6:Int)<(m.sT.length:Int))||decide ((6:Int)<(n.sT.length:Int)))|| !fewM m 200)|| !fewM n 200)||decide ((20:Int)<(s.sT.length:Int)))||decide ((20:Int)<(t.sT.length:Int)))|| !few s 400)|| !few t 400)=false):m.sT.length≤6∧n.sT.length≤6∧(sizeM m:Int)≤200∧(sizeM n:Int)≤200∧s.sT.length≤20∧t.sT.length≤20∧(size s:Int)≤400∧(size t:Int)≤400:=by
 simp only [Bool.or_eq_false_iff,Bool.not_eq_false',decide_eq_false_iff_not] at h
 obtain⟨⟨⟨⟨⟨⟨⟨h1,h2⟩,h3⟩,h4⟩,h5⟩,h6⟩,h7⟩,h8⟩:=h
 unfold fewM at h3 h4
 exact⟨O,O,of_decide_eq_true h3,of_decide_eq_true h4,O,O,few_leC h7,few_leC h8⟩
theorem sizeM_okP {m:SSys} (h:sysOK m=true):sizeM m≤500000:=by
 have h1:=sysOK_ok h
 have h2:=h1.n8
 have h3:=h1.few1
 unfold sysOK at h
 simp only [Bool.and_eq_true,decide_eq_true_eq] at h
 have h4:=h.2
 unfold sizeM
 omega
theorem com_few {s t:SS} (hs:oK s) (ht:oK t) (hq:(comS s t).2=true):(comS s t).1.sT.length≤500:=by
 unfold comS at hq ⊢
 by_cases e:hol2 s t
 ·rw[if_pos e];show 1≤500;omega
 ·rw[if_neg e] at hq ⊢
  split at hq
  ·next g=>
   rw[if_pos g]
   have hok:oK (compD (tR s).1 (tR t).1):=numc_ok (trim_ok hs) (trim_ok ht) (c_numc (trim_ok hs) (trim_ok ht)) O
   have:=trim_len hok
   have e2:(compD (tR s).1 (tR t).1).sT.length=(cL (tR s).1 (tR t).1).length:=by simp[compD]
   show(tR (compD (tR s).1 (tR t).1)).1.sT.length≤500
   omega
  ·cases hq
theorem cmp_yes {s t:SS} (hf:fineE s t=0) (h:(cmpS s t).2=0):(comS s t).2=true∧(cmpS s t).1=(comS s t).1:=by
 unfold cmpS at h ⊢
 rw[if_pos hf] at h ⊢
 cases e:(comS s t).2 with
 |true=>rw[if_pos rfl];exact⟨rfl,rfl⟩
 |false=>rw[e,if_neg (by simp)] at h;cases h
theorem cmp_fine {s t:SS} (hf:fineE s t=0) (h:(cmpS s t).2=0):specOK (cmpS s t).1=true∧(cmpS s t).1.aC=s.aC:=by
 obtain⟨h1,h2,h3⟩:=Go.Proofs.YtcjemmihcplgdaaGreatDoor.fine_ok hf
 obtain⟨k1,k2⟩:=cmp_yes hf h
 rw[k2]
 exact⟨specOK_of (com_ok (okSpec_of h1) (okSpec_of h2) k1) (com_few (okSpec_of h1) (okSpec_of h2) k1),com_acts k1⟩
theorem bes_fine {m:SSys} {t:SS} (hf:fineSE m t=0) (hz:2^m.sT.length*t.sT.length≤10000) (h:(besS m t).2=0):specOK (besS m t).1=true∧(besS m t).1.aC=m.aC:=by
 obtain⟨k1,k2,ha⟩:=fineS_ok hf
 have hm:=sysOK_ok k1
 have ht:=okSpec_of k2
 have hT:=trim_ok ht
 have hal:m.aC.length=(tR t).1.aC.length:=by rw[trim_acts,ha]
 by_cases e:ix (hOl t) 0=true
 ·have hb:besS m t=(nothing t.aC,0):=by unfold besS;rw[if_pos hf,if_pos e]
  rw[hb]
  exact⟨specOK_of (nothing_ok ht.acts) (by show 1≤500;omega),ha.symm⟩
 ·have hb:besS m t=if (sL m (tR t).1).length≤500 then((tR (sD m (tR t).1)).1,0) else(⟨[],[]⟩,2):=by unfold besS;rw[if_pos hf,if_neg e]
  rw[hb] at h ⊢
  split at h
  ·next g=>
   rw[if_pos g]
   have hok:oK (sD m (tR t).1):=nums_ok hm hT hal ⟨s_numb hm hT hal,(s_walk hm hT hal).ok,rfl⟩ O
   have:=trim_len hok
   have e2:(sD m (tR t).1).sT.length=(sL m (tR t).1).length:=by simp[sD]
   exact⟨specOK_of (trim_ok hok) (by show(tR (sD m (tR t).1)).1.sT.length≤500;omega),by rw[trim_acts];rfl⟩
  ·cases h
theorem satok_DP {m:SSys} {s:SS} {v:VJ} (hv:sysOK m=true) (hs:specOK s=true) (ha:m.aC=s.aC) (h:SatOK m s v):fineSE m s=0∧(v.holds=true↔SatM m s):=by
 have e:fineSE m s=0:=by unfold fineSE;rw[if_pos hv,if_pos hs,if_pos ha]
 exact⟨e,judge_iff (h.ok e)⟩
namespace T
theorem arr60:Tryz.prog.underlying 60=some (.array 2 25):=by kernel_rfl
theorem ent30:Ent Tryz.prog 30:=ent_of kR
theorem ent18:Ent Tryz.prog 18:=ent_of kR
theorem ent12:Ent Tryz.prog 12:=ent_of kR
theorem ent36:Ent Tryz.prog 36:=ent_of kR
theorem ent16:Ent Tryz.prog 16:=ent_of kR
theorem ent42:Ent Tryz.prog 42:=ent_of kR
theorem ent43:Ent Tryz.prog 43:=ent_of kR
theorem fld69_0:FieldAt Tryz.prog 69 0 0:=fieldAt_of kR
theorem ent35:Ent Tryz.prog 35:=ent_of kR
end T
namespace prody
theorem ProductSatisfied_ok (m n:SSys) (s:SS) (hsm:smallSpec s) (t:SS) (htm:smallSpec t):
 Fn0 Tryz.prog 8 [tabbed (sys m),sys n,agg [strs s.aC,sl 2 sE s.sT,strs t.aC,sl 2 sE t.sT]] (bl true):=by
 refine fnI Tryz.func8 rfl rfl (fun w0 F0=> ?_)
 refine tbI 0 9999 rfl ?_
 refine tbJC (ψ:=tab) 9999 997 rfl ?_
 refine fcC (inhS 0 J) (fun hS0=> ?_)
 obtain⟨hma0,hms0,hme0⟩:=sys_lens hS0
 refine fcC (inhS 1 J) (fun hS1=> ?_)
 obtain⟨hma1,hms1,hme1⟩:=sys_lens hS1
 refine sq (rg (bx (key:=3) (cs:= [sl 1 rE_ m.aC,sl 1 gE m.sT]) J fun b3=>(bx (key:=4) (cs:= [sl 1 rE_ n.aC,sl 1 gE n.sT]) J fun b4=>(bx (key:=5) (cs:= [sl 1 rE_ s.aC,sl 2 sE s.sT,sl 1 rE_ t.aC,sl 2 sE t.sT]) J fun b5=>(ag (nl (th (sq ?_))))))))
 refine drH (nh:=8) [0,1,0,4,0,0,51,127] [(none,[]),(none,[5]),(none,[]),(none,[5]),(some 7,[]),(some 8,[]),(some 7,[7]),(some 8,[8])] T.mixed kR kR ?_
 refine stv (d:=24) (fun β0=>ptr 5 b5 0) [] J (fun β β' hb=>J) (fun β0 _ _ _ _ gq gh kq=>iPAn (gq.1.trans J) J T.arr60 T.agg25 J kq) ?_
 refine stv (d:=25) (fun β0=>agg [sl 1 rE_ s.aC,sl 2 sE s.sT]) [5] J (fun β β' hb=>J) (fun β0 _ _ _ _ gq gh kq=>lPA (gq.1.trans J) (gh.1.trans J) T.agg25 J kq) ?_
 refine stv (d:=26) (fun β0=>ptr 5 b5 2) [] J (fun β β' hb=>J) (fun β0 _ _ _ _ gq gh kq=>iPAn (gq.1.trans J) J T.arr60 T.agg25 J kq) ?_
 refine stv (d:=27) (fun β0=>agg [sl 1 rE_ t.aC,sl 2 sE t.sT]) [5] J (fun β β' hb=>J) (fun β0 _ _ _ _ gq gh kq=>lPA (gq.1.trans J) (gh.1.trans J) T.agg25 J kq) ?_
 refine sta 7 T.z25 (eC (eC eZ)) ?_
 refine sta 8 T.z25 (eC (eC eZ)) ?_
 refine stw 7 (fun β0=>cell (gbk (β0 4)) [sl 1 rE_ s.aC,sl 2 sE s.sT]) [7] J (fun β β' hb=>by first|rw[hb 4 J]|(dsimp only;rw[hb 4 J])) (fun β0 _ _ _ _ gq gh kq=>sPA (cs':= [sl 1 rE_ s.aC,sl 2 sE s.sT]) (gq.1.trans J) (gh.1.trans J) (gq.2.1.trans J) T.agg25 J J kq) ?_
 refine stw 8 (fun β0=>cell (gbk (β0 5)) [sl 1 rE_ t.aC,sl 2 sE t.sT]) [8] J (fun β β' hb=>by first|rw[hb 5 J]|(dsimp only;rw[hb 5 J])) (fun β0 _ _ _ _ gq gh kq=>sPA (cs':= [sl 1 rE_ t.aC,sl 2 sE t.sT]) (gq.1.trans J) (gh.1.trans J) (gq.2.1.trans J) T.agg25 J J kq) ?_
 refine pnH fun β0=>(nl (th (sq (sq (rg (fP J T.fld43_1 (lP J J J T.one41 (fc (slenI 29 J) fun hm29=>(lnF J T.sl41 (bi J J b_gtr (mv ?_)))))))))))
 apply gOr (t:=32) (pd:=37) rfl
 rotate_left
 ·intro hg0 fin
  have hg0':=hg0
  try simp at hg0'
  exact gy J J J hg0 (fP J T.fld43_1 (gy J J J hg0 (lP J J J T.one41 (gy J J J hg0 (fc (slenI 34 J) fun hm34=>(lnF J T.sl41 (gy J J J hg0 (bi J J b_gtr (pkF J hg0 J (drp (X:= [(36,_),(35,_),(34,_),(33,_)]) ⟨J,J,J,J,tV⟩ fin))))))))))
 ·intro hg0 fin
  exact gn J J J hg0 J J (gn J J J hg0 J J (gn J J J hg0 J J (gn J J J hg0 J J (pkT J hg0 J (drp (X:= [(36,_),(35,_),(34,_),(33,_)]) ⟨J,J,J,J,tV⟩ fin)))))
 refine mv ?_
 apply gOr (t:=38) (pd:=42) rfl
 rotate_left
 ·intro hg1 fin
  have hg1':=hg1
  try simp at hg1'
  exact gy J J J hg1 (lPA J J T.agg43 J (gy J J J hg1 (cal0 (φs:= [agg [sl 1 rE_ m.aC,sl 1 gE m.sT],int 200]) (φ:=bl (fewM m 200)) ⟨J,J,tV⟩ (sysw.Few_ok m 200 O) T.ent30 (gy J J J hg1 (no J (pkF J hg1 J (drp (X:= [(41,_),(40,_),(39,_)]) ⟨J,J,J,tV⟩ fin)))))))
 ·intro hg1 fin
  exact gn J J J hg1 J J (gn J J J hg1 J J (gn J J J hg1 J J (pkT J hg1 J (drp (X:= [(41,_),(40,_),(39,_)]) ⟨J,J,J,tV⟩ fin))))
 refine mv ?_
 apply gOr (t:=43) (pd:=47) rfl
 rotate_left
 ·intro hg2 fin
  have hg2':=hg2
  try simp at hg2'
  exact gy J J J hg2 (lPA J J T.agg43 J (gy J J J hg2 (cal0 (φs:= [agg [sl 1 rE_ n.aC,sl 1 gE n.sT],int 200]) (φ:=bl (fewM n 200)) ⟨J,J,tV⟩ (sysw.Few_ok n 200 O) T.ent30 (gy J J J hg2 (no J (pkF J hg2 J (drp (X:= [(46,_),(45,_),(44,_)]) ⟨J,J,J,tV⟩ fin)))))))
 ·intro hg2 fin
  exact gn J J J hg2 J J (gn J J J hg2 J J (gn J J J hg2 J J (pkT J hg2 J (drp (X:= [(46,_),(45,_),(44,_)]) ⟨J,J,J,tV⟩ fin))))
 refine mv ?_
 apply gOr (t:=48) (pd:=53) rfl
 rotate_left
 ·intro hg3 fin
  have hg3':=hg3
  try simp at hg3'
  exact gy J J J hg3 (fP J T.fld25_1 (gy J J J hg3 (lP J J J T.one23 (gy J J J hg3 (fc (slenI 50 J) fun hm50=>(lnF J T.sl23 (gy J J J hg3 (bi J J b_gtr (pkF J hg3 J (drp (X:= [(52,_),(51,_),(50,_),(49,_)]) ⟨J,J,J,J,tV⟩ fin))))))))))
 ·intro hg3 fin
  exact gn J J J hg3 J J (gn J J J hg3 J J (gn J J J hg3 J J (gn J J J hg3 J J (pkT J hg3 J (drp (X:= [(52,_),(51,_),(50,_),(49,_)]) ⟨J,J,J,J,tV⟩ fin)))))
 refine mv ?_
 apply gOr (t:=54) (pd:=59) rfl
 rotate_left
 ·intro hg4 fin
  have hg4':=hg4
  try simp at hg4'
  exact gy J J J hg4 (fP J T.fld25_1 (gy J J J hg4 (lP J J J T.one23 (gy J J J hg4 (fc (slenI 56 J) fun hm56=>(lnF J T.sl23 (gy J J J hg4 (bi J J b_gtr (pkF J hg4 J (drp (X:= [(58,_),(57,_),(56,_),(55,_)]) ⟨J,J,J,J,tV⟩ fin))))))))))
 ·intro hg4 fin
  exact gn J J J hg4 J J (gn J J J hg4 J J (gn J J J hg4 J J (gn J J J hg4 J J (pkT J hg4 J (drp (X:= [(58,_),(57,_),(56,_),(55,_)]) ⟨J,J,J,J,tV⟩ fin)))))
 refine mv ?_
 apply gOr (t:=60) (pd:=64) rfl
 rotate_left
 ·intro hg5 fin
  have hg5':=hg5
  try simp at hg5'
  exact gy J J J hg5 (lPA J J T.agg25 J (gy J J J hg5 (cal0 (φs:= [agg [sl 1 rE_ s.aC,sl 2 sE s.sT],int 400]) (φ:=bl (few s 400)) ⟨J,J,tV⟩ (ref03.Few_ok s _ O) T.ent18 (gy J J J hg5 (no J (pkF J hg5 J (drp (X:= [(63,_),(62,_),(61,_)]) ⟨J,J,J,tV⟩ fin)))))))
 ·intro hg5 fin
  exact gn J J J hg5 J J (gn J J J hg5 J J (gn J J J hg5 J J (pkT J hg5 J (drp (X:= [(63,_),(62,_),(61,_)]) ⟨J,J,J,tV⟩ fin))))
 refine mv ?_
 apply gOr (t:=65) (pd:=69) rfl
 rotate_left
 ·intro hg6 fin
  have hg6':=hg6
  try simp at hg6'
  exact gy J J J hg6 (lPA J J T.agg25 J (gy J J J hg6 (cal0 (φs:= [agg [sl 1 rE_ t.aC,sl 2 sE t.sT],int 400]) (φ:=bl (few t 400)) ⟨J,J,tV⟩ (ref03.Few_ok t _ O) T.ent18 (gy J J J hg6 (no J (pkF J hg6 J (drp (X:= [(68,_),(67,_),(66,_)]) ⟨J,J,J,tV⟩ fin)))))))
 ·intro hg6 fin
  exact gn J J J hg6 J J (gn J J J hg6 J J (gn J J J hg6 J J (pkT J hg6 J (drp (X:= [(68,_),(67,_),(66,_)]) ⟨J,J,J,tV⟩ fin))))
 refine nl (th ?_)
 refine cd J (fun hc0=> ?_) (fun hc0=> ?_)
 ·skip
  refine sq (rg (calT (ψ:=tab) (φs:= []) (φ:=bl true) trivial prodk.awake_ok T.ent12 9999 J J (ag (nl (th (rt (rt_ ?_)))))))
  exact rE () [.tmp 6] J [bl true] ⟨.tmp J,tV⟩ J trivial eX
 ·skip
  obtain⟨hm6,hn6,hms,hns,hs20,ht20,hss,hts⟩:=sat_fP hc0
  have hmn36:m.sT.length*n.sT.length≤6*6:=Nat.mul_le_mul hm6 hn6
  have hsl1:sumLen m.sT≤200:=by unfold sizeM at hms;omega
  have hsl2:sumLen n.sT≤200:=by unfold sizeM at hns;omega
  have hsl:sumLen m.sT*sumLen n.sT≤200*200:=Nat.mul_le_mul hsl1 hsl2
  have hp9:2^m.sT.length≤2^6:=Nat.pow_le_pow_right O hm6
  have hzz:2^m.sT.length*t.sT.length≤2^6*20:=Nat.mul_le_mul hp9 ht20
  refine cutE (E':= [(3,ptr 3 b3 0),(4,ptr 4 b4 0),(6,bl false),(7,ptr 7 (gbk (β0 4)) 0),(8,ptr 8 (gbk (β0 5)) 0),(9999,tab)]) (H':= [(3,cell b3 [sl 1 rE_ m.aC,sl 1 gE m.sT]),(4,cell b4 [sl 1 rE_ n.aC,sl 1 gE n.sT]),(5,cell b5 [sl 1 rE_ s.aC,sl 2 sE s.sT,sl 1 rE_ t.aC,sl 2 sE t.sT]),(7,cell (gbk (β0 4)) [sl 1 rE_ s.aC,sl 2 sE s.sT]),(8,cell (gbk (β0 5)) [sl 1 rE_ t.aC,sl 2 sE t.sT]),(997,ambH tab)]) ⟨id,id,id,id,id,id,tV⟩ ⟨rI,rI,rI,rI,rI,rI,tV⟩ ?_
  refine sk (th (sq ?_))
  refine drH (nh:=11) [0,1,0,7,15,31,63,63,0,383,1023] [(none,[3]),(none,[]),(none,[7]),(none,[]),(none,[]),(none,[]),(none,[]),(none,[]),(some 9,[]),(some 9,[9]),(none,[])] T.mixed kR kR ?_
  refine stv (d:=72) (fun β1=>agg [sl 1 rE_ m.aC,sl 1 gE m.sT]) [3] J (fun β β' hb=>J) (fun β1 _ _ _ _ gq gh kq=>lPA (gq.1.trans J) (gh.1.trans J) T.agg43 J kq) ?_
  refine stv (d:=73) (fun β1=>agg [sl 1 rE_ m.aC,sl 1 gE m.sT]) [] J (fun β β' hb=>J) (fun β1 _ _ _ _ gq gh kq=>calW (φs:= [agg [sl 1 rE_ m.aC,sl 1 gE m.sT]]) (φ:=agg [sl 1 rE_ m.aC,sl 1 gE m.sT]) ⟨(gq.1.trans J),tV⟩ (sysw.Copy_ok m O) T.ent36 (fun N hN=>fun h=>agg_le (cs:= [fre N (sl 1 rE_ m.aC),fre N (sl 1 gE m.sT)]) (ds:= [sl 1 rE_ m.aC,sl 1 gE m.sT]) ⟨fun h=>nw_le h,fun h=>nw_le h,tV⟩ h) kq) ?_
  refine stv (d:=74) (fun β1=>agg [sl 1 rE_ s.aC,sl 2 sE s.sT]) [7] J (fun β β' hb=>J) (fun β1 _ _ _ _ gq gh kq=>lPA (gq.1.trans J) (gh.1.trans J) T.agg25 J kq) ?_
  refine stv (d:=75) (fun β1=>agg [sl 1 rE_ s.aC,sl 2 sE s.sT]) [] J (fun β β' hb=>J) (fun β1 _ _ _ _ gq gh kq=>calW (φs:= [agg [sl 1 rE_ s.aC,sl 2 sE s.sT]]) (φ:=agg [sl 1 rE_ s.aC,sl 2 sE s.sT]) ⟨(gq.1.trans J),tV⟩ (ref03.Copy_ok s O) T.ent16 (fun N hN=>fun h=>agg_le (cs:= [fre N (sl 1 rE_ s.aC),fre N (sl 2 sE s.sT)]) (ds:= [sl 1 rE_ s.aC,sl 2 sE s.sT]) ⟨fun h=>nw_le h,fun h=>nw_le h,tV⟩ h) kq) ?_
  refine ste (d:=76) encJ decJ decJ_enc (fun z=>SatOK m s z) (fun z=>tup [agg [bl z.holds,sl 2 pE z.pairs,sl 1 nE z.word,int z.state],int (fineSE m s)]) rfl (fun β1 _ _ _ _ gq gh kq=>cal (Hi:= []) (φs:= [agg [sl 1 rE_ m.aC,sl 1 gE m.sT],agg [sl 1 rE_ s.aC,sl 2 sE s.sT]]) ⟨(gq.1.trans rfl),(gq.2.1.trans rfl),tV⟩ (satj.Satisfies_ok m s aS) T.ent42 trivial fun N i=>kq i.1 i.2) ?_
  refine stv (d:=71) (fun β1=>whn (SatOK m s (decJ (β1 4))) (tup [agg [bl (decJ (β1 4)).holds,sl 2 pE (decJ (β1 4)).pairs,sl 1 nE (decJ (β1 4)).word,int (decJ (β1 4)).state],int (fineSE m s)])) [] J (fun β β' hb=>by first|rw[hb 4 J]|(dsimp only;rw[hb 4 J])) (fun β1 _ _ _ _ gq gh kq=>mv' (gq.1.trans J) kq) ?_
  refine stv (d:=77) (fun β1=>agg [bl (decJ (β1 4)).holds,sl 2 pE (decJ (β1 4)).pairs,sl 1 nE (decJ (β1 4)).word,int (decJ (β1 4)).state]) [] J (fun β β' hb=>by first|rw[hb 4 J]|(dsimp only;rw[hb 4 J])) (fun β1 _ _ _ _ gq gh kq=>xtW (gq.1.trans J) J kq) ?_
  refine stv (d:=78) (fun β1=>int (fineSE m s)) [] J (fun β β' hb=>J) (fun β1 _ _ _ _ gq gh kq=>xtW (gq.1.trans J) J kq) ?_
  refine sta 9 T.z69 (eC (eC (eC (eC eZ)))) ?_
  refine stw 9 (fun β1=>cell (gbk (β1 8)) [bl (decJ (β1 4)).holds,sl 2 pE (decJ (β1 4)).pairs,sl 1 nE (decJ (β1 4)).word,int (decJ (β1 4)).state]) [9] J (fun β β' hb=>by first|rw[hb 4 J,hb 8 J]|(dsimp only;rw[hb 4 J,hb 8 J])) (fun β1 _ _ _ _ gq gh kq=>sPA (cs':= [bl (decJ (β1 4)).holds,sl 2 pE (decJ (β1 4)).pairs,sl 1 nE (decJ (β1 4)).word,int (decJ (β1 4)).state]) (gq.1.trans J) (gh.1.trans J) (gq.2.1.trans J) T.agg69 J J kq) ?_
  refine stv (d:=10) (fun β1=>int (fineSE m s)) [] J (fun β β' hb=>J) (fun β1 _ _ _ _ gq gh kq=>ag' (gq.1.trans J) kq) ?_
  refine pnH fun β1=>(nl (th (sq (whXC 76 J fun h76=> ?_))))
  refine drH (nh:=11) [0,1,0,7,15,31,63,63,0,383,1023] [(none,[4]),(none,[]),(none,[8]),(none,[]),(none,[]),(none,[]),(none,[]),(none,[]),(some 11,[]),(some 11,[11]),(none,[])] T.mixed kR kR ?_
  refine stv (d:=80) (fun β2=>agg [sl 1 rE_ n.aC,sl 1 gE n.sT]) [4] J (fun β β' hb=>J) (fun β2 _ _ _ _ gq gh kq=>lPA (gq.1.trans J) (gh.1.trans J) T.agg43 J kq) ?_
  refine stv (d:=81) (fun β2=>agg [sl 1 rE_ n.aC,sl 1 gE n.sT]) [] J (fun β β' hb=>J) (fun β2 _ _ _ _ gq gh kq=>calW (φs:= [agg [sl 1 rE_ n.aC,sl 1 gE n.sT]]) (φ:=agg [sl 1 rE_ n.aC,sl 1 gE n.sT]) ⟨(gq.1.trans J),tV⟩ (sysw.Copy_ok n O) T.ent36 (fun N hN=>fun h=>agg_le (cs:= [fre N (sl 1 rE_ n.aC),fre N (sl 1 gE n.sT)]) (ds:= [sl 1 rE_ n.aC,sl 1 gE n.sT]) ⟨fun h=>nw_le h,fun h=>nw_le h,tV⟩ h) kq) ?_
  refine stv (d:=82) (fun β2=>agg [sl 1 rE_ t.aC,sl 2 sE t.sT]) [8] J (fun β β' hb=>J) (fun β2 _ _ _ _ gq gh kq=>lPA (gq.1.trans J) (gh.1.trans J) T.agg25 J kq) ?_
  refine stv (d:=83) (fun β2=>agg [sl 1 rE_ t.aC,sl 2 sE t.sT]) [] J (fun β β' hb=>J) (fun β2 _ _ _ _ gq gh kq=>calW (φs:= [agg [sl 1 rE_ t.aC,sl 2 sE t.sT]]) (φ:=agg [sl 1 rE_ t.aC,sl 2 sE t.sT]) ⟨(gq.1.trans J),tV⟩ (ref03.Copy_ok t O) T.ent16 (fun N hN=>fun h=>agg_le (cs:= [fre N (sl 1 rE_ t.aC),fre N (sl 2 sE t.sT)]) (ds:= [sl 1 rE_ t.aC,sl 2 sE t.sT]) ⟨fun h=>nw_le h,fun h=>nw_le h,tV⟩ h) kq) ?_
  refine ste (d:=84) encJ decJ decJ_enc (fun z=>SatOK n t z) (fun z=>tup [agg [bl z.holds,sl 2 pE z.pairs,sl 1 nE z.word,int z.state],int (fineSE n t)]) rfl (fun β2 _ _ _ _ gq gh kq=>cal (Hi:= []) (φs:= [agg [sl 1 rE_ n.aC,sl 1 gE n.sT],agg [sl 1 rE_ t.aC,sl 2 sE t.sT]]) ⟨(gq.1.trans rfl),(gq.2.1.trans rfl),tV⟩ (satj.Satisfies_ok n t aS) T.ent42 trivial fun N i=>kq i.1 i.2) ?_
  refine stv (d:=79) (fun β2=>whn (SatOK n t (decJ (β2 4))) (tup [agg [bl (decJ (β2 4)).holds,sl 2 pE (decJ (β2 4)).pairs,sl 1 nE (decJ (β2 4)).word,int (decJ (β2 4)).state],int (fineSE n t)])) [] J (fun β β' hb=>by first|rw[hb 4 J]|(dsimp only;rw[hb 4 J])) (fun β2 _ _ _ _ gq gh kq=>mv' (gq.1.trans J) kq) ?_
  refine stv (d:=85) (fun β2=>agg [bl (decJ (β2 4)).holds,sl 2 pE (decJ (β2 4)).pairs,sl 1 nE (decJ (β2 4)).word,int (decJ (β2 4)).state]) [] J (fun β β' hb=>by first|rw[hb 4 J]|(dsimp only;rw[hb 4 J])) (fun β2 _ _ _ _ gq gh kq=>xtW (gq.1.trans J) J kq) ?_
  refine stv (d:=86) (fun β2=>int (fineSE n t)) [] J (fun β β' hb=>J) (fun β2 _ _ _ _ gq gh kq=>xtW (gq.1.trans J) J kq) ?_
  refine sta 11 T.z69 (eC (eC (eC (eC eZ)))) ?_
  refine stw 11 (fun β2=>cell (gbk (β2 8)) [bl (decJ (β2 4)).holds,sl 2 pE (decJ (β2 4)).pairs,sl 1 nE (decJ (β2 4)).word,int (decJ (β2 4)).state]) [11] J (fun β β' hb=>by first|rw[hb 4 J,hb 8 J]|(dsimp only;rw[hb 4 J,hb 8 J])) (fun β2 _ _ _ _ gq gh kq=>sPA (cs':= [bl (decJ (β2 4)).holds,sl 2 pE (decJ (β2 4)).pairs,sl 1 nE (decJ (β2 4)).word,int (decJ (β2 4)).state]) (gq.1.trans J) (gh.1.trans J) (gq.2.1.trans J) T.agg69 J J kq) ?_
  refine stv (d:=12) (fun β2=>int (fineSE n t)) [] J (fun β β' hb=>J) (fun β2 _ _ _ _ gq gh kq=>ag' (gq.1.trans J) kq) ?_
  refine pnH fun β2=>(nl (th (sq (whXC 84 J fun h84=> ?_))))
  refine drH (nh:=13) [0,1,0,7,15,31,63,63,63,0,639,1791,4095] [(none,[3]),(none,[]),(none,[4]),(none,[]),(none,[]),(none,[]),(none,[]),(none,[]),(none,[]),(some 13,[]),(some 13,[13]),(none,[]),(none,[])] T.mixed kR kR ?_
  refine stv (d:=88) (fun β3=>agg [sl 1 rE_ m.aC,sl 1 gE m.sT]) [3] J (fun β β' hb=>J) (fun β3 _ _ _ _ gq gh kq=>lPA (gq.1.trans J) (gh.1.trans J) T.agg43 J kq) ?_
  refine stv (d:=89) (fun β3=>agg [sl 1 rE_ m.aC,sl 1 gE m.sT]) [] J (fun β β' hb=>J) (fun β3 _ _ _ _ gq gh kq=>calW (φs:= [agg [sl 1 rE_ m.aC,sl 1 gE m.sT]]) (φ:=agg [sl 1 rE_ m.aC,sl 1 gE m.sT]) ⟨(gq.1.trans J),tV⟩ (sysw.Copy_ok m O) T.ent36 (fun N hN=>fun h=>agg_le (cs:= [fre N (sl 1 rE_ m.aC),fre N (sl 1 gE m.sT)]) (ds:= [sl 1 rE_ m.aC,sl 1 gE m.sT]) ⟨fun h=>nw_le h,fun h=>nw_le h,tV⟩ h) kq) ?_
  refine stv (d:=90) (fun β3=>agg [sl 1 rE_ n.aC,sl 1 gE n.sT]) [4] J (fun β β' hb=>J) (fun β3 _ _ _ _ gq gh kq=>lPA (gq.1.trans J) (gh.1.trans J) T.agg43 J kq) ?_
  refine stv (d:=91) (fun β3=>agg [sl 1 rE_ n.aC,sl 1 gE n.sT]) [] J (fun β β' hb=>J) (fun β3 _ _ _ _ gq gh kq=>calW (φs:= [agg [sl 1 rE_ n.aC,sl 1 gE n.sT]]) (φ:=agg [sl 1 rE_ n.aC,sl 1 gE n.sT]) ⟨(gq.1.trans J),tV⟩ (sysw.Copy_ok n O) T.ent36 (fun N hN=>fun h=>agg_le (cs:= [fre N (sl 1 rE_ n.aC),fre N (sl 1 gE n.sT)]) (ds:= [sl 1 rE_ n.aC,sl 1 gE n.sT]) ⟨fun h=>nw_le h,fun h=>nw_le h,tV⟩ h) kq) ?_
  refine ste (d:=92) encP decP decP_enc (fun z=>(bothS m n≠0→z=(⟨[],[]⟩,[]))∧(bothS m n=0→ProdOK m n z.1 z.2)) (fun z=>tup [agg [sl 1 rE_ z.1.aC,sl 1 gE z.1.sT],sl 2 pE z.2,int (bothS m n)]) rfl (fun β3 _ _ _ _ gq gh kq=>cal (Hi:= []) (φs:= [agg [sl 1 rE_ m.aC,sl 1 gE m.sT],agg [sl 1 rE_ n.aC,sl 1 gE n.sT]]) ⟨(gq.1.trans rfl),(gq.2.1.trans rfl),tV⟩ (prodw.Product_ok m n O O) T.ent43 trivial fun N i=>kq i.1 i.2) ?_
  refine stv (d:=87) (fun β3=>whn ((bothS m n≠0→(decP (β3 4))=(⟨[],[]⟩,[]))∧(bothS m n=0→ProdOK m n (decP (β3 4)).1 (decP (β3 4)).2)) (tup [agg [sl 1 rE_ ((decP (β3 4)).1.aC),sl 1 gE ((decP (β3 4)).1.sT)],sl 2 pE ((decP (β3 4)).2),int (bothS m n)])) [] J (fun β β' hb=>by first|rw[hb 4 J]|(dsimp only;rw[hb 4 J])) (fun β3 _ _ _ _ gq gh kq=>mv' (gq.1.trans J) kq) ?_
  refine stv (d:=93) (fun β3=>agg [sl 1 rE_ ((decP (β3 4)).1.aC),sl 1 gE ((decP (β3 4)).1.sT)]) [] J (fun β β' hb=>by first|rw[hb 4 J]|(dsimp only;rw[hb 4 J])) (fun β3 _ _ _ _ gq gh kq=>xtW (gq.1.trans J) J kq) ?_
  refine stv (d:=94) (fun β3=>sl 2 pE ((decP (β3 4)).2)) [] J (fun β β' hb=>by first|rw[hb 4 J]|(dsimp only;rw[hb 4 J])) (fun β3 _ _ _ _ gq gh kq=>xtW (gq.1.trans J) J kq) ?_
  refine stv (d:=95) (fun β3=>int (bothS m n)) [] J (fun β β' hb=>J) (fun β3 _ _ _ _ gq gh kq=>xtW (gq.1.trans J) J kq) ?_
  refine sta 13 T.z43 (eC (eC eZ)) ?_
  refine stw 13 (fun β3=>cell (gbk (β3 9)) [sl 1 rE_ ((decP (β3 4)).1.aC),sl 1 gE ((decP (β3 4)).1.sT)]) [13] J (fun β β' hb=>by first|rw[hb 4 J,hb 9 J]|(dsimp only;rw[hb 4 J,hb 9 J])) (fun β3 _ _ _ _ gq gh kq=>sPA (cs':= [sl 1 rE_ ((decP (β3 4)).1.aC),sl 1 gE ((decP (β3 4)).1.sT)]) (gq.1.trans J) (gh.1.trans J) (gq.2.1.trans J) T.agg43 J J kq) ?_
  refine stv (d:=14) (fun β3=>sl 2 pE ((decP (β3 4)).2)) [] J (fun β β' hb=>by first|rw[hb 4 J]|(dsimp only;rw[hb 4 J])) (fun β3 _ _ _ _ gq gh kq=>ag' (gq.1.trans J) kq) ?_
  refine stv (d:=15) (fun β3=>int (bothS m n)) [] J (fun β β' hb=>J) (fun β3 _ _ _ _ gq gh kq=>ag' (gq.1.trans J) kq) ?_
  refine pnH fun β3=>(nl (th (sq (sq (whXC 92 J fun h92=>(rg (mv (bi J J b_neq (mv ?_)))))))))
  apply gOr (t:=98) (pd:=101) rfl
  rotate_left
  ·intro hg7 fin
   have hg7':=hg7
   try simp at hg7'
   exact gy J J J hg7 (mv (gy J J J hg7 (bi J J b_neq (pkF J hg7 J (drp (X:= [(100,_),(99,_)]) ⟨J,J,tV⟩ fin)))))
  ·intro hg7 fin
   exact gn J J J hg7 J J (gn J J J hg7 J J (pkT J hg7 J (drp (X:= [(100,_),(99,_)]) ⟨J,J,tV⟩ fin)))
  refine mv ?_
  apply gOr (t:=102) (pd:=105) rfl
  rotate_left
  ·intro hg8 fin
   have hg8':=hg8
   try simp at hg8'
   exact gy J J J hg8 (mv (gy J J J hg8 (bi J J b_neq (pkF J hg8 J (drp (X:= [(104,_),(103,_)]) ⟨J,J,tV⟩ fin)))))
  ·intro hg8 fin
   exact gn J J J hg8 J J (gn J J J hg8 J J (pkT J hg8 J (drp (X:= [(104,_),(103,_)]) ⟨J,J,tV⟩ fin)))
  refine nl (th ?_)
  refine cd J (fun hc1=> ?_) (fun hc1=> ?_)
  ·skip
   refine sq (rg (calT (ψ:=tab) (φs:= []) (φ:=bl true) trivial prodk.awake_ok T.ent12 9999 J J (ag (nl (th (rt (rt_ ?_)))))))
   exact rE () [.tmp 6] J [bl true] ⟨.tmp J,tV⟩ J trivial eX
  ·skip
   simp only [Bool.or_eq_false_iff] at hc1
   have hf1:fineSE m s=0:=by simpa using hc1.1.1
   have hf2:fineSE n t=0:=by simpa using hc1.1.2
   have hf3:bothS m n=0:=by simpa using hc1.2
   obtain⟨hmv,hsv,hmsa⟩:=fineS_ok hf1
   obtain⟨hnv,htv,hnta⟩:=fineS_ok hf2
   obtain⟨_,_,hmna⟩:=bothS_ok hf3
   have hm:=sysOK_ok hmv
   have hn:=sysOK_ok hnv
   have hs:=okSpec_of hsv
   have ht:=okSpec_of htv
   have hst:s.aC=t.aC:=by rw[←hmsa,←hnta,hmna]
   have hfe:fineE s t=0:=by unfold fineE;rw[if_pos ⟨hsv,htv⟩,if_pos hst]
   have hmt:m.aC=t.aC:=hmsa.trans hst
   have hfm:fineSE m t=0:=by unfold fineSE;rw[if_pos hmv,if_pos htv,if_pos hmt]
   have hP:ProdOK m n (decP (β3 4)).1 (decP (β3 4)).2:=h92.2 hf3
   have hkl:=prod_few hP
   have hkc:=Nat.le_trans (prod_sum hP) (cnt_le0 hP.nd hP.box _)
   have hkv:sysOK (decP (β3 4)).1=true:=prod_valid hmv hnv hP O O
   have hka:(decP (β3 4)).1.aC=m.aC:=hP.acts
   have hkz:=sizeM_okP hkv
   have hv1:=(satok_DP hmv hsv hmsa h76).2
   have hv2:=(satok_DP hnv htv hnta h84).2
   refine cutE (E':= [(3,ptr 3 b3 0),(6,bl false),(7,ptr 7 (gbk (β0 4)) 0),(8,ptr 8 (gbk (β0 5)) 0),(9,ptr 9 (gbk (β1 8)) 0),(11,ptr 11 (gbk (β2 8)) 0),(13,ptr 13 (gbk (β3 9)) 0),(9999,tab)]) (H':= [(3,cell b3 [sl 1 rE_ m.aC,sl 1 gE m.sT]),(4,cell b4 [sl 1 rE_ n.aC,sl 1 gE n.sT]),(5,cell b5 [sl 1 rE_ s.aC,sl 2 sE s.sT,sl 1 rE_ t.aC,sl 2 sE t.sT]),(7,cell (gbk (β0 4)) [sl 1 rE_ s.aC,sl 2 sE s.sT]),(8,cell (gbk (β0 5)) [sl 1 rE_ t.aC,sl 2 sE t.sT]),(9,cell (gbk (β1 8)) [bl (decJ (β1 4)).holds,sl 2 pE (decJ (β1 4)).pairs,sl 1 nE (decJ (β1 4)).word,int (decJ (β1 4)).state]),(11,cell (gbk (β2 8)) [bl (decJ (β2 4)).holds,sl 2 pE (decJ (β2 4)).pairs,sl 1 nE (decJ (β2 4)).word,int (decJ (β2 4)).state]),(13,cell (gbk (β3 9)) [sl 1 rE_ ((decP (β3 4)).1.aC),sl 1 gE ((decP (β3 4)).1.sT)]),(997,ambH tab)]) ⟨id,id,id,id,id,id,id,id,tV⟩ ⟨rI,rI,rI,rI,rI,rI,rI,rI,rI,tV⟩ ?_
   refine sk (th (sq (sq ?_)))
   refine drH (nh:=11) [0,1,0,7,15,31,63,63,0,383,1023] [(none,[7]),(none,[]),(none,[8]),(none,[]),(none,[997]),(none,[]),(none,[]),(none,[]),(some 16,[]),(some 16,[16]),(none,[])] T.mixed kR kR ?_
   refine stv (d:=108) (fun β4=>agg [sl 1 rE_ s.aC,sl 2 sE s.sT]) [7] J (fun β β' hb=>J) (fun β4 _ _ _ _ gq gh kq=>lPA (gq.1.trans J) (gh.1.trans J) T.agg25 J kq) ?_
   refine stv (d:=109) (fun β4=>agg [sl 1 rE_ s.aC,sl 2 sE s.sT]) [] J (fun β β' hb=>J) (fun β4 _ _ _ _ gq gh kq=>calW (φs:= [agg [sl 1 rE_ s.aC,sl 2 sE s.sT]]) (φ:=agg [sl 1 rE_ s.aC,sl 2 sE s.sT]) ⟨(gq.1.trans J),tV⟩ (ref03.Copy_ok s O) T.ent16 (fun N hN=>fun h=>agg_le (cs:= [fre N (sl 1 rE_ s.aC),fre N (sl 2 sE s.sT)]) (ds:= [sl 1 rE_ s.aC,sl 2 sE s.sT]) ⟨fun h=>nw_le h,fun h=>nw_le h,tV⟩ h) kq) ?_
   refine stv (d:=110) (fun β4=>agg [sl 1 rE_ t.aC,sl 2 sE t.sT]) [8] J (fun β β' hb=>J) (fun β4 _ _ _ _ gq gh kq=>lPA (gq.1.trans J) (gh.1.trans J) T.agg25 J kq) ?_
   refine stv (d:=111) (fun β4=>agg [sl 1 rE_ t.aC,sl 2 sE t.sT]) [] J (fun β β' hb=>J) (fun β4 _ _ _ _ gq gh kq=>calW (φs:= [agg [sl 1 rE_ t.aC,sl 2 sE t.sT]]) (φ:=agg [sl 1 rE_ t.aC,sl 2 sE t.sT]) ⟨(gq.1.trans J),tV⟩ (ref03.Copy_ok t O) T.ent16 (fun N hN=>fun h=>agg_le (cs:= [fre N (sl 1 rE_ t.aC),fre N (sl 2 sE t.sT)]) (ds:= [sl 1 rE_ t.aC,sl 2 sE t.sT]) ⟨fun h=>nw_le h,fun h=>nw_le h,tV⟩ h) kq) ?_
   refine stv (d:=112) (fun β4=>tup [agg [sl 1 rE_ ((cmpS s t).1).aC,sl 2 sE ((cmpS s t).1).sT],int ((cmpS s t).2)]) [997] J (fun β β' hb=>J) (fun β4 _ _ _ _ gq gh kq=>tbK (ψ:=tab) 109 997 (gq.1.trans J) (gh.1.trans J) (cal0 (φs:= [both (agg [sl 1 rE_ s.aC,sl 2 sE s.sT]) tab,agg [sl 1 rE_ t.aC,sl 2 sE t.sT]]) (φ:=tup [agg [sl 1 rE_ ((cmpS s t).1).aC,sl 2 sE ((cmpS s t).1).sT],int ((cmpS s t).2)]) ⟨J,(gq.2.1.trans J),tV⟩ (prodc.Compose_ok s t aS aS) T.ent15 (tbX (gq.1.trans J) kq))) ?_
   refine stv (d:=107) (fun β4=>tup [agg [sl 1 rE_ ((cmpS s t).1).aC,sl 2 sE ((cmpS s t).1).sT],int ((cmpS s t).2)]) [] J (fun β β' hb=>J) (fun β4 _ _ _ _ gq gh kq=>mv' (gq.1.trans J) kq) ?_
   refine stv (d:=113) (fun β4=>agg [sl 1 rE_ ((cmpS s t).1).aC,sl 2 sE ((cmpS s t).1).sT]) [] J (fun β β' hb=>J) (fun β4 _ _ _ _ gq gh kq=>xt (gq.1.trans J) J kq) ?_
   refine stv (d:=114) (fun β4=>int ((cmpS s t).2)) [] J (fun β β' hb=>J) (fun β4 _ _ _ _ gq gh kq=>xt (gq.1.trans J) J kq) ?_
   refine sta 16 T.z25 (eC (eC eZ)) ?_
   refine stw 16 (fun β4=>cell (gbk (β4 8)) [sl 1 rE_ ((cmpS s t).1).aC,sl 2 sE ((cmpS s t).1).sT]) [16] J (fun β β' hb=>by first|rw[hb 8 J]|(dsimp only;rw[hb 8 J])) (fun β4 _ _ _ _ gq gh kq=>sPA (cs':= [sl 1 rE_ ((cmpS s t).1).aC,sl 2 sE ((cmpS s t).1).sT]) (gq.1.trans J) (gh.1.trans J) (gq.2.1.trans J) T.agg25 J J kq) ?_
   refine stv (d:=17) (fun β4=>int ((cmpS s t).2)) [] J (fun β β' hb=>J) (fun β4 _ _ _ _ gq gh kq=>ag' (gq.1.trans J) kq) ?_
   refine pnH fun β4=>(nl (th (sq (rg (mv (bi J J b_eql (mv ?_)))))))
   apply gAnd (t:=117) (pd:=120) rfl
   rotate_left
   ·intro hg9 fin
    have hg9':=hg9
    try simp at hg9'
    exact gy J J J hg9 (fP J T.fld69_0 (gy J J J hg9 (lP J J J T.one4 (pkT J hg9 J (drp (X:= [(119,_),(118,_)]) ⟨J,J,tV⟩ fin)))))
   ·intro hg9 fin
    exact gn J J J hg9 J J (gn J J J hg9 J J (pkF J hg9 J (drp (X:= [(119,_),(118,_)]) ⟨J,J,tV⟩ fin)))
   refine mv ?_
   apply gAnd (t:=121) (pd:=124) rfl
   rotate_left
   ·intro hg10 fin
    have hg10':=hg10
    try simp at hg10'
    exact gy J J J hg10 (fP J T.fld69_0 (gy J J J hg10 (lP J J J T.one4 (pkT J hg10 J (drp (X:= [(123,_),(122,_)]) ⟨J,J,tV⟩ fin)))))
   ·intro hg10 fin
    exact gn J J J hg10 J J (gn J J J hg10 J J (pkF J hg10 J (drp (X:= [(123,_),(122,_)]) ⟨J,J,tV⟩ fin)))
   refine nl (th ?_)
   refine cd J (fun hc2=> ?_) (fun hc2=> ?_)
   ·skip
    simp only [Bool.and_eq_true,decide_eq_true_eq] at hc2
    obtain⟨hcS,hcA⟩:=cmp_fine hfe hc2.1.1
    have hcy:=cmp_yes hfe hc2.1.1
    have hcsm:smallSpec (cmpS s t).1:=(okSpec_of hcS).small
    have hcs:SatM (decP (β3 4)).1 (cmpS s t).1:=by rw[hcy.2];exact com_sat hm hn hs ht hP (hv1.1 hc2.1.2) (hv2.1 hc2.2) hcy.1
    refine cutE (E':= [(3,ptr 3 b3 0),(6,bl false),(8,ptr 8 (gbk (β0 5)) 0),(11,ptr 11 (gbk (β2 8)) 0),(13,ptr 13 (gbk (β3 9)) 0),(16,ptr 16 (gbk (β4 8)) 0),(9999,tab)]) (H':= [(3,cell b3 [sl 1 rE_ m.aC,sl 1 gE m.sT]),(4,cell b4 [sl 1 rE_ n.aC,sl 1 gE n.sT]),(5,cell b5 [sl 1 rE_ s.aC,sl 2 sE s.sT,sl 1 rE_ t.aC,sl 2 sE t.sT]),(7,cell (gbk (β0 4)) [sl 1 rE_ s.aC,sl 2 sE s.sT]),(8,cell (gbk (β0 5)) [sl 1 rE_ t.aC,sl 2 sE t.sT]),(9,cell (gbk (β1 8)) [bl (decJ (β1 4)).holds,sl 2 pE (decJ (β1 4)).pairs,sl 1 nE (decJ (β1 4)).word,int (decJ (β1 4)).state]),(11,cell (gbk (β2 8)) [bl (decJ (β2 4)).holds,sl 2 pE (decJ (β2 4)).pairs,sl 1 nE (decJ (β2 4)).word,int (decJ (β2 4)).state]),(13,cell (gbk (β3 9)) [sl 1 rE_ ((decP (β3 4)).1.aC),sl 1 gE ((decP (β3 4)).1.sT)]),(16,cell (gbk (β4 8)) [sl 1 rE_ ((cmpS s t).1).aC,sl 2 sE ((cmpS s t).1).sT]),(997,ambH tab)]) ⟨id,id,id,id,id,id,id,tV⟩ ⟨rI,rI,rI,rI,rI,rI,rI,rI,rI,rI,tV⟩ ?_
    refine sq ?_
    refine drH (nh:=10) [0,1,0,7,15,31,31,0,191,511] [(none,[13]),(none,[]),(none,[16]),(none,[]),(none,[]),(none,[]),(none,[]),(some 18,[]),(some 18,[18]),(none,[])] T.mixed kR kR ?_
    refine stv (d:=126) (fun β5=>agg [sl 1 rE_ ((decP (β3 4)).1.aC),sl 1 gE ((decP (β3 4)).1.sT)]) [13] J (fun β β' hb=>J) (fun β5 _ _ _ _ gq gh kq=>lPA (gq.1.trans J) (gh.1.trans J) T.agg43 J kq) ?_
    refine stv (d:=127) (fun β5=>agg [sl 1 rE_ ((decP (β3 4)).1).aC,sl 1 gE ((decP (β3 4)).1).sT]) [] J (fun β β' hb=>J) (fun β5 _ _ _ _ gq gh kq=>calW (φs:= [agg [sl 1 rE_ ((decP (β3 4)).1.aC),sl 1 gE ((decP (β3 4)).1.sT)]]) (φ:=agg [sl 1 rE_ ((decP (β3 4)).1).aC,sl 1 gE ((decP (β3 4)).1).sT]) ⟨(gq.1.trans J),tV⟩ (sysw.Copy_ok ((decP (β3 4)).1) O) T.ent36 (fun N hN=>fun h=>agg_le (cs:= [fre N (sl 1 rE_ ((decP (β3 4)).1).aC),fre N (sl 1 gE ((decP (β3 4)).1).sT)]) (ds:= [sl 1 rE_ ((decP (β3 4)).1).aC,sl 1 gE ((decP (β3 4)).1).sT]) ⟨fun h=>nw_le h,fun h=>nw_le h,tV⟩ h) kq) ?_
    refine stv (d:=128) (fun β5=>agg [sl 1 rE_ ((cmpS s t).1).aC,sl 2 sE ((cmpS s t).1).sT]) [16] J (fun β β' hb=>J) (fun β5 _ _ _ _ gq gh kq=>lPA (gq.1.trans J) (gh.1.trans J) T.agg25 J kq) ?_
    refine ste (d:=129) encJ decJ decJ_enc (fun z=>SatOK (decP (β3 4)).1 (cmpS s t).1 z) (fun z=>tup [agg [bl z.holds,sl 2 pE z.pairs,sl 1 nE z.word,int z.state],int (fineSE (decP (β3 4)).1 (cmpS s t).1)]) rfl (fun β5 _ _ _ _ gq gh kq=>cal (Hi:= []) (φs:= [agg [sl 1 rE_ ((decP (β3 4)).1).aC,sl 1 gE ((decP (β3 4)).1).sT],agg [sl 1 rE_ ((cmpS s t).1).aC,sl 2 sE ((cmpS s t).1).sT]]) ⟨(gq.1.trans rfl),(gq.2.1.trans rfl),tV⟩ (satj.Satisfies_ok (decP (β3 4)).1 (cmpS s t).1 aS) T.ent42 trivial fun N i=>kq i.1 i.2) ?_
    refine stv (d:=125) (fun β5=>whn (SatOK (decP (β3 4)).1 (cmpS s t).1 (decJ (β5 3))) (tup [agg [bl (decJ (β5 3)).holds,sl 2 pE (decJ (β5 3)).pairs,sl 1 nE (decJ (β5 3)).word,int (decJ (β5 3)).state],int (fineSE (decP (β3 4)).1 (cmpS s t).1)])) [] J (fun β β' hb=>by first|rw[hb 3 J]|(dsimp only;rw[hb 3 J])) (fun β5 _ _ _ _ gq gh kq=>mv' (gq.1.trans J) kq) ?_
    refine stv (d:=130) (fun β5=>agg [bl (decJ (β5 3)).holds,sl 2 pE (decJ (β5 3)).pairs,sl 1 nE (decJ (β5 3)).word,int (decJ (β5 3)).state]) [] J (fun β β' hb=>by first|rw[hb 3 J]|(dsimp only;rw[hb 3 J])) (fun β5 _ _ _ _ gq gh kq=>xtW (gq.1.trans J) J kq) ?_
    refine stv (d:=131) (fun β5=>int (fineSE (decP (β3 4)).1 (cmpS s t).1)) [] J (fun β β' hb=>J) (fun β5 _ _ _ _ gq gh kq=>xtW (gq.1.trans J) J kq) ?_
    refine sta 18 T.z69 (eC (eC (eC (eC eZ)))) ?_
    refine stw 18 (fun β5=>cell (gbk (β5 7)) [bl (decJ (β5 3)).holds,sl 2 pE (decJ (β5 3)).pairs,sl 1 nE (decJ (β5 3)).word,int (decJ (β5 3)).state]) [18] J (fun β β' hb=>by first|rw[hb 3 J,hb 7 J]|(dsimp only;rw[hb 3 J,hb 7 J])) (fun β5 _ _ _ _ gq gh kq=>sPA (cs':= [bl (decJ (β5 3)).holds,sl 2 pE (decJ (β5 3)).pairs,sl 1 nE (decJ (β5 3)).word,int (decJ (β5 3)).state]) (gq.1.trans J) (gh.1.trans J) (gq.2.1.trans J) T.agg69 J J kq) ?_
    refine stv (d:=19) (fun β5=>int (fineSE (decP (β3 4)).1 (cmpS s t).1)) [] J (fun β β' hb=>J) (fun β5 _ _ _ _ gq gh kq=>ag' (gq.1.trans J) kq) ?_
    refine pnH fun β5=>(nl (th (sq (whXC 129 J fun h129=>(rg (mv (bi J J b_neq (mv ?_))))))))
    apply gOr (t:=134) (pd:=138) rfl
    rotate_left
    ·intro hg11 fin
     have hg11':=hg11
     try simp at hg11'
     exact gy J J J hg11 (fP J T.fld69_0 (gy J J J hg11 (lP J J J T.one4 (gy J J J hg11 (no J (pkF J hg11 J (drp (X:= [(137,_),(136,_),(135,_)]) ⟨J,J,J,tV⟩ fin)))))))
    ·intro hg11 fin
     exact gn J J J hg11 J J (gn J J J hg11 J J (gn J J J hg11 J J (pkT J hg11 J (drp (X:= [(137,_),(136,_),(135,_)]) ⟨J,J,J,tV⟩ fin))))
    refine nl (th ?_)
    refine cd J (fun hc3=> ?_) (fun hc3=> ?_)
    ·skip
     have hff:False:=by
      obtain⟨q1,q2⟩:=satok_DP hkv hcS (hka.trans (hmsa.trans hcA.symm)) h129
      rw[q1,q2.2 hcs] at hc3;simp at hc3
     refine sq (rg (ag (nl (th (rt (rt_ ?_))))))
     have hr0:false=true:=by
      exact hff.elim
     exact rE () [.tmp 6] J [bl false] ⟨.tmp J,tV⟩ (cA1 (fun x0=>rV [bl x0]) hr0) trivial eX
    ·skip
     refine cutE (E':= [(3,ptr 3 b3 0),(6,bl false),(8,ptr 8 (gbk (β0 5)) 0),(11,ptr 11 (gbk (β2 8)) 0),(13,ptr 13 (gbk (β3 9)) 0),(9999,tab)]) (H':= [(3,cell b3 [sl 1 rE_ m.aC,sl 1 gE m.sT]),(4,cell b4 [sl 1 rE_ n.aC,sl 1 gE n.sT]),(5,cell b5 [sl 1 rE_ s.aC,sl 2 sE s.sT,sl 1 rE_ t.aC,sl 2 sE t.sT]),(7,cell (gbk (β0 4)) [sl 1 rE_ s.aC,sl 2 sE s.sT]),(8,cell (gbk (β0 5)) [sl 1 rE_ t.aC,sl 2 sE t.sT]),(9,cell (gbk (β1 8)) [bl (decJ (β1 4)).holds,sl 2 pE (decJ (β1 4)).pairs,sl 1 nE (decJ (β1 4)).word,int (decJ (β1 4)).state]),(11,cell (gbk (β2 8)) [bl (decJ (β2 4)).holds,sl 2 pE (decJ (β2 4)).pairs,sl 1 nE (decJ (β2 4)).word,int (decJ (β2 4)).state]),(13,cell (gbk (β3 9)) [sl 1 rE_ ((decP (β3 4)).1.aC),sl 1 gE ((decP (β3 4)).1.sT)]),(16,cell (gbk (β4 8)) [sl 1 rE_ ((cmpS s t).1).aC,sl 2 sE ((cmpS s t).1).sT]),(18,cell (gbk (β5 7)) [bl (decJ (β5 3)).holds,sl 2 pE (decJ (β5 3)).pairs,sl 1 nE (decJ (β5 3)).word,int (decJ (β5 3)).state]),(997,ambH tab)]) ⟨id,id,id,id,id,id,tV⟩ ⟨rI,rI,rI,rI,rI,rI,rI,rI,rI,rI,rI,tV⟩ ?_
     refine sk (th (sq (sq ?_)))
     refine drH (nh:=11) [0,1,0,7,15,31,63,63,0,383,1023] [(none,[3]),(none,[]),(none,[8]),(none,[]),(none,[997]),(none,[]),(none,[]),(none,[]),(some 20,[]),(some 20,[20]),(none,[])] T.mixed kR kR ?_
     refine stv (d:=140) (fun β6=>agg [sl 1 rE_ m.aC,sl 1 gE m.sT]) [3] J (fun β β' hb=>J) (fun β6 _ _ _ _ gq gh kq=>lPA (gq.1.trans J) (gh.1.trans J) T.agg43 J kq) ?_
     refine stv (d:=141) (fun β6=>agg [sl 1 rE_ m.aC,sl 1 gE m.sT]) [] J (fun β β' hb=>J) (fun β6 _ _ _ _ gq gh kq=>calW (φs:= [agg [sl 1 rE_ m.aC,sl 1 gE m.sT]]) (φ:=agg [sl 1 rE_ m.aC,sl 1 gE m.sT]) ⟨(gq.1.trans J),tV⟩ (sysw.Copy_ok m O) T.ent36 (fun N hN=>fun h=>agg_le (cs:= [fre N (sl 1 rE_ m.aC),fre N (sl 1 gE m.sT)]) (ds:= [sl 1 rE_ m.aC,sl 1 gE m.sT]) ⟨fun h=>nw_le h,fun h=>nw_le h,tV⟩ h) kq) ?_
     refine stv (d:=142) (fun β6=>agg [sl 1 rE_ t.aC,sl 2 sE t.sT]) [8] J (fun β β' hb=>J) (fun β6 _ _ _ _ gq gh kq=>lPA (gq.1.trans J) (gh.1.trans J) T.agg25 J kq) ?_
     refine stv (d:=143) (fun β6=>agg [sl 1 rE_ t.aC,sl 2 sE t.sT]) [] J (fun β β' hb=>J) (fun β6 _ _ _ _ gq gh kq=>calW (φs:= [agg [sl 1 rE_ t.aC,sl 2 sE t.sT]]) (φ:=agg [sl 1 rE_ t.aC,sl 2 sE t.sT]) ⟨(gq.1.trans J),tV⟩ (ref03.Copy_ok t O) T.ent16 (fun N hN=>fun h=>agg_le (cs:= [fre N (sl 1 rE_ t.aC),fre N (sl 2 sE t.sT)]) (ds:= [sl 1 rE_ t.aC,sl 2 sE t.sT]) ⟨fun h=>nw_le h,fun h=>nw_le h,tV⟩ h) kq) ?_
     refine stv (d:=144) (fun β6=>tup [agg [sl 1 rE_ ((besS m t).1).aC,sl 2 sE ((besS m t).1).sT],int ((besS m t).2)]) [997] J (fun β β' hb=>J) (fun β6 _ _ _ _ gq gh kq=>tbK (ψ:=tab) 141 997 (gq.1.trans J) (gh.1.trans J) (cal0 (φs:= [both (agg [sl 1 rE_ m.aC,sl 1 gE m.sT]) tab,agg [sl 1 rE_ t.aC,sl 2 sE t.sT]]) (φ:=tup [agg [sl 1 rE_ ((besS m t).1).aC,sl 2 sE ((besS m t).1).sT],int ((besS m t).2)]) ⟨J,(gq.2.1.trans J),tV⟩ (prodb.Beside_ok m t aS) T.ent35 (tbX (gq.1.trans J) kq))) ?_
     refine stv (d:=139) (fun β6=>tup [agg [sl 1 rE_ ((besS m t).1).aC,sl 2 sE ((besS m t).1).sT],int ((besS m t).2)]) [] J (fun β β' hb=>J) (fun β6 _ _ _ _ gq gh kq=>mv' (gq.1.trans J) kq) ?_
     refine stv (d:=145) (fun β6=>agg [sl 1 rE_ ((besS m t).1).aC,sl 2 sE ((besS m t).1).sT]) [] J (fun β β' hb=>J) (fun β6 _ _ _ _ gq gh kq=>xt (gq.1.trans J) J kq) ?_
     refine stv (d:=146) (fun β6=>int ((besS m t).2)) [] J (fun β β' hb=>J) (fun β6 _ _ _ _ gq gh kq=>xt (gq.1.trans J) J kq) ?_
     refine sta 20 T.z25 (eC (eC eZ)) ?_
     refine stw 20 (fun β6=>cell (gbk (β6 8)) [sl 1 rE_ ((besS m t).1).aC,sl 2 sE ((besS m t).1).sT]) [20] J (fun β β' hb=>by first|rw[hb 8 J]|(dsimp only;rw[hb 8 J])) (fun β6 _ _ _ _ gq gh kq=>sPA (cs':= [sl 1 rE_ ((besS m t).1).aC,sl 2 sE ((besS m t).1).sT]) (gq.1.trans J) (gh.1.trans J) (gq.2.1.trans J) T.agg25 J J kq) ?_
     refine stv (d:=21) (fun β6=>int ((besS m t).2)) [] J (fun β β' hb=>J) (fun β6 _ _ _ _ gq gh kq=>ag' (gq.1.trans J) kq) ?_
     refine pnH fun β6=>(nl (th (sq (rg (mv (bi J J b_eql (mv ?_)))))))
     apply gAnd (t:=149) (pd:=152) rfl
     rotate_left
     ·intro hg12 fin
      have hg12':=hg12
      try simp at hg12'
      exact gy J J J hg12 (fP J T.fld69_0 (gy J J J hg12 (lP J J J T.one4 (pkT J hg12 J (drp (X:= [(151,_),(150,_)]) ⟨J,J,tV⟩ fin)))))
     ·intro hg12 fin
      exact gn J J J hg12 J J (gn J J J hg12 J J (pkF J hg12 J (drp (X:= [(151,_),(150,_)]) ⟨J,J,tV⟩ fin)))
     refine nl (th ?_)
     refine cd J (fun hc4=> ?_) (fun hc4=> ?_)
     ·skip
      simp only [Bool.and_eq_true,decide_eq_true_eq] at hc4
      obtain⟨hbS,hbA⟩:=bes_fine hfm O hc4.1
      have hbsm:smallSpec (besS m t).1:=(okSpec_of hbS).small
      have hbs:SatM (decP (β3 4)).1 (besS m t).1:=bes_sat hm hn hfm hP (hv2.1 hc4.2) hc4.1
      refine cutE (E':= [(6,bl false),(13,ptr 13 (gbk (β3 9)) 0),(20,ptr 20 (gbk (β6 8)) 0),(9999,tab)]) (H':= [(3,cell b3 [sl 1 rE_ m.aC,sl 1 gE m.sT]),(4,cell b4 [sl 1 rE_ n.aC,sl 1 gE n.sT]),(5,cell b5 [sl 1 rE_ s.aC,sl 2 sE s.sT,sl 1 rE_ t.aC,sl 2 sE t.sT]),(7,cell (gbk (β0 4)) [sl 1 rE_ s.aC,sl 2 sE s.sT]),(8,cell (gbk (β0 5)) [sl 1 rE_ t.aC,sl 2 sE t.sT]),(9,cell (gbk (β1 8)) [bl (decJ (β1 4)).holds,sl 2 pE (decJ (β1 4)).pairs,sl 1 nE (decJ (β1 4)).word,int (decJ (β1 4)).state]),(11,cell (gbk (β2 8)) [bl (decJ (β2 4)).holds,sl 2 pE (decJ (β2 4)).pairs,sl 1 nE (decJ (β2 4)).word,int (decJ (β2 4)).state]),(13,cell (gbk (β3 9)) [sl 1 rE_ ((decP (β3 4)).1.aC),sl 1 gE ((decP (β3 4)).1.sT)]),(16,cell (gbk (β4 8)) [sl 1 rE_ ((cmpS s t).1).aC,sl 2 sE ((cmpS s t).1).sT]),(18,cell (gbk (β5 7)) [bl (decJ (β5 3)).holds,sl 2 pE (decJ (β5 3)).pairs,sl 1 nE (decJ (β5 3)).word,int (decJ (β5 3)).state]),(20,cell (gbk (β6 8)) [sl 1 rE_ ((besS m t).1).aC,sl 2 sE ((besS m t).1).sT]),(997,ambH tab)]) ⟨id,id,id,id,tV⟩ ⟨rI,rI,rI,rI,rI,rI,rI,rI,rI,rI,rI,rI,tV⟩ ?_
      refine sq ?_
      refine drH (nh:=10) [0,1,0,7,15,31,31,0,191,511] [(none,[13]),(none,[]),(none,[20]),(none,[]),(none,[]),(none,[]),(none,[]),(some 22,[]),(some 22,[22]),(none,[])] T.mixed kR kR ?_
      refine stv (d:=154) (fun β7=>agg [sl 1 rE_ ((decP (β3 4)).1.aC),sl 1 gE ((decP (β3 4)).1.sT)]) [13] J (fun β β' hb=>J) (fun β7 _ _ _ _ gq gh kq=>lPA (gq.1.trans J) (gh.1.trans J) T.agg43 J kq) ?_
      refine stv (d:=155) (fun β7=>agg [sl 1 rE_ ((decP (β3 4)).1).aC,sl 1 gE ((decP (β3 4)).1).sT]) [] J (fun β β' hb=>J) (fun β7 _ _ _ _ gq gh kq=>calW (φs:= [agg [sl 1 rE_ ((decP (β3 4)).1.aC),sl 1 gE ((decP (β3 4)).1.sT)]]) (φ:=agg [sl 1 rE_ ((decP (β3 4)).1).aC,sl 1 gE ((decP (β3 4)).1).sT]) ⟨(gq.1.trans J),tV⟩ (sysw.Copy_ok ((decP (β3 4)).1) O) T.ent36 (fun N hN=>fun h=>agg_le (cs:= [fre N (sl 1 rE_ ((decP (β3 4)).1).aC),fre N (sl 1 gE ((decP (β3 4)).1).sT)]) (ds:= [sl 1 rE_ ((decP (β3 4)).1).aC,sl 1 gE ((decP (β3 4)).1).sT]) ⟨fun h=>nw_le h,fun h=>nw_le h,tV⟩ h) kq) ?_
      refine stv (d:=156) (fun β7=>agg [sl 1 rE_ ((besS m t).1).aC,sl 2 sE ((besS m t).1).sT]) [20] J (fun β β' hb=>J) (fun β7 _ _ _ _ gq gh kq=>lPA (gq.1.trans J) (gh.1.trans J) T.agg25 J kq) ?_
      refine ste (d:=157) encJ decJ decJ_enc (fun z=>SatOK (decP (β3 4)).1 (besS m t).1 z) (fun z=>tup [agg [bl z.holds,sl 2 pE z.pairs,sl 1 nE z.word,int z.state],int (fineSE (decP (β3 4)).1 (besS m t).1)]) rfl (fun β7 _ _ _ _ gq gh kq=>cal (Hi:= []) (φs:= [agg [sl 1 rE_ ((decP (β3 4)).1).aC,sl 1 gE ((decP (β3 4)).1).sT],agg [sl 1 rE_ ((besS m t).1).aC,sl 2 sE ((besS m t).1).sT]]) ⟨(gq.1.trans rfl),(gq.2.1.trans rfl),tV⟩ (satj.Satisfies_ok (decP (β3 4)).1 (besS m t).1 aS) T.ent42 trivial fun N i=>kq i.1 i.2) ?_
      refine stv (d:=153) (fun β7=>whn (SatOK (decP (β3 4)).1 (besS m t).1 (decJ (β7 3))) (tup [agg [bl (decJ (β7 3)).holds,sl 2 pE (decJ (β7 3)).pairs,sl 1 nE (decJ (β7 3)).word,int (decJ (β7 3)).state],int (fineSE (decP (β3 4)).1 (besS m t).1)])) [] J (fun β β' hb=>by first|rw[hb 3 J]|(dsimp only;rw[hb 3 J])) (fun β7 _ _ _ _ gq gh kq=>mv' (gq.1.trans J) kq) ?_
      refine stv (d:=158) (fun β7=>agg [bl (decJ (β7 3)).holds,sl 2 pE (decJ (β7 3)).pairs,sl 1 nE (decJ (β7 3)).word,int (decJ (β7 3)).state]) [] J (fun β β' hb=>by first|rw[hb 3 J]|(dsimp only;rw[hb 3 J])) (fun β7 _ _ _ _ gq gh kq=>xtW (gq.1.trans J) J kq) ?_
      refine stv (d:=159) (fun β7=>int (fineSE (decP (β3 4)).1 (besS m t).1)) [] J (fun β β' hb=>J) (fun β7 _ _ _ _ gq gh kq=>xtW (gq.1.trans J) J kq) ?_
      refine sta 22 T.z69 (eC (eC (eC (eC eZ)))) ?_
      refine stw 22 (fun β7=>cell (gbk (β7 7)) [bl (decJ (β7 3)).holds,sl 2 pE (decJ (β7 3)).pairs,sl 1 nE (decJ (β7 3)).word,int (decJ (β7 3)).state]) [22] J (fun β β' hb=>by first|rw[hb 3 J,hb 7 J]|(dsimp only;rw[hb 3 J,hb 7 J])) (fun β7 _ _ _ _ gq gh kq=>sPA (cs':= [bl (decJ (β7 3)).holds,sl 2 pE (decJ (β7 3)).pairs,sl 1 nE (decJ (β7 3)).word,int (decJ (β7 3)).state]) (gq.1.trans J) (gh.1.trans J) (gq.2.1.trans J) T.agg69 J J kq) ?_
      refine stv (d:=23) (fun β7=>int (fineSE (decP (β3 4)).1 (besS m t).1)) [] J (fun β β' hb=>J) (fun β7 _ _ _ _ gq gh kq=>ag' (gq.1.trans J) kq) ?_
      refine pnH fun β7=>(nl (th (sq (whXC 157 J fun h157=>(rg (mv (bi J J b_neq (mv ?_))))))))
      apply gOr (t:=162) (pd:=166) rfl
      rotate_left
      ·intro hg13 fin
       have hg13':=hg13
       try simp at hg13'
       exact gy J J J hg13 (fP J T.fld69_0 (gy J J J hg13 (lP J J J T.one4 (gy J J J hg13 (no J (pkF J hg13 J (drp (X:= [(165,_),(164,_),(163,_)]) ⟨J,J,J,tV⟩ fin)))))))
      ·intro hg13 fin
       exact gn J J J hg13 J J (gn J J J hg13 J J (gn J J J hg13 J J (pkT J hg13 J (drp (X:= [(165,_),(164,_),(163,_)]) ⟨J,J,J,tV⟩ fin))))
      refine nl (th ?_)
      refine cd J (fun hc5=> ?_) (fun hc5=> ?_)
      ·skip
       have hff:False:=by
        obtain⟨q1,q2⟩:=satok_DP hkv hbS (hka.trans hbA.symm) h157
        rw[q1,q2.2 hbs] at hc5;simp at hc5
       refine sq (rg (ag (nl (th (rt (rt_ ?_))))))
       have hr0:false=true:=by
        exact hff.elim
       exact rE () [.tmp 6] J [bl false] ⟨.tmp J,tV⟩ (cA1 (fun x0=>rV [bl x0]) hr0) trivial eX
      ·skip
       refine sk (th (sq (rg (calT (ψ:=tab) (φs:= []) (φ:=bl true) trivial prodk.awake_ok T.ent12 9999 J J (ag (nl (th (rt ?_))))))))
       exact rE () [.tmp 6] J [bl true] ⟨.tmp J,tV⟩ J trivial eX
     ·skip
      refine cutE (E':= [(6,bl false),(9999,tab)]) (H':= [(3,cell b3 [sl 1 rE_ m.aC,sl 1 gE m.sT]),(4,cell b4 [sl 1 rE_ n.aC,sl 1 gE n.sT]),(5,cell b5 [sl 1 rE_ s.aC,sl 2 sE s.sT,sl 1 rE_ t.aC,sl 2 sE t.sT]),(7,cell (gbk (β0 4)) [sl 1 rE_ s.aC,sl 2 sE s.sT]),(8,cell (gbk (β0 5)) [sl 1 rE_ t.aC,sl 2 sE t.sT]),(9,cell (gbk (β1 8)) [bl (decJ (β1 4)).holds,sl 2 pE (decJ (β1 4)).pairs,sl 1 nE (decJ (β1 4)).word,int (decJ (β1 4)).state]),(11,cell (gbk (β2 8)) [bl (decJ (β2 4)).holds,sl 2 pE (decJ (β2 4)).pairs,sl 1 nE (decJ (β2 4)).word,int (decJ (β2 4)).state]),(13,cell (gbk (β3 9)) [sl 1 rE_ ((decP (β3 4)).1.aC),sl 1 gE ((decP (β3 4)).1.sT)]),(16,cell (gbk (β4 8)) [sl 1 rE_ ((cmpS s t).1).aC,sl 2 sE ((cmpS s t).1).sT]),(18,cell (gbk (β5 7)) [bl (decJ (β5 3)).holds,sl 2 pE (decJ (β5 3)).pairs,sl 1 nE (decJ (β5 3)).word,int (decJ (β5 3)).state]),(20,cell (gbk (β6 8)) [sl 1 rE_ ((besS m t).1).aC,sl 2 sE ((besS m t).1).sT]),(997,ambH tab)]) ⟨id,id,tV⟩ ⟨rI,rI,rI,rI,rI,rI,rI,rI,rI,rI,rI,rI,tV⟩ ?_
      refine sk (th (sq (rg (calT (ψ:=tab) (φs:= []) (φ:=bl true) trivial prodk.awake_ok T.ent12 9999 J J (ag (nl (th (rt ?_))))))))
      exact rE () [.tmp 6] J [bl true] ⟨.tmp J,tV⟩ J trivial eX
   ·skip
    refine cutE (E':= [(3,ptr 3 b3 0),(6,bl false),(8,ptr 8 (gbk (β0 5)) 0),(11,ptr 11 (gbk (β2 8)) 0),(13,ptr 13 (gbk (β3 9)) 0),(9999,tab)]) (H':= [(3,cell b3 [sl 1 rE_ m.aC,sl 1 gE m.sT]),(4,cell b4 [sl 1 rE_ n.aC,sl 1 gE n.sT]),(5,cell b5 [sl 1 rE_ s.aC,sl 2 sE s.sT,sl 1 rE_ t.aC,sl 2 sE t.sT]),(7,cell (gbk (β0 4)) [sl 1 rE_ s.aC,sl 2 sE s.sT]),(8,cell (gbk (β0 5)) [sl 1 rE_ t.aC,sl 2 sE t.sT]),(9,cell (gbk (β1 8)) [bl (decJ (β1 4)).holds,sl 2 pE (decJ (β1 4)).pairs,sl 1 nE (decJ (β1 4)).word,int (decJ (β1 4)).state]),(11,cell (gbk (β2 8)) [bl (decJ (β2 4)).holds,sl 2 pE (decJ (β2 4)).pairs,sl 1 nE (decJ (β2 4)).word,int (decJ (β2 4)).state]),(13,cell (gbk (β3 9)) [sl 1 rE_ ((decP (β3 4)).1.aC),sl 1 gE ((decP (β3 4)).1.sT)]),(16,cell (gbk (β4 8)) [sl 1 rE_ ((cmpS s t).1).aC,sl 2 sE ((cmpS s t).1).sT]),(997,ambH tab)]) ⟨id,id,id,id,id,id,tV⟩ ⟨rI,rI,rI,rI,rI,rI,rI,rI,rI,rI,tV⟩ ?_
    refine sk (th (sq (sq ?_)))
    refine drH (nh:=11) [0,1,0,7,15,31,63,63,0,383,1023] [(none,[3]),(none,[]),(none,[8]),(none,[]),(none,[997]),(none,[]),(none,[]),(none,[]),(some 20,[]),(some 20,[20]),(none,[])] T.mixed kR kR ?_
    refine stv (d:=140) (fun β8=>agg [sl 1 rE_ m.aC,sl 1 gE m.sT]) [3] J (fun β β' hb=>J) (fun β8 _ _ _ _ gq gh kq=>lPA (gq.1.trans J) (gh.1.trans J) T.agg43 J kq) ?_
    refine stv (d:=141) (fun β8=>agg [sl 1 rE_ m.aC,sl 1 gE m.sT]) [] J (fun β β' hb=>J) (fun β8 _ _ _ _ gq gh kq=>calW (φs:= [agg [sl 1 rE_ m.aC,sl 1 gE m.sT]]) (φ:=agg [sl 1 rE_ m.aC,sl 1 gE m.sT]) ⟨(gq.1.trans J),tV⟩ (sysw.Copy_ok m O) T.ent36 (fun N hN=>fun h=>agg_le (cs:= [fre N (sl 1 rE_ m.aC),fre N (sl 1 gE m.sT)]) (ds:= [sl 1 rE_ m.aC,sl 1 gE m.sT]) ⟨fun h=>nw_le h,fun h=>nw_le h,tV⟩ h) kq) ?_
    refine stv (d:=142) (fun β8=>agg [sl 1 rE_ t.aC,sl 2 sE t.sT]) [8] J (fun β β' hb=>J) (fun β8 _ _ _ _ gq gh kq=>lPA (gq.1.trans J) (gh.1.trans J) T.agg25 J kq) ?_
    refine stv (d:=143) (fun β8=>agg [sl 1 rE_ t.aC,sl 2 sE t.sT]) [] J (fun β β' hb=>J) (fun β8 _ _ _ _ gq gh kq=>calW (φs:= [agg [sl 1 rE_ t.aC,sl 2 sE t.sT]]) (φ:=agg [sl 1 rE_ t.aC,sl 2 sE t.sT]) ⟨(gq.1.trans J),tV⟩ (ref03.Copy_ok t O) T.ent16 (fun N hN=>fun h=>agg_le (cs:= [fre N (sl 1 rE_ t.aC),fre N (sl 2 sE t.sT)]) (ds:= [sl 1 rE_ t.aC,sl 2 sE t.sT]) ⟨fun h=>nw_le h,fun h=>nw_le h,tV⟩ h) kq) ?_
    refine stv (d:=144) (fun β8=>tup [agg [sl 1 rE_ ((besS m t).1).aC,sl 2 sE ((besS m t).1).sT],int ((besS m t).2)]) [997] J (fun β β' hb=>J) (fun β8 _ _ _ _ gq gh kq=>tbK (ψ:=tab) 141 997 (gq.1.trans J) (gh.1.trans J) (cal0 (φs:= [both (agg [sl 1 rE_ m.aC,sl 1 gE m.sT]) tab,agg [sl 1 rE_ t.aC,sl 2 sE t.sT]]) (φ:=tup [agg [sl 1 rE_ ((besS m t).1).aC,sl 2 sE ((besS m t).1).sT],int ((besS m t).2)]) ⟨J,(gq.2.1.trans J),tV⟩ (prodb.Beside_ok m t aS) T.ent35 (tbX (gq.1.trans J) kq))) ?_
    refine stv (d:=139) (fun β8=>tup [agg [sl 1 rE_ ((besS m t).1).aC,sl 2 sE ((besS m t).1).sT],int ((besS m t).2)]) [] J (fun β β' hb=>J) (fun β8 _ _ _ _ gq gh kq=>mv' (gq.1.trans J) kq) ?_
    refine stv (d:=145) (fun β8=>agg [sl 1 rE_ ((besS m t).1).aC,sl 2 sE ((besS m t).1).sT]) [] J (fun β β' hb=>J) (fun β8 _ _ _ _ gq gh kq=>xt (gq.1.trans J) J kq) ?_
    refine stv (d:=146) (fun β8=>int ((besS m t).2)) [] J (fun β β' hb=>J) (fun β8 _ _ _ _ gq gh kq=>xt (gq.1.trans J) J kq) ?_
    refine sta 20 T.z25 (eC (eC eZ)) ?_
    refine stw 20 (fun β8=>cell (gbk (β8 8)) [sl 1 rE_ ((besS m t).1).aC,sl 2 sE ((besS m t).1).sT]) [20] J (fun β β' hb=>by first|rw[hb 8 J]|(dsimp only;rw[hb 8 J])) (fun β8 _ _ _ _ gq gh kq=>sPA (cs':= [sl 1 rE_ ((besS m t).1).aC,sl 2 sE ((besS m t).1).sT]) (gq.1.trans J) (gh.1.trans J) (gq.2.1.trans J) T.agg25 J J kq) ?_
    refine stv (d:=21) (fun β8=>int ((besS m t).2)) [] J (fun β β' hb=>J) (fun β8 _ _ _ _ gq gh kq=>ag' (gq.1.trans J) kq) ?_
    refine pnH fun β8=>(nl (th (sq (rg (mv (bi J J b_eql (mv ?_)))))))
    apply gAnd (t:=149) (pd:=152) rfl
    rotate_left
    ·intro hg14 fin
     have hg14':=hg14
     try simp at hg14'
     exact gy J J J hg14 (fP J T.fld69_0 (gy J J J hg14 (lP J J J T.one4 (pkT J hg14 J (drp (X:= [(151,_),(150,_)]) ⟨J,J,tV⟩ fin)))))
    ·intro hg14 fin
     exact gn J J J hg14 J J (gn J J J hg14 J J (pkF J hg14 J (drp (X:= [(151,_),(150,_)]) ⟨J,J,tV⟩ fin)))
    refine nl (th ?_)
    refine cd J (fun hc6=> ?_) (fun hc6=> ?_)
    ·skip
     simp only [Bool.and_eq_true,decide_eq_true_eq] at hc6
     obtain⟨hbS,hbA⟩:=bes_fine hfm O hc6.1
     have hbsm:smallSpec (besS m t).1:=(okSpec_of hbS).small
     have hbs:SatM (decP (β3 4)).1 (besS m t).1:=bes_sat hm hn hfm hP (hv2.1 hc6.2) hc6.1
     refine cutE (E':= [(6,bl false),(13,ptr 13 (gbk (β3 9)) 0),(20,ptr 20 (gbk (β8 8)) 0),(9999,tab)]) (H':= [(3,cell b3 [sl 1 rE_ m.aC,sl 1 gE m.sT]),(4,cell b4 [sl 1 rE_ n.aC,sl 1 gE n.sT]),(5,cell b5 [sl 1 rE_ s.aC,sl 2 sE s.sT,sl 1 rE_ t.aC,sl 2 sE t.sT]),(7,cell (gbk (β0 4)) [sl 1 rE_ s.aC,sl 2 sE s.sT]),(8,cell (gbk (β0 5)) [sl 1 rE_ t.aC,sl 2 sE t.sT]),(9,cell (gbk (β1 8)) [bl (decJ (β1 4)).holds,sl 2 pE (decJ (β1 4)).pairs,sl 1 nE (decJ (β1 4)).word,int (decJ (β1 4)).state]),(11,cell (gbk (β2 8)) [bl (decJ (β2 4)).holds,sl 2 pE (decJ (β2 4)).pairs,sl 1 nE (decJ (β2 4)).word,int (decJ (β2 4)).state]),(13,cell (gbk (β3 9)) [sl 1 rE_ ((decP (β3 4)).1.aC),sl 1 gE ((decP (β3 4)).1.sT)]),(16,cell (gbk (β4 8)) [sl 1 rE_ ((cmpS s t).1).aC,sl 2 sE ((cmpS s t).1).sT]),(20,cell (gbk (β8 8)) [sl 1 rE_ ((besS m t).1).aC,sl 2 sE ((besS m t).1).sT]),(997,ambH tab)]) ⟨id,id,id,id,tV⟩ ⟨rI,rI,rI,rI,rI,rI,rI,rI,rI,rI,rI,tV⟩ ?_
     refine sq ?_
     refine drH (nh:=10) [0,1,0,7,15,31,31,0,191,511] [(none,[13]),(none,[]),(none,[20]),(none,[]),(none,[]),(none,[]),(none,[]),(some 22,[]),(some 22,[22]),(none,[])] T.mixed kR kR ?_
     refine stv (d:=154) (fun β9=>agg [sl 1 rE_ ((decP (β3 4)).1.aC),sl 1 gE ((decP (β3 4)).1.sT)]) [13] J (fun β β' hb=>J) (fun β9 _ _ _ _ gq gh kq=>lPA (gq.1.trans J) (gh.1.trans J) T.agg43 J kq) ?_
     refine stv (d:=155) (fun β9=>agg [sl 1 rE_ ((decP (β3 4)).1).aC,sl 1 gE ((decP (β3 4)).1).sT]) [] J (fun β β' hb=>J) (fun β9 _ _ _ _ gq gh kq=>calW (φs:= [agg [sl 1 rE_ ((decP (β3 4)).1.aC),sl 1 gE ((decP (β3 4)).1.sT)]]) (φ:=agg [sl 1 rE_ ((decP (β3 4)).1).aC,sl 1 gE ((decP (β3 4)).1).sT]) ⟨(gq.1.trans J),tV⟩ (sysw.Copy_ok ((decP (β3 4)).1) O) T.ent36 (fun N hN=>fun h=>agg_le (cs:= [fre N (sl 1 rE_ ((decP (β3 4)).1).aC),fre N (sl 1 gE ((decP (β3 4)).1).sT)]) (ds:= [sl 1 rE_ ((decP (β3 4)).1).aC,sl 1 gE ((decP (β3 4)).1).sT]) ⟨fun h=>nw_le h,fun h=>nw_le h,tV⟩ h) kq) ?_
     refine stv (d:=156) (fun β9=>agg [sl 1 rE_ ((besS m t).1).aC,sl 2 sE ((besS m t).1).sT]) [20] J (fun β β' hb=>J) (fun β9 _ _ _ _ gq gh kq=>lPA (gq.1.trans J) (gh.1.trans J) T.agg25 J kq) ?_
     refine ste (d:=157) encJ decJ decJ_enc (fun z=>SatOK (decP (β3 4)).1 (besS m t).1 z) (fun z=>tup [agg [bl z.holds,sl 2 pE z.pairs,sl 1 nE z.word,int z.state],int (fineSE (decP (β3 4)).1 (besS m t).1)]) rfl (fun β9 _ _ _ _ gq gh kq=>cal (Hi:= []) (φs:= [agg [sl 1 rE_ ((decP (β3 4)).1).aC,sl 1 gE ((decP (β3 4)).1).sT],agg [sl 1 rE_ ((besS m t).1).aC,sl 2 sE ((besS m t).1).sT]]) ⟨(gq.1.trans rfl),(gq.2.1.trans rfl),tV⟩ (satj.Satisfies_ok (decP (β3 4)).1 (besS m t).1 aS) T.ent42 trivial fun N i=>kq i.1 i.2) ?_
     refine stv (d:=153) (fun β9=>whn (SatOK (decP (β3 4)).1 (besS m t).1 (decJ (β9 3))) (tup [agg [bl (decJ (β9 3)).holds,sl 2 pE (decJ (β9 3)).pairs,sl 1 nE (decJ (β9 3)).word,int (decJ (β9 3)).state],int (fineSE (decP (β3 4)).1 (besS m t).1)])) [] J (fun β β' hb=>by first|rw[hb 3 J]|(dsimp only;rw[hb 3 J])) (fun β9 _ _ _ _ gq gh kq=>mv' (gq.1.trans J) kq) ?_
     refine stv (d:=158) (fun β9=>agg [bl (decJ (β9 3)).holds,sl 2 pE (decJ (β9 3)).pairs,sl 1 nE (decJ (β9 3)).word,int (decJ (β9 3)).state]) [] J (fun β β' hb=>by first|rw[hb 3 J]|(dsimp only;rw[hb 3 J])) (fun β9 _ _ _ _ gq gh kq=>xtW (gq.1.trans J) J kq) ?_
     refine stv (d:=159) (fun β9=>int (fineSE (decP (β3 4)).1 (besS m t).1)) [] J (fun β β' hb=>J) (fun β9 _ _ _ _ gq gh kq=>xtW (gq.1.trans J) J kq) ?_
     refine sta 22 T.z69 (eC (eC (eC (eC eZ)))) ?_
     refine stw 22 (fun β9=>cell (gbk (β9 7)) [bl (decJ (β9 3)).holds,sl 2 pE (decJ (β9 3)).pairs,sl 1 nE (decJ (β9 3)).word,int (decJ (β9 3)).state]) [22] J (fun β β' hb=>by first|rw[hb 3 J,hb 7 J]|(dsimp only;rw[hb 3 J,hb 7 J])) (fun β9 _ _ _ _ gq gh kq=>sPA (cs':= [bl (decJ (β9 3)).holds,sl 2 pE (decJ (β9 3)).pairs,sl 1 nE (decJ (β9 3)).word,int (decJ (β9 3)).state]) (gq.1.trans J) (gh.1.trans J) (gq.2.1.trans J) T.agg69 J J kq) ?_
     refine stv (d:=23) (fun β9=>int (fineSE (decP (β3 4)).1 (besS m t).1)) [] J (fun β β' hb=>J) (fun β9 _ _ _ _ gq gh kq=>ag' (gq.1.trans J) kq) ?_
     refine pnH fun β9=>(nl (th (sq (whXC 157 J fun h157=>(rg (mv (bi J J b_neq (mv ?_))))))))
     apply gOr (t:=162) (pd:=166) rfl
     rotate_left
     ·intro hg15 fin
      have hg15':=hg15
      try simp at hg15'
      exact gy J J J hg15 (fP J T.fld69_0 (gy J J J hg15 (lP J J J T.one4 (gy J J J hg15 (no J (pkF J hg15 J (drp (X:= [(165,_),(164,_),(163,_)]) ⟨J,J,J,tV⟩ fin)))))))
     ·intro hg15 fin
      exact gn J J J hg15 J J (gn J J J hg15 J J (gn J J J hg15 J J (pkT J hg15 J (drp (X:= [(165,_),(164,_),(163,_)]) ⟨J,J,J,tV⟩ fin))))
     refine nl (th ?_)
     refine cd J (fun hc7=> ?_) (fun hc7=> ?_)
     ·skip
      have hff:False:=by
       obtain⟨q1,q2⟩:=satok_DP hkv hbS (hka.trans hbA.symm) h157
       rw[q1,q2.2 hbs] at hc7;simp at hc7
      refine sq (rg (ag (nl (th (rt (rt_ ?_))))))
      have hr0:false=true:=by
       exact hff.elim
      exact rE () [.tmp 6] J [bl false] ⟨.tmp J,tV⟩ (cA1 (fun x0=>rV [bl x0]) hr0) trivial eX
     ·skip
      refine sk (th (sq (rg (calT (ψ:=tab) (φs:= []) (φ:=bl true) trivial prodk.awake_ok T.ent12 9999 J J (ag (nl (th (rt ?_))))))))
      exact rE () [.tmp 6] J [bl true] ⟨.tmp J,tV⟩ J trivial eX
    ·skip
     refine cutE (E':= [(6,bl false),(9999,tab)]) (H':= [(3,cell b3 [sl 1 rE_ m.aC,sl 1 gE m.sT]),(4,cell b4 [sl 1 rE_ n.aC,sl 1 gE n.sT]),(5,cell b5 [sl 1 rE_ s.aC,sl 2 sE s.sT,sl 1 rE_ t.aC,sl 2 sE t.sT]),(7,cell (gbk (β0 4)) [sl 1 rE_ s.aC,sl 2 sE s.sT]),(8,cell (gbk (β0 5)) [sl 1 rE_ t.aC,sl 2 sE t.sT]),(9,cell (gbk (β1 8)) [bl (decJ (β1 4)).holds,sl 2 pE (decJ (β1 4)).pairs,sl 1 nE (decJ (β1 4)).word,int (decJ (β1 4)).state]),(11,cell (gbk (β2 8)) [bl (decJ (β2 4)).holds,sl 2 pE (decJ (β2 4)).pairs,sl 1 nE (decJ (β2 4)).word,int (decJ (β2 4)).state]),(13,cell (gbk (β3 9)) [sl 1 rE_ ((decP (β3 4)).1.aC),sl 1 gE ((decP (β3 4)).1.sT)]),(16,cell (gbk (β4 8)) [sl 1 rE_ ((cmpS s t).1).aC,sl 2 sE ((cmpS s t).1).sT]),(20,cell (gbk (β8 8)) [sl 1 rE_ ((besS m t).1).aC,sl 2 sE ((besS m t).1).sT]),(997,ambH tab)]) ⟨id,id,tV⟩ ⟨rI,rI,rI,rI,rI,rI,rI,rI,rI,rI,rI,tV⟩ ?_
     refine sk (th (sq (rg (calT (ψ:=tab) (φs:= []) (φ:=bl true) trivial prodk.awake_ok T.ent12 9999 J J (ag (nl (th (rt ?_))))))))
     exact rE () [.tmp 6] J [bl true] ⟨.tmp J,tV⟩ J trivial eX
end prody
end
end Go.Proofs.YtcjemmihcplgdaaGreatDoor
