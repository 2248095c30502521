/- The walks of the functions and the plain laws. Own texts of this claim, packed: Zdprodx. -/
import Derived.Test.YtcjemmihcplgdaaGreatDoorX25
import Derived.Test.YtcjemmihcplgdaaGreatDoorX26
set_option linter.all false
namespace Go.Proofs.YtcjemmihcplgdaaGreatDoor
open AL Go
set_option maxRecDepth 100000
section
open ref01 ref03 ref04 ref06 prog prog2 prog3 prog4 prog5 prog6 prog7 prog8 prog9 prog13 prog15 starts Part Rungs LeftM TrimM Itoa Keys RoundM MergeM BisM BisM4 BisM5 WalkM StepM WitM JudgM JudgM2 refw judg wit refj sysw satj divr divs divd dive divg divw divv LevM LevM2 ChsM TrimI QuoM FailM DivM RefM GenW CompM CrossM CompP EncM prodc divp prodm prodp BesM prodb prodr ForkM prodk
theorem bes_f0 {m:SSys} {t:SS} (h:(((decide ((9:Int)<(m.sT.length:Int))|| !fewM m 300)||decide ((12:Int)<(t.sT.length:Int)))|| !few t 300)=false):m.sT.length≤9∧t.sT.length≤12∧(sizeM m:Int)≤300∧(size t:Int)≤300:=by
 rw[Bool.or_eq_false_iff,Bool.or_eq_false_iff,Bool.or_eq_false_iff,Bool.not_eq_false',Bool.not_eq_false',decide_eq_false_iff_not,decide_eq_false_iff_not] at h
 have h1:=h.1.1.2
 unfold fewM at h1
 exact⟨O,O,of_decide_eq_true h1,few_leC h.2⟩
structure BesJ (m:SSys) (t D:SS) (e:Int):Prop where
 err:e=fineSE m t
 yes:e=0→RefS m t D
 no:e≠0→D=⟨[],[]⟩
theorem besj_no {m:SSys} {t:SS} {e:Int} (h:e=fineSE m t) (he:e≠0):BesJ m t ⟨[],[]⟩ e:=⟨h,fun g=>absurd g he,fun _=>rfl⟩
theorem told_j {m:SSys} {t D:SS} {e:Int} (h:BesJ m t D e) (hz:2^m.sT.length*t.sT.length≤10000):toldB (besS m t).1 (besS m t).2 e D (decide ((500:Int)<(t.sT.length:Int)*((2^m.sT.length:Nat):Int)))=true:=by
 have he:=h.err
 subst he
 by_cases g:fineSE m t=0
 ·rw[g];exact told_b g (h.yes g) hz
 ·exact told_bno g D _
namespace T
theorem ent30:Ent Tryz.prog 30:=ent_of kR
theorem ent18:Ent Tryz.prog 18:=ent_of kR
theorem ent12:Ent Tryz.prog 12:=ent_of kR
theorem ent34:Ent Tryz.prog 34:=ent_of kR
theorem ent36:Ent Tryz.prog 36:=ent_of kR
theorem ent16:Ent Tryz.prog 16:=ent_of kR
theorem ent35:Ent Tryz.prog 35:=ent_of kR
theorem ent17:Ent Tryz.prog 17:=ent_of kR
end T
namespace prodx
theorem ProductBeside_ok (m:SSys) (t:SS) (hts:smallSpec t):
 Fn0 Tryz.prog 6 [tabbed (sys m),spec t] (bl true):=by
 refine fnI Tryz.func6 rfl rfl (fun w0 F0=> ?_)
 refine tbI 0 9999 rfl ?_
 refine tbJC (ψ:=tab) 9999 997 rfl ?_
 refine fcC (inhS 0 J) (fun hS0=> ?_)
 obtain⟨hma0,hms0,hme0⟩:=sys_lens hS0
 refine fcC (inhS 1 J) (fun hS1=> ?_)
 obtain⟨hsa1,hss1,hse1⟩:=sLn hS1
 refine sq (rg (bx (key:=2) (cs:= [sl 1 rE_ m.aC,sl 1 gE m.sT]) J fun b2=>(bx (key:=3) (cs:= [sl 1 rE_ t.aC,sl 2 sE t.sT]) J fun b3=>(ag (nl (th (sq (sq (rg (fP J T.fld43_1 (lP J J J T.one41 (fc (slenI 10 J) fun hm10=>(lnF J T.sl41 (bi J J b_gtr (mv ?_)))))))))))))))
 apply gOr (t:=13) (pd:=17) rfl
 rotate_left
 ·intro hg0 fin
  have hg0':=hg0
  try simp at hg0'
  exact gy J J J hg0 (lPA J J T.agg43 J (gy J J J hg0 (cal0 (φs:= [agg [sl 1 rE_ m.aC,sl 1 gE m.sT],int 300]) (φ:=bl (fewM m 300)) ⟨J,J,tV⟩ (sysw.Few_ok m 300 O) T.ent30 (gy J J J hg0 (no J (pkF J hg0 J (drp (X:= [(16,_),(15,_),(14,_)]) ⟨J,J,J,tV⟩ fin)))))))
 ·intro hg0 fin
  exact gn J J J hg0 J J (gn J J J hg0 J J (gn J J J hg0 J J (pkT J hg0 J (drp (X:= [(16,_),(15,_),(14,_)]) ⟨J,J,J,tV⟩ fin))))
 refine mv ?_
 apply gOr (t:=18) (pd:=23) rfl
 rotate_left
 ·intro hg1 fin
  have hg1':=hg1
  try simp at hg1'
  exact gy J J J hg1 (fP J T.fld25_1 (gy J J J hg1 (lP J J J T.one23 (gy J J J hg1 (fc (slenI 20 J) fun hm20=>(lnF J T.sl23 (gy J J J hg1 (bi J J b_gtr (pkF J hg1 J (drp (X:= [(22,_),(21,_),(20,_),(19,_)]) ⟨J,J,J,J,tV⟩ fin))))))))))
 ·intro hg1 fin
  exact gn J J J hg1 J J (gn J J J hg1 J J (gn J J J hg1 J J (gn J J J hg1 J J (pkT J hg1 J (drp (X:= [(22,_),(21,_),(20,_),(19,_)]) ⟨J,J,J,J,tV⟩ fin)))))
 refine mv ?_
 apply gOr (t:=24) (pd:=28) rfl
 rotate_left
 ·intro hg2 fin
  have hg2':=hg2
  try simp at hg2'
  exact gy J J J hg2 (lPA J J T.agg25 J (gy J J J hg2 (cal0 (φs:= [agg [sl 1 rE_ t.aC,sl 2 sE t.sT],int 300]) (φ:=bl (few t 300)) ⟨J,J,tV⟩ (ref03.Few_ok t _ O) T.ent18 (gy J J J hg2 (no J (pkF J hg2 J (drp (X:= [(27,_),(26,_),(25,_)]) ⟨J,J,J,tV⟩ fin)))))))
 ·intro hg2 fin
  exact gn J J J hg2 J J (gn J J J hg2 J J (gn J J J hg2 J J (pkT J hg2 J (drp (X:= [(27,_),(26,_),(25,_)]) ⟨J,J,J,tV⟩ fin))))
 refine nl (th ?_)
 refine cd J (fun hc0=> ?_) (fun hc0=> ?_)
 ·skip
  refine sq (rg (calT (ψ:=tab) (φs:= []) (φ:=bl true) trivial prodk.awake_ok T.ent12 9999 J J (ag (nl (th (rt (rt_ ?_)))))))
  exact rE () [.tmp 4] J [bl true] ⟨.tmp J,tV⟩ J trivial eX
 ·skip
  obtain⟨hz1,hz2,hz3,hz4⟩:=bes_f0 hc0
  have hp9:2^m.sT.length≤2^9:=Nat.pow_le_pow_right O hz1
  have hzz:2^m.sT.length*t.sT.length≤2^9*12:=Nat.mul_le_mul hp9 hz2
  have hzy:t.sT.length*2^m.sT.length≤12*2^9:=Nat.mul_le_mul hz2 hp9
  refine sk (th (sq (rg (ag (nl (th (sq (rg (al (key:=6) T.z25 (eC (eC eZ)) fun b6=>(nl (th (sq (bk (sq (rg (lPA J J T.agg43 J (cal0 (φs:= [agg [sl 1 rE_ m.aC,sl 1 gE m.sT]]) (φ:=bl (sysOK m)) ⟨J,tV⟩ (divs.Is_ok m) T.ent31 (no J (ag (nl (th ?_)))))))))))))))))))))
  refine jn (κ:=SS × Int) (fun p=> [(2,ptr 2 b2 0),(3,ptr 3 b3 0),(4,bl false),(5,int p.2),(6,ptr 6 b6 0),(9999,tab)]) (fun p=> [(2,cell b2 [sl 1 rE_ m.aC,sl 1 gE m.sT]),(3,cell b3 [sl 1 rE_ t.aC,sl 2 sE t.sT]),(6,cell b6 [sl 1 rE_ p.1.aC,sl 2 sE p.1.sT]),(997,ambH tab)]) (fun p=>BesJ m t p.1 p.2) ?_ ?_
  ·
   refine cd J (fun hc1=> ?_) (fun hc1=> ?_)
   ·skip
    have hfe:(20:Int)=fineSE m t:=by unfold fineSE;rw[if_neg (by simpa using hc1)]
    refine kncC 6 0 (sl 1 rE_ []) rfl rfl slnil (kncC 6 1 (sl 2 sE []) rfl rfl slnil (rg (ag (nl ?_))))
    have hN0:BesJ m t (⟨[],[]⟩:SS) (20:Int):=by
     exact besj_no hfe (by decide)
    exact jx ⟨(⟨[],[]⟩:SS),(20:Int)⟩ hN0 ⟨id,id,id,id,id,id,tV⟩ ⟨rI,rI,rI,rI,tV⟩
   ·skip
    have hmv:sysOK m=true:=by simpa using hc1
    have hm:=sysOK_ok hmv
    refine sq (rg (lPA J J T.agg25 J (cal0 (φs:= [agg [sl 1 rE_ t.aC,sl 2 sE t.sT]]) (φ:=bl (specOK t)) ⟨J,tV⟩ (ref03.Is_ok t) T.ent32 (no J (ag (nl (th ?_)))))))
    refine cd J (fun hc2=> ?_) (fun hc2=> ?_)
    ·skip
     have hfe:(30:Int)=fineSE m t:=by unfold fineSE;rw[if_pos hmv,if_neg (by simpa using hc2)]
     refine kncC 6 0 (sl 1 rE_ []) rfl rfl slnil (kncC 6 1 (sl 2 sE []) rfl rfl slnil (rg (ag (nl ?_))))
     have hN0:BesJ m t (⟨[],[]⟩:SS) (30:Int):=by
      exact besj_no hfe (by decide)
     exact jx ⟨(⟨[],[]⟩:SS),(30:Int)⟩ hN0 ⟨id,id,id,id,id,id,tV⟩ ⟨rI,rI,rI,rI,tV⟩
    ·skip
     have htv:specOK t=true:=by simpa using hc2
     have ht:=okSpec_of htv
     refine sq (rg (fP J T.fld43_0 (lP J J J T.one22 (fP J T.fld25_0 (lP J J J T.one22 (cal0 (φs:= [sl 1 rE_ m.aC,sl 1 rE_ t.aC]) (φ:=bl (decide (m.aC=t.aC))) ⟨J,J,tV⟩ (ref01.SameStrings_ok _ _) T.ent33 (no J (ag (nl (th ?_))))))))))
     refine cd J (fun hc3=> ?_) (fun hc3=> ?_)
     ·skip
      have hfe:(10:Int)=fineSE m t:=by unfold fineSE;rw[if_pos hmv,if_pos htv,if_neg (by simpa using hc3)]
      refine kncC 6 0 (sl 1 rE_ []) rfl rfl slnil (kncC 6 1 (sl 2 sE []) rfl rfl slnil (rg (ag (nl ?_))))
      have hN0:BesJ m t (⟨[],[]⟩:SS) (10:Int):=by
       exact besj_no hfe (by decide)
      exact jx ⟨(⟨[],[]⟩:SS),(10:Int)⟩ hN0 ⟨id,id,id,id,id,id,tV⟩ ⟨rI,rI,rI,rI,tV⟩
     ·skip
      have hmt:m.aC=t.aC:=by simpa using hc3
      have hfe:(0:Int)=fineSE m t:=by unfold fineSE;rw[if_pos hmv,if_pos htv,if_pos hmt]
      refine rg (lPA J J T.agg43 J (lPA J J T.agg25 J (cl (prodr.RefBeside_ok m t aS aS aS O) T.ent34 trivial fun N32 i32=>(sPA (cs':= [sl 1 rE_ i32.1.aC,sl 2 sE i32.1.sT]) J J J T.agg25 J J (nl ?_)))))
      have hN0:BesJ m t i32.1 (0:Int):=by
       exact⟨hfe,fun _=>i32.2,fun g=>absurd rfl g⟩
      exact jx ⟨i32.1,(0:Int)⟩ hN0 ⟨id,id,id,id,id,id,tV⟩ ⟨rI,rI,rI,rI,tV⟩
  ·intro⟨D,e1⟩ hG
   have hJ1:BesJ m t D e1:=hG
   have hokD:e1=0→oK D:=fun h=>by
    have hf:fineSE m t=0:=by rw[←hJ1.err];exact h
    obtain⟨k1,k2,k3⟩:=fineS_ok hf
    exact refs_ok (sysOK_ok k1) (okSpec_of k2) k3 (hJ1.yes h) O
   have htold:=told_j hJ1 O
   skip
   show At _ _ _ [(2,ptr 2 b2 0),(3,ptr 3 b3 0),(4,bl false),(5,int e1),(6,ptr 6 b6 0),(9999,tab)] [(2,cell b2 [sl 1 rE_ m.aC,sl 1 gE m.sT]),(3,cell b3 [sl 1 rE_ t.aC,sl 2 sE t.sT]),(6,cell b6 [sl 1 rE_ D.aC,sl 2 sE D.sT]),(997,ambH tab)]
   refine eb (th (sq ?_))
   refine drH (nh:=11) [0,1,0,7,15,31,63,63,0,383,1023] [(none,[2]),(none,[]),(none,[3]),(none,[]),(none,[997]),(none,[]),(none,[]),(none,[]),(some 7,[]),(some 7,[7]),(none,[])] T.mixed kR kR ?_
   refine stv (d:=49) (fun β0=>agg [sl 1 rE_ m.aC,sl 1 gE m.sT]) [2] J (fun β β' hb=>J) (fun β0 _ _ _ _ gq gh kq=>lPA (gq.1.trans J) (gh.1.trans J) T.agg43 J kq) ?_
   refine stv (d:=50) (fun β0=>agg [sl 1 rE_ m.aC,sl 1 gE m.sT]) [] J (fun β β' hb=>J) (fun β0 _ _ _ _ gq gh kq=>calW (φs:= [agg [sl 1 rE_ m.aC,sl 1 gE m.sT]]) (φ:=agg [sl 1 rE_ m.aC,sl 1 gE m.sT]) ⟨(gq.1.trans J),tV⟩ (sysw.Copy_ok m O) T.ent36 (fun N hN=>fun h=>agg_le (cs:= [fre N (sl 1 rE_ m.aC),fre N (sl 1 gE m.sT)]) (ds:= [sl 1 rE_ m.aC,sl 1 gE m.sT]) ⟨fun h=>nw_le h,fun h=>nw_le h,tV⟩ h) kq) ?_
   refine stv (d:=51) (fun β0=>agg [sl 1 rE_ t.aC,sl 2 sE t.sT]) [3] J (fun β β' hb=>J) (fun β0 _ _ _ _ gq gh kq=>lPA (gq.1.trans J) (gh.1.trans J) T.agg25 J kq) ?_
   refine stv (d:=52) (fun β0=>agg [sl 1 rE_ t.aC,sl 2 sE t.sT]) [] J (fun β β' hb=>J) (fun β0 _ _ _ _ gq gh kq=>calW (φs:= [agg [sl 1 rE_ t.aC,sl 2 sE t.sT]]) (φ:=agg [sl 1 rE_ t.aC,sl 2 sE t.sT]) ⟨(gq.1.trans J),tV⟩ (ref03.Copy_ok t O) T.ent16 (fun N hN=>fun h=>agg_le (cs:= [fre N (sl 1 rE_ t.aC),fre N (sl 2 sE t.sT)]) (ds:= [sl 1 rE_ t.aC,sl 2 sE t.sT]) ⟨fun h=>nw_le h,fun h=>nw_le h,tV⟩ h) kq) ?_
   refine stv (d:=53) (fun β0=>tup [agg [sl 1 rE_ ((besS m t).1).aC,sl 2 sE ((besS m t).1).sT],int ((besS m t).2)]) [997] J (fun β β' hb=>J) (fun β0 _ _ _ _ gq gh kq=>tbK (ψ:=tab) 50 997 (gq.1.trans J) (gh.1.trans J) (cal0 (φs:= [both (agg [sl 1 rE_ m.aC,sl 1 gE m.sT]) tab,agg [sl 1 rE_ t.aC,sl 2 sE t.sT]]) (φ:=tup [agg [sl 1 rE_ ((besS m t).1).aC,sl 2 sE ((besS m t).1).sT],int ((besS m t).2)]) ⟨J,(gq.2.1.trans J),tV⟩ (prodb.Beside_ok m t aS) T.ent35 (tbX (gq.1.trans J) kq))) ?_
   refine stv (d:=48) (fun β0=>tup [agg [sl 1 rE_ ((besS m t).1).aC,sl 2 sE ((besS m t).1).sT],int ((besS m t).2)]) [] J (fun β β' hb=>J) (fun β0 _ _ _ _ gq gh kq=>mv' (gq.1.trans J) kq) ?_
   refine stv (d:=54) (fun β0=>agg [sl 1 rE_ ((besS m t).1).aC,sl 2 sE ((besS m t).1).sT]) [] J (fun β β' hb=>J) (fun β0 _ _ _ _ gq gh kq=>xt (gq.1.trans J) J kq) ?_
   refine stv (d:=55) (fun β0=>int ((besS m t).2)) [] J (fun β β' hb=>J) (fun β0 _ _ _ _ gq gh kq=>xt (gq.1.trans J) J kq) ?_
   refine sta 7 T.z25 (eC (eC eZ)) ?_
   refine stw 7 (fun β0=>cell (gbk (β0 8)) [sl 1 rE_ ((besS m t).1).aC,sl 2 sE ((besS m t).1).sT]) [7] J (fun β β' hb=>by first|rw[hb 8 J]|(dsimp only;rw[hb 8 J])) (fun β0 _ _ _ _ gq gh kq=>sPA (cs':= [sl 1 rE_ ((besS m t).1).aC,sl 2 sE ((besS m t).1).sT]) (gq.1.trans J) (gh.1.trans J) (gq.2.1.trans J) T.agg25 J J kq) ?_
   refine stv (d:=8) (fun β0=>int ((besS m t).2)) [] J (fun β β' hb=>J) (fun β0 _ _ _ _ gq gh kq=>ag' (gq.1.trans J) kq) ?_
   refine pnH fun β0=>(nl (th (sq (dr (nh:=17) [0,0,0,0,0,16,48,0,128,384,1008,2032,4095,8191,16383,32767,65535] T.mixed kR ?_))))
   refine st_ J (fun _ _ _ gq kq=>lPA (gq.1.trans J) J T.agg25 J kq) ?_
   refine st_ J (fun _ _ _ gq kq=>mv' (gq.1.trans J) kq) ?_
   refine st_ J (fun _ _ _ gq kq=>mv' (gq.1.trans J) kq) ?_
   refine st_ J (fun _ _ _ gq kq=>lPA (gq.1.trans J) J T.agg25 J kq) ?_
   refine st_ J (fun _ _ _ gq kq=>fP (gq.1.trans J) T.fld25_1 kq) ?_
   refine st_ J (fun _ _ _ gq kq=>lP (gq.1.trans J) J J T.one23 kq) ?_
   refine st_ J (fun _ _ _ gq kq=>lnF (gq.1.trans J) T.sl23 kq) ?_
   refine st_ J (fun _ _ _ gq kq=>fP (gq.1.trans J) T.fld43_1 kq) ?_
   refine st_ J (fun _ _ _ gq kq=>lP (gq.1.trans J) J J T.one41 kq) ?_
   refine st_ J (fun _ _ _ gq kq=>lnF (gq.1.trans J) T.sl41 kq) ?_
   refine st_ J (fun _ _ _ gq kq=>bi (gq.1.trans J) (gq.2.1.trans J) (b_shlG (m:=t.sT.length) (n:=m.sT.length) O O) kq) ?_
   refine st_ J (fun _ _ _ gq kq=>bi (gq.1.trans J) J b_gtr kq) ?_
   refine st_ J (fun _ _ _ gq kq=>cal0 (φs:= [agg [sl 1 rE_ ((besS m t).1).aC,sl 2 sE ((besS m t).1).sT],int ((besS m t).2),int e1,agg [sl 1 rE_ D.aC,sl 2 sE D.sT],bl (decide (500<((t.sT.length:Int)*((2^m.sT.length:Nat):Int))))]) (φ:=bl (toldB ((besS m t).1) ((besS m t).2) e1 D (decide (500<((t.sT.length:Int)*((2^m.sT.length:Nat):Int)))))) ⟨(gq.1.trans J),(gq.2.1.trans J),(gq.2.2.1.trans J),(gq.2.2.2.1.trans J),(gq.2.2.2.2.1.trans J),tV⟩ (dive.Told_ok ((besS m t).1) ((besS m t).2) e1 D (decide (500<((t.sT.length:Int)*((2^m.sT.length:Nat):Int)))) aS) T.ent17 kq) ?_
   refine st_ J (fun _ _ _ gq kq=>mv' (gq.1.trans J) kq) ?_
   refine sg_ (φ:=bl true) J J J J (List.mem_of_elem_eq_true J) (fun hgd=> ?_) ?_
   ·have hgd':=hgd
    try simp at hgd'
    exact fun _ _ _ gq kq=>calTK (ψ:=tab) (φs:= []) (φ:=bl true) trivial prodk.awake_ok T.ent12 997 J J kq
   refine st_ J (fun _ _ _ gq kq=>pk (gq.1.trans J) (pk_and (x:= .tmp 69) (gq.1.trans J) (gq.2.1.trans J) J) kq) ?_
   refine st_ J (fun _ _ _ gq kq=>ag' (gq.1.trans J) kq) ?_
   refine pn (nl (th (rt ?_)))
   have hr0:((toldB ((besS m t).1) ((besS m t).2) e1 D (decide (500<((t.sT.length:Int)*((2^m.sT.length:Nat):Int)))))&&true)=true:=by
    rw[htold];rfl
   exact rE () [.tmp 4] J [bl ((toldB ((besS m t).1) ((besS m t).2) e1 D (decide (500<((t.sT.length:Int)*((2^m.sT.length:Nat):Int)))))&&true)] ⟨.tmp J,tV⟩ (cA1 (fun x0=>rV [bl x0]) hr0) trivial eX
end prodx
end
end Go.Proofs.YtcjemmihcplgdaaGreatDoor
