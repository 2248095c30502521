/- The walks of the functions and the plain laws. Own texts of this claim, packed: Zzdivx. -/
import Derived.Test.YtcjemmihcplgdaaGreatX22
import Derived.Test.YtcjemmihcplgdaaGreatX23
set_option linter.all false
namespace Go.Proofs.YtcjemmihcplgdaaGreat
open AL Go
set_option maxRecDepth 100000
section
open ref01 ref03 ref04 ref06 prog prog2 prog3 prog6 prog13 starts Part Rungs LeftM TrimM RoundM MergeM BisM BisM4 BisM5 WalkM StepM WitM JudgM JudgM2 refw judg wit refj sysw divr divs divd dive divg divw divv divf divc divj divq divp divm diva LevM LevM2 ChsM QuoM FailM DivM QuoW RefM FitM PartM EncM TogM divt
noncomputable def fitB (x:SSys) (t s:SS):Bool:= @decide (ix (hOl s) 0=true∨Well3 x t (tR s).1) (Classical.propDecidable _)
theorem fitB_iff {x:SSys} {t s:SS}:fitB x t s=true↔(ix (hOl s) 0=true∨Well3 x t (tR s).1):= @decide_eq_true_iff _ (Classical.propDecidable _)
theorem sat_fit {x:SSys} {t s D:SS} (hx:okSys x) (ht:oK t) (hs:oK s) (hts:t.aC=s.aC) (hxt:x.aC=t.aC) (h:RefQ t s D):satD x D=fitB x t s:=by
 rw[Bool.eq_iff_iff,satD_iff,fitB_iff]
 cases e:ix (hOl s) 0 with
 |true=>rw[h.hol e];exact⟨fun _=> .inl rfl,fun _=>sat_every hx (by rw[hxt])⟩
 |false=>
  rw[sat_quo hx ht hs hts hxt h e]
  simp
theorem jdg_fit {x:SSys} {t s:SS} {v:Bool × SSys} (hv:JdgOK x t s v):v.1=fitB x t s:=by
 rw[Bool.eq_iff_iff,fitB_iff]
 constructor
 ·intro g;exact(hv.yes g).2
 ·intro g
  cases e:v.1 with
  |true=>rfl
  |false=>
   obtain⟨h0,q,i,u,hq,hi,h1,h2,_⟩:=hv.no e
   have g:=g.resolve_left (by simp[h0])
   have e2:(tR s).1=tS s:=by rw[trimmed_not h0]
   rw[e2] at g
   exact absurd ⟨u,h1,h2⟩ (g _ (hq.rch _ (ix_memS hi)))
noncomputable def partnerB (m x:SSys) (t s:SS):Bool:=sysOK m&&decide (m.aC=s.aC)&&(satD m s&& !togB m x t)
theorem withX_ok {x:SSys} {t s:SS} (h:withX x t s=0):fineX x t s=0:=by
 unfold withX at h
 unfold fineX
 split at h
 ·next g1=>
  split at h
  ·next g2=>
   split at h
   ·next g3=>
    have g2:fineE t s=0:=g2
    rw[if_pos g1,if_pos g2,if_pos g3]
   ·exact absurd h (by decide)
  ·next g2=>exact absurd h g2
 ·exact absurd h (by decide)
theorem withX_eq (x:SSys) (t s:SS):withX x t s=fineX x t s:=by
 unfold withX fineX
 by_cases g1:sysOK x=true
 ·rw[if_pos g1,if_pos g1]
  by_cases g2:fineE t s=0
  ·have g2':bothE t s=0:=g2
   rw[if_pos g2,if_pos g2']
  ·have g2':¬bothE t s=0:=g2
   rw[if_neg g2,if_neg g2'];rfl
 ·rw[if_neg g1,if_neg g1]
theorem part_partner {x:SSys} {t s:SS} (hx:okSys x) (ht:oK t) (hs:oK s) (hts:t.aC=s.aC) (hxt:x.aC=t.aC) (hb:x.sT.length*(t.sT.length*s.sT.length)+s.sT.length+1≤5000) {v:Bool × SSys} (hv:JdgOK x t s v) (e:v.1=false):partnerB v.2 x t s=true:=by
 obtain⟨h1,h2,h3,h4⟩:=part_ok hx ht hs hts hxt hb hv e
 unfold partnerB
 rw[h1,decide_eq_true h2,satD_iff.2 h3,Bool.eq_false_iff.2 (fun g=>h4 (togB_iff.1 g))];rfl
theorem tiny_few {m:SSys} (h:tinyB m=true):m.sT.length≤8∧(sizeM m:Int)≤300:=by
 unfold tinyB fewM at h;simpa using h
theorem small_few {s:SS} (h:smallB s=true):s.sT.length≤20∧(size s:Int)≤400:=by
 unfold smallB few at h;simpa using h
namespace T
theorem ent12:Ent Tryz.prog 12:=ent_of kR
theorem ent90:Ent Tryz.prog 90:=ent_of kR
theorem ent58:Ent Tryz.prog 58:=ent_of kR
theorem ent21:Ent Tryz.prog 21:=ent_of kR
theorem ent22:Ent Tryz.prog 22:=ent_of kR
theorem ent10:Ent Tryz.prog 10:=ent_of kR
theorem ent23:Ent Tryz.prog 23:=ent_of kR
theorem ent24:Ent Tryz.prog 24:=ent_of kR
theorem ent26:Ent Tryz.prog 26:=ent_of kR
theorem ent15:Ent Tryz.prog 15:=ent_of kR
theorem ent19:Ent Tryz.prog 19:=ent_of kR
theorem ent18:Ent Tryz.prog 18:=ent_of kR
theorem ent27:Ent Tryz.prog 27:=ent_of kR
end T
namespace divx
theorem SatFit_ok (x:SSys) (t s D:SS) (hx:okSys x) (ht:oK t) (hs:oK s) (hts:t.aC=s.aC) (hxt:x.aC=t.aC) (hz:t.sT.length*s.sT.length+1≤10000):Fn0 Tryz.prog 55 [sys x,whn (RefQ t s D) (spec D)] (bl (fitB x t s)):=
 fn_wh2 fun h=>by
  have:=divg.Satisfies_ok x D hx (refq_ok ht h hz)
  rw[sat_fit hx ht hs hts hxt h] at this
  exact this
theorem RefFits_ok (x:SSys) (t s:SS) (hx:okSys x) (ht:oK t) (hs:oK s) (hts:t.aC=s.aC) (hxt:x.aC=t.aC) (hz:t.sT.length*s.sT.length+1≤10000):
 Fn0 Tryz.prog 24 [sys x,spec t,spec s] (bl (fitB x t s)):=by
 refine fnI Tryz.func24 rfl rfl (fun w0 F0=> ?_)
 refine fcC (inhS 0 J) (fun hS0=> ?_)
 obtain⟨hma0,hms0,hme0⟩:=sys_lens hS0
 refine fcC (inhS 1 J) (fun hS1=> ?_)
 obtain⟨hsa1,hss1,hse1⟩:=sLn hS1
 refine fcC (inhS 2 J) (fun hS2=> ?_)
 obtain⟨hsa2,hss2,hse2⟩:=sLn hS2
 refine sq (rg (bx (key:=3) (cs:= [sl 1 rE_ x.aC,sl 1 gE x.sT]) J fun b3=>(bx (key:=4) (cs:= [sl 1 rE_ t.aC,sl 2 sE t.sT]) J fun b4=>(bx (key:=5) (cs:= [sl 1 rE_ s.aC,sl 2 sE s.sT]) J fun b5=>(ag (nl (th (sq ?_))))))))
 refine drH (nh:=6) [0,0,0,6,15,31] [(none,[3]),(none,[4]),(none,[5]),(none,[]),(none,[]),(none,[])] T.mixed kR kR ?_
 refine stv (d:=7) (fun β0=>agg [sl 1 rE_ x.aC,sl 1 gE x.sT]) [3] J (fun β β' hb=>J) (fun β0 _ _ _ _ gq gh kq=>lPA (gq.1.trans J) (gh.1.trans J) T.agg38 J kq) ?_
 refine stv (d:=8) (fun β0=>agg [sl 1 rE_ t.aC,sl 2 sE t.sT]) [4] J (fun β β' hb=>J) (fun β0 _ _ _ _ gq gh kq=>lPA (gq.1.trans J) (gh.1.trans J) T.agg25 J kq) ?_
 refine stv (d:=9) (fun β0=>agg [sl 1 rE_ s.aC,sl 2 sE s.sT]) [5] J (fun β β' hb=>J) (fun β0 _ _ _ _ gq gh kq=>lPA (gq.1.trans J) (gh.1.trans J) T.agg25 J kq) ?_
 refine ste (d:=10) encS decS decS_enc (fun z=>RefQ t s z) (fun z=>agg [sl 1 rE_ z.aC,sl 2 sE z.sT]) rfl (fun β0 _ _ _ _ gq gh kq=>cal (Hi:= []) (φs:= [agg [sl 1 rE_ t.aC,sl 2 sE t.sT],agg [sl 1 rE_ s.aC,sl 2 sE s.sT]]) ⟨(gq.1.trans rfl),(gq.2.1.trans rfl),tV⟩ (divm.RefDivide_ok t s ht hs hts O) T.ent12 trivial fun N i=>kq i.1 i.2) ?_
 refine stv (d:=11) (fun β0=>bl (fitB x t s)) [] J (fun β β' hb=>J) (fun β0 _ _ _ _ gq gh kq=>cal0 (φs:= [agg [sl 1 rE_ x.aC,sl 1 gE x.sT],whn (RefQ t s (decS (β0 3))) (agg [sl 1 rE_ (decS (β0 3)).aC,sl 2 sE (decS (β0 3)).sT])]) (φ:=bl (fitB x t s)) ⟨(gq.1.trans J),(gq.2.1.trans J),tV⟩ (SatFit_ok x t s _ hx ht hs hts hxt hz) T.ent55 kq) ?_
 refine stv (d:=6) (fun β0=>bl (fitB x t s)) [] J (fun β β' hb=>J) (fun β0 _ _ _ _ gq gh kq=>ag' (gq.1.trans J) kq) ?_
 refine pnH fun β0=>(nl (th (rt ?_)))
 exact rE () [.tmp 6] J [bl (fitB x t s)] ⟨.tmp J,tV⟩ J trivial eX
theorem IsPartner_ok (m x:SSys) (t s:SS) (hm:okSys m) (hx:okSys x) (ht:oK t) (hs:oK s) (hz:m.sT.length*x.sT.length*t.sT.length≤1000000000):
 Fn0 Tryz.prog 58 [sys m,sys x,spec t,spec s] (bl (satD m s&& !togB m x t)):=by
 refine fnI Tryz.func58 rfl rfl (fun w0 F0=> ?_)
 refine fcC (inhS 0 J) (fun hS0=> ?_)
 obtain⟨hma0,hms0,hme0⟩:=sys_lens hS0
 refine fcC (inhS 1 J) (fun hS1=> ?_)
 obtain⟨hma1,hms1,hme1⟩:=sys_lens hS1
 refine fcC (inhS 2 J) (fun hS2=> ?_)
 obtain⟨hsa2,hss2,hse2⟩:=sLn hS2
 refine fcC (inhS 3 J) (fun hS3=> ?_)
 obtain⟨hsa3,hss3,hse3⟩:=sLn hS3
 refine sq (rg (bx (key:=4) (cs:= [sl 1 rE_ m.aC,sl 1 gE m.sT]) J fun b4=>(bx (key:=5) (cs:= [sl 1 rE_ x.aC,sl 1 gE x.sT]) J fun b5=>(bx (key:=6) (cs:= [sl 1 rE_ t.aC,sl 2 sE t.sT]) J fun b6=>(bx (key:=7) (cs:= [sl 1 rE_ s.aC,sl 2 sE s.sT]) J fun b7=>(ag (nl (th (sq (rg (lPA J J T.agg38 J (lPA J J T.agg25 J (cal0 (φs:= [agg [sl 1 rE_ m.aC,sl 1 gE m.sT],agg [sl 1 rE_ s.aC,sl 2 sE s.sT]]) (φ:=bl (satD m s)) ⟨J,J,tV⟩ (divg.Satisfies_ok m s aS aS) T.ent55 (mv ?_))))))))))))))
 apply gAnd (t:=12) (pd:=18) rfl
 rotate_left
 ·intro hg0 fin
  have hg0':=hg0
  try simp at hg0'
  exact gy J J J hg0 (lPA J J T.agg38 J (gy J J J hg0 (lPA J J T.agg38 J (gy J J J hg0 (lPA J J T.agg25 J (gy J J J hg0 (cal0 (φs:= [agg [sl 1 rE_ m.aC,sl 1 gE m.sT],agg [sl 1 rE_ x.aC,sl 1 gE x.sT],agg [sl 1 rE_ t.aC,sl 2 sE t.sT]]) (φ:=bl (togB m x t)) ⟨J,J,J,tV⟩ (divt.Together_ok m x t aS aS aS aS) T.ent90 (gy J J J hg0 (no J (pkT J hg0 J (drp (X:= [(17,_),(16,_),(15,_),(14,_),(13,_)]) ⟨J,J,J,J,J,tV⟩ fin)))))))))))
 ·intro hg0 fin
  exact gn J J J hg0 J J (gn J J J hg0 J J (gn J J J hg0 J J (gn J J J hg0 J J (gn J J J hg0 J J (pkF J hg0 J (drp (X:= [(17,_),(16,_),(15,_),(14,_),(13,_)]) ⟨J,J,J,J,J,tV⟩ fin))))))
 refine ag (nl (th (rt ?_)))
 have hr0:((satD m s)&&(!(togB m x t)))=(satD m s&& !togB m x t):=by
  first|rfl|simp_all|omega
 exact rE () [.tmp 8] J [bl ((satD m s)&&(!(togB m x t)))] ⟨.tmp J,tV⟩ (cA1 (fun x0=>rV [bl x0]) hr0) trivial eX
theorem partner_ok (m x:SSys) (t s:SS) (hx:okSys x) (ht:oK t) (hs:oK s) (hz:sysOK m=true→m.sT.length*x.sT.length*t.sT.length≤1000000000):
 Fn0 Tryz.prog 27 [sys m,sys x,spec t,spec s] (bl (partnerB m x t s)):=by
 refine fnI Tryz.func27 rfl rfl (fun w0 F0=> ?_)
 refine fcC (inhS 0 J) (fun hS0=> ?_)
 obtain⟨hma0,hms0,hme0⟩:=sys_lens hS0
 refine fcC (inhS 1 J) (fun hS1=> ?_)
 obtain⟨hma1,hms1,hme1⟩:=sys_lens hS1
 refine fcC (inhS 2 J) (fun hS2=> ?_)
 obtain⟨hsa2,hss2,hse2⟩:=sLn hS2
 refine fcC (inhS 3 J) (fun hS3=> ?_)
 obtain⟨hsa3,hss3,hse3⟩:=sLn hS3
 refine sq (rg (bx (key:=4) (cs:= [sl 1 rE_ m.aC,sl 1 gE m.sT]) J fun b4=>(bx (key:=5) (cs:= [sl 1 rE_ x.aC,sl 1 gE x.sT]) J fun b5=>(bx (key:=6) (cs:= [sl 1 rE_ t.aC,sl 2 sE t.sT]) J fun b6=>(bx (key:=7) (cs:= [sl 1 rE_ s.aC,sl 2 sE s.sT]) J fun b7=>(ag (nl (th (sq (rg (lPA J J T.agg38 J (cal0 (φs:= [agg [sl 1 rE_ m.aC,sl 1 gE m.sT]]) (φ:=bl (sysOK m)) ⟨J,tV⟩ (divs.Is_ok m) T.ent54 (mv ?_)))))))))))))
 apply gAnd (t:=11) (pd:=17) rfl
 rotate_left
 ·intro hg0 fin
  have hg0':=hg0
  try simp at hg0'
  exact gy J J J hg0 (fP J T.fld38_0 (gy J J J hg0 (lP J J J T.one22 (gy J J J hg0 (fP J T.fld25_0 (gy J J J hg0 (lP J J J T.one22 (gy J J J hg0 (cal0 (φs:= [sl 1 rE_ m.aC,sl 1 rE_ s.aC]) (φ:=bl (decide (m.aC=s.aC))) ⟨J,J,tV⟩ (ref01.SameStrings_ok _ _) T.ent42 (pkT J hg0 J (drp (X:= [(16,_),(15,_),(14,_),(13,_),(12,_)]) ⟨J,J,J,J,J,tV⟩ fin)))))))))))
 ·intro hg0 fin
  exact gn J J J hg0 J J (gn J J J hg0 J J (gn J J J hg0 J J (gn J J J hg0 J J (gn J J J hg0 J J (pkF J hg0 J (drp (X:= [(16,_),(15,_),(14,_),(13,_),(12,_)]) ⟨J,J,J,J,J,tV⟩ fin))))))
 refine mv ?_
 apply gAnd (t:=18) (pd:=24) rfl
 rotate_left
 ·intro hg1 fin
  have hg1':=hg1
  try simp at hg1'
  have hsv:sysOK m=true:=by simp at hg1;exact hg1.1
  have hm:=sysOK_ok hsv
  have hz1:=hz hsv
  exact gy J J J hg1 (lPA J J T.agg38 J (gy J J J hg1 (lPA J J T.agg38 J (gy J J J hg1 (lPA J J T.agg25 J (gy J J J hg1 (lPA J J T.agg25 J (gy J J J hg1 (cal0 (φs:= [agg [sl 1 rE_ m.aC,sl 1 gE m.sT],agg [sl 1 rE_ x.aC,sl 1 gE x.sT],agg [sl 1 rE_ t.aC,sl 2 sE t.sT],agg [sl 1 rE_ s.aC,sl 2 sE s.sT]]) (φ:=bl (satD m s&& !togB m x t)) ⟨J,J,J,J,tV⟩ (divx.IsPartner_ok m x t s aS aS aS aS aS) T.ent58 (pkT J hg1 J (drp (X:= [(23,_),(22,_),(21,_),(20,_),(19,_)]) ⟨J,J,J,J,J,tV⟩ fin)))))))))))
 ·intro hg1 fin
  exact gn J J J hg1 J J (gn J J J hg1 J J (gn J J J hg1 J J (gn J J J hg1 J J (gn J J J hg1 J J (pkF J hg1 J (drp (X:= [(23,_),(22,_),(21,_),(20,_),(19,_)]) ⟨J,J,J,J,J,tV⟩ fin))))))
 refine ag (nl (th (rt ?_)))
 have hr0:(((sysOK m)&&(decide (m.aC=s.aC)))&&(satD m s&& !togB m x t))=(partnerB m x t s):=by
  first|rfl|simp_all|omega
 exact rE () [.tmp 8] J [bl (((sysOK m)&&(decide (m.aC=s.aC)))&&(satD m s&& !togB m x t))] ⟨.tmp J,tV⟩ (cA1 (fun x0=>rV [bl x0]) hr0) trivial eX
theorem DivideFits_ok (x:SSys) (t:SS) (htm:smallSpec t) (s:SS) (hsm:smallSpec s):
 Fn0 Tryz.prog 4 [sys x,spec t,spec s] (bl true):=by
 refine fnI Tryz.func4 rfl rfl (fun w0 F0=> ?_)
 refine fcC (inhS 0 J) (fun hS0=> ?_)
 obtain⟨hma0,hms0,hme0⟩:=sys_lens hS0
 refine fcC (inhS 1 J) (fun hS1=> ?_)
 obtain⟨hsa1,hss1,hse1⟩:=sLn hS1
 refine fcC (inhS 2 J) (fun hS2=> ?_)
 obtain⟨hsa2,hss2,hse2⟩:=sLn hS2
 refine sq (rg (bx (key:=3) (cs:= [sl 1 rE_ x.aC,sl 1 gE x.sT]) J fun b3=>(bx (key:=4) (cs:= [sl 1 rE_ t.aC,sl 2 sE t.sT]) J fun b4=>(bx (key:=5) (cs:= [sl 1 rE_ s.aC,sl 2 sE s.sT]) J fun b5=>(ag (nl (th (sq (sq (rg (lPA J J T.agg38 J (cal0 (φs:= [agg [sl 1 rE_ x.aC,sl 1 gE x.sT]]) (φ:=bl (tinyB x)) ⟨J,tV⟩ (divv.tiny_ok x) T.ent21 (no J (mv ?_))))))))))))))
 apply gOr (t:=14) (pd:=18) rfl
 rotate_left
 ·intro hg0 fin
  have hg0':=hg0
  try simp at hg0'
  exact gy J J J hg0 (lPA J J T.agg25 J (gy J J J hg0 (cal0 (φs:= [agg [sl 1 rE_ s.aC,sl 2 sE s.sT]]) (φ:=bl (smallB s)) ⟨J,tV⟩ (divv.small_ok s) T.ent22 (gy J J J hg0 (no J (pkF J hg0 J (drp (X:= [(17,_),(16,_),(15,_)]) ⟨J,J,J,tV⟩ fin)))))))
 ·intro hg0 fin
  exact gn J J J hg0 J J (gn J J J hg0 J J (gn J J J hg0 J J (pkT J hg0 J (drp (X:= [(17,_),(16,_),(15,_)]) ⟨J,J,J,tV⟩ fin))))
 refine mv ?_
 apply gOr (t:=19) (pd:=23) rfl
 rotate_left
 ·intro hg1 fin
  have hg1':=hg1
  try simp at hg1'
  exact gy J J J hg1 (lPA J J T.agg25 J (gy J J J hg1 (cal0 (φs:= [agg [sl 1 rE_ t.aC,sl 2 sE t.sT]]) (φ:=bl (smallB t)) ⟨J,tV⟩ (divv.small_ok t) T.ent22 (gy J J J hg1 (no J (pkF J hg1 J (drp (X:= [(22,_),(21,_),(20,_)]) ⟨J,J,J,tV⟩ fin)))))))
 ·intro hg1 fin
  exact gn J J J hg1 J J (gn J J J hg1 J J (gn J J J hg1 J J (pkT J hg1 J (drp (X:= [(22,_),(21,_),(20,_)]) ⟨J,J,J,tV⟩ fin))))
 refine nl (th ?_)
 refine cd J (fun hc0=> ?_) (fun hc0=> ?_)
 ·skip
  refine sq (rg (cal0 (φs:= []) (φ:=bl true) trivial diva.awake_ok T.ent10 (ag (nl (th (rt (rt_ ?_)))))))
  exact rE () [.tmp 6] J [bl true] ⟨.tmp J,tV⟩ J trivial eX
 ·skip
  simp only [Bool.or_eq_false_iff,Bool.not_eq_false'] at hc0
  obtain⟨⟨hl1,hl2⟩,hl3⟩:=hc0
  obtain⟨hx8,hxs⟩:=tiny_few hl1
  obtain⟨hs20,hss⟩:=small_few hl2
  obtain⟨ht20,htt⟩:=small_few hl3
  have hts1:t.sT.length*s.sT.length≤20*20:=Nat.mul_le_mul O O
  have hxts:x.sT.length*(t.sT.length*s.sT.length)≤8*400:=Nat.mul_le_mul O O
  have hwe:=withX_eq x t s
  refine sk (th (sq (rg (lPA J J T.agg38 J (lPA J J T.agg25 J (lPA J J T.agg25 J (cal0 (φs:= [agg [sl 1 rE_ x.aC,sl 1 gE x.sT],agg [sl 1 rE_ t.aC,sl 2 sE t.sT],agg [sl 1 rE_ s.aC,sl 2 sE s.sT]]) (φ:=int (withX x t s)) ⟨J,J,J,tV⟩ (divv.with_ok x t s) T.ent23 (ag (nl (th (sq (rg (mv (bi J J b_eql (mv ?_)))))))))))))))
  apply gAnd (t:=31) (pd:=36) rfl
  rotate_left
  ·intro hg2 fin
   have hg2':=hg2
   try simp at hg2'
   have hwz:withX x t s=0:=by simpa using hg2
   obtain⟨hxv,htv,hsv,hxt,hts⟩:=fineX_ok (withX_ok hwz)
   have hx:=sysOK_ok hxv
   have ht:=okSpec_of htv
   have hs:=okSpec_of hsv
   have hz9:t.sT.length*s.sT.length+1≤10000:=by omega
   exact gy J J J hg2 (lPA J J T.agg38 J (gy J J J hg2 (lPA J J T.agg25 J (gy J J J hg2 (lPA J J T.agg25 J (gy J J J hg2 (cal0 (φs:= [agg [sl 1 rE_ x.aC,sl 1 gE x.sT],agg [sl 1 rE_ t.aC,sl 2 sE t.sT],agg [sl 1 rE_ s.aC,sl 2 sE s.sT]]) (φ:=bl (fitB x t s)) ⟨J,J,J,tV⟩ (divx.RefFits_ok x t s aS aS aS aS aS O) T.ent24 (pkT J hg2 J (drp (X:= [(35,_),(34,_),(33,_),(32,_)]) ⟨J,J,J,J,tV⟩ fin)))))))))
  ·intro hg2 fin
   exact gn J J J hg2 J J (gn J J J hg2 J J (gn J J J hg2 J J (gn J J J hg2 J J (pkF J hg2 J (drp (X:= [(35,_),(34,_),(33,_),(32,_)]) ⟨J,J,J,J,tV⟩ fin)))))
  refine ag (nl (th (sq ?_)))
  refine drH (nh:=13) [0,1,0,7,0,31,63,127,255,255,0,1535,4095] [(none,[3]),(none,[]),(none,[4]),(none,[]),(none,[5]),(none,[]),(none,[]),(none,[]),(none,[]),(none,[]),(some 9,[]),(some 9,[9]),(none,[])] T.mixed kR kR ?_
  refine stv (d:=38) (fun β0=>agg [sl 1 rE_ x.aC,sl 1 gE x.sT]) [3] J (fun β β' hb=>J) (fun β0 _ _ _ _ gq gh kq=>lPA (gq.1.trans J) (gh.1.trans J) T.agg38 J kq) ?_
  refine stv (d:=39) (fun β0=>agg [sl 1 rE_ x.aC,sl 1 gE x.sT]) [] J (fun β β' hb=>J) (fun β0 _ _ _ _ gq gh kq=>calW (φs:= [agg [sl 1 rE_ x.aC,sl 1 gE x.sT]]) (φ:=agg [sl 1 rE_ x.aC,sl 1 gE x.sT]) ⟨(gq.1.trans J),tV⟩ (sysw.Copy_ok x O) T.ent26 (fun N hN=>fun h=>agg_le (cs:= [fre N (sl 1 rE_ x.aC),fre N (sl 1 gE x.sT)]) (ds:= [sl 1 rE_ x.aC,sl 1 gE x.sT]) ⟨fun h=>nw_le h,fun h=>nw_le h,tV⟩ h) kq) ?_
  refine stv (d:=40) (fun β0=>agg [sl 1 rE_ t.aC,sl 2 sE t.sT]) [4] J (fun β β' hb=>J) (fun β0 _ _ _ _ gq gh kq=>lPA (gq.1.trans J) (gh.1.trans J) T.agg25 J kq) ?_
  refine stv (d:=41) (fun β0=>agg [sl 1 rE_ t.aC,sl 2 sE t.sT]) [] J (fun β β' hb=>J) (fun β0 _ _ _ _ gq gh kq=>calW (φs:= [agg [sl 1 rE_ t.aC,sl 2 sE t.sT]]) (φ:=agg [sl 1 rE_ t.aC,sl 2 sE t.sT]) ⟨(gq.1.trans J),tV⟩ (ref03.Copy_ok t O) T.ent15 (fun N hN=>fun h=>agg_le (cs:= [fre N (sl 1 rE_ t.aC),fre N (sl 2 sE t.sT)]) (ds:= [sl 1 rE_ t.aC,sl 2 sE t.sT]) ⟨fun h=>nw_le h,fun h=>nw_le h,tV⟩ h) kq) ?_
  refine stv (d:=42) (fun β0=>agg [sl 1 rE_ s.aC,sl 2 sE s.sT]) [5] J (fun β β' hb=>J) (fun β0 _ _ _ _ gq gh kq=>lPA (gq.1.trans J) (gh.1.trans J) T.agg25 J kq) ?_
  refine stv (d:=43) (fun β0=>agg [sl 1 rE_ s.aC,sl 2 sE s.sT]) [] J (fun β β' hb=>J) (fun β0 _ _ _ _ gq gh kq=>calW (φs:= [agg [sl 1 rE_ s.aC,sl 2 sE s.sT]]) (φ:=agg [sl 1 rE_ s.aC,sl 2 sE s.sT]) ⟨(gq.1.trans J),tV⟩ (ref03.Copy_ok s O) T.ent15 (fun N hN=>fun h=>agg_le (cs:= [fre N (sl 1 rE_ s.aC),fre N (sl 2 sE s.sT)]) (ds:= [sl 1 rE_ s.aC,sl 2 sE s.sT]) ⟨fun h=>nw_le h,fun h=>nw_le h,tV⟩ h) kq) ?_
  refine ste (d:=44) encV decV decV_enc (fun z=>(fineX x t s≠0→z=(false,⟨[],[]⟩))∧(fineX x t s=0→JdgOK x t s z)) (fun z=>tup [agg [bl z.1,sl 1 rE_ z.2.aC,sl 1 gE z.2.sT],int (fineX x t s)]) rfl (fun β0 _ _ _ _ gq gh kq=>cal (Hi:= []) (φs:= [agg [sl 1 rE_ x.aC,sl 1 gE x.sT],agg [sl 1 rE_ t.aC,sl 2 sE t.sT],agg [sl 1 rE_ s.aC,sl 2 sE s.sT]]) ⟨(gq.1.trans rfl),(gq.2.1.trans rfl),(gq.2.2.1.trans rfl),tV⟩ (divj.Fits_ok x t s htm hsm O) T.ent25 trivial fun N i=>kq i.1 i.2) ?_
  refine stv (d:=37) (fun β0=>whn ((fineX x t s≠0→(decV (β0 6))=(false,⟨[],[]⟩))∧(fineX x t s=0→JdgOK x t s (decV (β0 6)))) (tup [agg [bl ((decV (β0 6)).1),sl 1 rE_ ((decV (β0 6)).2.aC),sl 1 gE ((decV (β0 6)).2.sT)],int (fineX x t s)])) [] J (fun β β' hb=>by first|rw[hb 6 J]|(dsimp only;rw[hb 6 J])) (fun β0 _ _ _ _ gq gh kq=>mv' (gq.1.trans J) kq) ?_
  refine stv (d:=45) (fun β0=>agg [bl ((decV (β0 6)).1),sl 1 rE_ ((decV (β0 6)).2.aC),sl 1 gE ((decV (β0 6)).2.sT)]) [] J (fun β β' hb=>by first|rw[hb 6 J]|(dsimp only;rw[hb 6 J])) (fun β0 _ _ _ _ gq gh kq=>xtW (gq.1.trans J) J kq) ?_
  refine stv (d:=46) (fun β0=>int (fineX x t s)) [] J (fun β β' hb=>J) (fun β0 _ _ _ _ gq gh kq=>xtW (gq.1.trans J) J kq) ?_
  refine sta 9 T.z49 (eC (eC (eC eZ))) ?_
  refine stw 9 (fun β0=>cell (gbk (β0 10)) [bl ((decV (β0 6)).1),sl 1 rE_ ((decV (β0 6)).2.aC),sl 1 gE ((decV (β0 6)).2.sT)]) [9] J (fun β β' hb=>by first|rw[hb 6 J,hb 10 J]|(dsimp only;rw[hb 6 J,hb 10 J])) (fun β0 _ _ _ _ gq gh kq=>sPA (cs':= [bl ((decV (β0 6)).1),sl 1 rE_ ((decV (β0 6)).2.aC),sl 1 gE ((decV (β0 6)).2.sT)]) (gq.1.trans J) (gh.1.trans J) (gq.2.1.trans J) T.agg49 J J kq) ?_
  refine stv (d:=10) (fun β0=>int (fineX x t s)) [] J (fun β β' hb=>J) (fun β0 _ _ _ _ gq gh kq=>ag' (gq.1.trans J) kq) ?_
  refine pnH fun β0=>(nl (th (sq (bk (sq (whXC 44 J fun hm44=>(rg (mv (bi J J b_neq (ag (nl (th ?_))))))))))))
  refine cd J (fun hc1=> ?_) (fun hc1=> ?_)
  ·skip
   have hfn:fineX x t s≠0:=by rw[←hwe];simpa using hc1
   have hno:=hm44.1 hfn
   have hn0:noneM ⟨[],[]⟩=true:=rfl
   refine sq (rg (mv (mv (bi J J b_eql (mv ?_)))))
   apply gAnd (t:=53) (pd:=57) rfl
   rotate_left
   ·intro hg3 fin
    have hg3':=hg3
    try simp at hg3'
    exact gy J J J hg3 (fP J T.fld49_0 (gy J J J hg3 (lP J J J T.one4 (gy J J J hg3 (no J (pkT J hg3 J (drp (X:= [(56,_),(55,_),(54,_)]) ⟨J,J,J,tV⟩ fin)))))))
   ·intro hg3 fin
    exact gn J J J hg3 J J (gn J J J hg3 J J (gn J J J hg3 J J (pkF J hg3 J (drp (X:= [(56,_),(55,_),(54,_)]) ⟨J,J,J,tV⟩ fin))))
   refine mv ?_
   apply gAnd (t:=58) (pd:=62) rfl
   rotate_left
   ·intro hg4 fin
    have hg4':=hg4
    try simp at hg4'
    exact gy J J J hg4 (fP J T.fld49_1 (gy J J J hg4 (lPA J J T.agg38 J (gy J J J hg4 (cal0 (φs:= [agg [sl 1 rE_ ((decV (β0 6)).2.aC),sl 1 gE ((decV (β0 6)).2.sT)]]) (φ:=bl (noneM ((decV (β0 6)).2))) ⟨J,tV⟩ (divs.NoneM_ok ((decV (β0 6)).2)) T.ent19 (pkT J hg4 J (drp (X:= [(61,_),(60,_),(59,_)]) ⟨J,J,J,tV⟩ fin)))))))
   ·intro hg4 fin
    exact gn J J J hg4 J J (gn J J J hg4 J J (gn J J J hg4 J J (pkF J hg4 J (drp (X:= [(61,_),(60,_),(59,_)]) ⟨J,J,J,tV⟩ fin))))
   refine mv ?_
   apply gAnd (t:=63) (pd:=65) rfl
   rotate_left
   ·intro hg5 fin
    have hg5':=hg5
    try simp at hg5'
    exact gy J J J hg5 (cal0 (φs:= []) (φ:=bl true) trivial diva.awake_ok T.ent10 (pkT J hg5 J (drp (X:= [(64,_)]) ⟨J,tV⟩ fin)))
   ·intro hg5 fin
    exact gn J J J hg5 J J (pkF J hg5 J (drp (X:= [(64,_)]) ⟨J,tV⟩ fin))
   refine ag (nl (th (rt (rb (rt_ ?_)))))
   have hr0:((((decide ((fineX x t s)=(withX x t s)))&&(!((decV (β0 6)).1)))&&(noneM ((decV (β0 6)).2)))&&true)=true:=by
    first|rfl|simp_all|omega
   exact rE () [.tmp 6] J [bl ((((decide ((fineX x t s)=(withX x t s)))&&(!((decV (β0 6)).1)))&&(noneM ((decV (β0 6)).2)))&&true)] ⟨.tmp J,tV⟩ (cA1 (fun x0=>rV [bl x0]) hr0) trivial eX
  ·skip
   have hwz:withX x t s=0:=by simpa using hc1
   have hfz:fineX x t s=0:=hwe▸hwz
   obtain⟨hxv,htv,hsv,hxt,hts⟩:=fineX_ok hfz
   have hx:=sysOK_ok hxv
   have ht:=okSpec_of htv
   have hs:=okSpec_of hsv
   have hJ:=hm44.2 hfz
   have hjf:=jdg_fit hJ
   have hn0:noneM ⟨[],[]⟩=true:=rfl
   have hJy:fitB x t s=true→(decV (β0 6)).2=⟨[],[]⟩:=fun h=>(hJ.yes (hjf.trans h)).1
   have hJp:fitB x t s=false→partnerB (decV (β0 6)).2 x t s=true:=fun h=>part_partner hx ht hs hts hxt O hJ (hjf.trans h)
   have hzp:sysOK (decV (β0 6)).2=true→(decV (β0 6)).2.sT.length*x.sT.length*t.sT.length≤1000000000:=fun h=>by
    have h1:=(sysOK_ok h).few1
    have h2:(decV (β0 6)).2.sT.length*x.sT.length≤10000*8:=Nat.mul_le_mul h1 hx8
    have h3:(decV (β0 6)).2.sT.length*x.sT.length*t.sT.length≤80000*20:=Nat.mul_le_mul h2 ht20
    omega
   refine sq (rg (mv (bi J J b_eql (ag (nl (th ?_))))))
   refine cd J (fun hc2=> ?_) (fun hc2=> ?_)
   ·skip
    refine sq (rg (lPA J J T.agg25 J (lPA J J T.agg25 J (cal0 (φs:= [agg [sl 1 rE_ t.aC,sl 2 sE t.sT],agg [sl 1 rE_ s.aC,sl 2 sE s.sT]]) (φ:=bl (largeB t s)) ⟨J,J,tV⟩ (divs.large_ok t s O O) T.ent18 (mv ?_)))))
    apply gAnd (t:=72) (pd:=76) rfl
    rotate_left
    ·intro hg6 fin
     have hg6':=hg6
     try simp at hg6'
     exact gy J J J hg6 (fP J T.fld49_0 (gy J J J hg6 (lP J J J T.one4 (gy J J J hg6 (no J (pkT J hg6 J (drp (X:= [(75,_),(74,_),(73,_)]) ⟨J,J,J,tV⟩ fin)))))))
    ·intro hg6 fin
     exact gn J J J hg6 J J (gn J J J hg6 J J (gn J J J hg6 J J (pkF J hg6 J (drp (X:= [(75,_),(74,_),(73,_)]) ⟨J,J,J,tV⟩ fin))))
    refine mv ?_
    apply gAnd (t:=77) (pd:=81) rfl
    rotate_left
    ·intro hg7 fin
     have hg7':=hg7
     try simp at hg7'
     exact gy J J J hg7 (fP J T.fld49_1 (gy J J J hg7 (lPA J J T.agg38 J (gy J J J hg7 (cal0 (φs:= [agg [sl 1 rE_ ((decV (β0 6)).2.aC),sl 1 gE ((decV (β0 6)).2.sT)]]) (φ:=bl (noneM ((decV (β0 6)).2))) ⟨J,tV⟩ (divs.NoneM_ok ((decV (β0 6)).2)) T.ent19 (pkT J hg7 J (drp (X:= [(80,_),(79,_),(78,_)]) ⟨J,J,J,tV⟩ fin)))))))
    ·intro hg7 fin
     exact gn J J J hg7 J J (gn J J J hg7 J J (gn J J J hg7 J J (pkF J hg7 J (drp (X:= [(80,_),(79,_),(78,_)]) ⟨J,J,J,tV⟩ fin))))
    refine mv ?_
    apply gAnd (t:=82) (pd:=84) rfl
    rotate_left
    ·intro hg8 fin
     have hg8':=hg8
     try simp at hg8'
     exact gy J J J hg8 (cal0 (φs:= []) (φ:=bl true) trivial diva.awake_ok T.ent10 (pkT J hg8 J (drp (X:= [(83,_)]) ⟨J,tV⟩ fin)))
    ·intro hg8 fin
     exact gn J J J hg8 J J (pkF J hg8 J (drp (X:= [(83,_)]) ⟨J,tV⟩ fin))
    refine ag (nl (th (rt (rb (rt_ ?_)))))
    have hr0:((((largeB t s)&&(!((decV (β0 6)).1)))&&(noneM ((decV (β0 6)).2)))&&true)=true:=by
     first|rfl|simp_all|omega
    exact rE () [.tmp 6] J [bl ((((largeB t s)&&(!((decV (β0 6)).1)))&&(noneM ((decV (β0 6)).2)))&&true)] ⟨.tmp J,tV⟩ (cA1 (fun x0=>rV [bl x0]) hr0) trivial eX
   ·skip
    refine sq (rg (mv (ag (nl (th ?_)))))
    refine cd J (fun hc3=> ?_) (fun hc3=> ?_)
    ·skip
     refine sq (rg (mv (bi J J b_eql (mv ?_))))
     apply gAnd (t:=89) (pd:=92) rfl
     rotate_left
     ·intro hg9 fin
      have hg9':=hg9
      try simp at hg9'
      exact gy J J J hg9 (fP J T.fld49_0 (gy J J J hg9 (lP J J J T.one4 (pkT J hg9 J (drp (X:= [(91,_),(90,_)]) ⟨J,J,tV⟩ fin)))))
     ·intro hg9 fin
      exact gn J J J hg9 J J (gn J J J hg9 J J (pkF J hg9 J (drp (X:= [(91,_),(90,_)]) ⟨J,J,tV⟩ fin)))
     refine mv ?_
     apply gAnd (t:=93) (pd:=97) rfl
     rotate_left
     ·intro hg10 fin
      have hg10':=hg10
      try simp at hg10'
      exact gy J J J hg10 (fP J T.fld49_1 (gy J J J hg10 (lPA J J T.agg38 J (gy J J J hg10 (cal0 (φs:= [agg [sl 1 rE_ ((decV (β0 6)).2.aC),sl 1 gE ((decV (β0 6)).2.sT)]]) (φ:=bl (noneM ((decV (β0 6)).2))) ⟨J,tV⟩ (divs.NoneM_ok ((decV (β0 6)).2)) T.ent19 (pkT J hg10 J (drp (X:= [(96,_),(95,_),(94,_)]) ⟨J,J,J,tV⟩ fin)))))))
     ·intro hg10 fin
      exact gn J J J hg10 J J (gn J J J hg10 J J (gn J J J hg10 J J (pkF J hg10 J (drp (X:= [(96,_),(95,_),(94,_)]) ⟨J,J,J,tV⟩ fin))))
     refine mv ?_
     apply gAnd (t:=98) (pd:=100) rfl
     rotate_left
     ·intro hg11 fin
      have hg11':=hg11
      try simp at hg11'
      exact gy J J J hg11 (cal0 (φs:= []) (φ:=bl true) trivial diva.awake_ok T.ent10 (pkT J hg11 J (drp (X:= [(99,_)]) ⟨J,tV⟩ fin)))
     ·intro hg11 fin
      exact gn J J J hg11 J J (pkF J hg11 J (drp (X:= [(99,_)]) ⟨J,tV⟩ fin))
     refine ag (nl (th (rt (rb (rt_ ?_)))))
     have hr0:((((decide ((fineX x t s)=0))&&((decV (β0 6)).1))&&(noneM ((decV (β0 6)).2)))&&true)=true:=by
      first|rfl|simp_all|omega
     exact rE () [.tmp 6] J [bl ((((decide ((fineX x t s)=0))&&((decV (β0 6)).1))&&(noneM ((decV (β0 6)).2)))&&true)] ⟨.tmp J,tV⟩ (cA1 (fun x0=>rV [bl x0]) hr0) trivial eX
    ·skip
     refine sk (eb (th (sq (rg (mv (bi J J b_eql (mv ?_)))))))
     apply gAnd (t:=103) (pd:=107) rfl
     rotate_left
     ·intro hg12 fin
      have hg12':=hg12
      try simp at hg12'
      exact gy J J J hg12 (fP J T.fld49_0 (gy J J J hg12 (lP J J J T.one4 (gy J J J hg12 (no J (pkT J hg12 J (drp (X:= [(106,_),(105,_),(104,_)]) ⟨J,J,J,tV⟩ fin)))))))
     ·intro hg12 fin
      exact gn J J J hg12 J J (gn J J J hg12 J J (gn J J J hg12 J J (pkF J hg12 J (drp (X:= [(106,_),(105,_),(104,_)]) ⟨J,J,J,tV⟩ fin))))
     refine mv ?_
     apply gAnd (t:=108) (pd:=115) rfl
     rotate_left
     ·intro hg13 fin
      have hg13':=hg13
      try simp at hg13'
      exact gy J J J hg13 (fP J T.fld49_1 (gy J J J hg13 (lPA J J T.agg38 J (gy J J J hg13 (lPA J J T.agg38 J (gy J J J hg13 (lPA J J T.agg25 J (gy J J J hg13 (lPA J J T.agg25 J (gy J J J hg13 (cal0 (φs:= [agg [sl 1 rE_ ((decV (β0 6)).2.aC),sl 1 gE ((decV (β0 6)).2.sT)],agg [sl 1 rE_ x.aC,sl 1 gE x.sT],agg [sl 1 rE_ t.aC,sl 2 sE t.sT],agg [sl 1 rE_ s.aC,sl 2 sE s.sT]]) (φ:=bl (partnerB ((decV (β0 6)).2) x t s)) ⟨J,J,J,J,tV⟩ (divx.partner_ok ((decV (β0 6)).2) x t s aS aS aS aS) T.ent27 (pkT J hg13 J (drp (X:= [(114,_),(113,_),(112,_),(111,_),(110,_),(109,_)]) ⟨J,J,J,J,J,J,tV⟩ fin)))))))))))))
     ·intro hg13 fin
      exact gn J J J hg13 J J (gn J J J hg13 J J (gn J J J hg13 J J (gn J J J hg13 J J (gn J J J hg13 J J (gn J J J hg13 J J (pkF J hg13 J (drp (X:= [(114,_),(113,_),(112,_),(111,_),(110,_),(109,_)]) ⟨J,J,J,J,J,J,tV⟩ fin)))))))
     refine mv ?_
     apply gAnd (t:=116) (pd:=118) rfl
     rotate_left
     ·intro hg14 fin
      have hg14':=hg14
      try simp at hg14'
      exact gy J J J hg14 (cal0 (φs:= []) (φ:=bl true) trivial diva.awake_ok T.ent10 (pkT J hg14 J (drp (X:= [(117,_)]) ⟨J,tV⟩ fin)))
     ·intro hg14 fin
      exact gn J J J hg14 J J (pkF J hg14 J (drp (X:= [(117,_)]) ⟨J,tV⟩ fin))
     refine ag (nl (th (rt ?_)))
     have hr0:((((decide ((fineX x t s)=0))&&(!((decV (β0 6)).1)))&&(partnerB ((decV (β0 6)).2) x t s))&&true)=true:=by
      first|rfl|simp_all|omega
     exact rE () [.tmp 6] J [bl ((((decide ((fineX x t s)=0))&&(!((decV (β0 6)).1)))&&(partnerB ((decV (β0 6)).2) x t s))&&true)] ⟨.tmp J,tV⟩ (cA1 (fun x0=>rV [bl x0]) hr0) trivial eX
end divx
end
end Go.Proofs.YtcjemmihcplgdaaGreat
