/- The walks of the functions and the plain laws. Own texts of this claim, packed: Zzdivy. -/
import Derived.Test.YtcjemmihcplgdaaGreatMX24
set_option linter.all false
namespace Go.Proofs.YtcjemmihcplgdaaGreat
open AL Go
set_option maxRecDepth 100000
section
open ValidM ref01 ref03 ref04 ref06 prog prog2 prog3 prog6 prog13 starts Part Rungs LeftM TrimM RoundM MergeM BisM BisM4 BisM5 BisM6 WalkM StepM WitM JudgM JudgM2 refw judg wit refj sysw divr divs divd dive divg divw divv divf divc divj divq divp divm diva LevM LevM2 ChsM TrimI QuoM FailM DivM QuoW RefM FitM PartM EncM EncM2 TogM divt divx BrkM satj divb ProdM prodw
theorem sat_in_trim {m:SSys} {s:SS} (hs:oK s) (h:SatM m s):SatM m (tR s).1:=by
 unfold SatM at h ⊢
 rw[sat_solid hs (off_ok m)] at h
 rw[sat_solid (trim_ok hs) (off_ok m)]
 exact sat_sim h (sim_trim hs).symm
theorem sat_not0 {m:SSys} {s:SS} (hs:oK s) (h:SatM m s):ix (hOl s) 0=false:=by
 obtain⟨R,hR,h0⟩:=h
 exact sat_not hs (off_ok m) hR h0
theorem andI_comm (a b:Int):andI a b=andI b a:=by unfold andI;rw[Nat.and_comm]
theorem means_ok {m x:SSys} {t s:SS} (hs:oK s) (hf:fitB x t s=true) (hsat:SatM m s):WellT m x t:=by
 have h0:=sat_not0 hs hsat
 have hw:Well3 x t (tR s).1:=(fitB_iff.1 hf).resolve_left (by simp[h0])
 obtain⟨R,hR,hR0⟩:=sat_in_trim hs hsat
 generalize (tR s).1=T at*
 intro p hp
 have key:∃z:Nat,R p.1.toNat z∧Rch3 x t T (p.2.1,p.2.2,(z:Int)):=by
  induction hp with
  |zero=>exact⟨0,hR0,.zero⟩
  |step h1 h2 hd he hde ih=>
   rename_i p d e
   obtain⟨z,hr,h3⟩:=ih
   have hn:=hR.nxt hr (d.1.toNat,d.2.toNat) (List.mem_map.2 ⟨d,hd,rfl⟩)
   have hn1:0≤ix (nxt T z) d.1.toNat:=hn.1
   refine⟨(ix (nxt T z) d.1.toNat).toNat,hn.2,?_⟩
   have:=Rch3.step h3 (hw _ h3) he (by show 0≤ix (nxt T (z:Int).toNat) e.1.toNat;rw[Int.toNat_natCast,←hde];exact hn1)
   have e2:nx3 t T (p.2.1,p.2.2,(z:Int)) e=(e.2,ix (nxt t p.2.2.toNat) d.1.toNat,((ix (nxt T z) d.1.toNat).toNat:Int)):=by
    unfold nx3
    dsimp only
    rw[Int.toNat_natCast,←hde,Int.toNat_of_nonneg hn1]
   rw[e2] at this
   exact this
 obtain⟨z,hr,h3⟩:=key
 intro hb
 refine hw _ h3 ⟨offM m p.1.toNat,?_,?_⟩
 ·show offM m _∈acc T (z:Int).toNat
  rw[Int.toNat_natCast];exact hR.acc hr
 ·show andI (offM x p.2.1.toNat) (offM m p.1.toNat)∉acc t p.2.2.toNat
  rw[andI_comm];exact hb
theorem refq_ex {t s:SS} (ht:oK t) (hs:oK s) (hts:t.aC=s.aC):∃D,RefQ t s D:=by
 cases e:ix (hOl s) 0 with
 |true=>exact⟨everyS t.aC,rfl,fun _=>rfl,fun h=>by rw[e] at h;cases h⟩
 |false=>exact⟨quoD t (tR s).1,rfl,fun h=>(by rw[e] at h;cases h),fun _=>⟨qL t (tR s).1,q_numb ht (trim_ok hs) (trim_used hs) (by rw[trim_acts,hts]),ql_len ht hs (by rw[hts])⟩⟩
theorem div_quo {t s:SS} (hf:fineE t s=0) (h:(divS t s).2=0):(quoS t s).2=true∧(divS t s).1=(quoS t s).1:=by
 cases e:(quoS t s).2 with
 |true=>exact⟨rfl,by unfold divS;rw[if_pos hf,if_pos e]⟩
 |false=>
  have e2:divS t s=(⟨[],[]⟩,2):=by unfold divS;rw[if_pos hf,if_neg (by simp[e])]
  rw[e2] at h;cases h
theorem sat_div {x:SSys} {t s:SS} (hx:okSys x) (ht:oK t) (hs:oK s) (hts:t.aC=s.aC) (hxt:x.aC=t.aC) (hz:t.sT.length*s.sT.length+1≤10000) (hq:(quoS t s).2=true):
 satD x (quoS t s).1=fitB x t s∧specOK (quoS t s).1=true∧(quoS t s).1.aC=t.aC:=by
 obtain⟨D,hD⟩:=refq_ex ht hs hts
 have hS:=quo_same ht hs hts hD hz hq
 refine⟨?_,specOK_of hS.ok hS.few,hS.acts.trans hD.acts⟩
 rw[←sat_fit hx ht hs hts hxt hD,Bool.eq_iff_iff,satD_iff,satD_iff]
 exact sat_same hS (refq_ok ht hD hz)
theorem size_ok {s:SS} (hs:oK s):size s≤8+10000+s.sT.length*264:=by
 have h8:=hs.n8
 have h1:=hs.few1
 have h0:part s 0≤8+10000:=by unfold part;simp;omega
 have key:∀k,k≤s.sT.length→part s k≤8+10000+k*264:=by
  intro k
  induction k with
  |zero=>intro _;omega
  |succ k ih=>
   intro hk
   have h2:=(hs.st k O).len
   have h3:=(hs.st k O).acl
   have h4:=ih O
   rw[part_succ O,Nat.add_mul]
   omega
 exact key _ (Nat.le_refl _)
theorem sizeM_ok {m:SSys} (h:sysOK m=true):sizeM m≤500000:=by
 have h1:=sysOK_ok h
 have h2:=h1.n8
 have h3:=h1.few1
 unfold sysOK at h
 simp only [Bool.and_eq_true,decide_eq_true_eq] at h
 have h4:=h.2
 unfold sizeM
 omega
theorem satok_D {m:SSys} {s:SS} {v:VJ} (hv:sysOK m=true) (hs:specOK s=true) (ha:m.aC=s.aC) (h:SatOK m s v):fineSE m s=0∧v.holds=satD m s:=by
 have e:fineSE m s=0:=by unfold fineSE;rw[if_pos hv,if_pos hs,if_pos ha]
 exact⟨e,sat_judge (h.ok e)⟩
theorem togD_eq {m x k:SSys} {t:SS} {q:List (Int × Int)} (hm:okSys m) (hx:okSys x) (ht:oK t) (h:ProdOK m x k q):satD k t=togB m x t:=by
 rw[Bool.eq_iff_iff,satD_iff,togB_iff]
 exact prod_sat hm hx ht h
theorem means_c {f g h i:Int} {a b c d:Bool} {j:Int} (hf:f=0) (hg:g=0) (hh:h=0) (hi:i=0) (hj:j=0) (hb:a=true→b=true→c=true) (hd:d=a):(((((decide (f≠0)||decide (g≠0))||decide (h≠0))||decide (i≠0))||((a&&b)&& !c))||(decide (j=0)&&(d !=a)))=false:=by
 subst hf hg hh hi hj hd
 cases d<;>cases b<;>cases c<;>simp_all
namespace T
theorem arr54:Tryz.prog.underlying 54=some (.array 2 25):=by kernel_rfl
theorem ent21:Ent Tryz.prog 21:=ent_of kR
theorem ent22:Ent Tryz.prog 22:=ent_of kR
theorem ent23:Ent Tryz.prog 23:=ent_of kR
theorem ent10:Ent Tryz.prog 10:=ent_of kR
theorem ent15:Ent Tryz.prog 15:=ent_of kR
theorem ent26:Ent Tryz.prog 26:=ent_of kR
theorem ent36:Ent Tryz.prog 36:=ent_of kR
theorem ent37:Ent Tryz.prog 37:=ent_of kR
theorem fld65_0:FieldAt Tryz.prog 65 0 0:=fieldAt_of kR
theorem bool4:Tryz.prog.underlying 4=some .bool:=by kernel_rfl
theorem ent31:Ent Tryz.prog 31:=ent_of kR
end T
namespace divy
theorem DivideMeans_ok (x m:SSys) (t:SS) (htm:smallSpec t) (s:SS) (hsm:smallSpec s):
 Fn0 Tryz.prog 8 [sys x,sys m,agg [strs t.aC,sl 2 sE t.sT,strs s.aC,sl 2 sE s.sT]] (bl true):=by
 refine fnI Tryz.func8 rfl rfl (fun w0 F0=> ?_)
 refine fcC (inhS 0 J) (fun hS0=> ?_)
 obtain⟨hma0,hms0,hme0⟩:=sys_lens hS0
 refine fcC (inhS 1 J) (fun hS1=> ?_)
 obtain⟨hma1,hms1,hme1⟩:=sys_lens hS1
 refine sq (rg (bx (key:=3) (cs:= [sl 1 rE_ x.aC,sl 1 gE x.sT]) J fun b3=>(bx (key:=4) (cs:= [sl 1 rE_ m.aC,sl 1 gE m.sT]) J fun b4=>(bx (key:=5) (cs:= [sl 1 rE_ t.aC,sl 2 sE t.sT,sl 1 rE_ s.aC,sl 2 sE s.sT]) J fun b5=>(ag (nl (th (sq ?_))))))))
 refine drH (nh:=8) [0,1,0,4,0,0,51,127] [(none,[]),(none,[5]),(none,[]),(none,[5]),(some 7,[]),(some 8,[]),(some 7,[7]),(some 8,[8])] T.mixed kR kR ?_
 refine stv (d:=24) (fun β0=>ptr 5 b5 0) [] J (fun β β' hb=>J) (fun β0 _ _ _ _ gq gh kq=>iPAn (gq.1.trans J) J T.arr54 T.agg25 J kq) ?_
 refine stv (d:=25) (fun β0=>agg [sl 1 rE_ t.aC,sl 2 sE t.sT]) [5] J (fun β β' hb=>J) (fun β0 _ _ _ _ gq gh kq=>lPA (gq.1.trans J) (gh.1.trans J) T.agg25 J kq) ?_
 refine stv (d:=26) (fun β0=>ptr 5 b5 2) [] J (fun β β' hb=>J) (fun β0 _ _ _ _ gq gh kq=>iPAn (gq.1.trans J) J T.arr54 T.agg25 J kq) ?_
 refine stv (d:=27) (fun β0=>agg [sl 1 rE_ s.aC,sl 2 sE s.sT]) [5] J (fun β β' hb=>J) (fun β0 _ _ _ _ gq gh kq=>lPA (gq.1.trans J) (gh.1.trans J) T.agg25 J kq) ?_
 refine sta 7 T.z25 (eC (eC eZ)) ?_
 refine sta 8 T.z25 (eC (eC eZ)) ?_
 refine stw 7 (fun β0=>cell (gbk (β0 4)) [sl 1 rE_ t.aC,sl 2 sE t.sT]) [7] J (fun β β' hb=>by first|rw[hb 4 J]|(dsimp only;rw[hb 4 J])) (fun β0 _ _ _ _ gq gh kq=>sPA (cs':= [sl 1 rE_ t.aC,sl 2 sE t.sT]) (gq.1.trans J) (gh.1.trans J) (gq.2.1.trans J) T.agg25 J J kq) ?_
 refine stw 8 (fun β0=>cell (gbk (β0 5)) [sl 1 rE_ s.aC,sl 2 sE s.sT]) [8] J (fun β β' hb=>by first|rw[hb 5 J]|(dsimp only;rw[hb 5 J])) (fun β0 _ _ _ _ gq gh kq=>sPA (cs':= [sl 1 rE_ s.aC,sl 2 sE s.sT]) (gq.1.trans J) (gh.1.trans J) (gq.2.1.trans J) T.agg25 J J kq) ?_
 refine pnH fun β0=>(nl (th (sq (sq (rg (lPA J J T.agg38 J (cal0 (φs:= [agg [sl 1 rE_ x.aC,sl 1 gE x.sT]]) (φ:=bl (tinyB x)) ⟨J,tV⟩ (divv.tiny_ok x) T.ent21 (no J (mv ?_)))))))))
 apply gOr (t:=31) (pd:=35) rfl
 rotate_left
 ·intro hg0 fin
  have hg0':=hg0
  try simp at hg0'
  exact gy J J J hg0 (lPA J J T.agg38 J (gy J J J hg0 (cal0 (φs:= [agg [sl 1 rE_ m.aC,sl 1 gE m.sT]]) (φ:=bl (tinyB m)) ⟨J,tV⟩ (divv.tiny_ok m) T.ent21 (gy J J J hg0 (no J (pkF J hg0 J (drp (X:= [(34,_),(33,_),(32,_)]) ⟨J,J,J,tV⟩ fin)))))))
 ·intro hg0 fin
  exact gn J J J hg0 J J (gn J J J hg0 J J (gn J J J hg0 J J (pkT J hg0 J (drp (X:= [(34,_),(33,_),(32,_)]) ⟨J,J,J,tV⟩ fin))))
 refine mv ?_
 apply gOr (t:=36) (pd:=40) rfl
 rotate_left
 ·intro hg1 fin
  have hg1':=hg1
  try simp at hg1'
  exact gy J J J hg1 (lPA J J T.agg25 J (gy J J J hg1 (cal0 (φs:= [agg [sl 1 rE_ s.aC,sl 2 sE s.sT]]) (φ:=bl (smallB s)) ⟨J,tV⟩ (divv.small_ok s) T.ent22 (gy J J J hg1 (no J (pkF J hg1 J (drp (X:= [(39,_),(38,_),(37,_)]) ⟨J,J,J,tV⟩ fin)))))))
 ·intro hg1 fin
  exact gn J J J hg1 J J (gn J J J hg1 J J (gn J J J hg1 J J (pkT J hg1 J (drp (X:= [(39,_),(38,_),(37,_)]) ⟨J,J,J,tV⟩ fin))))
 refine mv ?_
 apply gOr (t:=41) (pd:=45) rfl
 rotate_left
 ·intro hg2 fin
  have hg2':=hg2
  try simp at hg2'
  exact gy J J J hg2 (lPA J J T.agg25 J (gy J J J hg2 (cal0 (φs:= [agg [sl 1 rE_ t.aC,sl 2 sE t.sT]]) (φ:=bl (smallB t)) ⟨J,tV⟩ (divv.small_ok t) T.ent22 (gy J J J hg2 (no J (pkF J hg2 J (drp (X:= [(44,_),(43,_),(42,_)]) ⟨J,J,J,tV⟩ fin)))))))
 ·intro hg2 fin
  exact gn J J J hg2 J J (gn J J J hg2 J J (gn J J J hg2 J J (pkT J hg2 J (drp (X:= [(44,_),(43,_),(42,_)]) ⟨J,J,J,tV⟩ fin))))
 refine mv ?_
 apply gOr (t:=46) (pd:=52) rfl
 rotate_left
 ·intro hg3 fin
  have hg3':=hg3
  try simp at hg3'
  exact gy J J J hg3 (lPA J J T.agg38 J (gy J J J hg3 (lPA J J T.agg25 J (gy J J J hg3 (lPA J J T.agg25 J (gy J J J hg3 (cal0 (φs:= [agg [sl 1 rE_ x.aC,sl 1 gE x.sT],agg [sl 1 rE_ t.aC,sl 2 sE t.sT],agg [sl 1 rE_ s.aC,sl 2 sE s.sT]]) (φ:=int (withX x t s)) ⟨J,J,J,tV⟩ (divv.with_ok x t s) T.ent23 (gy J J J hg3 (bi J J b_neq (pkF J hg3 J (drp (X:= [(51,_),(50,_),(49,_),(48,_),(47,_)]) ⟨J,J,J,J,J,tV⟩ fin)))))))))))
 ·intro hg3 fin
  exact gn J J J hg3 J J (gn J J J hg3 J J (gn J J J hg3 J J (gn J J J hg3 J J (gn J J J hg3 J J (pkT J hg3 J (drp (X:= [(51,_),(50,_),(49,_),(48,_),(47,_)]) ⟨J,J,J,J,J,tV⟩ fin))))))
 refine mv ?_
 apply gOr (t:=53) (pd:=59) rfl
 rotate_left
 ·intro hg4 fin
  have hg4':=hg4
  try simp at hg4'
  exact gy J J J hg4 (lPA J J T.agg38 J (gy J J J hg4 (lPA J J T.agg25 J (gy J J J hg4 (lPA J J T.agg25 J (gy J J J hg4 (cal0 (φs:= [agg [sl 1 rE_ m.aC,sl 1 gE m.sT],agg [sl 1 rE_ t.aC,sl 2 sE t.sT],agg [sl 1 rE_ s.aC,sl 2 sE s.sT]]) (φ:=int (withX m t s)) ⟨J,J,J,tV⟩ (divv.with_ok m t s) T.ent23 (gy J J J hg4 (bi J J b_neq (pkF J hg4 J (drp (X:= [(58,_),(57,_),(56,_),(55,_),(54,_)]) ⟨J,J,J,J,J,tV⟩ fin)))))))))))
 ·intro hg4 fin
  exact gn J J J hg4 J J (gn J J J hg4 J J (gn J J J hg4 J J (gn J J J hg4 J J (gn J J J hg4 J J (pkT J hg4 J (drp (X:= [(58,_),(57,_),(56,_),(55,_),(54,_)]) ⟨J,J,J,J,J,tV⟩ fin))))))
 refine nl (th ?_)
 refine cd J (fun hc0=> ?_) (fun hc0=> ?_)
 ·skip
  refine sq (rg (cal0 (φs:= []) (φ:=bl true) trivial diva.awake_ok T.ent10 (ag (nl (th (rt (rt_ ?_)))))))
  exact rE () [.tmp 6] J [bl true] ⟨.tmp J,tV⟩ J trivial eX
 ·skip
  simp only [Bool.or_eq_false_iff,Bool.not_eq_false'] at hc0
  obtain⟨⟨⟨⟨⟨hl1,hl2⟩,hl3⟩,hl4⟩,hl5⟩,hl6⟩:=hc0
  obtain⟨hx8,hxs⟩:=tiny_few hl1
  obtain⟨hm8,hms0⟩:=tiny_few hl2
  obtain⟨hs20,hss⟩:=small_few hl3
  obtain⟨ht20,htt⟩:=small_few hl4
  have hts1:t.sT.length*s.sT.length≤20*20:=Nat.mul_le_mul O O
  have hxts:x.sT.length*(t.sT.length*s.sT.length)≤8*400:=Nat.mul_le_mul O O
  have hmx:m.sT.length*x.sT.length≤8*8:=Nat.mul_le_mul hm8 hx8
  have hsl1:sumLen x.sT≤300:=by unfold sizeM at hxs;omega
  have hsl2:sumLen m.sT≤300:=by unfold sizeM at hms0;omega
  have hsl:sumLen m.sT*sumLen x.sT≤300*300:=Nat.mul_le_mul hsl2 hsl1
  have hfz:fineX x t s=0:=by rw[←withX_eq];simpa using hl5
  have hfm:fineX m t s=0:=by rw[←withX_eq];simpa using hl6
  obtain⟨hxv,htv,hsv,hxt,hts⟩:=fineX_ok hfz
  obtain⟨hmv,_,_,hmt,_⟩:=fineX_ok hfm
  have hx:=sysOK_ok hxv
  have hm:=sysOK_ok hmv
  have ht:=okSpec_of htv
  have hs:=okSpec_of hsv
  have hms:m.aC=s.aC:=hmt.trans hts
  have hfe:fineE t s=0:=by show bothE t s=0;unfold bothE;rw[if_pos ⟨htv,hsv⟩,if_pos hts]
  refine sk (th (sq ?_))
  refine drH (nh:=11) [0,1,0,7,15,31,63,63,0,383,1023] [(none,[7]),(none,[]),(none,[8]),(none,[]),(none,[]),(none,[]),(none,[]),(none,[]),(some 9,[]),(some 9,[9]),(none,[])] T.mixed kR kR ?_
  refine stv (d:=62) (fun β1=>agg [sl 1 rE_ t.aC,sl 2 sE t.sT]) [7] J (fun β β' hb=>J) (fun β1 _ _ _ _ gq gh kq=>lPA (gq.1.trans J) (gh.1.trans J) T.agg25 J kq) ?_
  refine stv (d:=63) (fun β1=>agg [sl 1 rE_ t.aC,sl 2 sE t.sT]) [] J (fun β β' hb=>J) (fun β1 _ _ _ _ gq gh kq=>calW (φs:= [agg [sl 1 rE_ t.aC,sl 2 sE t.sT]]) (φ:=agg [sl 1 rE_ t.aC,sl 2 sE t.sT]) ⟨(gq.1.trans J),tV⟩ (ref03.Copy_ok t O) T.ent15 (fun N hN=>fun h=>agg_le (cs:= [fre N (sl 1 rE_ t.aC),fre N (sl 2 sE t.sT)]) (ds:= [sl 1 rE_ t.aC,sl 2 sE t.sT]) ⟨fun h=>nw_le h,fun h=>nw_le h,tV⟩ h) kq) ?_
  refine stv (d:=64) (fun β1=>agg [sl 1 rE_ s.aC,sl 2 sE s.sT]) [8] J (fun β β' hb=>J) (fun β1 _ _ _ _ gq gh kq=>lPA (gq.1.trans J) (gh.1.trans J) T.agg25 J kq) ?_
  refine stv (d:=65) (fun β1=>agg [sl 1 rE_ s.aC,sl 2 sE s.sT]) [] J (fun β β' hb=>J) (fun β1 _ _ _ _ gq gh kq=>calW (φs:= [agg [sl 1 rE_ s.aC,sl 2 sE s.sT]]) (φ:=agg [sl 1 rE_ s.aC,sl 2 sE s.sT]) ⟨(gq.1.trans J),tV⟩ (ref03.Copy_ok s O) T.ent15 (fun N hN=>fun h=>agg_le (cs:= [fre N (sl 1 rE_ s.aC),fre N (sl 2 sE s.sT)]) (ds:= [sl 1 rE_ s.aC,sl 2 sE s.sT]) ⟨fun h=>nw_le h,fun h=>nw_le h,tV⟩ h) kq) ?_
  refine stv (d:=66) (fun β1=>tup [agg [sl 1 rE_ ((divS t s).1).aC,sl 2 sE ((divS t s).1).sT],int ((divS t s).2)]) [] J (fun β β' hb=>J) (fun β1 _ _ _ _ gq gh kq=>cal0 (φs:= [agg [sl 1 rE_ t.aC,sl 2 sE t.sT],agg [sl 1 rE_ s.aC,sl 2 sE s.sT]]) (φ:=tup [agg [sl 1 rE_ ((divS t s).1).aC,sl 2 sE ((divS t s).1).sT],int ((divS t s).2)]) ⟨(gq.1.trans J),(gq.2.1.trans J),tV⟩ (divq.Divide_ok t s aS aS) T.ent14 kq) ?_
  refine stv (d:=61) (fun β1=>tup [agg [sl 1 rE_ ((divS t s).1).aC,sl 2 sE ((divS t s).1).sT],int ((divS t s).2)]) [] J (fun β β' hb=>J) (fun β1 _ _ _ _ gq gh kq=>mv' (gq.1.trans J) kq) ?_
  refine stv (d:=67) (fun β1=>agg [sl 1 rE_ ((divS t s).1).aC,sl 2 sE ((divS t s).1).sT]) [] J (fun β β' hb=>J) (fun β1 _ _ _ _ gq gh kq=>xt (gq.1.trans J) J kq) ?_
  refine stv (d:=68) (fun β1=>int ((divS t s).2)) [] J (fun β β' hb=>J) (fun β1 _ _ _ _ gq gh kq=>xt (gq.1.trans J) J kq) ?_
  refine sta 9 T.z25 (eC (eC eZ)) ?_
  refine stw 9 (fun β1=>cell (gbk (β1 8)) [sl 1 rE_ ((divS t s).1).aC,sl 2 sE ((divS t s).1).sT]) [9] J (fun β β' hb=>by first|rw[hb 8 J]|(dsimp only;rw[hb 8 J])) (fun β1 _ _ _ _ gq gh kq=>sPA (cs':= [sl 1 rE_ ((divS t s).1).aC,sl 2 sE ((divS t s).1).sT]) (gq.1.trans J) (gh.1.trans J) (gq.2.1.trans J) T.agg25 J J kq) ?_
  refine stv (d:=10) (fun β1=>int ((divS t s).2)) [] J (fun β β' hb=>J) (fun β1 _ _ _ _ gq gh kq=>ag' (gq.1.trans J) kq) ?_
  refine pnH fun β1=>(nl (th (sq (sq (rg (mv (bi J J b_neq (nl (th ?_)))))))))
  refine cd J (fun hc1=> ?_) (fun hc1=> ?_)
  ·skip
   refine sq (rg (cal0 (φs:= []) (φ:=bl true) trivial diva.awake_ok T.ent10 (ag (nl (th (rt (rt_ ?_)))))))
   exact rE () [.tmp 6] J [bl true] ⟨.tmp J,tV⟩ J trivial eX
  ·skip
   have hd:(divS t s).2=0:=by simpa using hc1
   obtain⟨hq2,hqe⟩:=div_quo hfe hd
   obtain⟨hQs,hQv,hQa⟩:=sat_div hx ht hs hts hxt O hq2
   rw[←hqe] at hQs hQv hQa
   have hxQ:x.aC=(divS t s).1.aC:=hxt.trans hQa.symm
   have hQsm:smallSpec (divS t s).1:=(okSpec_of hQv).small
   have hQ1:=(okSpec_of hQv).few1
   have hQz:=size_ok (okSpec_of hQv)
   refine sk (th (sq ?_))
   refine drH (nh:=11) [0,1,0,7,15,31,63,63,0,383,1023] [(none,[3]),(none,[]),(none,[9]),(none,[]),(none,[]),(none,[]),(none,[]),(none,[]),(some 11,[]),(some 11,[11]),(none,[])] T.mixed kR kR ?_
   refine stv (d:=73) (fun β2=>agg [sl 1 rE_ x.aC,sl 1 gE x.sT]) [3] J (fun β β' hb=>J) (fun β2 _ _ _ _ gq gh kq=>lPA (gq.1.trans J) (gh.1.trans J) T.agg38 J kq) ?_
   refine stv (d:=74) (fun β2=>agg [sl 1 rE_ x.aC,sl 1 gE x.sT]) [] J (fun β β' hb=>J) (fun β2 _ _ _ _ gq gh kq=>calW (φs:= [agg [sl 1 rE_ x.aC,sl 1 gE x.sT]]) (φ:=agg [sl 1 rE_ x.aC,sl 1 gE x.sT]) ⟨(gq.1.trans J),tV⟩ (sysw.Copy_ok x O) T.ent26 (fun N hN=>fun h=>agg_le (cs:= [fre N (sl 1 rE_ x.aC),fre N (sl 1 gE x.sT)]) (ds:= [sl 1 rE_ x.aC,sl 1 gE x.sT]) ⟨fun h=>nw_le h,fun h=>nw_le h,tV⟩ h) kq) ?_
   refine stv (d:=75) (fun β2=>agg [sl 1 rE_ ((divS t s).1).aC,sl 2 sE ((divS t s).1).sT]) [9] J (fun β β' hb=>J) (fun β2 _ _ _ _ gq gh kq=>lPA (gq.1.trans J) (gh.1.trans J) T.agg25 J kq) ?_
   refine stv (d:=76) (fun β2=>agg [sl 1 rE_ ((divS t s).1).aC,sl 2 sE ((divS t s).1).sT]) [] J (fun β β' hb=>J) (fun β2 _ _ _ _ gq gh kq=>calW (φs:= [agg [sl 1 rE_ ((divS t s).1).aC,sl 2 sE ((divS t s).1).sT]]) (φ:=agg [sl 1 rE_ ((divS t s).1).aC,sl 2 sE ((divS t s).1).sT]) ⟨(gq.1.trans J),tV⟩ (ref03.Copy_ok ((divS t s).1) O) T.ent15 (fun N hN=>fun h=>agg_le (cs:= [fre N (sl 1 rE_ ((divS t s).1).aC),fre N (sl 2 sE ((divS t s).1).sT)]) (ds:= [sl 1 rE_ ((divS t s).1).aC,sl 2 sE ((divS t s).1).sT]) ⟨fun h=>nw_le h,fun h=>nw_le h,tV⟩ h) kq) ?_
   refine ste (d:=77) encJ decJ decJ_enc (fun z=>SatOK x (divS t s).1 z) (fun z=>tup [agg [bl z.holds,sl 2 pE z.pairs,sl 1 nE z.word,int z.state],int (fineSE x (divS t s).1)]) rfl (fun β2 _ _ _ _ gq gh kq=>cal (Hi:= []) (φs:= [agg [sl 1 rE_ x.aC,sl 1 gE x.sT],agg [sl 1 rE_ ((divS t s).1).aC,sl 2 sE ((divS t s).1).sT]]) ⟨(gq.1.trans rfl),(gq.2.1.trans rfl),tV⟩ (satj.Satisfies_ok x (divS t s).1 aS) T.ent36 trivial fun N i=>kq i.1 i.2) ?_
   refine stv (d:=72) (fun β2=>whn (SatOK x (divS t s).1 (decJ (β2 4))) (tup [agg [bl (decJ (β2 4)).holds,sl 2 pE (decJ (β2 4)).pairs,sl 1 nE (decJ (β2 4)).word,int (decJ (β2 4)).state],int (fineSE x (divS t s).1)])) [] J (fun β β' hb=>by first|rw[hb 4 J]|(dsimp only;rw[hb 4 J])) (fun β2 _ _ _ _ gq gh kq=>mv' (gq.1.trans J) kq) ?_
   refine stv (d:=78) (fun β2=>agg [bl (decJ (β2 4)).holds,sl 2 pE (decJ (β2 4)).pairs,sl 1 nE (decJ (β2 4)).word,int (decJ (β2 4)).state]) [] J (fun β β' hb=>by first|rw[hb 4 J]|(dsimp only;rw[hb 4 J])) (fun β2 _ _ _ _ gq gh kq=>xtW (gq.1.trans J) J kq) ?_
   refine stv (d:=79) (fun β2=>int (fineSE x (divS t s).1)) [] J (fun β β' hb=>J) (fun β2 _ _ _ _ gq gh kq=>xtW (gq.1.trans J) J kq) ?_
   refine sta 11 T.z65 (eC (eC (eC (eC eZ)))) ?_
   refine stw 11 (fun β2=>cell (gbk (β2 8)) [bl (decJ (β2 4)).holds,sl 2 pE (decJ (β2 4)).pairs,sl 1 nE (decJ (β2 4)).word,int (decJ (β2 4)).state]) [11] J (fun β β' hb=>by first|rw[hb 4 J,hb 8 J]|(dsimp only;rw[hb 4 J,hb 8 J])) (fun β2 _ _ _ _ gq gh kq=>sPA (cs':= [bl (decJ (β2 4)).holds,sl 2 pE (decJ (β2 4)).pairs,sl 1 nE (decJ (β2 4)).word,int (decJ (β2 4)).state]) (gq.1.trans J) (gh.1.trans J) (gq.2.1.trans J) T.agg65 J J kq) ?_
   refine stv (d:=12) (fun β2=>int (fineSE x (divS t s).1)) [] J (fun β β' hb=>J) (fun β2 _ _ _ _ gq gh kq=>ag' (gq.1.trans J) kq) ?_
   refine pnH fun β2=>(nl (th (sq (whXC 77 J fun h77=> ?_))))
   refine drH (nh:=11) [0,1,0,7,15,31,63,63,0,383,1023] [(none,[4]),(none,[]),(none,[8]),(none,[]),(none,[]),(none,[]),(none,[]),(none,[]),(some 13,[]),(some 13,[13]),(none,[])] T.mixed kR kR ?_
   refine stv (d:=81) (fun β3=>agg [sl 1 rE_ m.aC,sl 1 gE m.sT]) [4] J (fun β β' hb=>J) (fun β3 _ _ _ _ gq gh kq=>lPA (gq.1.trans J) (gh.1.trans J) T.agg38 J kq) ?_
   refine stv (d:=82) (fun β3=>agg [sl 1 rE_ m.aC,sl 1 gE m.sT]) [] J (fun β β' hb=>J) (fun β3 _ _ _ _ gq gh kq=>calW (φs:= [agg [sl 1 rE_ m.aC,sl 1 gE m.sT]]) (φ:=agg [sl 1 rE_ m.aC,sl 1 gE m.sT]) ⟨(gq.1.trans J),tV⟩ (sysw.Copy_ok m O) T.ent26 (fun N hN=>fun h=>agg_le (cs:= [fre N (sl 1 rE_ m.aC),fre N (sl 1 gE m.sT)]) (ds:= [sl 1 rE_ m.aC,sl 1 gE m.sT]) ⟨fun h=>nw_le h,fun h=>nw_le h,tV⟩ h) kq) ?_
   refine stv (d:=83) (fun β3=>agg [sl 1 rE_ s.aC,sl 2 sE s.sT]) [8] J (fun β β' hb=>J) (fun β3 _ _ _ _ gq gh kq=>lPA (gq.1.trans J) (gh.1.trans J) T.agg25 J kq) ?_
   refine stv (d:=84) (fun β3=>agg [sl 1 rE_ s.aC,sl 2 sE s.sT]) [] J (fun β β' hb=>J) (fun β3 _ _ _ _ gq gh kq=>calW (φs:= [agg [sl 1 rE_ s.aC,sl 2 sE s.sT]]) (φ:=agg [sl 1 rE_ s.aC,sl 2 sE s.sT]) ⟨(gq.1.trans J),tV⟩ (ref03.Copy_ok s O) T.ent15 (fun N hN=>fun h=>agg_le (cs:= [fre N (sl 1 rE_ s.aC),fre N (sl 2 sE s.sT)]) (ds:= [sl 1 rE_ s.aC,sl 2 sE s.sT]) ⟨fun h=>nw_le h,fun h=>nw_le h,tV⟩ h) kq) ?_
   refine ste (d:=85) encJ decJ decJ_enc (fun z=>SatOK m s z) (fun z=>tup [agg [bl z.holds,sl 2 pE z.pairs,sl 1 nE z.word,int z.state],int (fineSE m s)]) rfl (fun β3 _ _ _ _ gq gh kq=>cal (Hi:= []) (φs:= [agg [sl 1 rE_ m.aC,sl 1 gE m.sT],agg [sl 1 rE_ s.aC,sl 2 sE s.sT]]) ⟨(gq.1.trans rfl),(gq.2.1.trans rfl),tV⟩ (satj.Satisfies_ok m s aS) T.ent36 trivial fun N i=>kq i.1 i.2) ?_
   refine stv (d:=80) (fun β3=>whn (SatOK m s (decJ (β3 4))) (tup [agg [bl (decJ (β3 4)).holds,sl 2 pE (decJ (β3 4)).pairs,sl 1 nE (decJ (β3 4)).word,int (decJ (β3 4)).state],int (fineSE m s)])) [] J (fun β β' hb=>by first|rw[hb 4 J]|(dsimp only;rw[hb 4 J])) (fun β3 _ _ _ _ gq gh kq=>mv' (gq.1.trans J) kq) ?_
   refine stv (d:=86) (fun β3=>agg [bl (decJ (β3 4)).holds,sl 2 pE (decJ (β3 4)).pairs,sl 1 nE (decJ (β3 4)).word,int (decJ (β3 4)).state]) [] J (fun β β' hb=>by first|rw[hb 4 J]|(dsimp only;rw[hb 4 J])) (fun β3 _ _ _ _ gq gh kq=>xtW (gq.1.trans J) J kq) ?_
   refine stv (d:=87) (fun β3=>int (fineSE m s)) [] J (fun β β' hb=>J) (fun β3 _ _ _ _ gq gh kq=>xtW (gq.1.trans J) J kq) ?_
   refine sta 13 T.z65 (eC (eC (eC (eC eZ)))) ?_
   refine stw 13 (fun β3=>cell (gbk (β3 8)) [bl (decJ (β3 4)).holds,sl 2 pE (decJ (β3 4)).pairs,sl 1 nE (decJ (β3 4)).word,int (decJ (β3 4)).state]) [13] J (fun β β' hb=>by first|rw[hb 4 J,hb 8 J]|(dsimp only;rw[hb 4 J,hb 8 J])) (fun β3 _ _ _ _ gq gh kq=>sPA (cs':= [bl (decJ (β3 4)).holds,sl 2 pE (decJ (β3 4)).pairs,sl 1 nE (decJ (β3 4)).word,int (decJ (β3 4)).state]) (gq.1.trans J) (gh.1.trans J) (gq.2.1.trans J) T.agg65 J J kq) ?_
   refine stv (d:=14) (fun β3=>int (fineSE m s)) [] J (fun β β' hb=>J) (fun β3 _ _ _ _ gq gh kq=>ag' (gq.1.trans J) kq) ?_
   refine pnH fun β3=>(nl (th (sq (whXC 85 J fun h85=> ?_))))
   refine drH (nh:=13) [0,1,0,7,15,31,63,63,63,0,639,1791,4095] [(none,[4]),(none,[]),(none,[3]),(none,[]),(none,[]),(none,[]),(none,[]),(none,[]),(none,[]),(some 15,[]),(some 15,[15]),(none,[]),(none,[])] T.mixed kR kR ?_
   refine stv (d:=89) (fun β4=>agg [sl 1 rE_ m.aC,sl 1 gE m.sT]) [4] J (fun β β' hb=>J) (fun β4 _ _ _ _ gq gh kq=>lPA (gq.1.trans J) (gh.1.trans J) T.agg38 J kq) ?_
   refine stv (d:=90) (fun β4=>agg [sl 1 rE_ m.aC,sl 1 gE m.sT]) [] J (fun β β' hb=>J) (fun β4 _ _ _ _ gq gh kq=>calW (φs:= [agg [sl 1 rE_ m.aC,sl 1 gE m.sT]]) (φ:=agg [sl 1 rE_ m.aC,sl 1 gE m.sT]) ⟨(gq.1.trans J),tV⟩ (sysw.Copy_ok m O) T.ent26 (fun N hN=>fun h=>agg_le (cs:= [fre N (sl 1 rE_ m.aC),fre N (sl 1 gE m.sT)]) (ds:= [sl 1 rE_ m.aC,sl 1 gE m.sT]) ⟨fun h=>nw_le h,fun h=>nw_le h,tV⟩ h) kq) ?_
   refine stv (d:=91) (fun β4=>agg [sl 1 rE_ x.aC,sl 1 gE x.sT]) [3] J (fun β β' hb=>J) (fun β4 _ _ _ _ gq gh kq=>lPA (gq.1.trans J) (gh.1.trans J) T.agg38 J kq) ?_
   refine stv (d:=92) (fun β4=>agg [sl 1 rE_ x.aC,sl 1 gE x.sT]) [] J (fun β β' hb=>J) (fun β4 _ _ _ _ gq gh kq=>calW (φs:= [agg [sl 1 rE_ x.aC,sl 1 gE x.sT]]) (φ:=agg [sl 1 rE_ x.aC,sl 1 gE x.sT]) ⟨(gq.1.trans J),tV⟩ (sysw.Copy_ok x O) T.ent26 (fun N hN=>fun h=>agg_le (cs:= [fre N (sl 1 rE_ x.aC),fre N (sl 1 gE x.sT)]) (ds:= [sl 1 rE_ x.aC,sl 1 gE x.sT]) ⟨fun h=>nw_le h,fun h=>nw_le h,tV⟩ h) kq) ?_
   refine ste (d:=93) encP decP decP_enc (fun z=>(bothS m x≠0→z=(⟨[],[]⟩,[]))∧(bothS m x=0→ProdOK m x z.1 z.2)) (fun z=>tup [agg [sl 1 rE_ z.1.aC,sl 1 gE z.1.sT],sl 2 pE z.2,int (bothS m x)]) rfl (fun β4 _ _ _ _ gq gh kq=>cal (Hi:= []) (φs:= [agg [sl 1 rE_ m.aC,sl 1 gE m.sT],agg [sl 1 rE_ x.aC,sl 1 gE x.sT]]) ⟨(gq.1.trans rfl),(gq.2.1.trans rfl),tV⟩ (prodw.Product_ok m x O O) T.ent37 trivial fun N i=>kq i.1 i.2) ?_
   refine stv (d:=88) (fun β4=>whn ((bothS m x≠0→(decP (β4 4))=(⟨[],[]⟩,[]))∧(bothS m x=0→ProdOK m x (decP (β4 4)).1 (decP (β4 4)).2)) (tup [agg [sl 1 rE_ ((decP (β4 4)).1.aC),sl 1 gE ((decP (β4 4)).1.sT)],sl 2 pE ((decP (β4 4)).2),int (bothS m x)])) [] J (fun β β' hb=>by first|rw[hb 4 J]|(dsimp only;rw[hb 4 J])) (fun β4 _ _ _ _ gq gh kq=>mv' (gq.1.trans J) kq) ?_
   refine stv (d:=94) (fun β4=>agg [sl 1 rE_ ((decP (β4 4)).1.aC),sl 1 gE ((decP (β4 4)).1.sT)]) [] J (fun β β' hb=>by first|rw[hb 4 J]|(dsimp only;rw[hb 4 J])) (fun β4 _ _ _ _ gq gh kq=>xtW (gq.1.trans J) J kq) ?_
   refine stv (d:=95) (fun β4=>sl 2 pE ((decP (β4 4)).2)) [] J (fun β β' hb=>by first|rw[hb 4 J]|(dsimp only;rw[hb 4 J])) (fun β4 _ _ _ _ gq gh kq=>xtW (gq.1.trans J) J kq) ?_
   refine stv (d:=96) (fun β4=>int (bothS m x)) [] J (fun β β' hb=>J) (fun β4 _ _ _ _ gq gh kq=>xtW (gq.1.trans J) J kq) ?_
   refine sta 15 T.z38 (eC (eC eZ)) ?_
   refine stw 15 (fun β4=>cell (gbk (β4 9)) [sl 1 rE_ ((decP (β4 4)).1.aC),sl 1 gE ((decP (β4 4)).1.sT)]) [15] J (fun β β' hb=>by first|rw[hb 4 J,hb 9 J]|(dsimp only;rw[hb 4 J,hb 9 J])) (fun β4 _ _ _ _ gq gh kq=>sPA (cs':= [sl 1 rE_ ((decP (β4 4)).1.aC),sl 1 gE ((decP (β4 4)).1.sT)]) (gq.1.trans J) (gh.1.trans J) (gq.2.1.trans J) T.agg38 J J kq) ?_
   refine stv (d:=16) (fun β4=>sl 2 pE ((decP (β4 4)).2)) [] J (fun β β' hb=>by first|rw[hb 4 J]|(dsimp only;rw[hb 4 J])) (fun β4 _ _ _ _ gq gh kq=>ag' (gq.1.trans J) kq) ?_
   refine stv (d:=17) (fun β4=>int (bothS m x)) [] J (fun β β' hb=>J) (fun β4 _ _ _ _ gq gh kq=>ag' (gq.1.trans J) kq) ?_
   refine pnH fun β4=>(nl (th (sq (whXC 93 J fun h93=> ?_))))
   refine drH (nh:=10) [0,0,2,7,15,31,31,0,191,511] [(none,[15]),(none,[7]),(none,[]),(none,[]),(none,[]),(none,[]),(none,[]),(some 18,[]),(some 18,[18]),(none,[])] T.mixed kR kR ?_
   refine stv (d:=98) (fun β5=>agg [sl 1 rE_ ((decP (β4 4)).1.aC),sl 1 gE ((decP (β4 4)).1.sT)]) [15] J (fun β β' hb=>J) (fun β5 _ _ _ _ gq gh kq=>lPA (gq.1.trans J) (gh.1.trans J) T.agg38 J kq) ?_
   refine stv (d:=99) (fun β5=>agg [sl 1 rE_ t.aC,sl 2 sE t.sT]) [7] J (fun β β' hb=>J) (fun β5 _ _ _ _ gq gh kq=>lPA (gq.1.trans J) (gh.1.trans J) T.agg25 J kq) ?_
   refine stv (d:=100) (fun β5=>agg [sl 1 rE_ t.aC,sl 2 sE t.sT]) [] J (fun β β' hb=>J) (fun β5 _ _ _ _ gq gh kq=>calW (φs:= [agg [sl 1 rE_ t.aC,sl 2 sE t.sT]]) (φ:=agg [sl 1 rE_ t.aC,sl 2 sE t.sT]) ⟨(gq.1.trans J),tV⟩ (ref03.Copy_ok t O) T.ent15 (fun N hN=>fun h=>agg_le (cs:= [fre N (sl 1 rE_ t.aC),fre N (sl 2 sE t.sT)]) (ds:= [sl 1 rE_ t.aC,sl 2 sE t.sT]) ⟨fun h=>nw_le h,fun h=>nw_le h,tV⟩ h) kq) ?_
   refine ste (d:=101) encJ decJ decJ_enc (fun z=>SatOK (decP (β4 4)).1 t z) (fun z=>tup [agg [bl z.holds,sl 2 pE z.pairs,sl 1 nE z.word,int z.state],int (fineSE (decP (β4 4)).1 t)]) rfl (fun β5 _ _ _ _ gq gh kq=>cal (Hi:= []) (φs:= [agg [sl 1 rE_ ((decP (β4 4)).1.aC),sl 1 gE ((decP (β4 4)).1.sT)],agg [sl 1 rE_ t.aC,sl 2 sE t.sT]]) ⟨(gq.1.trans rfl),(gq.2.1.trans rfl),tV⟩ (satj.Satisfies_ok (decP (β4 4)).1 t aS) T.ent36 trivial fun N i=>kq i.1 i.2) ?_
   refine stv (d:=97) (fun β5=>whn (SatOK (decP (β4 4)).1 t (decJ (β5 3))) (tup [agg [bl (decJ (β5 3)).holds,sl 2 pE (decJ (β5 3)).pairs,sl 1 nE (decJ (β5 3)).word,int (decJ (β5 3)).state],int (fineSE (decP (β4 4)).1 t)])) [] J (fun β β' hb=>by first|rw[hb 3 J]|(dsimp only;rw[hb 3 J])) (fun β5 _ _ _ _ gq gh kq=>mv' (gq.1.trans J) kq) ?_
   refine stv (d:=102) (fun β5=>agg [bl (decJ (β5 3)).holds,sl 2 pE (decJ (β5 3)).pairs,sl 1 nE (decJ (β5 3)).word,int (decJ (β5 3)).state]) [] J (fun β β' hb=>by first|rw[hb 3 J]|(dsimp only;rw[hb 3 J])) (fun β5 _ _ _ _ gq gh kq=>xtW (gq.1.trans J) J kq) ?_
   refine stv (d:=103) (fun β5=>int (fineSE (decP (β4 4)).1 t)) [] J (fun β β' hb=>J) (fun β5 _ _ _ _ gq gh kq=>xtW (gq.1.trans J) J kq) ?_
   refine sta 18 T.z65 (eC (eC (eC (eC eZ)))) ?_
   refine stw 18 (fun β5=>cell (gbk (β5 7)) [bl (decJ (β5 3)).holds,sl 2 pE (decJ (β5 3)).pairs,sl 1 nE (decJ (β5 3)).word,int (decJ (β5 3)).state]) [18] J (fun β β' hb=>by first|rw[hb 3 J,hb 7 J]|(dsimp only;rw[hb 3 J,hb 7 J])) (fun β5 _ _ _ _ gq gh kq=>sPA (cs':= [bl (decJ (β5 3)).holds,sl 2 pE (decJ (β5 3)).pairs,sl 1 nE (decJ (β5 3)).word,int (decJ (β5 3)).state]) (gq.1.trans J) (gh.1.trans J) (gq.2.1.trans J) T.agg65 J J kq) ?_
   refine stv (d:=19) (fun β5=>int (fineSE (decP (β4 4)).1 t)) [] J (fun β β' hb=>J) (fun β5 _ _ _ _ gq gh kq=>ag' (gq.1.trans J) kq) ?_
   refine pnH fun β5=>(nl (th (sq (whXC 101 J fun h101=> ?_))))
   refine drH (nh:=13) [0,1,0,7,0,31,63,127,255,255,0,1535,4095] [(none,[3]),(none,[]),(none,[7]),(none,[]),(none,[8]),(none,[]),(none,[]),(none,[]),(none,[]),(none,[]),(some 20,[]),(some 20,[20]),(none,[])] T.mixed kR kR ?_
   refine stv (d:=105) (fun β6=>agg [sl 1 rE_ x.aC,sl 1 gE x.sT]) [3] J (fun β β' hb=>J) (fun β6 _ _ _ _ gq gh kq=>lPA (gq.1.trans J) (gh.1.trans J) T.agg38 J kq) ?_
   refine stv (d:=106) (fun β6=>agg [sl 1 rE_ x.aC,sl 1 gE x.sT]) [] J (fun β β' hb=>J) (fun β6 _ _ _ _ gq gh kq=>calW (φs:= [agg [sl 1 rE_ x.aC,sl 1 gE x.sT]]) (φ:=agg [sl 1 rE_ x.aC,sl 1 gE x.sT]) ⟨(gq.1.trans J),tV⟩ (sysw.Copy_ok x O) T.ent26 (fun N hN=>fun h=>agg_le (cs:= [fre N (sl 1 rE_ x.aC),fre N (sl 1 gE x.sT)]) (ds:= [sl 1 rE_ x.aC,sl 1 gE x.sT]) ⟨fun h=>nw_le h,fun h=>nw_le h,tV⟩ h) kq) ?_
   refine stv (d:=107) (fun β6=>agg [sl 1 rE_ t.aC,sl 2 sE t.sT]) [7] J (fun β β' hb=>J) (fun β6 _ _ _ _ gq gh kq=>lPA (gq.1.trans J) (gh.1.trans J) T.agg25 J kq) ?_
   refine stv (d:=108) (fun β6=>agg [sl 1 rE_ t.aC,sl 2 sE t.sT]) [] J (fun β β' hb=>J) (fun β6 _ _ _ _ gq gh kq=>calW (φs:= [agg [sl 1 rE_ t.aC,sl 2 sE t.sT]]) (φ:=agg [sl 1 rE_ t.aC,sl 2 sE t.sT]) ⟨(gq.1.trans J),tV⟩ (ref03.Copy_ok t O) T.ent15 (fun N hN=>fun h=>agg_le (cs:= [fre N (sl 1 rE_ t.aC),fre N (sl 2 sE t.sT)]) (ds:= [sl 1 rE_ t.aC,sl 2 sE t.sT]) ⟨fun h=>nw_le h,fun h=>nw_le h,tV⟩ h) kq) ?_
   refine stv (d:=109) (fun β6=>agg [sl 1 rE_ s.aC,sl 2 sE s.sT]) [8] J (fun β β' hb=>J) (fun β6 _ _ _ _ gq gh kq=>lPA (gq.1.trans J) (gh.1.trans J) T.agg25 J kq) ?_
   refine stv (d:=110) (fun β6=>agg [sl 1 rE_ s.aC,sl 2 sE s.sT]) [] J (fun β β' hb=>J) (fun β6 _ _ _ _ gq gh kq=>calW (φs:= [agg [sl 1 rE_ s.aC,sl 2 sE s.sT]]) (φ:=agg [sl 1 rE_ s.aC,sl 2 sE s.sT]) ⟨(gq.1.trans J),tV⟩ (ref03.Copy_ok s O) T.ent15 (fun N hN=>fun h=>agg_le (cs:= [fre N (sl 1 rE_ s.aC),fre N (sl 2 sE s.sT)]) (ds:= [sl 1 rE_ s.aC,sl 2 sE s.sT]) ⟨fun h=>nw_le h,fun h=>nw_le h,tV⟩ h) kq) ?_
   refine ste (d:=111) encV decV decV_enc (fun z=>(fineX x t s≠0→z=(false,⟨[],[]⟩))∧(fineX x t s=0→JdgOK x t s z)) (fun z=>tup [agg [bl z.1,sl 1 rE_ z.2.aC,sl 1 gE z.2.sT],int (fineX x t s)]) rfl (fun β6 _ _ _ _ gq gh kq=>cal (Hi:= []) (φs:= [agg [sl 1 rE_ x.aC,sl 1 gE x.sT],agg [sl 1 rE_ t.aC,sl 2 sE t.sT],agg [sl 1 rE_ s.aC,sl 2 sE s.sT]]) ⟨(gq.1.trans rfl),(gq.2.1.trans rfl),(gq.2.2.1.trans rfl),tV⟩ (divj.Fits_ok x t s htm hsm O) T.ent25 trivial fun N i=>kq i.1 i.2) ?_
   refine stv (d:=104) (fun β6=>whn ((fineX x t s≠0→(decV (β6 6))=(false,⟨[],[]⟩))∧(fineX x t s=0→JdgOK x t s (decV (β6 6)))) (tup [agg [bl ((decV (β6 6)).1),sl 1 rE_ ((decV (β6 6)).2.aC),sl 1 gE ((decV (β6 6)).2.sT)],int (fineX x t s)])) [] J (fun β β' hb=>by first|rw[hb 6 J]|(dsimp only;rw[hb 6 J])) (fun β6 _ _ _ _ gq gh kq=>mv' (gq.1.trans J) kq) ?_
   refine stv (d:=112) (fun β6=>agg [bl ((decV (β6 6)).1),sl 1 rE_ ((decV (β6 6)).2.aC),sl 1 gE ((decV (β6 6)).2.sT)]) [] J (fun β β' hb=>by first|rw[hb 6 J]|(dsimp only;rw[hb 6 J])) (fun β6 _ _ _ _ gq gh kq=>xtW (gq.1.trans J) J kq) ?_
   refine stv (d:=113) (fun β6=>int (fineX x t s)) [] J (fun β β' hb=>J) (fun β6 _ _ _ _ gq gh kq=>xtW (gq.1.trans J) J kq) ?_
   refine sta 20 T.z49 (eC (eC (eC eZ))) ?_
   refine stw 20 (fun β6=>cell (gbk (β6 10)) [bl ((decV (β6 6)).1),sl 1 rE_ ((decV (β6 6)).2.aC),sl 1 gE ((decV (β6 6)).2.sT)]) [20] J (fun β β' hb=>by first|rw[hb 6 J,hb 10 J]|(dsimp only;rw[hb 6 J,hb 10 J])) (fun β6 _ _ _ _ gq gh kq=>sPA (cs':= [bl ((decV (β6 6)).1),sl 1 rE_ ((decV (β6 6)).2.aC),sl 1 gE ((decV (β6 6)).2.sT)]) (gq.1.trans J) (gh.1.trans J) (gq.2.1.trans J) T.agg49 J J kq) ?_
   refine stv (d:=21) (fun β6=>int (fineX x t s)) [] J (fun β β' hb=>J) (fun β6 _ _ _ _ gq gh kq=>ag' (gq.1.trans J) kq) ?_
   refine pnH fun β6=>(nl (th (sq (sq (whXC 111 J fun h111=> ?_)))))
   obtain⟨hf0,hin⟩:fineSE x (divS t s).1=0∧(decJ (β2 4)).holds=satD x (divS t s).1:=satok_D hxv hQv hxQ h77
   obtain⟨hg0,hot⟩:fineSE m s=0∧(decJ (β3 4)).holds=satD m s:=satok_D hmv hsv hms h85
   have hh0:bothS m x=0:=by unfold bothS;rw[if_pos hmv,if_pos hxv,if_pos (hmt.trans hxt.symm)]
   have hP:ProdOK m x (decP (β4 4)).1 (decP (β4 4)).2:=h93.2 hh0
   have hkl:=prod_few hP
   have hkc:=Nat.le_trans (prod_sum hP) (cnt_le0 hP.nd hP.box _)
   have hkv:sysOK (decP (β4 4)).1=true:=prod_valid hmv hxv hP O O
   have hka:(decP (β4 4)).1.aC=t.aC:=hP.acts.trans hmt
   obtain⟨hi0,hal⟩:fineSE (decP (β4 4)).1 t=0∧(decJ (β5 3)).holds=satD (decP (β4 4)).1 t:=satok_D hkv htv hka h101
   have hJ:JdgOK x t s (decV (β6 6)):=h111.2 hfz
   have hvf:=jdg_fit hJ
   rw[hQs] at hin
   rw[togD_eq hm hx ht hP] at hal
   have himp:(decJ (β2 4)).holds=true→(decJ (β3 4)).holds=true→(decJ (β5 3)).holds=true:=fun a b=>by
    rw[hin] at a
    rw[hot,satD_iff] at b
    rw[hal,togB_iff]
    exact means_ok hs a b
   have hC:=means_c hf0 hg0 hh0 hi0 hfz himp (hvf.trans hin.symm)
   have hzp:sysOK (decV (β6 6)).2=true→(decV (β6 6)).2.sT.length*(x.sT.length*t.sT.length)≤1000000000:=fun h=>by
    have h1:=(sysOK_ok h).few1
    have h3:(decV (β6 6)).2.sT.length*(x.sT.length*t.sT.length)≤10000*(8*20):=Nat.mul_le_mul h1 (Nat.mul_le_mul hx8 ht20)
    omega
   refine rg (mv (bi J J b_neq (mv ?_)))
   apply gOr (t:=116) (pd:=119) rfl
   rotate_left
   ·intro hg5 fin
    have hg5':=hg5
    try simp at hg5'
    exact gy J J J hg5 (mv (gy J J J hg5 (bi J J b_neq (pkF J hg5 J (drp (X:= [(118,_),(117,_)]) ⟨J,J,tV⟩ fin)))))
   ·intro hg5 fin
    exact gn J J J hg5 J J (gn J J J hg5 J J (pkT J hg5 J (drp (X:= [(118,_),(117,_)]) ⟨J,J,tV⟩ fin)))
   refine mv ?_
   apply gOr (t:=120) (pd:=123) rfl
   rotate_left
   ·intro hg6 fin
    have hg6':=hg6
    try simp at hg6'
    exact gy J J J hg6 (mv (gy J J J hg6 (bi J J b_neq (pkF J hg6 J (drp (X:= [(122,_),(121,_)]) ⟨J,J,tV⟩ fin)))))
   ·intro hg6 fin
    exact gn J J J hg6 J J (gn J J J hg6 J J (pkT J hg6 J (drp (X:= [(122,_),(121,_)]) ⟨J,J,tV⟩ fin)))
   refine mv ?_
   apply gOr (t:=124) (pd:=127) rfl
   rotate_left
   ·intro hg7 fin
    have hg7':=hg7
    try simp at hg7'
    exact gy J J J hg7 (mv (gy J J J hg7 (bi J J b_neq (pkF J hg7 J (drp (X:= [(126,_),(125,_)]) ⟨J,J,tV⟩ fin)))))
   ·intro hg7 fin
    exact gn J J J hg7 J J (gn J J J hg7 J J (pkT J hg7 J (drp (X:= [(126,_),(125,_)]) ⟨J,J,tV⟩ fin)))
   refine mv ?_
   apply gOr (t:=128) (pd:=140) rfl
   rotate_left
   ·intro hg8 fin
    have hg8':=hg8
    try simp at hg8'
    refine gy rfl rfl rfl hg8 (fP rfl T.fld65_0 (gy rfl rfl rfl hg8 (lP rfl rfl rfl T.one4 (gy rfl rfl rfl hg8 (mv ?_)))))
    apply gAnd (t:=131) (pd:=134) rfl
    rotate_left
    ·intro hg9 fin
     have hg9':=hg9
     try simp at hg9'
     exact gy J J J hg9 (fP J T.fld65_0 (gy J J J hg9 (lP J J J T.one4 (gy J J J hg8 (pkT J hg9 J (drp (X:= [(133,_),(132,_)]) ⟨J,J,tV⟩ fin))))))
    ·intro hg9 fin
     exact gn J J J hg9 J J (gn J J J hg9 J J (gy J J J hg8 (pkF J hg9 J (drp (X:= [(133,_),(132,_)]) ⟨J,J,tV⟩ fin))))
    refine gy rfl rfl rfl hg8 (mv ?_)
    apply gAnd (t:=135) (pd:=139) rfl
    rotate_left
    ·intro hg10 fin
     have hg10':=hg10
     try simp at hg10'
     exact gy J J J hg10 (fP J T.fld65_0 (gy J J J hg10 (lP J J J T.one4 (gy J J J hg10 (no J (gy J J J hg8 (pkT J hg10 J (drp (X:= [(138,_),(137,_),(136,_)]) ⟨J,J,J,tV⟩ fin))))))))
    ·intro hg10 fin
     exact gn J J J hg10 J J (gn J J J hg10 J J (gn J J J hg10 J J (gy J J J hg8 (pkF J hg10 J (drp (X:= [(138,_),(137,_),(136,_)]) ⟨J,J,J,tV⟩ fin)))))
    exact pkF rfl hg8 rfl (drp (X:= [(139,_),(135,_),(134,_),(131,_),(130,_),(129,_)]) ⟨rfl,rfl,rfl,rfl,rfl,rfl,tV⟩ fin)
   ·intro hg8 fin
    exact gn J J J hg8 J J (gn J J J hg8 J J (gn J J J hg8 J J (gu J J J J J (gu J J J J J (gn J J J hg8 J J (gn J J J hg8 J J (gu J J J J J (gu J J J J J (gu J J J J J (gn J J J hg8 J J (pkT J hg8 J (drp (X:= [(139,_),(138,_),(137,_),(136,_),(135,_),(134,_),(133,_),(132,_),(131,_),(130,_),(129,_)]) ⟨J,J,J,J,J,J,J,J,J,J,J,tV⟩ fin))))))))))))
   refine mv ?_
   apply gOr (t:=141) (pd:=151) rfl
   rotate_left
   ·intro hg11 fin
    have hg11':=hg11
    try simp at hg11'
    refine gy rfl rfl rfl hg11 (mv (gy rfl rfl rfl hg11 (bi rfl rfl b_eql (gy rfl rfl rfl hg11 (mv ?_)))))
    apply gAnd (t:=144) (pd:=150) rfl
    rotate_left
    ·intro hg12 fin
     have hg12':=hg12
     try simp at hg12'
     exact gy J J J hg12 (fP J T.fld49_0 (gy J J J hg12 (lP J J J T.one4 (gy J J J hg12 (fP J T.fld65_0 (gy J J J hg12 (lP J J J T.one4 (gy J J J hg12 (bi J J (b_neqB T.bool4) (gy J J J hg11 (pkT J hg12 J (drp (X:= [(149,_),(148,_),(147,_),(146,_),(145,_)]) ⟨J,J,J,J,J,tV⟩ fin))))))))))))
    ·intro hg12 fin
     exact gn J J J hg12 J J (gn J J J hg12 J J (gn J J J hg12 J J (gn J J J hg12 J J (gn J J J hg12 J J (gy J J J hg11 (pkF J hg12 J (drp (X:= [(149,_),(148,_),(147,_),(146,_),(145,_)]) ⟨J,J,J,J,J,tV⟩ fin)))))))
    exact pkF rfl hg11 rfl (drp (X:= [(150,_),(144,_),(143,_),(142,_)]) ⟨rfl,rfl,rfl,rfl,tV⟩ fin)
   ·intro hg11 fin
    exact gn J J J hg11 J J (gn J J J hg11 J J (gn J J J hg11 J J (gu J J J J J (gu J J J J J (gu J J J J J (gu J J J J J (gu J J J J J (gn J J J hg11 J J (pkT J hg11 J (drp (X:= [(150,_),(149,_),(148,_),(147,_),(146,_),(145,_),(144,_),(143,_),(142,_)]) ⟨J,J,J,J,J,J,J,J,J,tV⟩ fin))))))))))
   refine nl (th ?_)
   refine cd J (fun hc2=> ?_) (fun hc2=> ?_)
   ·skip
    have hff:False:=by rw[hC] at hc2;cases hc2
    refine sq (rg (ag (nl (th (rt (rt_ ?_))))))
    have hr0:false=true:=by
     first|rfl|simp_all|omega
    exact rE () [.tmp 6] J [bl false] ⟨.tmp J,tV⟩ (cA1 (fun x0=>rV [bl x0]) hr0) trivial eX
   ·skip
    refine sk (th (sq (sq (rg (mv (bi J J b_neq (mv ?_)))))))
    apply gOr (t:=154) (pd:=157) rfl
    rotate_left
    ·intro hg13 fin
     have hg13':=hg13
     try simp at hg13'
     exact gy J J J hg13 (fP J T.fld49_0 (gy J J J hg13 (lP J J J T.one4 (pkF J hg13 J (drp (X:= [(156,_),(155,_)]) ⟨J,J,tV⟩ fin)))))
    ·intro hg13 fin
     exact gn J J J hg13 J J (gn J J J hg13 J J (pkT J hg13 J (drp (X:= [(156,_),(155,_)]) ⟨J,J,tV⟩ fin)))
    refine nl (th ?_)
    refine cd J (fun hc3=> ?_) (fun hc3=> ?_)
    ·skip
     refine sq (rg (cal0 (φs:= []) (φ:=bl true) trivial diva.awake_ok T.ent10 (ag (nl (th (rt (rt_ ?_)))))))
     exact rE () [.tmp 6] J [bl true] ⟨.tmp J,tV⟩ J trivial eX
    ·skip
     have hv0:(decV (β6 6)).1=false:=by
      cases e:(decV (β6 6)).1 with
      |false=>rfl
      |true=>rw[e,hfz] at hc3;simp at hc3
     have hpz:=sizeM_ok (part_ok hx ht hs hts hxt O hJ hv0).1
     have hpp:=part_partner hx ht hs hts hxt O hJ hv0
     have hR:rightB x t s false (decV (β6 6)).2=true:=by unfold rightB;rw[decide_eq_true hfz,hpp];rfl
     refine sk (th (sq ?_))
     refine drH (nh:=16) [0,1,0,7,0,31,0,64,255,511,1023,2047,4095,4095,8191,32767] [(none,[3]),(none,[]),(none,[7]),(none,[]),(none,[8]),(none,[]),(none,[]),(none,[20]),(none,[]),(none,[]),(none,[]),(none,[]),(none,[]),(none,[]),(none,[]),(none,[])] T.mixed kR kR ?_
     refine stv (d:=160) (fun β7=>agg [sl 1 rE_ x.aC,sl 1 gE x.sT]) [3] J (fun β β' hb=>J) (fun β7 _ _ _ _ gq gh kq=>lPA (gq.1.trans J) (gh.1.trans J) T.agg38 J kq) ?_
     refine stv (d:=161) (fun β7=>agg [sl 1 rE_ x.aC,sl 1 gE x.sT]) [] J (fun β β' hb=>J) (fun β7 _ _ _ _ gq gh kq=>calW (φs:= [agg [sl 1 rE_ x.aC,sl 1 gE x.sT]]) (φ:=agg [sl 1 rE_ x.aC,sl 1 gE x.sT]) ⟨(gq.1.trans J),tV⟩ (sysw.Copy_ok x O) T.ent26 (fun N hN=>fun h=>agg_le (cs:= [fre N (sl 1 rE_ x.aC),fre N (sl 1 gE x.sT)]) (ds:= [sl 1 rE_ x.aC,sl 1 gE x.sT]) ⟨fun h=>nw_le h,fun h=>nw_le h,tV⟩ h) kq) ?_
     refine stv (d:=162) (fun β7=>agg [sl 1 rE_ t.aC,sl 2 sE t.sT]) [7] J (fun β β' hb=>J) (fun β7 _ _ _ _ gq gh kq=>lPA (gq.1.trans J) (gh.1.trans J) T.agg25 J kq) ?_
     refine stv (d:=163) (fun β7=>agg [sl 1 rE_ t.aC,sl 2 sE t.sT]) [] J (fun β β' hb=>J) (fun β7 _ _ _ _ gq gh kq=>calW (φs:= [agg [sl 1 rE_ t.aC,sl 2 sE t.sT]]) (φ:=agg [sl 1 rE_ t.aC,sl 2 sE t.sT]) ⟨(gq.1.trans J),tV⟩ (ref03.Copy_ok t O) T.ent15 (fun N hN=>fun h=>agg_le (cs:= [fre N (sl 1 rE_ t.aC),fre N (sl 2 sE t.sT)]) (ds:= [sl 1 rE_ t.aC,sl 2 sE t.sT]) ⟨fun h=>nw_le h,fun h=>nw_le h,tV⟩ h) kq) ?_
     refine stv (d:=164) (fun β7=>agg [sl 1 rE_ s.aC,sl 2 sE s.sT]) [8] J (fun β β' hb=>J) (fun β7 _ _ _ _ gq gh kq=>lPA (gq.1.trans J) (gh.1.trans J) T.agg25 J kq) ?_
     refine stv (d:=165) (fun β7=>agg [sl 1 rE_ s.aC,sl 2 sE s.sT]) [] J (fun β β' hb=>J) (fun β7 _ _ _ _ gq gh kq=>calW (φs:= [agg [sl 1 rE_ s.aC,sl 2 sE s.sT]]) (φ:=agg [sl 1 rE_ s.aC,sl 2 sE s.sT]) ⟨(gq.1.trans J),tV⟩ (ref03.Copy_ok s O) T.ent15 (fun N hN=>fun h=>agg_le (cs:= [fre N (sl 1 rE_ s.aC),fre N (sl 2 sE s.sT)]) (ds:= [sl 1 rE_ s.aC,sl 2 sE s.sT]) ⟨fun h=>nw_le h,fun h=>nw_le h,tV⟩ h) kq) ?_
     refine stv (d:=166) (fun β7=>ptr 20 (gbk (β6 10)) 1) [] J (fun β β' hb=>J) (fun β7 _ _ _ _ gq gh kq=>fP (gq.1.trans J) T.fld49_1 kq) ?_
     refine stv (d:=167) (fun β7=>agg [sl 1 rE_ ((decV (β6 6)).2.aC),sl 1 gE ((decV (β6 6)).2.sT)]) [20] J (fun β β' hb=>J) (fun β7 _ _ _ _ gq gh kq=>lPA (gq.1.trans J) (gh.1.trans J) T.agg38 J kq) ?_
     refine stv (d:=168) (fun β7=>agg [sl 1 rE_ ((decV (β6 6)).2).aC,sl 1 gE ((decV (β6 6)).2).sT]) [] J (fun β β' hb=>J) (fun β7 _ _ _ _ gq gh kq=>calW (φs:= [agg [sl 1 rE_ ((decV (β6 6)).2.aC),sl 1 gE ((decV (β6 6)).2.sT)]]) (φ:=agg [sl 1 rE_ ((decV (β6 6)).2).aC,sl 1 gE ((decV (β6 6)).2).sT]) ⟨(gq.1.trans J),tV⟩ (sysw.Copy_ok ((decV (β6 6)).2) O) T.ent26 (fun N hN=>fun h=>agg_le (cs:= [fre N (sl 1 rE_ ((decV (β6 6)).2).aC),fre N (sl 1 gE ((decV (β6 6)).2).sT)]) (ds:= [sl 1 rE_ ((decV (β6 6)).2).aC,sl 1 gE ((decV (β6 6)).2).sT]) ⟨fun h=>nw_le h,fun h=>nw_le h,tV⟩ h) kq) ?_
     refine stv (d:=169) (fun β7=>agg [bl false,sl 1 rE_ ((decV (β6 6)).2).aC,sl 1 gE ((decV (β6 6)).2).sT]) [] J (fun β β' hb=>J) (fun β7 _ _ _ _ gq gh kq=>bd (css:= [(1,_)]) T.st49 (eC (eC (eC eZ))) ⟨J,J,pA (cs:= [sl 1 rE_ ((decV (β6 6)).2).aC,sl 1 gE ((decV (β6 6)).2).sT]) (by exact(gq.1.trans J)),tV⟩ kq) ?_
     refine stv (d:=170) (fun β7=>tup [bl (rightB x t s false ((decV (β6 6)).2)),int (fineX x t s)]) [] J (fun β β' hb=>J) (fun β7 _ _ _ _ gq gh kq=>cal0 (φs:= [agg [sl 1 rE_ x.aC,sl 1 gE x.sT],agg [sl 1 rE_ t.aC,sl 2 sE t.sT],agg [sl 1 rE_ s.aC,sl 2 sE s.sT],agg [bl false,sl 1 rE_ ((decV (β6 6)).2).aC,sl 1 gE ((decV (β6 6)).2).sT]]) (φ:=tup [bl (rightB x t s false ((decV (β6 6)).2)),int (fineX x t s)]) ⟨(gq.1.trans J),(gq.2.1.trans J),(gq.2.2.1.trans J),(gq.2.2.2.1.trans J),tV⟩ (divb.Right_ok x t s false ((decV (β6 6)).2) aS aS O aS) T.ent31 kq) ?_
     refine stv (d:=159) (fun β7=>tup [bl (rightB x t s false ((decV (β6 6)).2)),int (fineX x t s)]) [] J (fun β β' hb=>J) (fun β7 _ _ _ _ gq gh kq=>mv' (gq.1.trans J) kq) ?_
     refine stv (d:=171) (fun β7=>bl (rightB x t s false ((decV (β6 6)).2))) [] J (fun β β' hb=>J) (fun β7 _ _ _ _ gq gh kq=>xt (gq.1.trans J) J kq) ?_
     refine stv (d:=172) (fun β7=>int (fineX x t s)) [] J (fun β β' hb=>J) (fun β7 _ _ _ _ gq gh kq=>xt (gq.1.trans J) J kq) ?_
     refine stv (d:=22) (fun β7=>bl (rightB x t s false ((decV (β6 6)).2))) [] J (fun β β' hb=>J) (fun β7 _ _ _ _ gq gh kq=>ag' (gq.1.trans J) kq) ?_
     refine stv (d:=23) (fun β7=>int (fineX x t s)) [] J (fun β β' hb=>J) (fun β7 _ _ _ _ gq gh kq=>ag' (gq.1.trans J) kq) ?_
     refine pnH fun β7=>(nl (th (sq (rg (mv (bi J J b_eql (mv ?_)))))))
     apply gOr (t:=175) (pd:=181) rfl
     rotate_left
     ·intro hg14 fin
      have hg14':=hg14
      try simp at hg14'
      refine gy rfl rfl rfl hg14 (mv (gy rfl rfl rfl hg14 (bi rfl rfl b_eql (gy rfl rfl rfl hg14 (mv ?_)))))
      apply gAnd (t:=178) (pd:=180) rfl
      rotate_left
      ·intro hg15 fin
       have hg15':=hg15
       try simp at hg15'
       exact gy J J J hg15 (mv (gy J J J hg14 (pkT J hg15 J (drp (X:= [(179,_)]) ⟨J,tV⟩ fin))))
      ·intro hg15 fin
       exact gn J J J hg15 J J (gy J J J hg14 (pkF J hg15 J (drp (X:= [(179,_)]) ⟨J,tV⟩ fin)))
      exact pkF rfl hg14 rfl (drp (X:= [(180,_),(178,_),(177,_),(176,_)]) ⟨rfl,rfl,rfl,rfl,tV⟩ fin)
     ·intro hg14 fin
      exact gn J J J hg14 J J (gn J J J hg14 J J (gn J J J hg14 J J (gu J J J J J (gn J J J hg14 J J (pkT J hg14 J (drp (X:= [(180,_),(179,_),(178,_),(177,_),(176,_)]) ⟨J,J,J,J,J,tV⟩ fin))))))
     refine mv ?_
     apply gAnd (t:=182) (pd:=184) rfl
     rotate_left
     ·intro hg16 fin
      have hg16':=hg16
      try simp at hg16'
      exact gy J J J hg16 (cal0 (φs:= []) (φ:=bl true) trivial diva.awake_ok T.ent10 (pkT J hg16 J (drp (X:= [(183,_)]) ⟨J,tV⟩ fin)))
     ·intro hg16 fin
      exact gn J J J hg16 J J (pkF J hg16 J (drp (X:= [(183,_)]) ⟨J,tV⟩ fin))
     refine ag (nl (th (rt ?_)))
     have hr0:(((decide ((fineX x t s)=2))||((decide ((fineX x t s)=0))&&(rightB x t s false ((decV (β6 6)).2))))&&true)=true:=by
      first|rfl|simp_all|omega
     exact rE () [.tmp 6] J [bl (((decide ((fineX x t s)=2))||((decide ((fineX x t s)=0))&&(rightB x t s false ((decV (β6 6)).2))))&&true)] ⟨.tmp J,tV⟩ (cA1 (fun x0=>rV [bl x0]) hr0) trivial eX
end divy
end
end Go.Proofs.YtcjemmihcplgdaaGreat
