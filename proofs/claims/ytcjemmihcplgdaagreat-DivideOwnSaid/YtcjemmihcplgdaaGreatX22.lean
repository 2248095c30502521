/- The walks of the functions and the plain laws. Own texts of this claim, packed: Zzdivm, ZzPartM, ZzEncM, Zzdiva, ZzTogM, Zzdivt. -/
import Derived.Test.YtcjemmihcplgdaaGreatX18
import Derived.Test.YtcjemmihcplgdaaGreatX20
import Derived.Test.YtcjemmihcplgdaaGreatX07
import Derived.Test.YtcjemmihcplgdaaGreatX21
import Derived.Test.YtcjemmihcplgdaaGreatX11
set_option linter.all false
namespace Go.Proofs.YtcjemmihcplgdaaGreat
open AL Go
set_option maxRecDepth 100000
section
open ref01 ref03 ref04 ref06 prog prog2 prog3 prog6 prog13 starts Part Rungs LeftM TrimM RoundM MergeM BisM BisM4 BisM5 WalkM StepM WitM JudgM JudgM2 refw judg wit refj sysw divr divs divd dive divg divw divv divf divc divj divq divp LevM LevM2 ChsM QuoM FailM DivM QuoW RefM
namespace divm
end divm
end
section
namespace PartM
open ref01 ref03 ref04 ref06 prog15 starts Part Rungs LeftM TrimM RoundM MergeM BisM BisM4 BisM5 BisM6 WalkM StepM WitM JudgM JudgM2 divr divs divd dive divg divw divv refj sysw ChsM BisS TrimI ValidM WitSat WitVal FailM FitM
open QuoM (subs qA qN bes)
theorem path_in {T:SS} {w:List Int} {u:Int} {p:PP} (h:p∈pathL T w u):(p.2=u)∨∃j,j<w.length∧p.2=leadI (ix T.sT p.1.toNat) (ix w j):=by
 unfold pathL at h
 rcases List.mem_append.1 h with g|g
 ·obtain⟨j,hj,rfl⟩:=List.mem_map.1 g
  exact .inr ⟨j,List.mem_range.1 hj,rfl⟩
 ·rw[List.mem_singleton.1 g];exact .inl rfl
theorem sat_trim {m:SSys} {s:SS} (hs:oK s) (h:SatM m (tR s).1):SatM m s:=by
 unfold SatM at h ⊢
 rw[sat_solid (trim_ok hs) (off_ok m)] at h
 rw[sat_solid hs (off_ok m)]
 exact sat_sim h (sim_trim hs)
theorem part_ok {x:SSys} {t s:SS} (hx:okSys x) (ht:oK t) (hs:oK s) (hts:t.aC=s.aC) (hxt:x.aC=t.aC) (hb:x.sT.length*(t.sT.length*s.sT.length)+s.sT.length+1≤5000) {v:Bool × SSys} (hv:JdgOK x t s v) (e:v.1=false):
 sysOK v.2=true∧v.2.aC=s.aC∧SatM v.2 s∧¬WellT v.2 x t:=by
 obtain⟨h0,q,i,u,hq,hi,hu,hn,hm⟩:=hv.no e
 have ets:(tR s).1=tS s:=by rw[trimmed_not h0]
 have hT:oK (tS s):=tS_ok hs
 have hU:LevM.Used (tS s):=by rw[←ets];exact trim_used hs
 have hxa:x.aC.length=(tS s).aC.length:=by show x.aC.length=s.aC.length;rw[hxt,hts]
 have hne:∀y,y<(tS s).sT.length→0<(acc (tS s) y).length:=fun y hy=>tS_ne hs h0 hy
 have htl:(tS s).sT.length≤s.sT.length:=by have:=trim_len hs;rwa [ets] at this
 have hql:q.length≤x.sT.length*(t.sT.length*s.sT.length):=by
  have h1:=qf_len hx ht hT hU hxa hq
  exact Nat.le_trans h1 (Nat.mul_le_mul_left _ (Nat.mul_le_mul_left _ htl))
 have hruns:=(qf_runs hx ht hT hU hxa hq i hi).1
 have hal:=hruns.alive hT
 have hgo:=hruns.go hT
 have hwl:=wordTo_len (qf_back hq) i (by simpa using hi)
 have hwl:(wordF q i).length≤i:=hwl
 have hw:Wants (tS s) (pathL (tS s) (wordF q i) u):=⟨pathL_mem hT hal (by rw[hgo,Int.toNat_natCast];exact hu),hne,by rw[pathL_len];omega⟩
 have hsat:=wit_sat hT hw (want_zero _ _ _) hm
 refine⟨?_,?_,sat_trim hs (by rw[ets];exact hsat),part_bad hx ht hT hU hxa hne hq O hi hu hn hm⟩
 ·obtain⟨ss,qq,mm,hss,hW,ha⟩:=hm
  have hqq:qq.length≤(tS s).sT.length+(pathL (tS s) (wordF q i) u).length:=wq_len hW.wq hss
  rw[pathL_len] at hqq
  refine wit_valid (K:=10) hT hw hss hW ha (fun y hy=> ?_) O O
  have hin:∀z∈ix ss y,z∈ix (acc (tS s) y) 0::u::(List.range 8).map fun(a:Nat)=>leadI (ix (tS s).sT y) (a:Int):=fun z hz=>by
   rcases(hss.mem y hy z).1 hz with g|g
   ·rw[g];exact List.mem_cons_self
   ·refine List.mem_cons_of_mem _ ?_
    rcases path_in g with g2|⟨j,hj,g2⟩
    ·have g2:z=u:=g2
     rw[g2];exact List.mem_cons_self
    ·refine List.mem_cons_of_mem _ ?_
     have g2:z=leadI (ix (tS s).sT (y:Int).toNat) (ix (wordF q i) j):=g2
     rw[Int.toNat_natCast] at g2
     have hact:=alive_act hT hal hj
     have h8:=hT.n8
     refine List.mem_map.2 ⟨(ix (wordF q i) j).toNat,List.mem_range.2 O,?_⟩
     rw[g2,Int.toNat_of_nonneg hact.1]
  have:=List.Nodup.length_le_of_subset (hss.nd y hy) hin
  simpa using this
 ·obtain⟨_,_,_,_,_,ha⟩:=hm
  exact ha
def x0S:SSys:=⟨[⟨#[97]⟩,⟨#[98]⟩],[[]]⟩
theorem goal_valid:specOK goalS=true:=by decide+kernel
theorem part_valid:specOK partS=true:=by decide+kernel
theorem x0_valid:sysOK x0S=true:=by decide+kernel
theorem goal_ok:oK goalS:=okSpec_of goal_valid
theorem part_okS:oK partS:=okSpec_of part_valid
theorem gp_fine:fineE goalS partS=0:=by
 unfold fineE
 rw[if_pos ⟨goal_valid,part_valid⟩,if_pos (show goalS.aC=partS.aC from rfl)]
theorem xgp_fine:fineX x0S goalS partS=0:=by
 unfold fineX
 rw[if_pos x0_valid,if_pos gp_fine,if_pos (show x0S.aC=goalS.aC from rfl)]
theorem not_hol {s:SS} (hl:0<s.sT.length) (ha:0<(ix s.sT 0).aP.length) (hn:∀a,a<(ix s.sT 0).next.length→ix (ix s.sT 0).next a≤0) (h0:∃u∈(ix s.sT 0).aP,True):ix (hOl s) 0=false:=by
 cases e:ix (hOl s) 0 with
 |false=>rfl
 |true=>
  exfalso
  refine(hollow_ix hl).1 e (fun y=>y≠0) (fun y hy hc=> ?_) rfl
  intro ey
  subst ey
  obtain⟨a,h1,h2,_,h4⟩:=hc 0 ha
  have:=hn a h1
  exact h4 O
theorem part_not:ix (hOl partS) 0=false:=not_hol (by decide) (by decide) (by decide) ⟨1,by decide,tV⟩
theorem goal_not:ix (hOl goalS) 0=false:=not_hol (by decide) (by decide) (by decide) ⟨1,by decide,tV⟩
theorem part_trim:(tR partS).1=partS:=by
 have hs:=part_okS
 have hn:=part_not
 have ho:ordS partS= [0]:=by
  have h1:(ordS partS).length≤1:=ord_le hs
  have h2:=ordS_pos partS
  have h3:=BisM2.ord_zero partS
  match hq:ordS partS,h1,h2,h3 with
  | [y],_,_,h3=>rw[show y=0 from h3]
 have hk:keep partS 0= [1,3]:=by
  rw[keep_filter hn]
  refine List.filter_eq_self.2 fun u hu=> ?_
  rw[Bool.not_eq_true']
  cases hf:falls (ix partS.sT 0) u (hOl partS) with
  |false=>rfl
  |true=>
   obtain⟨a,ha,_,_,hv⟩:=falls_iff.1 hf
   have h0:∀a,a<(ix partS.sT 0).next.length→ix (ix partS.sT 0).next a=0:=by decide
   rw[h0 a ha] at hv
   rw[show(0:Int).toNat=0 from rfl,hn] at hv;cases hv
 rw[trimmed_not hn]
 show(⟨partS.aC,(ordS partS).map (tstate partS)⟩:SS)=partS
 rw[ho]
 show(⟨partS.aC,[tstate partS 0]⟩:SS)=partS
 unfold tstate tnext
 rw[show(0:Int).toNat=0 from rfl,hk,ho]
 decide
theorem gp_A:qA goalS partS (0,0)= [1]:=by decide
theorem gp_ref:DivM.RefQ goalS partS goalS:=by
 refine⟨rfl,fun h=>(by rw[part_not] at h;cases h),fun _=>⟨[(0,0)],?_,by decide⟩⟩
 rw[part_trim]
 refine⟨rfl,by decide,by decide,rfl,fun i hi=> ?_,fun i hi=> ?_,fun i hi a ha=> ?_,fun i hi a ha hh=> ?_⟩
 ·obtain rfl:i=0:=by have hi:i<1:=hi;omega
  show _=qA goalS partS (0,0)
  rw[gp_A];rfl
 ·obtain rfl:i=0:=by have hi:i<1:=hi;omega
  rfl
 ·obtain rfl:i=0:=by have hi:i<1:=hi;omega
  have hA:qA goalS partS (ix [((0,0):PP)] 0)= [1]:=gp_A
  rw[hA]
  have ha:a<2:=ha
  match a,ha with
  |0,_=>decide
  |1,_=>decide
 ·obtain rfl:i=0:=by have hi:i<1:=hi;omega
  have hA:qA goalS partS (ix [((0,0):PP)] 0)= [1]:=gp_A
  rw[hA] at hh
  have ha:a<2:=ha
  match a,ha,hh with
  |0,_,_=>decide
  |1,_,hh=>exact absurd hh (by decide)
theorem gp_large:largeB goalS partS=false:=by decide
theorem gp_quo:(DivM.quoS goalS partS).2=true:=by
 cases e:(DivM.quoS goalS partS).2 with
 |true=>rfl
 |false=>
  have:=DivM.quo_large goal_ok part_okS rfl e
  rw[gp_large] at this;cases this
theorem gp_div:(DivM.divS goalS partS).2=0∧fineR (DivM.divS goalS partS).1 goalS=true:=by
 have hS:=DivM.quo_same goal_ok part_okS rfl gp_ref (by decide) gp_quo
 have e:DivM.divS goalS partS=((DivM.quoS goalS partS).1,0):=by unfold DivM.divS;rw[if_pos gp_fine,if_pos gp_quo]
 rw[e]
 exact⟨rfl,DivM.fine_same hS⟩
theorem gp_miss {z:SSys × Int} (h:DivM.MissOK goalS partS z):z.2=0∧madeB z.1 goalS=true:=by
 rcases DivM.miss_ok gp_fine gp_ref (by decide) h with⟨_,g,_⟩|⟨_,_,g⟩|⟨g1,_,g2⟩
 ·rw[gp_large] at g;cases g
 ·rw[goal_not] at g;cases g
 ·exact⟨g1,g2⟩
theorem gp_fits {v:Bool × SSys} (h:JdgOK x0S goalS partS v):v.1=false∧madeB v.2 partS=true:=by
 have h1:v.1=false:=by
  cases e:v.1 with
  |false=>rfl
  |true=>
   rcases(h.yes e).2 with g|g
   ·rw[part_not] at g;cases g
   ·rw[part_trim] at g
    exact absurd ⟨1,by decide,by decide⟩ (g (0,0,0) .zero)
 refine⟨h1,?_⟩
 obtain⟨g1,g2,g3,_⟩:=part_ok (sysOK_ok x0_valid) goal_ok part_okS rfl rfl (by decide) h h1
 unfold madeB
 rw[g1,decide_eq_true g2,satD_iff.2 g3];rfl
end PartM
end
section
namespace EncM
end EncM
end
section
open ref01 ref03 ref04 ref06 prog prog2 prog3 prog6 prog13 starts Part Rungs LeftM TrimM RoundM MergeM BisM BisM4 BisM5 WalkM StepM WitM JudgM JudgM2 refw judg wit refj sysw divr divs divd dive divg divw divv divf divc divj divq divp divm LevM LevM2 ChsM QuoM FailM DivM QuoW RefM FitM PartM EncM
attribute [local semireducible] sl eqv in
theorem edges0 {w:World} {F:Fz} {v:Value} (h:(sl 1 id [[eqv (.slice none 0 0)]]).p w F v):(sl 1 gE [([]:List (Int × Int))]).p w F v:=by
 obtain⟨A,cap,hv,hc,hm,h⟩:=h
 refine⟨A,cap,hv,hc,hm,fun _=> ?_⟩
 obtain⟨b,off,vs,hA,hb,hr,hl,he⟩:=h (by simp)
 refine⟨b,off,vs,hA,hb,hr,hl,fun i x hi=> ?_⟩
 have hi0:i=0:=by
  cases i with
  |zero=>rfl
  |succ i=>simp at hi
 subst hi0
 have hx:x= []:=by simpa using hi.symm
 subst hx
 have:=he 0 [eqv (.slice none 0 0)] rfl
 match hq:(vs.drop (0*1)).take 1,this with
 | [u],⟨h1,_⟩=>exact⟨slnil (n:=2) (enc:=pE) h1,tV⟩
namespace T
theorem ent38:Ent Tryz.prog 38:=ent_of kR
theorem ent39:Ent Tryz.prog 39:=ent_of kR
theorem ent16:Ent Tryz.prog 16:=ent_of kR
theorem ent25:Ent Tryz.prog 25:=ent_of kR
theorem ent40:Ent Tryz.prog 40:=ent_of kR
theorem ent20:Ent Tryz.prog 20:=ent_of kR
theorem fld49_0:FieldAt Tryz.prog 49 0 0:=fieldAt_of kR
theorem fld49_1:FieldAt Tryz.prog 49 1 1:=fieldAt_of kR
end T
namespace diva
theorem awake_ok:
 Fn0 Tryz.prog 10 [] (bl true):=by
 refine fnI Tryz.func10 rfl rfl (fun w0 F0=> ?_)
 have hgm:=PartM.goal_ok.small;have hpm:=part_okS.small;have hgo:=PartM.goal_ok;have hpo:=part_okS;have hz0:x0S.sT.length*(goalS.sT.length*partS.sT.length)≤1000000000:=by decide
 refine sq (rg (ag (nl (th (sq (rg (cal0 (φs:= []) (φ:=agg [sl 1 rE_ goalS.aC,sl 2 sE goalS.sT]) trivial divs.goal_ok T.ent38 (cal0 (φs:= []) (φ:=agg [sl 1 rE_ partS.aC,sl 2 sE partS.sT]) trivial divs.part_ok T.ent39 (cal0 (φs:= [agg [sl 1 rE_ goalS.aC,sl 2 sE goalS.sT],agg [sl 1 rE_ partS.aC,sl 2 sE partS.sT]]) (φ:=tup [agg [sl 1 rE_ ((divS goalS partS).1).aC,sl 2 sE ((divS goalS partS).1).sT],int ((divS goalS partS).2)]) ⟨J,J,tV⟩ (divq.Divide_ok goalS partS aS aS) T.ent14 (mv (xt J J (xt J J (al (key:=1) T.z25 (eC (eC eZ)) fun b1=>(sPA (cs':= [sl 1 rE_ ((divS goalS partS).1).aC,sl 2 sE ((divS goalS partS).1).sT]) J J J T.agg25 J J (ag (nl (th (sq (rg (cal0 (φs:= []) (φ:=agg [sl 1 rE_ goalS.aC,sl 2 sE goalS.sT]) trivial divs.goal_ok T.ent38 (cal0 (φs:= []) (φ:=agg [sl 1 rE_ partS.aC,sl 2 sE partS.sT]) trivial divs.part_ok T.ent39 (cl (divq.Missing_ok goalS partS aS aS) T.ent16 trivial fun N16 i16=>(mv (xt J J (xt J J (al (key:=3) T.z38 (eC (eC eZ)) fun b3=>(sPA (cs':= [sl 1 rE_ i16.1.1.aC,sl 1 gE i16.1.1.sT]) J J J T.agg38 J J (ag (nl (th (sq (rg (bsE (enc:=rE_) (xs:= [({ data:= #[97] }),({ data:= #[98] })]) (css:= [[str ({ data:= #[97] })],[str ({ data:= #[98] })]]) T.mk22 ⟨J,J,p1 (φ:=str ({ data:= #[97] })) J,⟨J,J,p1 (φ:=str ({ data:= #[98] })) J,tV⟩⟩ J J J J (bs (css:= [[eqv (.slice none 0 0)]]) T.mk36 ⟨J,J,p1 (φ:=eqv (.slice none 0 0)) J,tV⟩ J J J (kn 21 (sl 1 gE [[]]) J edges0 (bd (css:= [(0,_),(1,_)]) T.st38 (eC (eC eZ)) ⟨J,J,p1 (φ:=sl 1 rE_ [({ data:= #[97] }),({ data:= #[98] })]) J,⟨J,J,p1 (φ:=sl 1 gE [[]]) J,tV⟩⟩ (kn 22 (sys x0S) J (fun h=>h) (cal0 (φs:= []) (φ:=agg [sl 1 rE_ goalS.aC,sl 2 sE goalS.sT]) trivial divs.goal_ok T.ent38 (cal0 (φs:= []) (φ:=agg [sl 1 rE_ partS.aC,sl 2 sE partS.sT]) trivial divs.part_ok T.ent39 (cl (divj.Fits_ok x0S goalS partS aS aS O) T.ent25 trivial fun N25 i25=>(mv (xt J J (xt J J (al (key:=5) T.z49 (eC (eC (eC eZ))) fun b5=>(sPA (cs':= [bl i25.1.1,sl 1 rE_ i25.1.2.aC,sl 1 gE i25.1.2.sT]) J J J T.agg49 J J (ag (nl (th (sq (dr (nh:=32) [0,1,3,7,7,31,63,127,255,511,1023,2047,4095,4095,16383,32767,65535,131071,262143,524287,1048575,2097151,4194303,8388607,16777215,33554431,67108863,134217727,67108863,536870911,1073741823,2147483647] T.mixed kR ?_))))))))))))))))))))))))))))))))))))))))))))))))))
 refine st_ J (fun _ _ _ gq kq=>mv' (gq.1.trans J) kq) ?_
 refine st_ J (fun _ _ _ gq kq=>bi (gq.1.trans J) J b_eql kq) ?_
 refine st_ J (fun _ _ _ gq kq=>mv' (gq.1.trans J) kq) ?_
 refine sg_ (φ:=agg [sl 1 rE_ ((divS goalS partS).1).aC,sl 2 sE ((divS goalS partS).1).sT]) J J J J (List.mem_of_elem_eq_true J) (fun hgd=> ?_) ?_
 ·have hgd':=hgd
  try simp at hgd'
  exact fun _ _ _ gq kq=>lPA (gq.1.trans J) J T.agg25 J kq
 refine sg_ (φ:=agg [sl 1 rE_ goalS.aC,sl 2 sE goalS.sT]) J J J J (List.mem_of_elem_eq_true J) (fun hgd=> ?_) ?_
 ·have hgd':=hgd
  try simp at hgd'
  exact fun _ _ _ gq kq=>cal0 (φs:= []) (φ:=agg [sl 1 rE_ goalS.aC,sl 2 sE goalS.sT]) trivial divs.goal_ok T.ent38 kq
 refine sg_ (φ:=bl (fineR ((divS goalS partS).1) goalS)) J J J J (List.mem_of_elem_eq_true J) (fun hgd=> ?_) ?_
 ·have hgd':=hgd
  try simp at hgd'
  exact fun _ _ _ gq kq=>cal0 (φs:= [agg [sl 1 rE_ ((divS goalS partS).1).aC,sl 2 sE ((divS goalS partS).1).sT],agg [sl 1 rE_ goalS.aC,sl 2 sE goalS.sT]]) (φ:=bl (fineR ((divS goalS partS).1) goalS)) ⟨(gq.1.trans (gif_t hgd)),(gq.2.1.trans (gif_t hgd)),tV⟩ (dive.Fine_ok ((divS goalS partS).1) goalS aS) T.ent40 kq
 refine st_ J (fun _ _ _ gq kq=>pk (gq.1.trans J) (pk_and (x:= .tmp 30) (gq.1.trans J) (gq.2.1.trans J) J) kq) ?_
 refine st_ J (fun _ _ _ gq kq=>mv' (gq.1.trans J) kq) ?_
 refine sg_ (φ:=int i16.1.2) J J J J (List.mem_of_elem_eq_true J) (fun hgd=> ?_) ?_
 ·have hgd':=hgd
  try simp at hgd'
  exact fun _ _ _ gq kq=>mv' (gq.1.trans J) kq
 refine sg_ (φ:=bl (decide (i16.1.2=0))) J J J J (List.mem_of_elem_eq_true J) (fun hgd=> ?_) ?_
 ·have hgd':=hgd
  try simp at hgd'
  exact fun _ _ _ gq kq=>bi (gq.1.trans (gif_t hgd)) J b_eql kq
 refine st_ J (fun _ _ _ gq kq=>pk (gq.1.trans J) (pk_and (x:= .tmp 35) (gq.1.trans J) (gq.2.1.trans J) J) kq) ?_
 refine st_ J (fun _ _ _ gq kq=>mv' (gq.1.trans J) kq) ?_
 refine sg_ (φ:=agg [sl 1 rE_ i16.1.1.aC,sl 1 gE i16.1.1.sT]) J J J J (List.mem_of_elem_eq_true J) (fun hgd=> ?_) ?_
 ·have hgd':=hgd
  try simp at hgd'
  exact fun _ _ _ gq kq=>lPA (gq.1.trans J) J T.agg38 J kq
 refine sg_ (φ:=agg [sl 1 rE_ goalS.aC,sl 2 sE goalS.sT]) J J J J (List.mem_of_elem_eq_true J) (fun hgd=> ?_) ?_
 ·have hgd':=hgd
  try simp at hgd'
  exact fun _ _ _ gq kq=>cal0 (φs:= []) (φ:=agg [sl 1 rE_ goalS.aC,sl 2 sE goalS.sT]) trivial divs.goal_ok T.ent38 kq
 refine sg_ (φ:=bl (madeB i16.1.1 goalS)) J J J J (List.mem_of_elem_eq_true J) (fun hgd=> ?_) ?_
 ·have hgd':=hgd
  try simp at hgd'
  exact fun _ _ _ gq kq=>cal0 (φs:= [agg [sl 1 rE_ i16.1.1.aC,sl 1 gE i16.1.1.sT],agg [sl 1 rE_ goalS.aC,sl 2 sE goalS.sT]]) (φ:=bl (madeB i16.1.1 goalS)) ⟨(gq.1.trans (gif_t hgd)),(gq.2.1.trans (gif_t hgd)),tV⟩ (divg.Made_ok i16.1.1 goalS aS) T.ent20 kq
 refine st_ J (fun _ _ _ gq kq=>pk (gq.1.trans J) (pk_and (x:= .tmp 39) (gq.1.trans J) (gq.2.1.trans J) J) kq) ?_
 refine st_ J (fun _ _ _ gq kq=>mv' (gq.1.trans J) kq) ?_
 refine sg_ (φ:=int (fineX x0S goalS partS)) J J J J (List.mem_of_elem_eq_true J) (fun hgd=> ?_) ?_
 ·have hgd':=hgd
  try simp at hgd'
  exact fun _ _ _ gq kq=>mv' (gq.1.trans J) kq
 refine sg_ (φ:=bl (decide ((fineX x0S goalS partS)=0))) J J J J (List.mem_of_elem_eq_true J) (fun hgd=> ?_) ?_
 ·have hgd':=hgd
  try simp at hgd'
  exact fun _ _ _ gq kq=>bi (gq.1.trans (gif_t hgd)) J b_eql kq
 refine st_ J (fun _ _ _ gq kq=>pk (gq.1.trans J) (pk_and (x:= .tmp 44) (gq.1.trans J) (gq.2.1.trans J) J) kq) ?_
 refine st_ J (fun _ _ _ gq kq=>mv' (gq.1.trans J) kq) ?_
 refine sg_ (φ:=ptr 5 b5 0) J J J J (List.mem_of_elem_eq_true J) (fun hgd=> ?_) ?_
 ·have hgd':=hgd
  try simp at hgd'
  exact fun _ _ _ gq kq=>fP (gq.1.trans J) T.fld49_0 kq
 refine sg_ (φ:=bl i25.1.1) J J J J (List.mem_of_elem_eq_true J) (fun hgd=> ?_) ?_
 ·have hgd':=hgd
  try simp at hgd'
  exact fun _ _ _ gq kq=>lP (gq.1.trans (gif_t hgd)) J J T.one4 kq
 refine sg_ (φ:=bl (!i25.1.1)) J J J J (List.mem_of_elem_eq_true J) (fun hgd=> ?_) ?_
 ·have hgd':=hgd
  try simp at hgd'
  exact fun _ _ _ gq kq=>no (gq.1.trans (gif_t hgd)) kq
 refine st_ J (fun _ _ _ gq kq=>pk (gq.1.trans J) (pk_and (x:= .tmp 48) (gq.1.trans J) (gq.2.1.trans J) J) kq) ?_
 refine st_ J (fun _ _ _ gq kq=>mv' (gq.1.trans J) kq) ?_
 refine sg_ (φ:=ptr 5 b5 1) J J J J (List.mem_of_elem_eq_true J) (fun hgd=> ?_) ?_
 ·have hgd':=hgd
  try simp at hgd'
  exact fun _ _ _ gq kq=>fP (gq.1.trans J) T.fld49_1 kq
 refine sg_ (φ:=agg [sl 1 rE_ i25.1.2.aC,sl 1 gE i25.1.2.sT]) J J J J (List.mem_of_elem_eq_true J) (fun hgd=> ?_) ?_
 ·have hgd':=hgd
  try simp at hgd'
  exact fun _ _ _ gq kq=>lPA (gq.1.trans (gif_t hgd)) J T.agg38 J kq
 refine sg_ (φ:=agg [sl 1 rE_ partS.aC,sl 2 sE partS.sT]) J J J J (List.mem_of_elem_eq_true J) (fun hgd=> ?_) ?_
 ·have hgd':=hgd
  try simp at hgd'
  exact fun _ _ _ gq kq=>cal0 (φs:= []) (φ:=agg [sl 1 rE_ partS.aC,sl 2 sE partS.sT]) trivial divs.part_ok T.ent39 kq
 refine sg_ (φ:=bl (madeB i25.1.2 partS)) J J J J (List.mem_of_elem_eq_true J) (fun hgd=> ?_) ?_
 ·have hgd':=hgd
  try simp at hgd'
  exact fun _ _ _ gq kq=>cal0 (φs:= [agg [sl 1 rE_ i25.1.2.aC,sl 1 gE i25.1.2.sT],agg [sl 1 rE_ partS.aC,sl 2 sE partS.sT]]) (φ:=bl (madeB i25.1.2 partS)) ⟨(gq.1.trans (gif_t hgd)),(gq.2.1.trans (gif_t hgd)),tV⟩ (divg.Made_ok i25.1.2 partS aS) T.ent20 kq
 refine st_ J (fun _ _ _ gq kq=>pk (gq.1.trans J) (pk_and (x:= .tmp 53) (gq.1.trans J) (gq.2.1.trans J) J) kq) ?_
 refine st_ J (fun _ _ _ gq kq=>ag' (gq.1.trans J) kq) ?_
 refine pn (nl (th (rt ?_)))
 have h1:=gp_div;have h2:=gp_miss i16.2;have h3:=gp_fits (i25.2.2 xgp_fine)
 have hr0:(((((((decide (((divS goalS partS).2)=0))&&(fineR ((divS goalS partS).1) goalS))&&(decide (i16.1.2=0)))&&(madeB i16.1.1 goalS))&&(decide ((fineX x0S goalS partS)=0)))&&(!i25.1.1))&&(madeB i25.1.2 partS))=true:=by
  rw[h1.1,h1.2,h2.1,h2.2,decide_eq_true xgp_fine,h3.1,h3.2];rfl
 exact rE () [.tmp 0] J [bl (((((((decide (((divS goalS partS).2)=0))&&(fineR ((divS goalS partS).1) goalS))&&(decide (i16.1.2=0)))&&(madeB i16.1.1 goalS))&&(decide ((fineX x0S goalS partS)=0)))&&(!i25.1.1))&&(madeB i25.1.2 partS))] ⟨.tmp J,tV⟩ (cA1 (fun x0=>rV [bl x0]) hr0) trivial eX
end diva
end
section
namespace TogM
open ref01 ref03 ref04 ref06 Part Rungs LeftM TrimM RoundM BisM BisM5 BisM6 WalkM WitM JudgM FailM FitM PartM QuoM
variable {m n:SSys} {t:SS}
theorem goT (hm:okSys m) (hn:okSys n) (ht:oK t) {p:T3} (hp:0≤p.1∧p.1<(m.sT.length:Int)∧0≤p.2.1∧p.2.1<(n.sT.length:Int)∧0≤p.2.2∧p.2.2<(t.sT.length:Int)) (hb:¬BadT m n t p) {d e:PP} (hd:d∈edg m p.1.toNat) (he:e∈edg n p.2.1.toNat) (h:d.1=e.1):
 0≤d.2∧d.2<(m.sT.length:Int)∧0≤e.2∧e.2<(n.sT.length:Int)∧0≤ix (nxt t p.2.2.toNat) d.1.toNat∧ix (nxt t p.2.2.toNat) d.1.toNat<(t.sT.length:Int)∧d.1.toNat<t.aC.length:=by
 obtain⟨p0,p1,p2,p3,p4,p5⟩:=hp
 have h1:=hm.ed p.1.toNat O d hd
 have h2:=hn.ed p.2.1.toNat O e he
 have hz:p.2.2.toNat<t.sT.length:=by omega
 have hin:andI (offM m p.1.toNat) (offM n p.2.1.toNat)∈acc t p.2.2.toNat:=Classical.byContradiction hb
 have hg:=LeftM.acc_go (ht.st _ hz) hin (a:=d.1.toNat) (by rw[QuoM.has_and,off_has.2 ⟨d,hd,rfl⟩,off_has.2 ⟨e,he,by rw[h]⟩];rfl)
 exact⟨h1.2.2.1,h1.2.2.2,h2.2.2.1,h2.2.2.2,hg.2,((ht.st _ hz).nx _ hg.1).2,hg.1⟩
theorem rchT_box (hm:okSys m) (hn:okSys n) (ht:oK t) {p:T3} (h:RchT m n t p):0≤p.1∧p.1<(m.sT.length:Int)∧0≤p.2.1∧p.2.1<(n.sT.length:Int)∧0≤p.2.2∧p.2.2<(t.sT.length:Int):=by
 induction h with
 |zero=>
  have f1:=hm.few0
  have f2:=hn.few0
  have f3:=ht.few0
  exact⟨by simp,by show(0:Int)<_;omega,by simp,by show(0:Int)<_;omega,by simp,by show(0:Int)<_;omega⟩
 |step h1 h2 h3 h4 h5 ih=>
  have:=goT hm hn ht ih h2 h3 h4 h5
  exact⟨this.1,this.2.1,this.2.2.1,this.2.2.2.1,this.2.2.2.2.1,this.2.2.2.2.2.1⟩
def sucT (t:SS) (p:T3) (d e:PP):T3:=(d.2,e.2,ix (nxt t p.2.2.toNat) d.1.toNat)
structure TW (m n:SSys) (t:SS) (i:Nat) (l:List T3):Prop where
 nd:l.Nodup
 z:((0,0,0):T3)∈l
 rch:∀p∈l,RchT m n t p
 il:i≤l.length
 dn:∀j,j<i→¬BadT m n t (ix l j)∧∀d∈edg m (ix l j).1.toNat,∀e∈edg n (ix l j).2.1.toNat,d.1=e.1→sucT t (ix l j) d e∈l
theorem tw_zero:TW m n t 0 [(0,0,0)]:=⟨by simp,by simp,fun p hp=>by rw[List.mem_singleton.1 hp];exact .zero,by simp,fun j hj=>absurd hj O⟩
theorem tw_few (hm:okSys m) (hn:okSys n) (ht:oK t) {l:List T3} (hnd:l.Nodup) (h:∀p∈l,RchT m n t p):l.length≤m.sT.length*(n.sT.length*t.sT.length):=
 nodup_triples _ _ _ l hnd (fun p hp=>rchT_box hm hn ht (h p hp))
theorem tw_no {i:Nat} {l:List T3} (h:TW m n t i l) {j:Nat} (hj:j<l.length) (hb:BadT m n t (ix l j)):¬WellT m n t:=fun hw=>hw _ (h.rch _ (ix_memS hj)) hb
theorem tw_yes {i:Nat} {l:List T3} (h:TW m n t i l) (hi:l.length≤i):WellT m n t:=fun p hp=>by
 have hat:∀{p:T3},p∈l→∃j,j<l.length∧ix l j=p:=fun {p} hm=>by
  obtain⟨j,hj,rfl⟩:=List.getElem_of_mem hm
  exact⟨j,hj,ix_get hj⟩
 have hin:p∈l:=by
  induction hp with
  |zero=>exact h.z
  |step h1 h2 h3 h4 h5 ih=>
   obtain⟨j,hj,rfl⟩:=hat ih
   exact(h.dn j O).2 _ h3 _ h4 h5
 obtain⟨j,hj,rfl⟩:=hat hin
 exact(h.dn j O).1
structure TN (m n:SSys) (t:SS) (i:Nat) (l:List T3) (k1 k2:Nat) (l2:List T3):Prop where
 nd:l2.Nodup
 rch:∀p∈l2,RchT m n t p
 pre:l<+:l2
 al1:∀d∈(edg m (ix l i).1.toNat).take k1,∀e∈edg n (ix l i).2.1.toNat,d.1=e.1→sucT t (ix l i) d e∈l2
 al2:∀e∈(edg n (ix l i).2.1.toNat).take k2,(ix (edg m (ix l i).1.toNat) k1).1=e.1→sucT t (ix l i) (ix (edg m (ix l i).1.toNat) k1) e∈l2
variable {i k1 k2:Nat} {l l2:List T3}
theorem tn_zero (h:TW m n t i l):TN m n t i l 0 0 l:=⟨h.nd,h.rch,List.prefix_rfl,fun d hd=>by simp at hd,fun e he=>by simp at he⟩
theorem ixT_left {l m:List T3} {j:Nat} (h:j<l.length):ix (l++m) j=ix l j:=by
 rw[ix_get (by simp;omega),ix_get h,List.getElem_append_left h]
theorem tn_skip (h:TN m n t i l k1 k2 l2) (hk:k2<(edg n (ix l i).2.1.toNat).length) (hs:(ix (edg m (ix l i).1.toNat) k1).1=(ix (edg n (ix l i).2.1.toNat) k2).1→sucT t (ix l i) (ix (edg m (ix l i).1.toNat) k1) (ix (edg n (ix l i).2.1.toNat) k2)∈l2):TN m n t i l k1 (k2+1) l2:=by
 refine⟨h.nd,h.rch,h.pre,h.al1,fun e he hde=> ?_⟩
 rw[take_s hk,List.mem_append] at he
 rcases he with g|g
 ·exact h.al2 e g hde
 ·have:e=_:=List.mem_singleton.1 g
  subst this;exact hs hde
theorem tn_push (hW:TW m n t i l) (h:TN m n t i l k1 k2 l2) (hi:i<l.length) (hb:¬BadT m n t (ix l i)) (hk1:k1<(edg m (ix l i).1.toNat).length) (hk:k2<(edg n (ix l i).2.1.toNat).length) (he:(ix (edg m (ix l i).1.toNat) k1).1=(ix (edg n (ix l i).2.1.toNat) k2).1)
 (hn:sucT t (ix l i) (ix (edg m (ix l i).1.toNat) k1) (ix (edg n (ix l i).2.1.toNat) k2)∉l2):TN m n t i l k1 (k2+1) (l2++ [sucT t (ix l i) (ix (edg m (ix l i).1.toNat) k1) (ix (edg n (ix l i).2.1.toNat) k2)]):=by
 have hp:∀q∈l2,q∈l2++ [sucT t (ix l i) (ix (edg m (ix l i).1.toNat) k1) (ix (edg n (ix l i).2.1.toNat) k2)]:=fun q hq=>List.mem_append.2 (.inl hq)
 refine⟨?_,fun p hp=> ?_,h.pre.trans (List.prefix_append _ _),fun d hd e he hde=>hp _ (h.al1 d hd e he hde),fun e hee hde=> ?_⟩
 ·rw[List.nodup_append]
  refine⟨h.nd,by simp,fun a ha b hb e=>hn ?_⟩
  rw[←List.mem_singleton.1 hb,←e];exact ha
 ·rcases List.mem_append.1 hp with g|g
  ·exact h.rch p g
  ·rw[List.mem_singleton.1 g]
   exact .step (hW.rch _ (ix_memS hi)) hb (ix_memS hk1) (ix_memS hk) he
 ·rw[take_s hk,List.mem_append] at hee
  rcases hee with g|g
  ·exact hp _ (h.al2 e g hde)
  ·have:e=_:=List.mem_singleton.1 g
   subst this
   exact List.mem_append.2 (.inr (List.mem_singleton.2 rfl))
theorem tn_row (h:TN m n t i l k1 k2 l2) (hk1:k1<(edg m (ix l i).1.toNat).length) (hk:(edg n (ix l i).2.1.toNat).length≤k2):TN m n t i l (k1+1) 0 l2:=by
 refine⟨h.nd,h.rch,h.pre,fun d hd e he hde=> ?_,fun e he=>by simp at he⟩
 rw[take_s hk1,List.mem_append] at hd
 rcases hd with g|g
 ·exact h.al1 d g e he hde
 ·have:d=_:=List.mem_singleton.1 g
  subst this
  exact h.al2 e (by rw[List.take_of_length_le hk];exact he) hde
theorem tn_end (hW:TW m n t i l) (h:TN m n t i l k1 k2 l2) (hi:i<l.length) (hb:¬BadT m n t (ix l i)) (hk1:(edg m (ix l i).1.toNat).length≤k1):TW m n t (i+1) l2:=by
 have hl:=h.pre.length_le
 have hix:∀j,j<l.length→ix l2 j=ix l j:=fun j hj=>by
  obtain⟨r,rfl⟩:=h.pre
  exact ixT_left hj
 refine⟨h.nd,h.pre.subset hW.z,h.rch,O,fun j hj=> ?_⟩
 rw[hix j O]
 by_cases e:j=i
 ·subst e
  refine⟨hb,fun d hd e he hde=>h.al1 d (by rw[List.take_of_length_le hk1];exact hd) e he hde⟩
 ·exact⟨(hW.dn j O).1,fun d hd e he hde=>h.pre.subset ((hW.dn j O).2 d hd e he hde)⟩
def codeT (b c:Nat) (p:T3):Nat:=(p.1.toNat*b+p.2.1.toNat)*c+p.2.2.toNat
def boxT (a b c:Nat) (p:T3):Prop:=0≤p.1∧p.1<(a:Int)∧0≤p.2.1∧p.2.1<(b:Int)∧0≤p.2.2∧p.2.2<(c:Int)
structure Tab (a b c:Nat) (l:List T3) (inn:List Bool):Prop where
 len:inn.length=a*b*c
 at_:∀p,boxT a b c p→ix inn (codeT b c p)=decide (p∈l)
noncomputable def togB (m n:SSys) (t:SS):Bool:= @decide (WellT m n t) (Classical.propDecidable _)
theorem togB_iff:togB m n t=true↔WellT m n t:=by unfold togB;simp
end TogM
end
section
open ref01 ref03 ref04 ref06 prog prog2 prog3 prog6 prog13 starts Part Rungs LeftM TrimM RoundM MergeM BisM BisM4 BisM5 WalkM StepM WitM JudgM JudgM2 refw judg wit refj sysw divr divs divd dive divg divw divv divf divc divj divq divp divm diva LevM LevM2 ChsM QuoM FailM DivM QuoW RefM FitM PartM EncM TogM
def triE:Int × Int × Int→List AV:=fun p=> [int p.1,int p.2.1,int p.2.2]
instance (p:Int × Int × Int):OneAll (triE p):=inferInstanceAs (OneAll [int p.1,int p.2.1,int p.2.2])
namespace divt
end divt
end
end Go.Proofs.YtcjemmihcplgdaaGreat
