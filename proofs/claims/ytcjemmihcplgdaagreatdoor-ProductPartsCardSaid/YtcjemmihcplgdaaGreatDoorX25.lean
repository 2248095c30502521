/- The walks of the functions and the plain laws. Own texts of this claim, packed: Zdprodk. -/
import Derived.Test.YtcjemmihcplgdaaGreatDoorX24
import Derived.Test.YtcjemmihcplgdaaGreatDoorX21
set_option linter.all false
namespace Go.Proofs.YtcjemmihcplgdaaGreatDoor
open AL Go
set_option maxRecDepth 100000
section
open ref01 ref03 ref04 ref06 prog prog2 prog3 prog4 prog5 prog6 prog7 prog8 prog9 prog13 prog15 starts Part Rungs LeftM TrimM Itoa Keys RoundM MergeM BisM BisM4 BisM5 WalkM StepM WitM JudgM JudgM2 refw judg wit refj sysw divr divs divd dive divg divw divv LevM LevM2 ChsM TrimI QuoM FailM DivM RefM GenW CompM CrossM CompP EncM prodc divp prodm prodp ForkM
theorem few_leC {s:SS} {k:Int} (h:few s k=true):(size s:Int)≤k:=by unfold few at h;simpa using h
theorem parts_f0 {s t:SS} (h:(((decide ((12:Int)<(s.sT.length:Int))||decide ((12:Int)<(t.sT.length:Int)))|| !few s 300)|| !few t 300)=false):s.sT.length≤12∧t.sT.length≤12∧(size s:Int)≤300∧(size t:Int)≤300:=by
 rw[Bool.or_eq_false_iff,Bool.or_eq_false_iff,Bool.or_eq_false_iff,Bool.not_eq_false',Bool.not_eq_false',decide_eq_false_iff_not,decide_eq_false_iff_not] at h
 exact⟨O,O,few_leC h.1.2,few_leC h.2⟩
theorem parts_e1 {s t:SS} {w:List Int} {u:Int} (h:(decide (bothE s t=0)&&(!wordOK (s.aC.length:Int) w|| !isSet (s.aC.length:Int) u))=true):(1:Int)=partE s t w u:=by
 rw[Bool.and_eq_true,decide_eq_true_eq] at h
 unfold partE
 rw[if_pos (show fineE s t=0 from h.1),if_neg (part_c1 h.2)]
theorem parts_e0 {s t:SS} {w:List Int} {u:Int} (h:(decide (bothE s t=0)&&(!wordOK (s.aC.length:Int) w|| !isSet (s.aC.length:Int) u))=false):bothE s t=partE s t w u:=by
 unfold partE
 by_cases e:fineE s t=0
 ·rw[show decide (bothE s t=0)=true from decide_eq_true e,Bool.true_and] at h
  rw[if_pos e,if_pos (part_f1 h)];exact e
 ·rw[if_neg e];rfl
theorem parts_e3 {s t:SS} {w:List Int} {u:Int} (h:(decide (partE s t w u=0)&& !both2B s t w u)=true):(3:Int)=partF s t w u:=by
 rw[Bool.and_eq_true,decide_eq_true_eq,Bool.not_eq_true'] at h
 unfold partF
 rw[if_pos h.1,if_neg (by rw[h.2];simp)]
theorem parts_e4 {s t:SS} {w:List Int} {u:Int} (h:(decide (partE s t w u=0)&& !both2B s t w u)=false):partE s t w u=partF s t w u:=by
 unfold partF
 by_cases e:partE s t w u=0
 ·rw[decide_eq_true e,Bool.true_and,Bool.not_eq_false'] at h
  rw[if_pos e,if_pos h];exact e
 ·rw[if_neg e]
namespace T
theorem ent18:Ent Tryz.prog 18:=ent_of kR
theorem ent53:Ent Tryz.prog 53:=ent_of kR
theorem ent15:Ent Tryz.prog 15:=ent_of kR
theorem ent22:Ent Tryz.prog 22:=ent_of kR
theorem ent54:Ent Tryz.prog 54:=ent_of kR
theorem ent24:Ent Tryz.prog 24:=ent_of kR
theorem ent25:Ent Tryz.prog 25:=ent_of kR
theorem ent12:Ent Tryz.prog 12:=ent_of kR
theorem ent13:Ent Tryz.prog 13:=ent_of kR
theorem ent16:Ent Tryz.prog 16:=ent_of kR
theorem ent19:Ent Tryz.prog 19:=ent_of kR
theorem ent21:Ent Tryz.prog 21:=ent_of kR
theorem ent23:Ent Tryz.prog 23:=ent_of kR
end T
namespace prodk
theorem both8_ok (t s:SS):
 Fn0 Tryz.prog 13 [spec t,spec s] (int (bothE t s)):=by
 refine fnI Tryz.func13 rfl rfl (fun w0 F0=> ?_)
 refine fcC (inhS 0 J) (fun hS0=> ?_)
 obtain⟨hsa0,hss0,hse0⟩:=sLn hS0
 refine fcC (inhS 1 J) (fun hS1=> ?_)
 obtain⟨hsa1,hss1,hse1⟩:=sLn hS1
 refine sq (rg (bx (key:=2) (cs:= [sl 1 rE_ t.aC,sl 2 sE t.sT]) J fun b2=>(bx (key:=3) (cs:= [sl 1 rE_ s.aC,sl 2 sE s.sT]) J fun b3=>(ag (nl (th (sq (bk (sq (rg (lPA J J T.agg25 J (cal0 (φs:= [agg [sl 1 rE_ t.aC,sl 2 sE t.sT]]) (φ:=bl (specOK t)) ⟨J,tV⟩ (ref03.Is_ok t) T.ent32 (no J (mv ?_))))))))))))))
 apply gOr (t:=9) (pd:=13) rfl
 rotate_left
 ·intro hg0 fin
  have hg0':=hg0
  try simp at hg0'
  exact gy J J J hg0 (lPA J J T.agg25 J (gy J J J hg0 (cal0 (φs:= [agg [sl 1 rE_ s.aC,sl 2 sE s.sT]]) (φ:=bl (specOK s)) ⟨J,tV⟩ (ref03.Is_ok s) T.ent32 (gy J J J hg0 (no J (pkF J hg0 J (drp (X:= [(12,_),(11,_),(10,_)]) ⟨J,J,J,tV⟩ fin)))))))
 ·intro hg0 fin
  exact gn J J J hg0 J J (gn J J J hg0 J J (gn J J J hg0 J J (pkT J hg0 J (drp (X:= [(12,_),(11,_),(10,_)]) ⟨J,J,J,tV⟩ fin))))
 refine ag (nl (th ?_))
 refine cd J (fun hc0=> ?_) (fun hc0=> ?_)
 ·skip
  have hn:¬(specOK t=true∧specOK s=true):=by rintro⟨h1,h2⟩;simp[h1,h2] at hc0
  refine sq (rg (ag (nl (th (rt (rb (rt_ ?_)))))))
  have hr0:(30:Int)=(bothE t s):=by
   unfold bothE;rw[if_neg hn]
  exact rE () [.tmp 4] J [int 30] ⟨.tmp J,tV⟩ (cA1 (fun x0=>rV [int x0]) hr0) trivial eX
 ·skip
  have hy:specOK t=true∧specOK s=true:=by
   cases h1:specOK t<;>cases h2:specOK s<;>simp_all
  refine sq (rg (fP J T.fld25_0 (lP J J J T.one22 (fP J T.fld25_0 (lP J J J T.one22 (cal0 (φs:= [sl 1 rE_ t.aC,sl 1 rE_ s.aC]) (φ:=bl (decide (t.aC=s.aC))) ⟨J,J,tV⟩ (ref01.SameStrings_ok _ _) T.ent33 (no J (ag (nl (th ?_))))))))))
  refine cd J (fun hc1=> ?_) (fun hc1=> ?_)
  ·skip
   refine sq (rg (ag (nl (th (rt (rb (rt_ ?_)))))))
   have hr0:(10:Int)=(bothE t s):=by
    unfold bothE;rw[if_pos hy,if_neg (by simpa using hc1)]
   exact rE () [.tmp 4] J [int 10] ⟨.tmp J,tV⟩ (cA1 (fun x0=>rV [int x0]) hr0) trivial eX
  ·skip
   refine sk (eb (th (sq (rg (ag (nl (th (rt ?_))))))))
   have hr0:(0:Int)=(bothE t s):=by
    unfold bothE;rw[if_pos hy,if_pos (by simpa using hc1)]
   exact rE () [.tmp 4] J [int 0] ⟨.tmp J,tV⟩ (cA1 (fun x0=>rV [int x0]) hr0) trivial eX
theorem fork_ok:
 Fn0 Tryz.prog 53 [] (spec forkS):=by
 refine fnI Tryz.func53 rfl rfl (fun w0 F0=> ?_)
 refine sq (rg (al (key:=0) T.z25 (eC (eC eZ)) fun b0=>(nl (th (sq (rg (bsE (enc:=rE_) (xs:= [({ data:= #[97] }),({ data:= #[98] })]) (css:= [[str ({ data:= #[97] })],[str ({ data:= #[98] })]]) T.mk22 ⟨J,J,p1 (φ:=str ({ data:= #[97] })) J,⟨J,J,p1 (φ:=str ({ data:= #[98] })) J,tV⟩⟩ J J J J (bsE (enc:=nE) (xs:= [1,2]) (css:= [[int 1],[int 2]]) T.mk36 ⟨J,J,p1 (φ:=int 1) J,⟨J,J,p1 (φ:=int 2) J,tV⟩⟩ J J J J (bsE (enc:=nE) (xs:= [0,0]) (css:= [[int 0],[int 0]]) T.mk36 ⟨J,J,p1 (φ:=int 0) J,⟨J,J,p1 (φ:=int 0) J,tV⟩⟩ J J J J (bd (css:= [(0,_),(1,_)]) T.st81 (eC (eC eZ)) ⟨J,J,p1 (φ:=sl 1 nE [1,2]) J,⟨J,J,p1 (φ:=sl 1 nE [0,0]) J,tV⟩⟩ (bsE (enc:=sE) (xs:= [(⟨[1,2],[0,0]⟩)]) (css:= [[sl 1 nE [1,2],sl 1 nE [0,0]]]) T.mk23 ⟨J,J,pA (cs:= [sl 1 nE [1,2],sl 1 nE [0,0]]) J,tV⟩ J J J J (bd (css:= [(0,_),(1,_)]) T.st25 (eC (eC eZ)) ⟨J,J,p1 (φ:=sl 1 rE_ [({ data:= #[97] }),({ data:= #[98] })]) J,⟨J,J,p1 (φ:=sl 2 sE [(⟨[1,2],[0,0]⟩)]) J,tV⟩⟩ (sPA (cs':= [sl 1 rE_ [({ data:= #[97] }),({ data:= #[98] })],sl 2 sE [(⟨[1,2],[0,0]⟩)]]) J J J T.agg25 J J (nl (th (rt ?_))))))))))))))))
 have hr0: [({ data:= #[97] }),({ data:= #[98] })]=forkS.aC:=by
  first|rfl|simp_all|omega
 have hr1: [(⟨[1,2],[0,0]⟩)]=forkS.sT:=by
  first|rfl|simp_all|omega
 exact rE () [.cell 0 25] J [agg [sl 1 rE_ [({ data:= #[97] }),({ data:= #[98] })],sl 2 sE [(⟨[1,2],[0,0]⟩)]]] ⟨.agg J J T.agg25 J J,tV⟩ (cA2 (fun x0 x1=>rV [agg [sl 1 rE_ x0,sl 2 sE x1]]) hr0 hr1) trivial eX
theorem awake_ok:
 AL.Fn Tryz.prog 12 [] [(998,ambH tab)] (ι:=Unit) (fun _ _=>bl true) (fun _=> []):=by
 refine fnI Tryz.func12 rfl rfl (fun w0 F0=> ?_)
 have hfk:smallSpec forkS:=fork_okS.small;have hfo:=fork_okS;have hwo:=want_okS
 refine tbH 9999 998 rfl ?_
 refine sq (rg (ag (nl (th (sq (rg (cal0 (φs:= []) (φ:=agg [sl 1 rE_ forkS.aC,sl 2 sE forkS.sT]) trivial prodk.fork_ok T.ent53 (cal0 (φs:= []) (φ:=agg [sl 1 rE_ forkS.aC,sl 2 sE forkS.sT]) trivial prodk.fork_ok T.ent53 (tbU (ψ:=tab) 8 9999 J J (cal0 (φs:= [both (agg [sl 1 rE_ forkS.aC,sl 2 sE forkS.sT]) tab,agg [sl 1 rE_ forkS.aC,sl 2 sE forkS.sT]]) (φ:=tup [agg [sl 1 rE_ ((cmpS forkS forkS).1).aC,sl 2 sE ((cmpS forkS forkS).1).sT],int ((cmpS forkS forkS).2)]) ⟨J,J,tV⟩ (prodc.Compose_ok forkS forkS aS aS) T.ent15 (mv (xt J J (xt J J (al (key:=1) T.z25 (eC (eC eZ)) fun b1=>(sPA (cs':= [sl 1 rE_ ((cmpS forkS forkS).1).aC,sl 2 sE ((cmpS forkS forkS).1).sT]) J J J T.agg25 J J (ag (nl (th (sq (rg (bsE (enc:=rE_) (xs:= [({ data:= #[97] }),({ data:= #[98] })]) (css:= [[str ({ data:= #[97] })],[str ({ data:= #[98] })]]) T.mk22 ⟨J,J,p1 (φ:=str ({ data:= #[97] })) J,⟨J,J,p1 (φ:=str ({ data:= #[98] })) J,tV⟩⟩ J J J J (bsE (enc:=nE) (xs:= [0,1,2]) (css:= [[int 0],[int 1],[int 2]]) T.mk36 ⟨J,J,p1 (φ:=int 0) J,⟨J,J,p1 (φ:=int 1) J,⟨J,J,p1 (φ:=int 2) J,tV⟩⟩⟩ J J J J (bsE (enc:=nE) (xs:= [0,0]) (css:= [[int 0],[int 0]]) T.mk36 ⟨J,J,p1 (φ:=int 0) J,⟨J,J,p1 (φ:=int 0) J,tV⟩⟩ J J J J (bd (css:= [(0,_),(1,_)]) T.st81 (eC (eC eZ)) ⟨J,J,p1 (φ:=sl 1 nE [0,1,2]) J,⟨J,J,p1 (φ:=sl 1 nE [0,0]) J,tV⟩⟩ (bsE (enc:=sE) (xs:= [(⟨[0,1,2],[0,0]⟩)]) (css:= [[sl 1 nE [0,1,2],sl 1 nE [0,0]]]) T.mk23 ⟨J,J,pA (cs:= [sl 1 nE [0,1,2],sl 1 nE [0,0]]) J,tV⟩ J J J J (bd (css:= [(0,_),(1,_)]) T.st25 (eC (eC eZ)) ⟨J,J,p1 (φ:=sl 1 rE_ [({ data:= #[97] }),({ data:= #[98] })]) J,⟨J,J,p1 (φ:=sl 2 sE [(⟨[0,1,2],[0,0]⟩)]) J,tV⟩⟩ (kn 18 (spec wantS) J (fun h=>h) (al (key:=3) T.z25 (eC (eC eZ)) fun b3=>(sPA (cs':= [sl 1 rE_ wantS.aC,sl 2 sE wantS.sT]) J J J T.agg25 J J (nl (th (sq (rg (cal0 (φs:= []) (φ:=agg [sl 1 rE_ forkS.aC,sl 2 sE forkS.sT]) trivial prodk.fork_ok T.ent53 (cal0 (φs:= []) (φ:=agg [sl 1 rE_ forkS.aC,sl 2 sE forkS.sT]) trivial prodk.fork_ok T.ent53 (bsE (enc:=nE) (xs:= [0,1]) (css:= [[int 0],[int 1]]) T.mk36 ⟨J,J,p1 (φ:=int 0) J,⟨J,J,p1 (φ:=int 1) J,tV⟩⟩ J J J J (cl (prodp.Parts_ok forkS forkS aS aS [0,1] 0) T.ent22 trivial fun N23 i23=> ?_)))))))))))))))))))))))))))))))))))))
 have hpf:=fork_parts i23.2
 have hm1:=made_ok hpf.2.1
 have hm2:=made_ok hpf.2.2.1
 refine mv (xt rfl rfl (xt rfl rfl (xt rfl rfl (al (key:=4) T.z43 (eC (eC eZ)) fun b4=>(al (key:=5) T.z43 (eC (eC eZ)) fun b5=>(sPA (cs':= [sl 1 rE_ i23.1.1.1.aC,sl 1 gE i23.1.1.1.sT]) rfl rfl rfl T.agg43 rfl rfl (sPA (cs':= [sl 1 rE_ i23.1.1.2.aC,sl 1 gE i23.1.1.2.sT]) rfl rfl rfl T.agg43 rfl rfl (ag (nl (th (sq (dr (nh:=28) [0,1,3,7,7,31,63,127,255,511,1023,2047,4095,4095,16383,32767,65535,131071,131071,524287,1048575,2097151,4194303,4194303,4194303,33554431,67108863,134217727] T.mixed kR ?_))))))))))))
 refine st_ J (fun _ _ _ gq kq=>mv' (gq.1.trans J) kq) ?_
 refine st_ J (fun _ _ _ gq kq=>bi (gq.1.trans J) J b_eql kq) ?_
 refine st_ J (fun _ _ _ gq kq=>mv' (gq.1.trans J) kq) ?_
 refine sg_ (φ:=agg [sl 1 rE_ ((cmpS forkS forkS).1).aC,sl 2 sE ((cmpS forkS forkS).1).sT]) J J J J (List.mem_of_elem_eq_true J) (fun hgd=> ?_) ?_
 ·have hgd':=hgd
  try simp at hgd'
  exact fun _ _ _ gq kq=>lPA (gq.1.trans J) J T.agg25 J kq
 refine sg_ (φ:=agg [sl 1 rE_ wantS.aC,sl 2 sE wantS.sT]) J J J J (List.mem_of_elem_eq_true J) (fun hgd=> ?_) ?_
 ·have hgd':=hgd
  try simp at hgd'
  exact fun _ _ _ gq kq=>lPA (gq.1.trans J) J T.agg25 J kq
 refine sg_ (φ:=bl (fineR ((cmpS forkS forkS).1) wantS)) J J J J (List.mem_of_elem_eq_true J) (fun hgd=> ?_) ?_
 ·have hgd':=hgd
  try simp at hgd'
  exact fun _ _ _ gq kq=>cal0 (φs:= [agg [sl 1 rE_ ((cmpS forkS forkS).1).aC,sl 2 sE ((cmpS forkS forkS).1).sT],agg [sl 1 rE_ wantS.aC,sl 2 sE wantS.sT]]) (φ:=bl (fineR ((cmpS forkS forkS).1) wantS)) ⟨(gq.1.trans (gif_t hgd)),(gq.2.1.trans (gif_t hgd)),tV⟩ (dive.Fine_ok ((cmpS forkS forkS).1) wantS aS) T.ent54 kq
 refine st_ J (fun _ _ _ gq kq=>pk (gq.1.trans J) (pk_and (x:= .tmp 29) (gq.1.trans J) (gq.2.1.trans J) J) kq) ?_
 refine st_ J (fun _ _ _ gq kq=>mv' (gq.1.trans J) kq) ?_
 refine sg_ (φ:=int i23.1.2) J J J J (List.mem_of_elem_eq_true J) (fun hgd=> ?_) ?_
 ·have hgd':=hgd
  try simp at hgd'
  exact fun _ _ _ gq kq=>mv' (gq.1.trans J) kq
 refine sg_ (φ:=bl (decide (i23.1.2=0))) J J J J (List.mem_of_elem_eq_true J) (fun hgd=> ?_) ?_
 ·have hgd':=hgd
  try simp at hgd'
  exact fun _ _ _ gq kq=>bi (gq.1.trans (gif_t hgd)) J b_eql kq
 refine st_ J (fun _ _ _ gq kq=>pk (gq.1.trans J) (pk_and (x:= .tmp 34) (gq.1.trans J) (gq.2.1.trans J) J) kq) ?_
 refine st_ J (fun _ _ _ gq kq=>mv' (gq.1.trans J) kq) ?_
 refine sg_ (φ:=agg [sl 1 rE_ i23.1.1.1.aC,sl 1 gE i23.1.1.1.sT]) J J J J (List.mem_of_elem_eq_true J) (fun hgd=> ?_) ?_
 ·have hgd':=hgd
  try simp at hgd'
  exact fun _ _ _ gq kq=>lPA (gq.1.trans J) J T.agg43 J kq
 refine sg_ (φ:=agg [sl 1 rE_ forkS.aC,sl 2 sE forkS.sT]) J J J J (List.mem_of_elem_eq_true J) (fun hgd=> ?_) ?_
 ·have hgd':=hgd
  try simp at hgd'
  exact fun _ _ _ gq kq=>cal0 (φs:= []) (φ:=agg [sl 1 rE_ forkS.aC,sl 2 sE forkS.sT]) trivial prodk.fork_ok T.ent53 kq
 refine sg_ (φ:=bl (madeB i23.1.1.1 forkS)) J J J J (List.mem_of_elem_eq_true J) (fun hgd=> ?_) ?_
 ·have hgd':=hgd
  try simp at hgd'
  exact fun _ _ _ gq kq=>cal0 (φs:= [agg [sl 1 rE_ i23.1.1.1.aC,sl 1 gE i23.1.1.1.sT],agg [sl 1 rE_ forkS.aC,sl 2 sE forkS.sT]]) (φ:=bl (madeB i23.1.1.1 forkS)) ⟨(gq.1.trans (gif_t hgd)),(gq.2.1.trans (gif_t hgd)),tV⟩ (divg.Made_ok i23.1.1.1 forkS aS) T.ent24 kq
 refine st_ J (fun _ _ _ gq kq=>pk (gq.1.trans J) (pk_and (x:= .tmp 38) (gq.1.trans J) (gq.2.1.trans J) J) kq) ?_
 refine st_ J (fun _ _ _ gq kq=>mv' (gq.1.trans J) kq) ?_
 refine sg_ (φ:=agg [sl 1 rE_ i23.1.1.2.aC,sl 1 gE i23.1.1.2.sT]) J J J J (List.mem_of_elem_eq_true J) (fun hgd=> ?_) ?_
 ·have hgd':=hgd
  try simp at hgd'
  exact fun _ _ _ gq kq=>lPA (gq.1.trans J) J T.agg43 J kq
 refine sg_ (φ:=agg [sl 1 rE_ forkS.aC,sl 2 sE forkS.sT]) J J J J (List.mem_of_elem_eq_true J) (fun hgd=> ?_) ?_
 ·have hgd':=hgd
  try simp at hgd'
  exact fun _ _ _ gq kq=>cal0 (φs:= []) (φ:=agg [sl 1 rE_ forkS.aC,sl 2 sE forkS.sT]) trivial prodk.fork_ok T.ent53 kq
 refine sg_ (φ:=bl (madeB i23.1.1.2 forkS)) J J J J (List.mem_of_elem_eq_true J) (fun hgd=> ?_) ?_
 ·have hgd':=hgd
  try simp at hgd'
  exact fun _ _ _ gq kq=>cal0 (φs:= [agg [sl 1 rE_ i23.1.1.2.aC,sl 1 gE i23.1.1.2.sT],agg [sl 1 rE_ forkS.aC,sl 2 sE forkS.sT]]) (φ:=bl (madeB i23.1.1.2 forkS)) ⟨(gq.1.trans (gif_t hgd)),(gq.2.1.trans (gif_t hgd)),tV⟩ (divg.Made_ok i23.1.1.2 forkS aS) T.ent24 kq
 refine st_ J (fun _ _ _ gq kq=>pk (gq.1.trans J) (pk_and (x:= .tmp 43) (gq.1.trans J) (gq.2.1.trans J) J) kq) ?_
 refine st_ J (fun _ _ _ gq kq=>mv' (gq.1.trans J) kq) ?_
 refine sg_ (φ:=agg [sl 1 rE_ i23.1.1.1.aC,sl 1 gE i23.1.1.1.sT]) J J J J (List.mem_of_elem_eq_true J) (fun hgd=> ?_) ?_
 ·have hgd':=hgd
  try simp at hgd'
  exact fun _ _ _ gq kq=>lPA (gq.1.trans J) J T.agg43 J kq
 refine sg_ (φ:=agg [sl 1 rE_ i23.1.1.2.aC,sl 1 gE i23.1.1.2.sT]) J J J J (List.mem_of_elem_eq_true J) (fun hgd=> ?_) ?_
 ·have hgd':=hgd
  try simp at hgd'
  exact fun _ _ _ gq kq=>lPA (gq.1.trans J) J T.agg43 J kq
 refine sg_ (φ:=sl 1 nE [0,1]) J J J J (List.mem_of_elem_eq_true J) (fun hgd=> ?_) ?_
 ·have hgd':=hgd
  try simp at hgd'
  exact fun _ _ _ gq kq=>bsE (enc:=nE) (xs:= [0,1]) (css:= [[int 0],[int 1]]) T.mk36 ⟨J,J,p1 (φ:=int 0) J,⟨J,J,p1 (φ:=int 1) J,tV⟩⟩ J J J J kq
 refine sg_ (φ:=bl (showB i23.1.1.1 i23.1.1.2 [0,1] 0)) J J J J (List.mem_of_elem_eq_true J) (fun hgd=> ?_) ?_
 ·have hgd':=hgd
  try simp at hgd'
  exact fun _ _ _ gq kq=>cal0 (φs:= [agg [sl 1 rE_ i23.1.1.1.aC,sl 1 gE i23.1.1.1.sT],agg [sl 1 rE_ i23.1.1.2.aC,sl 1 gE i23.1.1.2.sT],sl 1 nE [0,1],int 0]) (φ:=bl (showB i23.1.1.1 i23.1.1.2 [0,1] 0)) ⟨(gq.1.trans (gif_t hgd)),(gq.2.1.trans (gif_t hgd)),(gq.2.2.1.trans (gif_t hgd)),J,tV⟩ (prodp.Shows_ok i23.1.1.1 i23.1.1.2 aS aS [0,1] 0) T.ent25 kq
 refine st_ J (fun _ _ _ gq kq=>pk (gq.1.trans J) (pk_and (x:= .tmp 48) (gq.1.trans J) (gq.2.1.trans J) J) kq) ?_
 refine st_ J (fun _ _ _ gq kq=>ag' (gq.1.trans J) kq) ?_
 refine pn (nl (th (rt ?_)))
 have hr0:((((((decide (((cmpS forkS forkS).2)=0))&&(fineR ((cmpS forkS forkS).1) wantS))&&(decide (i23.1.2=0)))&&(madeB i23.1.1.1 forkS))&&(madeB i23.1.1.2 forkS))&&(showB i23.1.1.1 i23.1.1.2 [0,1] 0))=true:=by
  have h1:=fork_cmp
  rw[h1.2,hpf.2.1,hpf.2.2.1,hpf.2.2.2,decide_eq_true h1.1,decide_eq_true hpf.1];rfl
 exact rE () [.tmp 0] J [bl ((((((decide (((cmpS forkS forkS).2)=0))&&(fineR ((cmpS forkS forkS).1) wantS))&&(decide (i23.1.2=0)))&&(madeB i23.1.1.1 forkS))&&(madeB i23.1.1.2 forkS))&&(showB i23.1.1.1 i23.1.1.2 [0,1] 0))] ⟨.tmp J,tV⟩ (cA1 (fun x0=>rV [bl x0]) hr0) trivial eX
theorem ProductParts_ok (s:SS) (hss:smallSpec s) (t:SS) (hts:smallSpec t) (w:List Int) (hlb:w.length≤17592186044416) (u:Int):
 Fn0 Tryz.prog 4 [tabbed (spec s),spec t,ints w,int u] (bl true):=by
 refine fnI Tryz.func4 rfl rfl (fun w0 F0=> ?_)
 refine tbI 0 9999 rfl ?_
 refine fcC (inhS 0 J) (fun hS0=> ?_)
 obtain⟨hsa0,hss0,hse0⟩:=sLn hS0
 refine fcC (inhS 1 J) (fun hS1=> ?_)
 obtain⟨hsa1,hss1,hse1⟩:=sLn hS1
 refine fcC (slenI 2 J) (fun hm2=> ?_)
 refine sq (rg (bx (key:=4) (cs:= [sl 1 rE_ s.aC,sl 2 sE s.sT]) J fun b4=>(bx (key:=5) (cs:= [sl 1 rE_ t.aC,sl 2 sE t.sT]) J fun b5=>(ag (nl (th (sq (sq (rg (fP J T.fld25_1 (lP J J J T.one23 (fc (slenI 15 J) fun hm15=>(lnF J T.sl23 (bi J J b_gtr (mv ?_)))))))))))))))
 apply gOr (t:=18) (pd:=23) rfl
 rotate_left
 ·intro hg0 fin
  have hg0':=hg0
  try simp at hg0'
  exact gy J J J hg0 (fP J T.fld25_1 (gy J J J hg0 (lP J J J T.one23 (gy J J J hg0 (fc (slenI 20 J) fun hm20=>(lnF J T.sl23 (gy J J J hg0 (bi J J b_gtr (pkF J hg0 J (drp (X:= [(22,_),(21,_),(20,_),(19,_)]) ⟨J,J,J,J,tV⟩ fin))))))))))
 ·intro hg0 fin
  exact gn J J J hg0 J J (gn J J J hg0 J J (gn J J J hg0 J J (gn J J J hg0 J J (pkT J hg0 J (drp (X:= [(22,_),(21,_),(20,_),(19,_)]) ⟨J,J,J,J,tV⟩ fin)))))
 refine mv ?_
 apply gOr (t:=24) (pd:=28) rfl
 rotate_left
 ·intro hg1 fin
  have hg1':=hg1
  try simp at hg1'
  exact gy J J J hg1 (lPA J J T.agg25 J (gy J J J hg1 (cal0 (φs:= [agg [sl 1 rE_ s.aC,sl 2 sE s.sT],int 300]) (φ:=bl (few s 300)) ⟨J,J,tV⟩ (ref03.Few_ok s _ O) T.ent18 (gy J J J hg1 (no J (pkF J hg1 J (drp (X:= [(27,_),(26,_),(25,_)]) ⟨J,J,J,tV⟩ fin)))))))
 ·intro hg1 fin
  exact gn J J J hg1 J J (gn J J J hg1 J J (gn J J J hg1 J J (pkT J hg1 J (drp (X:= [(27,_),(26,_),(25,_)]) ⟨J,J,J,tV⟩ fin))))
 refine mv ?_
 apply gOr (t:=29) (pd:=33) rfl
 rotate_left
 ·intro hg2 fin
  have hg2':=hg2
  try simp at hg2'
  exact gy J J J hg2 (lPA J J T.agg25 J (gy J J J hg2 (cal0 (φs:= [agg [sl 1 rE_ t.aC,sl 2 sE t.sT],int 300]) (φ:=bl (few t 300)) ⟨J,J,tV⟩ (ref03.Few_ok t _ O) T.ent18 (gy J J J hg2 (no J (pkF J hg2 J (drp (X:= [(32,_),(31,_),(30,_)]) ⟨J,J,J,tV⟩ fin)))))))
 ·intro hg2 fin
  exact gn J J J hg2 J J (gn J J J hg2 J J (gn J J J hg2 J J (pkT J hg2 J (drp (X:= [(32,_),(31,_),(30,_)]) ⟨J,J,J,tV⟩ fin))))
 refine nl (th ?_)
 refine cd J (fun hc0=> ?_) (fun hc0=> ?_)
 ·skip
  refine sq (rg (calT (ψ:=tab) (φs:= []) (φ:=bl true) trivial prodk.awake_ok T.ent12 9999 J J (ag (nl (th (rt (rt_ ?_)))))))
  exact rE () [.tmp 8] J [bl true] ⟨.tmp J,tV⟩ J trivial eX
 ·skip
  obtain⟨hz1,hz2,hz3,hz4⟩:=parts_f0 hc0
  have hmz:s.sT.length*t.sT.length≤12*12:=Nat.mul_le_mul hz1 hz2
  refine sk (th (sq (rg (lPA J J T.agg25 J (lPA J J T.agg25 J (cal0 (φs:= [agg [sl 1 rE_ s.aC,sl 2 sE s.sT],agg [sl 1 rE_ t.aC,sl 2 sE t.sT]]) (φ:=int (bothE s t)) ⟨J,J,tV⟩ (prodk.both8_ok s t) T.ent13 (ag (nl (th (sq (rg (fP J T.fld25_0 (lP J J J T.one22 (fc (slenI 39 J) fun hm39=>(lnF J T.sl22 (ag (nl (th (sq (sq (rg (mv (bi J J b_eql (mv ?_))))))))))))))))))))))))
  apply gAnd (t:=43) (pd:=54) rfl
  rotate_left
  ·intro hg3 fin
   have hg3':=hg3
   try simp at hg3'
   have hb0:fineE s t=0:=of_decide_eq_true hg3
   have hn8:=(okSpec_of (Go.Proofs.YtcjemmihcplgdaaGreatDoor.fine_ok hb0).1).n8
   refine gy rfl rfl rfl hg3 (mv (gy rfl rfl rfl hg3 (mv (gy rfl rfl rfl hg3 (cal0 (φs:= [int (s.aC.length:Int),sl 1 nE w]) (φ:=bl (wordOK (s.aC.length:Int) w)) ⟨rfl,rfl,tV⟩ (starts.Word_ok (s.aC.length:Int) w) T.ent19 (gy rfl rfl rfl hg3 (no rfl (gy rfl rfl rfl hg3 (mv ?_)))))))))
   apply gOr (t:=48) (pd:=53) rfl
   rotate_left
   ·intro hg4 fin
    have hg4':=hg4
    try simp at hg4'
    exact gy J J J hg4 (mv (gy J J J hg4 (mv (gy J J J hg4 (cal0 (φs:= [int (s.aC.length:Int),int u]) (φ:=bl (isSet (s.aC.length:Int) u)) ⟨J,J,tV⟩ (ref01.Set_ok _ _ O O) T.ent20 (gy J J J hg4 (no J (gy J J J hg3 (pkF J hg4 J (drp (X:= [(52,_),(51,_),(50,_),(49,_)]) ⟨J,J,J,J,tV⟩ fin))))))))))
   ·intro hg4 fin
    exact gn J J J hg4 J J (gn J J J hg4 J J (gn J J J hg4 J J (gn J J J hg4 J J (gy J J J hg3 (pkT J hg4 J (drp (X:= [(52,_),(51,_),(50,_),(49,_)]) ⟨J,J,J,J,tV⟩ fin))))))
   exact pkT rfl hg3 rfl (drp (X:= [(53,_),(48,_),(47,_),(46,_),(45,_),(44,_)]) ⟨rfl,rfl,rfl,rfl,rfl,rfl,tV⟩ fin)
  ·intro hg3 fin
   exact gn J J J hg3 J J (gn J J J hg3 J J (gn J J J hg3 J J (gn J J J hg3 J J (gn J J J hg3 J J (gu J J J J J (gu J J J J J (gu J J J J J (gu J J J J J (gn J J J hg3 J J (pkF J hg3 J (drp (X:= [(53,_),(52,_),(51,_),(50,_),(49,_),(48,_),(47,_),(46,_),(45,_),(44,_)]) ⟨J,J,J,J,J,J,J,J,J,J,tV⟩ fin)))))))))))
  refine nl (th ?_)
  refine jn (κ:=Int) (fun p=> [(2,sl 1 nE w),(3,int u),(4,ptr 4 b4 0),(5,ptr 5 b5 0),(8,bl false),(9,int p),(9999,tab)]) (fun p=> [(4,cell b4 [sl 1 rE_ s.aC,sl 2 sE s.sT]),(5,cell b5 [sl 1 rE_ t.aC,sl 2 sE t.sT])]) (fun p=>p=partE s t w u) ?_ ?_
  ·
   refine cd J (fun hc1=> ?_) (fun hc1=> ?_)
   ·skip
    refine rg (ag (nl ?_))
    have hN0:(1:Int)=partE s t w u:=by
     exact parts_e1 hc1
    exact jx (1:Int) hN0 ⟨id,id,id,id,id,id,id,tV⟩ ⟨rI,rI,tV⟩
   ·skip
    refine sk ?_
    have hN0:(bothE s t)=partE s t w u:=by
     exact parts_e0 hc1
    exact jx (bothE s t) hN0 ⟨id,id,id,id,id,id,id,tV⟩ ⟨rI,rI,tV⟩
  ·intro e1 hG
   have hJ1:e1=partE s t w u:=hG
   skip
   show At _ _ _ [(2,sl 1 nE w),(3,int u),(4,ptr 4 b4 0),(5,ptr 5 b5 0),(8,bl false),(9,int e1),(9999,tab)] [(4,cell b4 [sl 1 rE_ s.aC,sl 2 sE s.sT]),(5,cell b5 [sl 1 rE_ t.aC,sl 2 sE t.sT])]
   refine th (sq (sq (rg (mv (bi rfl rfl b_eql (mv ?_))))))
   apply gAnd (t:=57) (pd:=64) rfl
   rotate_left
   ·intro hg5 fin
    have hg5':=hg5
    try simp at hg5'
    have hpe:partE s t w u=0:=by rw[←hJ1];exact of_decide_eq_true hg5
    obtain⟨hfz,hwo,hse⟩:=partE_zero hpe
    obtain⟨hsv,htv,hst⟩:=Go.Proofs.YtcjemmihcplgdaaGreatDoor.fine_ok hfz
    have hs:=okSpec_of hsv
    have ht:=okSpec_of htv
    have hub:=isSet_bd8 hs.n8 hse
    exact gy J J J hg5 (lPA J J T.agg25 J (gy J J J hg5 (lPA J J T.agg25 J (gy J J J hg5 (mv (gy J J J hg5 (mv (gy J J J hg5 (cal0 (φs:= [agg [sl 1 rE_ s.aC,sl 2 sE s.sT],agg [sl 1 rE_ t.aC,sl 2 sE t.sT],sl 1 nE w,int u]) (φ:=bl (both2B s t w u)) ⟨J,J,J,J,tV⟩ (prodp.MayParts_ok s t aS aS aS O w aS u O) T.ent21 (gy J J J hg5 (no J (pkT J hg5 J (drp (X:= [(63,_),(62,_),(61,_),(60,_),(59,_),(58,_)]) ⟨J,J,J,J,J,J,tV⟩ fin)))))))))))))
   ·intro hg5 fin
    exact gn J J J hg5 J J (gn J J J hg5 J J (gn J J J hg5 J J (gn J J J hg5 J J (gn J J J hg5 J J (gn J J J hg5 J J (pkF J hg5 J (drp (X:= [(63,_),(62,_),(61,_),(60,_),(59,_),(58,_)]) ⟨J,J,J,J,J,J,tV⟩ fin)))))))
   refine nl (th ?_)
   refine jn (κ:=Int) (fun p=> [(2,sl 1 nE w),(3,int u),(4,ptr 4 b4 0),(5,ptr 5 b5 0),(8,bl false),(9,int p),(9999,tab)]) (fun p=> [(4,cell b4 [sl 1 rE_ s.aC,sl 2 sE s.sT]),(5,cell b5 [sl 1 rE_ t.aC,sl 2 sE t.sT])]) (fun p=>p=partF s t w u) ?_ ?_
   ·
    refine cd J (fun hc2=> ?_) (fun hc2=> ?_)
    ·skip
     refine rg (ag (nl ?_))
     have hN0:(3:Int)=partF s t w u:=by
      rw[hJ1] at hc2;exact parts_e3 hc2
     exact jx (3:Int) hN0 ⟨id,id,id,id,id,id,id,tV⟩ ⟨rI,rI,tV⟩
    ·skip
     refine sk ?_
     have hN0:e1=partF s t w u:=by
      rw[hJ1] at hc2 ⊢;exact parts_e4 hc2
     exact jx e1 hN0 ⟨id,id,id,id,id,id,id,tV⟩ ⟨rI,rI,tV⟩
   ·intro e2 hG
    have hJ2:e2=partF s t w u:=hG
    skip
    show At _ _ _ [(2,sl 1 nE w),(3,int u),(4,ptr 4 b4 0),(5,ptr 5 b5 0),(8,bl false),(9,int e2),(9999,tab)] [(4,cell b4 [sl 1 rE_ s.aC,sl 2 sE s.sT]),(5,cell b5 [sl 1 rE_ t.aC,sl 2 sE t.sT])]
    refine th (sq ?_)
    refine drH (nh:=17) [0,1,0,7,0,31,0,127,255,511,511,511,0,0,13311,30719,65535] [(none,[4]),(none,[]),(none,[5]),(none,[]),(none,[]),(none,[]),(none,[]),(none,[]),(none,[]),(none,[]),(none,[]),(none,[]),(some 11,[]),(some 12,[]),(some 11,[11]),(some 12,[12]),(none,[])] T.mixed kR kR ?_
    refine stv (d:=66) (fun β0=>agg [sl 1 rE_ s.aC,sl 2 sE s.sT]) [4] J (fun β β' hb=>J) (fun β0 _ _ _ _ gq gh kq=>lPA (gq.1.trans J) (gh.1.trans J) T.agg25 J kq) ?_
    refine stv (d:=67) (fun β0=>agg [sl 1 rE_ s.aC,sl 2 sE s.sT]) [] J (fun β β' hb=>J) (fun β0 _ _ _ _ gq gh kq=>calW (φs:= [agg [sl 1 rE_ s.aC,sl 2 sE s.sT]]) (φ:=agg [sl 1 rE_ s.aC,sl 2 sE s.sT]) ⟨(gq.1.trans J),tV⟩ (ref03.Copy_ok s O) T.ent16 (fun N hN=>fun h=>agg_le (cs:= [fre N (sl 1 rE_ s.aC),fre N (sl 2 sE s.sT)]) (ds:= [sl 1 rE_ s.aC,sl 2 sE s.sT]) ⟨fun h=>nw_le h,fun h=>nw_le h,tV⟩ h) kq) ?_
    refine stv (d:=68) (fun β0=>agg [sl 1 rE_ t.aC,sl 2 sE t.sT]) [5] J (fun β β' hb=>J) (fun β0 _ _ _ _ gq gh kq=>lPA (gq.1.trans J) (gh.1.trans J) T.agg25 J kq) ?_
    refine stv (d:=69) (fun β0=>agg [sl 1 rE_ t.aC,sl 2 sE t.sT]) [] J (fun β β' hb=>J) (fun β0 _ _ _ _ gq gh kq=>calW (φs:= [agg [sl 1 rE_ t.aC,sl 2 sE t.sT]]) (φ:=agg [sl 1 rE_ t.aC,sl 2 sE t.sT]) ⟨(gq.1.trans J),tV⟩ (ref03.Copy_ok t O) T.ent16 (fun N hN=>fun h=>agg_le (cs:= [fre N (sl 1 rE_ t.aC),fre N (sl 2 sE t.sT)]) (ds:= [sl 1 rE_ t.aC,sl 2 sE t.sT]) ⟨fun h=>nw_le h,fun h=>nw_le h,tV⟩ h) kq) ?_
    refine stv (d:=70) (fun β0=>sl 1 nE w) [] J (fun β β' hb=>J) (fun β0 _ _ _ _ gq gh kq=>mv' (gq.1.trans J) kq) ?_
    refine stv (d:=71) (fun β0=>sl 1 nE w) [] J (fun β β' hb=>J) (fun β0 _ _ _ _ gq gh kq=>appendF (enc:=nE) (ys:=w) J (gq.1.trans J) T.mk36 mL kq) ?_
    refine stv (d:=72) (fun β0=>int u) [] J (fun β β' hb=>J) (fun β0 _ _ _ _ gq gh kq=>mv' (gq.1.trans J) kq) ?_
    refine ste (d:=73) encQ decQ decQ_enc (fun z=>PartsOK s t w u z) (fun z=>tup [agg [sl 1 rE_ z.1.1.aC,sl 1 gE z.1.1.sT],agg [sl 1 rE_ z.1.2.aC,sl 1 gE z.1.2.sT],int z.2]) rfl (fun β0 _ _ _ _ gq gh kq=>cal (Hi:= []) (φs:= [agg [sl 1 rE_ s.aC,sl 2 sE s.sT],agg [sl 1 rE_ t.aC,sl 2 sE t.sT],sl 1 nE w,int u]) ⟨(gq.1.trans rfl),(gq.2.1.trans rfl),(gq.2.2.1.trans rfl),(gq.2.2.2.1.trans rfl),tV⟩ (prodp.Parts_ok s t hss hts w u) T.ent22 trivial fun N i=>kq i.1 i.2) ?_
    refine stv (d:=65) (fun β0=>whn (PartsOK s t w u (decQ (β0 7))) (tup [agg [sl 1 rE_ ((decQ (β0 7)).1.1).aC,sl 1 gE ((decQ (β0 7)).1.1).sT],agg [sl 1 rE_ ((decQ (β0 7)).1.2).aC,sl 1 gE ((decQ (β0 7)).1.2).sT],int ((decQ (β0 7)).2)])) [] J (fun β β' hb=>by first|rw[hb 7 J]|(dsimp only;rw[hb 7 J])) (fun β0 _ _ _ _ gq gh kq=>mv' (gq.1.trans J) kq) ?_
    refine stv (d:=74) (fun β0=>agg [sl 1 rE_ ((decQ (β0 7)).1.1).aC,sl 1 gE ((decQ (β0 7)).1.1).sT]) [] J (fun β β' hb=>by first|rw[hb 7 J]|(dsimp only;rw[hb 7 J])) (fun β0 _ _ _ _ gq gh kq=>xtW (gq.1.trans J) J kq) ?_
    refine stv (d:=75) (fun β0=>agg [sl 1 rE_ ((decQ (β0 7)).1.2).aC,sl 1 gE ((decQ (β0 7)).1.2).sT]) [] J (fun β β' hb=>by first|rw[hb 7 J]|(dsimp only;rw[hb 7 J])) (fun β0 _ _ _ _ gq gh kq=>xtW (gq.1.trans J) J kq) ?_
    refine stv (d:=76) (fun β0=>int ((decQ (β0 7)).2)) [] J (fun β β' hb=>by first|rw[hb 7 J]|(dsimp only;rw[hb 7 J])) (fun β0 _ _ _ _ gq gh kq=>xtW (gq.1.trans J) J kq) ?_
    refine sta 11 T.z43 (eC (eC eZ)) ?_
    refine sta 12 T.z43 (eC (eC eZ)) ?_
    refine stw 11 (fun β0=>cell (gbk (β0 12)) [sl 1 rE_ ((decQ (β0 7)).1.1).aC,sl 1 gE ((decQ (β0 7)).1.1).sT]) [11] J (fun β β' hb=>by first|rw[hb 7 J,hb 12 J]|(dsimp only;rw[hb 7 J,hb 12 J])) (fun β0 _ _ _ _ gq gh kq=>sPA (cs':= [sl 1 rE_ ((decQ (β0 7)).1.1).aC,sl 1 gE ((decQ (β0 7)).1.1).sT]) (gq.1.trans J) (gh.1.trans J) (gq.2.1.trans J) T.agg43 J J kq) ?_
    refine stw 12 (fun β0=>cell (gbk (β0 13)) [sl 1 rE_ ((decQ (β0 7)).1.2).aC,sl 1 gE ((decQ (β0 7)).1.2).sT]) [12] J (fun β β' hb=>by first|rw[hb 7 J,hb 13 J]|(dsimp only;rw[hb 7 J,hb 13 J])) (fun β0 _ _ _ _ gq gh kq=>sPA (cs':= [sl 1 rE_ ((decQ (β0 7)).1.2).aC,sl 1 gE ((decQ (β0 7)).1.2).sT]) (gq.1.trans J) (gh.1.trans J) (gq.2.1.trans J) T.agg43 J J kq) ?_
    refine stv (d:=13) (fun β0=>int ((decQ (β0 7)).2)) [] J (fun β β' hb=>by first|rw[hb 7 J]|(dsimp only;rw[hb 7 J])) (fun β0 _ _ _ _ gq gh kq=>ag' (gq.1.trans J) kq) ?_
    refine pnH fun β0=>(nl (th (sq (sq (whXC 73 J fun h73=>(rg (mv (bi J J b_neq (nl (th ?_))))))))))
    refine cd J (fun hc3=> ?_) (fun hc3=> ?_)
    ·skip
     have hf:=parts_fail h73 (by rw[←hJ2];exact of_decide_eq_true hc3)
     have hf1:(decQ (β0 7)).2=e2:=by rw[hf,hJ2]
     have hf2:noneM (decQ (β0 7)).1.1=true:=by rw[hf];rfl
     have hf3:noneM (decQ (β0 7)).1.2=true:=by rw[hf];rfl
     refine sq (rg (mv (mv (bi J J b_eql (mv ?_)))))
     apply gAnd (t:=82) (pd:=85) rfl
     rotate_left
     ·intro hg6 fin
      have hg6':=hg6
      try simp at hg6'
      exact gy J J J hg6 (lPA J J T.agg43 J (gy J J J hg6 (cal0 (φs:= [agg [sl 1 rE_ ((decQ (β0 7)).1.1).aC,sl 1 gE ((decQ (β0 7)).1.1).sT]]) (φ:=bl (noneM ((decQ (β0 7)).1.1))) ⟨J,tV⟩ (divs.NoneM_ok ((decQ (β0 7)).1.1)) T.ent23 (pkT J hg6 J (drp (X:= [(84,_),(83,_)]) ⟨J,J,tV⟩ fin)))))
     ·intro hg6 fin
      exact gn J J J hg6 J J (gn J J J hg6 J J (pkF J hg6 J (drp (X:= [(84,_),(83,_)]) ⟨J,J,tV⟩ fin)))
     refine mv ?_
     apply gAnd (t:=86) (pd:=89) rfl
     rotate_left
     ·intro hg7 fin
      have hg7':=hg7
      try simp at hg7'
      exact gy J J J hg7 (lPA J J T.agg43 J (gy J J J hg7 (cal0 (φs:= [agg [sl 1 rE_ ((decQ (β0 7)).1.2).aC,sl 1 gE ((decQ (β0 7)).1.2).sT]]) (φ:=bl (noneM ((decQ (β0 7)).1.2))) ⟨J,tV⟩ (divs.NoneM_ok ((decQ (β0 7)).1.2)) T.ent23 (pkT J hg7 J (drp (X:= [(88,_),(87,_)]) ⟨J,J,tV⟩ fin)))))
     ·intro hg7 fin
      exact gn J J J hg7 J J (gn J J J hg7 J J (pkF J hg7 J (drp (X:= [(88,_),(87,_)]) ⟨J,J,tV⟩ fin)))
     refine mv ?_
     apply gAnd (t:=90) (pd:=92) rfl
     rotate_left
     ·intro hg8 fin
      have hg8':=hg8
      try simp at hg8'
      exact gy J J J hg8 (calT (ψ:=tab) (φs:= []) (φ:=bl true) trivial prodk.awake_ok T.ent12 9999 J J (pkT J hg8 J (drp (X:= [(91,_)]) ⟨J,tV⟩ fin)))
     ·intro hg8 fin
      exact gn J J J hg8 J J (pkF J hg8 J (drp (X:= [(91,_)]) ⟨J,tV⟩ fin))
     refine ag (nl (th (rt (rt_ ?_))))
     have hr0:((((decide (((decQ (β0 7)).2)=e2))&&(noneM ((decQ (β0 7)).1.1)))&&(noneM ((decQ (β0 7)).1.2)))&&true)=true:=by
      rw[hf2,hf3,decide_eq_true hf1];rfl
     exact rE () [.tmp 8] J [bl ((((decide (((decQ (β0 7)).2)=e2))&&(noneM ((decQ (β0 7)).1.1)))&&(noneM ((decQ (β0 7)).1.2)))&&true)] ⟨.tmp J,tV⟩ (cA1 (fun x0=>rV [bl x0]) hr0) trivial eX
    ·skip
     have he2:e2=0:=by have:=of_decide_eq_false hc3;omega
     obtain⟨hpe,hB⟩:=partF_zero (s:=s) (t:=t) (w:=w) (u:=u) (by rw[←hJ2];exact he2)
     obtain⟨hfz,hwo,hse⟩:=partE_zero hpe
     obtain⟨hsv,htv,hst⟩:=Go.Proofs.YtcjemmihcplgdaaGreatDoor.fine_ok hfz
     have hs:=okSpec_of hsv
     have ht:=okSpec_of htv
     have hy:=parts_yes hsv htv hst hwo hpe hB h73
     have hm1:=made_ok hy.2.1
     have hm2:=made_ok hy.2.2.1
     refine sk (th (sq (rg (mv (bi J J b_eql (mv ?_))))))
     apply gAnd (t:=95) (pd:=99) rfl
     rotate_left
     ·intro hg9 fin
      have hg9':=hg9
      try simp at hg9'
      exact gy J J J hg9 (lPA J J T.agg43 J (gy J J J hg9 (lPA J J T.agg25 J (gy J J J hg9 (cal0 (φs:= [agg [sl 1 rE_ ((decQ (β0 7)).1.1).aC,sl 1 gE ((decQ (β0 7)).1.1).sT],agg [sl 1 rE_ s.aC,sl 2 sE s.sT]]) (φ:=bl (madeB ((decQ (β0 7)).1.1) s)) ⟨J,J,tV⟩ (divg.Made_ok ((decQ (β0 7)).1.1) s aS) T.ent24 (pkT J hg9 J (drp (X:= [(98,_),(97,_),(96,_)]) ⟨J,J,J,tV⟩ fin)))))))
     ·intro hg9 fin
      exact gn J J J hg9 J J (gn J J J hg9 J J (gn J J J hg9 J J (pkF J hg9 J (drp (X:= [(98,_),(97,_),(96,_)]) ⟨J,J,J,tV⟩ fin))))
     refine mv ?_
     apply gAnd (t:=100) (pd:=104) rfl
     rotate_left
     ·intro hg10 fin
      have hg10':=hg10
      try simp at hg10'
      exact gy J J J hg10 (lPA J J T.agg43 J (gy J J J hg10 (lPA J J T.agg25 J (gy J J J hg10 (cal0 (φs:= [agg [sl 1 rE_ ((decQ (β0 7)).1.2).aC,sl 1 gE ((decQ (β0 7)).1.2).sT],agg [sl 1 rE_ t.aC,sl 2 sE t.sT]]) (φ:=bl (madeB ((decQ (β0 7)).1.2) t)) ⟨J,J,tV⟩ (divg.Made_ok ((decQ (β0 7)).1.2) t aS) T.ent24 (pkT J hg10 J (drp (X:= [(103,_),(102,_),(101,_)]) ⟨J,J,J,tV⟩ fin)))))))
     ·intro hg10 fin
      exact gn J J J hg10 J J (gn J J J hg10 J J (gn J J J hg10 J J (pkF J hg10 J (drp (X:= [(103,_),(102,_),(101,_)]) ⟨J,J,J,tV⟩ fin))))
     refine mv ?_
     apply gAnd (t:=105) (pd:=111) rfl
     rotate_left
     ·intro hg11 fin
      have hg11':=hg11
      try simp at hg11'
      exact gy J J J hg11 (lPA J J T.agg43 J (gy J J J hg11 (lPA J J T.agg43 J (gy J J J hg11 (mv (gy J J J hg11 (mv (gy J J J hg11 (cal0 (φs:= [agg [sl 1 rE_ ((decQ (β0 7)).1.1).aC,sl 1 gE ((decQ (β0 7)).1.1).sT],agg [sl 1 rE_ ((decQ (β0 7)).1.2).aC,sl 1 gE ((decQ (β0 7)).1.2).sT],sl 1 nE w,int u]) (φ:=bl (showB ((decQ (β0 7)).1.1) ((decQ (β0 7)).1.2) w u)) ⟨J,J,J,J,tV⟩ (prodp.Shows_ok ((decQ (β0 7)).1.1) ((decQ (β0 7)).1.2) aS aS w u) T.ent25 (pkT J hg11 J (drp (X:= [(110,_),(109,_),(108,_),(107,_),(106,_)]) ⟨J,J,J,J,J,tV⟩ fin)))))))))))
     ·intro hg11 fin
      exact gn J J J hg11 J J (gn J J J hg11 J J (gn J J J hg11 J J (gn J J J hg11 J J (gn J J J hg11 J J (pkF J hg11 J (drp (X:= [(110,_),(109,_),(108,_),(107,_),(106,_)]) ⟨J,J,J,J,J,tV⟩ fin))))))
     refine mv ?_
     apply gAnd (t:=112) (pd:=114) rfl
     rotate_left
     ·intro hg12 fin
      have hg12':=hg12
      try simp at hg12'
      exact gy J J J hg12 (calT (ψ:=tab) (φs:= []) (φ:=bl true) trivial prodk.awake_ok T.ent12 9999 J J (pkT J hg12 J (drp (X:= [(113,_)]) ⟨J,tV⟩ fin)))
     ·intro hg12 fin
      exact gn J J J hg12 J J (pkF J hg12 J (drp (X:= [(113,_)]) ⟨J,tV⟩ fin))
     refine ag (nl (th (rt ?_)))
     have hr0:(((((decide (((decQ (β0 7)).2)=0))&&(madeB ((decQ (β0 7)).1.1) s))&&(madeB ((decQ (β0 7)).1.2) t))&&(showB ((decQ (β0 7)).1.1) ((decQ (β0 7)).1.2) w u))&&true)=true:=by
      rw[hy.2.1,hy.2.2.1,hy.2.2.2,decide_eq_true hy.1];rfl
     exact rE () [.tmp 8] J [bl (((((decide (((decQ (β0 7)).2)=0))&&(madeB ((decQ (β0 7)).1.1) s))&&(madeB ((decQ (β0 7)).1.2) t))&&(showB ((decQ (β0 7)).1.1) ((decQ (β0 7)).1.2) w u))&&true)] ⟨.tmp J,tV⟩ (cA1 (fun x0=>rV [bl x0]) hr0) trivial eX
end prodk
end
end Go.Proofs.YtcjemmihcplgdaaGreatDoor
