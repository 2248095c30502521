/- The walks of the functions and the plain laws. Own texts of this claim, packed: Zzsyss, Zzdivz. -/
import Derived.Test.YtcjemmihcplgdaaGreatX15
import Derived.Test.YtcjemmihcplgdaaGreatX29
import Derived.Test.YtcjemmihcplgdaaGreatX24
import Derived.Test.YtcjemmihcplgdaaGreatX26
import Derived.Test.YtcjemmihcplgdaaGreatX28
set_option linter.all false
namespace Go.Proofs.YtcjemmihcplgdaaGreat
open AL Go
set_option maxRecDepth 100000
section
open ref01 ref03 judg wit sysw
theorem sys_ext {a b:SSys} (h1:a.aC=b.aC) (h2:a.sT=b.sT):a=b:=by cases a;cases b;cases h1;cases h2;rfl
instance (a b:SSys):Decidable (a=b):=decidable_of_iff (a.aC=b.aC∧a.sT=b.sT) ⟨fun h=>sys_ext h.1 h.2,fun h=>by subst h;exact⟨rfl,rfl⟩⟩
namespace T
theorem two94:TwoInts Tryz.prog 94 3:=⟨by kernel_rfl,by kernel_rfl,by kernel_rfl,by kernel_rfl,by kernel_rfl⟩
theorem ent63:Ent Tryz.prog 63:=ent_of kR
end T
namespace syss
theorem SameEdges_ok (l m:List (Int × Int)):
 Fn0 Tryz.prog 63 [sl 2 pE l,sl 2 pE m] (bl (decide (l=m))):=by
 refine fnI Tryz.func63 rfl rfl (fun w0 F0=> ?_)
 refine fcC (slenI 0 J) (fun hm0=> ?_)
 refine fcC (slenI 1 J) (fun hm1=> ?_)
 refine sq (rg (ag (nl (th (sq (sq (rg (mv (lnF J T.sl88 (mv (lnF J T.sl88 (bi J J b_neq (nl (th ?_))))))))))))))
 refine cd J (fun hc0=> ?_) (fun hc0=> ?_)
 ·try simp at hc0
  refine sq (rg (ag (nl (th (rt (rt_ ?_))))))
  have hr0:false=(decide (l=m)):=by
   rw[decide_eq_false];intro h;subst h;simp at hc0
  exact rE () [.tmp 4] J [bl false] ⟨.tmp J,tV⟩ (cA1 (fun x0=>rV [bl x0]) hr0) trivial eX
 ·try simp at hc0
  refine sk (th (sq (sq (rg (mv (lnF J T.sl88 (mv (nl (th (bk ?_))))))))))
  have hI0_0:0≤l.length:=by
   first|omega|simp
  have hI0_1:l.take 0=m.take 0:=by
   simp
  refine lp (κ:=Nat) (fun p=> [(1,sl 2 pE m),(12,sl 2 pE l),(13,int (l.length:Int)),(14,int (p:Int))]) (fun p=> []) (fun p=>(p≤l.length)∧(l.take p=m.take p)) (fun p=>l.length- p) 0 ⟨hI0_0,hI0_1⟩ ⟨id,id,id,id,tV⟩ trivial ?_
  intro k hG0
  obtain⟨hk0,hI0⟩:(k≤l.length)∧(l.take k=m.take k):=hG0
  refine sq (rg (bi J J b_lss (nl (th (sq ?_)))))
  refine cd J (fun hc1=> ?_) (fun hc1=> ?_)
  ·try simp at hc1
   refine sk (th (sq (bk (sq (rg (mv (iF J J T.sl88 O gB (lFA J T.agg94 (Nat.le_of_ble_eq_true J) (al (key:=6) T.z94 (eC (eC eZ)) fun b6=>(ag (sPA (cs':= [int ((ix l k).1),int ((ix l k).2)]) J J J T.agg94 J J (nl (th (sq (dr (nh:=6) [0,0,0,6,14,31] T.mixed kR ?_)))))))))))))))
   refine st_ J (fun _ _ _ gq kq=>lPA (gq.1.trans J) J T.agg94 J kq) ?_
   refine st_ J (fun _ _ _ gq kq=>mv' (gq.1.trans J) kq) ?_
   refine st_ J (fun _ _ _ gq kq=>mv' (gq.1.trans J) kq) ?_
   refine st_ J (fun _ _ _ gq kq=>iF (gq.1.trans J) (gq.2.1.trans J) T.sl88 O gB kq) ?_
   refine st_ J (fun _ _ _ gq kq=>lFA (gq.1.trans J) T.agg94 (Nat.le_of_ble_eq_true J) kq) ?_
   refine st_ J (fun _ _ _ gq kq=>biN (gq.1.trans J) (gq.2.1.trans J) T.two94 kq) ?_
   refine pn (nl (th ?_))
   refine cd J (fun hc2=> ?_) (fun hc2=> ?_)
   ·try simp at hc2
    refine sq (rg (ag (nl (th (rt (rb (rt_ (rt_ (rb (rt_ ?_))))))))))
    have hr0:false=(decide (l=m)):=by
     rw[decide_eq_false];intro h;subst h;simp at hc2
    exact rE () [.tmp 4] J [bl false] ⟨.tmp J,tV⟩ (cA1 (fun x0=>rV [bl x0]) hr0) trivial eX
   ·try simp at hc2
    refine sk (eb (th (rg (bi J J (b_add i6) (mv (nl ?_))))))
    have hN0:(k+1)≤l.length:=by
     first|omega|simp_all
    have hN1:l.take (k+1)=m.take (k+1):=by
     rw[take_s O,take_s O,hI0]
     congr 2
     try simp at hc2
     exact Prod.ext hc2.1 hc2.2
    exact ln (k+1) ⟨hN0,hN1⟩ dO ⟨id,id,id,id,tV⟩ trivial
  ·try simp at hc1
   refine ex (xt_ (xt_ (xb (th (sq (rg (ag (nl (th (rt ?_))))))))))
   have hr0:true=(decide (l=m)):=by
    rw[decide_eq_true]
    rw[show k=l.length by omega,List.take_length] at hI0
    try simp at hc0
    rw[show l.length=m.length by omega,List.take_length] at hI0
    exact hI0
   exact rE () [.tmp 4] J [bl true] ⟨.tmp J,tV⟩ (cA1 (fun x0=>rV [bl x0]) hr0) trivial eX
theorem SameM_ok (m n:SSys):
 Fn0 Tryz.prog 32 [sys m,sys n] (bl (decide (m=n))):=by
 refine fnI Tryz.func32 rfl rfl (fun w0 F0=> ?_)
 refine fcC (inhS 0 J) (fun hS0=> ?_)
 obtain⟨hma0,hms0,hme0⟩:=sys_lens hS0
 refine fcC (inhS 1 J) (fun hS1=> ?_)
 obtain⟨hma1,hms1,hme1⟩:=sys_lens hS1
 refine sq (rg (bx (key:=2) (cs:= [sl 1 rE_ m.aC,sl 1 gE m.sT]) J fun b2=>(bx (key:=3) (cs:= [sl 1 rE_ n.aC,sl 1 gE n.sT]) J fun b3=>(ag (nl (th (sq (sq (rg (fP J T.fld38_0 (lP J J J T.one22 (fP J T.fld38_0 (lP J J J T.one22 (cal0 (φs:= [sl 1 rE_ m.aC,sl 1 rE_ n.aC]) (φ:=bl (decide (m.aC=n.aC))) ⟨J,J,tV⟩ (ref01.SameStrings_ok _ _) T.ent42 (no J (mv ?_))))))))))))))))
 apply gOr (t:=13) (pd:=21) rfl
 rotate_left
 ·intro hg0 fin
  have hg0':=hg0
  try simp at hg0'
  exact gy J J J hg0 (fP J T.fld38_1 (gy J J J hg0 (lP J J J T.one36 (gy J J J hg0 (fc (slenI 15 J) fun hm15=>(lnF J T.sl36 (gy J J J hg0 (fP J T.fld38_1 (gy J J J hg0 (lP J J J T.one36 (gy J J J hg0 (fc (slenI 18 J) fun hm18=>(lnF J T.sl36 (gy J J J hg0 (bi J J b_neq (pkF J hg0 J (drp (X:= [(20,_),(19,_),(18,_),(17,_),(16,_),(15,_),(14,_)]) ⟨J,J,J,J,J,J,J,tV⟩ fin)))))))))))))))))
 ·intro hg0 fin
  exact gn J J J hg0 J J (gn J J J hg0 J J (gn J J J hg0 J J (gn J J J hg0 J J (gn J J J hg0 J J (gn J J J hg0 J J (gn J J J hg0 J J (pkT J hg0 J (drp (X:= [(20,_),(19,_),(18,_),(17,_),(16,_),(15,_),(14,_)]) ⟨J,J,J,J,J,J,J,tV⟩ fin))))))))
 refine nl (th ?_)
 refine cd J (fun hc0=> ?_) (fun hc0=> ?_)
 ·try simp at hc0
  refine sq (rg (ag (nl (th (rt (rt_ ?_))))))
  have hr0:false=(decide (m=n)):=by
   rw[decide_eq_false];intro h;subst h;simp at hc0
  exact rE () [.tmp 4] J [bl false] ⟨.tmp J,tV⟩ (cA1 (fun x0=>rV [bl x0]) hr0) trivial eX
 ·try simp at hc0
  refine sk (th (sq (sq (rg (fP J T.fld38_1 (lP J J J T.one36 (fc (slenI 23 J) fun hm23=>(lnF J T.sl36 (mv (nl (th (bk ?_))))))))))))
  have hI0_0:0≤m.sT.length:=by
   first|omega|simp
  have hI0_1:m.sT.take 0=n.sT.take 0:=by
   simp
  refine lp (κ:=Nat) (fun p=> [(3,ptr 3 b3 0),(23,sl 1 gE m.sT),(24,int (m.sT.length:Int)),(25,int (p:Int))]) (fun p=> [(2,cell b2 [sl 1 rE_ m.aC,sl 1 gE m.sT]),(3,cell b3 [sl 1 rE_ n.aC,sl 1 gE n.sT])]) (fun p=>(p≤m.sT.length)∧(m.sT.take p=n.sT.take p)) (fun p=>m.sT.length- p) 0 ⟨hI0_0,hI0_1⟩ ⟨id,id,id,id,tV⟩ ⟨rI,rI,tV⟩ ?_
  intro k hG0
  obtain⟨hk0,hI0⟩:(k≤m.sT.length)∧(m.sT.take k=n.sT.take k):=hG0
  refine sq (rg (bi J J b_lss (nl (th (sq ?_)))))
  refine cd J (fun hc1=> ?_) (fun hc1=> ?_)
  ·try simp at hc1
   refine sk (th (sq (bk (sq (rg (mv (iF J J T.sl36 O gB (lF J J T.one88 (ag (ag (nl (th (sq (rg (mv (fP J T.fld38_1 (lP J J J T.one36 (mv (iF J J T.sl36 O gB (lF J J T.one88 (cal0 (φs:= [sl 2 pE (ix m.sT k),sl 2 pE (ix n.sT k)]) (φ:=bl (decide (ix m.sT k=ix n.sT k))) ⟨J,J,tV⟩ (syss.SameEdges_ok (ix m.sT k) (ix n.sT k)) T.ent63 (no J (nl (th ?_))))))))))))))))))))))))
   refine cd J (fun hc2=> ?_) (fun hc2=> ?_)
   ·try simp at hc2
    refine sq (rg (ag (nl (th (rt (rb (rt_ (rt_ (rb (rt_ ?_))))))))))
    have hr0:false=(decide (m=n)):=by
     rw[decide_eq_false];intro h;subst h;simp at hc2
    exact rE () [.tmp 4] J [bl false] ⟨.tmp J,tV⟩ (cA1 (fun x0=>rV [bl x0]) hr0) trivial eX
   ·try simp at hc2
    refine sk (eb (th (rg (bi J J (b_add i6) (mv (nl ?_))))))
    have hN0:(k+1)≤m.sT.length:=by
     first|omega|simp_all
    have hN1:m.sT.take (k+1)=n.sT.take (k+1):=by
     rw[take_s O,take_s O,hI0,show ix m.sT k=ix n.sT k by simpa using hc2]
    exact ln (k+1) ⟨hN0,hN1⟩ dO ⟨id,id,id,id,tV⟩ ⟨rI,rI,tV⟩
  ·try simp at hc1
   refine ex (xt_ (xt_ (xb (th (sq (rg (ag (nl (th (rt ?_))))))))))
   have hr0:true=(decide (m=n)):=by
    rw[decide_eq_true]
    rw[show k=m.sT.length by omega,List.take_length] at hI0
    try simp at hc0
    rw[show m.sT.length=n.sT.length by omega,List.take_length] at hI0
    exact sys_ext hc0.1 hI0
   exact rE () [.tmp 4] J [bl true] ⟨.tmp J,tV⟩ (cA1 (fun x0=>rV [bl x0]) hr0) trivial eX
end syss
end
section
open ValidM ref01 ref03 ref04 ref06 prog prog2 prog3 prog6 prog13 starts Part Rungs LeftM TrimM RoundM MergeM BisM BisM4 BisM5 WalkM StepM WitM JudgM JudgM2 refw judg wit refj sysw divr divs divd dive divg divw divv divf divc divj divq divp divm diva divo divb divx divn divn2 divn3 spoil wreck syss LevM LevM2 ChsM TrimI QuoM FailM DivM QuoW RefM FitM PartM EncM OtherM
theorem size_okZ {s:SS} (hs:oK s):size s≤8+10000+s.sT.length*264:=by
 have h8:=hs.n8
 have h1:=hs.few1
 have h0:part s 0≤8+10000:=by unfold part;simp;omega
 have key:∀k,k≤s.sT.length→part s k≤8+10000+k*264:=by
  intro k
  induction k with
  |zero=>intro _;omega
  |succ k ih=>
   intro hk
   have h2:=(hs.st k O).len
   have h3:=(hs.st k O).acl
   have h4:=ih O
   rw[part_succ O,Nat.add_mul]
   omega
 exact key _ (Nat.le_refl _)
theorem sizeM_okZ {m:SSys} (h:sysOK m=true):sizeM m≤500000:=by
 have h1:=sysOK_ok h
 have h2:=h1.n8
 have h3:=h1.few1
 unfold sysOK at h
 simp only [Bool.and_eq_true,decide_eq_true_eq] at h
 have h4:=h.2
 unfold sizeM
 omega
theorem div_size (t s:SS):size (divS t s).1≤3000000:=by
 by_cases hf:fineE t s=0
 ·obtain⟨h1,h2,h3⟩:=Go.Proofs.YtcjemmihcplgdaaGreat.fine_ok hf
  cases e:(quoS t s).2 with
  |true=>
   have e2:divS t s=((quoS t s).1,0):=by unfold divS;rw[if_pos hf,if_pos e]
   rw[e2]
   have h:=quo_ok (okSpec_of h1) (okSpec_of h2) h3 e
   have g1:=size_okZ h
   have g2:=h.few1
   show size (quoS t s).1≤3000000
   omega
  |false=>
   have e2:divS t s=(⟨[],[]⟩,2):=by unfold divS;rw[if_pos hf,if_neg (by simp[e])]
   rw[e2];simp[size,part]
 ·have e2:divS t s=(⟨[],[]⟩,fineE t s):=by unfold divS;rw[if_neg hf]
  rw[e2];simp[size,part]
theorem oth_size (t s:SS):size (othS t s).1≤3000000:=by
 unfold othS
 split
 ·exact div_size _ _
 ·simp[size,part]
theorem fits_size {x:SSys} {t s:SS} {v:Bool × SSys} (hb:x.sT.length*(t.sT.length*s.sT.length)+s.sT.length+1≤5000) (h:(fineX x t s≠0→v=(false,⟨[],[]⟩))∧(fineX x t s=0→JdgOK x t s v)):sizeM v.2≤500000:=by
 by_cases hf:fineX x t s=0
 ·obtain⟨hxv,htv,hsv,hxt,hts⟩:=fineX_ok hf
  have hJ:=h.2 hf
  cases e:v.1 with
  |true=>rw[(hJ.yes e).1];simp[sizeM,sumLen]
  |false=>exact sizeM_okZ (part_ok (sysOK_ok hxv) (okSpec_of htv) (okSpec_of hsv) hts hxt hb hJ e).1
 ·rw[h.1 hf];simp[sizeM,sumLen]
namespace T
theorem ent21:Ent Tryz.prog 21:=ent_of kR
theorem ent9:Ent Tryz.prog 9:=ent_of kR
theorem ent10:Ent Tryz.prog 10:=ent_of kR
theorem ent26:Ent Tryz.prog 26:=ent_of kR
theorem ent15:Ent Tryz.prog 15:=ent_of kR
theorem z54:ZeroIs Tryz.prog 54 [.slice none 0 0,.slice none 0 0,.slice none 0 0,.slice none 0 0]:=zeroIs_of kR
theorem ent29:Ent Tryz.prog 29:=ent_of kR
theorem ent31:Ent Tryz.prog 31:=ent_of kR
theorem ent32:Ent Tryz.prog 32:=ent_of kR
theorem arr54:Tryz.prog.underlying 54=some (.array 2 25):=by kernel_rfl
theorem st54:StructT Tryz.prog 54 [(0,2),(2,2)] [.slice none 0 0,.slice none 0 0,.slice none 0 0,.slice none 0 0]:=arrT_of kR kR
theorem agg54:IsAgg Tryz.prog 54 4:=isAgg_of kR
theorem ent34:Ent Tryz.prog 34:=ent_of kR
theorem ent35:Ent Tryz.prog 35:=ent_of kR
end T
namespace divz
theorem DivideOwn_ok (x:SSys) (t:SS) (htm:smallSpec t) (s:SS) (hsm:smallSpec s):
 Fn0 Tryz.prog 7 [sys x,spec t,spec s] (bl true):=by
 refine fnI Tryz.func7 rfl rfl (fun w0 F0=> ?_)
 refine fcC (inhS 0 J) (fun hS0=> ?_)
 obtain⟨hma0,hms0,hme0⟩:=sys_lens hS0
 refine fcC (inhS 1 J) (fun hS1=> ?_)
 obtain⟨hsa1,hss1,hse1⟩:=sLn hS1
 refine fcC (inhS 2 J) (fun hS2=> ?_)
 obtain⟨hsa2,hss2,hse2⟩:=sLn hS2
 refine sq (rg (bx (key:=3) (cs:= [sl 1 rE_ x.aC,sl 1 gE x.sT]) J fun b3=>(bx (key:=4) (cs:= [sl 1 rE_ t.aC,sl 2 sE t.sT]) J fun b4=>(bx (key:=5) (cs:= [sl 1 rE_ s.aC,sl 2 sE s.sT]) J fun b5=>(ag (nl (th (sq (sq (rg (lPA J J T.agg38 J (cal0 (φs:= [agg [sl 1 rE_ x.aC,sl 1 gE x.sT]]) (φ:=bl (tinyB x)) ⟨J,tV⟩ (divv.tiny_ok x) T.ent21 (no J (mv ?_))))))))))))))
 apply gOr (t:=24) (pd:=29) rfl
 rotate_left
 ·intro hg0 fin
  have hg0':=hg0
  try simp at hg0'
  exact gy J J J hg0 (fP J T.fld25_1 (gy J J J hg0 (lP J J J T.one23 (gy J J J hg0 (fc (slenI 26 J) fun hm26=>(lnF J T.sl23 (gy J J J hg0 (bi J J b_gtr (pkF J hg0 J (drp (X:= [(28,_),(27,_),(26,_),(25,_)]) ⟨J,J,J,J,tV⟩ fin))))))))))
 ·intro hg0 fin
  exact gn J J J hg0 J J (gn J J J hg0 J J (gn J J J hg0 J J (gn J J J hg0 J J (pkT J hg0 J (drp (X:= [(28,_),(27,_),(26,_),(25,_)]) ⟨J,J,J,J,tV⟩ fin)))))
 refine mv ?_
 apply gOr (t:=30) (pd:=35) rfl
 rotate_left
 ·intro hg1 fin
  have hg1':=hg1
  try simp at hg1'
  exact gy J J J hg1 (fP J T.fld25_1 (gy J J J hg1 (lP J J J T.one23 (gy J J J hg1 (fc (slenI 32 J) fun hm32=>(lnF J T.sl23 (gy J J J hg1 (bi J J b_gtr (pkF J hg1 J (drp (X:= [(34,_),(33,_),(32,_),(31,_)]) ⟨J,J,J,J,tV⟩ fin))))))))))
 ·intro hg1 fin
  exact gn J J J hg1 J J (gn J J J hg1 J J (gn J J J hg1 J J (gn J J J hg1 J J (pkT J hg1 J (drp (X:= [(34,_),(33,_),(32,_),(31,_)]) ⟨J,J,J,J,tV⟩ fin)))))
 refine mv ?_
 apply gOr (t:=36) (pd:=40) rfl
 rotate_left
 ·intro hg2 fin
  have hg2':=hg2
  try simp at hg2'
  exact gy J J J hg2 (lPA J J T.agg25 J (gy J J J hg2 (cal0 (φs:= [agg [sl 1 rE_ s.aC,sl 2 sE s.sT],int 200]) (φ:=bl (few s 200)) ⟨J,J,tV⟩ (ref03.Few_ok s _ O) T.ent9 (gy J J J hg2 (no J (pkF J hg2 J (drp (X:= [(39,_),(38,_),(37,_)]) ⟨J,J,J,tV⟩ fin)))))))
 ·intro hg2 fin
  exact gn J J J hg2 J J (gn J J J hg2 J J (gn J J J hg2 J J (pkT J hg2 J (drp (X:= [(39,_),(38,_),(37,_)]) ⟨J,J,J,tV⟩ fin))))
 refine mv ?_
 apply gOr (t:=41) (pd:=45) rfl
 rotate_left
 ·intro hg3 fin
  have hg3':=hg3
  try simp at hg3'
  exact gy J J J hg3 (lPA J J T.agg25 J (gy J J J hg3 (cal0 (φs:= [agg [sl 1 rE_ t.aC,sl 2 sE t.sT],int 200]) (φ:=bl (few t 200)) ⟨J,J,tV⟩ (ref03.Few_ok t _ O) T.ent9 (gy J J J hg3 (no J (pkF J hg3 J (drp (X:= [(44,_),(43,_),(42,_)]) ⟨J,J,J,tV⟩ fin)))))))
 ·intro hg3 fin
  exact gn J J J hg3 J J (gn J J J hg3 J J (gn J J J hg3 J J (pkT J hg3 J (drp (X:= [(44,_),(43,_),(42,_)]) ⟨J,J,J,tV⟩ fin))))
 refine nl (th ?_)
 refine cd J (fun hc0=> ?_) (fun hc0=> ?_)
 ·skip
  refine sq (rg (cal0 (φs:= []) (φ:=bl true) trivial diva.awake_ok T.ent10 (ag (nl (th (rt (rt_ ?_)))))))
  exact rE () [.tmp 6] J [bl true] ⟨.tmp J,tV⟩ J trivial eX
 ·skip
  simp only [Bool.or_eq_false_iff,Bool.not_eq_false',decide_eq_false_iff_not] at hc0
  obtain⟨⟨⟨⟨hl1,hl2⟩,hl3⟩,hl4⟩,hl5⟩:=hc0
  obtain⟨hx8,hxs⟩:=tiny_few hl1
  have hss:(size s:Int)≤200:=by unfold few at hl4;simpa using hl4
  have htt:(size t:Int)≤200:=by unfold few at hl5;simpa using hl5
  have hts1:t.sT.length*s.sT.length≤6*6:=Nat.mul_le_mul O O
  have hxts:x.sT.length*(t.sT.length*s.sT.length)≤8*36:=Nat.mul_le_mul hx8 hts1
  have hxt1:x.sT.length*t.sT.length≤8*6:=Nat.mul_le_mul hx8 O
  have hdz:=div_size t s
  have hoz:=oth_size t s
  refine sk (th (sq ?_))
  refine drH (nh:=12) [0,1,0,7,0,31,0,0,0,511,1023,2047] [(none,[3]),(none,[]),(none,[4]),(none,[]),(none,[5]),(none,[]),(some 7,[]),(some 8,[]),(some 9,[]),(some 7,[7]),(some 8,[8]),(some 9,[9])] T.mixed kR kR ?_
  refine stv (d:=47) (fun β0=>agg [sl 1 rE_ x.aC,sl 1 gE x.sT]) [3] J (fun β β' hb=>J) (fun β0 _ _ _ _ gq gh kq=>lPA (gq.1.trans J) (gh.1.trans J) T.agg38 J kq) ?_
  refine stv (d:=48) (fun β0=>agg [sl 1 rE_ x.aC,sl 1 gE x.sT]) [] J (fun β β' hb=>J) (fun β0 _ _ _ _ gq gh kq=>calW (φs:= [agg [sl 1 rE_ x.aC,sl 1 gE x.sT]]) (φ:=agg [sl 1 rE_ x.aC,sl 1 gE x.sT]) ⟨(gq.1.trans J),tV⟩ (sysw.Copy_ok x O) T.ent26 (fun N hN=>fun h=>agg_le (cs:= [fre N (sl 1 rE_ x.aC),fre N (sl 1 gE x.sT)]) (ds:= [sl 1 rE_ x.aC,sl 1 gE x.sT]) ⟨fun h=>nw_le h,fun h=>nw_le h,tV⟩ h) kq) ?_
  refine stv (d:=49) (fun β0=>agg [sl 1 rE_ t.aC,sl 2 sE t.sT]) [4] J (fun β β' hb=>J) (fun β0 _ _ _ _ gq gh kq=>lPA (gq.1.trans J) (gh.1.trans J) T.agg25 J kq) ?_
  refine stv (d:=50) (fun β0=>agg [sl 1 rE_ t.aC,sl 2 sE t.sT]) [] J (fun β β' hb=>J) (fun β0 _ _ _ _ gq gh kq=>calW (φs:= [agg [sl 1 rE_ t.aC,sl 2 sE t.sT]]) (φ:=agg [sl 1 rE_ t.aC,sl 2 sE t.sT]) ⟨(gq.1.trans J),tV⟩ (ref03.Copy_ok t O) T.ent15 (fun N hN=>fun h=>agg_le (cs:= [fre N (sl 1 rE_ t.aC),fre N (sl 2 sE t.sT)]) (ds:= [sl 1 rE_ t.aC,sl 2 sE t.sT]) ⟨fun h=>nw_le h,fun h=>nw_le h,tV⟩ h) kq) ?_
  refine stv (d:=51) (fun β0=>agg [sl 1 rE_ s.aC,sl 2 sE s.sT]) [5] J (fun β β' hb=>J) (fun β0 _ _ _ _ gq gh kq=>lPA (gq.1.trans J) (gh.1.trans J) T.agg25 J kq) ?_
  refine stv (d:=52) (fun β0=>agg [sl 1 rE_ s.aC,sl 2 sE s.sT]) [] J (fun β β' hb=>J) (fun β0 _ _ _ _ gq gh kq=>calW (φs:= [agg [sl 1 rE_ s.aC,sl 2 sE s.sT]]) (φ:=agg [sl 1 rE_ s.aC,sl 2 sE s.sT]) ⟨(gq.1.trans J),tV⟩ (ref03.Copy_ok s O) T.ent15 (fun N hN=>fun h=>agg_le (cs:= [fre N (sl 1 rE_ s.aC),fre N (sl 2 sE s.sT)]) (ds:= [sl 1 rE_ s.aC,sl 2 sE s.sT]) ⟨fun h=>nw_le h,fun h=>nw_le h,tV⟩ h) kq) ?_
  refine sta 7 T.z38 (eC (eC eZ)) ?_
  refine sta 8 T.z25 (eC (eC eZ)) ?_
  refine sta 9 T.z25 (eC (eC eZ)) ?_
  refine stw 7 (fun β0=>cell (gbk (β0 6)) [sl 1 rE_ x.aC,sl 1 gE x.sT]) [7] J (fun β β' hb=>by first|rw[hb 6 J]|(dsimp only;rw[hb 6 J])) (fun β0 _ _ _ _ gq gh kq=>sPA (cs':= [sl 1 rE_ x.aC,sl 1 gE x.sT]) (gq.1.trans J) (gh.1.trans J) (gq.2.1.trans J) T.agg38 J J kq) ?_
  refine stw 8 (fun β0=>cell (gbk (β0 7)) [sl 1 rE_ t.aC,sl 2 sE t.sT]) [8] J (fun β β' hb=>by first|rw[hb 7 J]|(dsimp only;rw[hb 7 J])) (fun β0 _ _ _ _ gq gh kq=>sPA (cs':= [sl 1 rE_ t.aC,sl 2 sE t.sT]) (gq.1.trans J) (gh.1.trans J) (gq.2.1.trans J) T.agg25 J J kq) ?_
  refine stw 9 (fun β0=>cell (gbk (β0 8)) [sl 1 rE_ s.aC,sl 2 sE s.sT]) [9] J (fun β β' hb=>by first|rw[hb 8 J]|(dsimp only;rw[hb 8 J])) (fun β0 _ _ _ _ gq gh kq=>sPA (cs':= [sl 1 rE_ s.aC,sl 2 sE s.sT]) (gq.1.trans J) (gh.1.trans J) (gq.2.1.trans J) T.agg25 J J kq) ?_
  refine pnH fun β0=>(nl (th (sq (rg (al (key:=10) T.z54 (eC (eC (eC (eC eZ)))) fun b10=>(nl (th (sq (sq (rg (mv (nl (th (bk ?_))))))))))))))
  refine kncC 10 0 (sl 1 rE_ []) rfl rfl slnil (kncC 10 1 (sl 2 sE []) rfl rfl slnil (kncC 10 2 (sl 1 rE_ []) rfl rfl slnil (kncC 10 3 (sl 2 sE []) rfl rfl slnil ?_)))
  have hI0_0:0≤2:=by
   first|omega|simp
  have hI0_1:0=0∨((⟨([]:List ByteArray),([]:List SA)⟩:SS)=(divS t s).1∧(⟨([]:List ByteArray),([]:List SA)⟩:SS)=(othS t s).1):=by
   exact .inl rfl
  refine lp (κ:=Nat × (List ByteArray) × (List SA) × (List ByteArray) × (List SA)) (fun p=> [(3,ptr 3 b3 0),(4,ptr 4 b4 0),(5,ptr 5 b5 0),(7,ptr 7 (gbk (β0 6)) 0),(8,ptr 8 (gbk (β0 7)) 0),(9,ptr 9 (gbk (β0 8)) 0),(10,ptr 10 b10 0),(53,int (p.1:Int))]) (fun p=> [(3,cell b3 [sl 1 rE_ x.aC,sl 1 gE x.sT]),(4,cell b4 [sl 1 rE_ t.aC,sl 2 sE t.sT]),(5,cell b5 [sl 1 rE_ s.aC,sl 2 sE s.sT]),(7,cell (gbk (β0 6)) [sl 1 rE_ x.aC,sl 1 gE x.sT]),(8,cell (gbk (β0 7)) [sl 1 rE_ t.aC,sl 2 sE t.sT]),(9,cell (gbk (β0 8)) [sl 1 rE_ s.aC,sl 2 sE s.sT]),(10,cell b10 [sl 1 rE_ p.2.1,sl 2 sE p.2.2.1,sl 1 rE_ p.2.2.2.1,sl 2 sE p.2.2.2.2])]) (fun p=>(p.1≤2)∧(p.1=0∨((⟨p.2.1,p.2.2.1⟩:SS)=(divS t s).1∧(⟨p.2.2.2.1,p.2.2.2.2⟩:SS)=(othS t s).1))) (fun p=>2- p.1) ⟨0,([]:List ByteArray),([]:List SA),([]:List ByteArray),([]:List SA)⟩ ⟨hI0_0,hI0_1⟩ ⟨id,id,id,id,id,id,id,id,tV⟩ ⟨rI,rI,rI,rI,rI,rI,rI,tV⟩ ?_
  intro⟨k,a0,s0,a1,s1⟩ hG0
  obtain⟨hk0,hI0⟩:(k≤2)∧(k=0∨((⟨a0,s0⟩:SS)=(divS t s).1∧(⟨a1,s1⟩:SS)=(othS t s).1)):=hG0
  show Ct _ _ _ _ [(3,ptr 3 b3 0),(4,ptr 4 b4 0),(5,ptr 5 b5 0),(7,ptr 7 (gbk (β0 6)) 0),(8,ptr 8 (gbk (β0 7)) 0),(9,ptr 9 (gbk (β0 8)) 0),(10,ptr 10 b10 0),(53,int (k:Int))] [(3,cell b3 [sl 1 rE_ x.aC,sl 1 gE x.sT]),(4,cell b4 [sl 1 rE_ t.aC,sl 2 sE t.sT]),(5,cell b5 [sl 1 rE_ s.aC,sl 2 sE s.sT]),(7,cell (gbk (β0 6)) [sl 1 rE_ x.aC,sl 1 gE x.sT]),(8,cell (gbk (β0 7)) [sl 1 rE_ t.aC,sl 2 sE t.sT]),(9,cell (gbk (β0 8)) [sl 1 rE_ s.aC,sl 2 sE s.sT]),(10,cell b10 [sl 1 rE_ a0,sl 2 sE s0,sl 1 rE_ a1,sl 2 sE s1])] _
  refine sq (rg (bi J J b_lss (nl (th (sq ?_)))))
  refine cd J (fun hc1=> ?_) (fun hc1=> ?_)
  ·try simp at hc1
   refine sk (th (sq (bk (sq (rg (mv (ag (nl (th (sq (rg (lPA J J T.agg25 J (lPA J J T.agg25 J (calR (φs:= [agg [sl 1 rE_ t.aC,sl 2 sE t.sT],agg [sl 1 rE_ s.aC,sl 2 sE s.sT]]) 590 (fun vs=>tup [agg [eqv (sv (ix vs 0)),eqv (sv (ix vs 1))],int (divS t s).2]) [strs ((divS t s).1).aC,sl 2 sE ((divS t s).1).sT] ⟨J,J,tV⟩ (divn.DivN_ok t s htm hsm) T.ent14 J (fun N _ _ _ h=>res2x h) fun D59 vs59=>(mv (xt J J (xt J J (al (key:=12) T.z25 (eC (eC eZ)) fun b12=>(sPA (cs':= [eqv (sv (ix vs59 0)),eqv (sv (ix vs59 1))]) J J J T.agg25 J J (ag (nl (th (sq (rg (lPA J J T.agg25 J (lPA J J T.agg25 J (calR (φs:= [agg [sl 1 rE_ t.aC,sl 2 sE t.sT],agg [sl 1 rE_ s.aC,sl 2 sE s.sT]]) 650 (fun vs=>tup [agg [eqv (sv (ix vs 0)),eqv (sv (ix vs 1))],int (othS t s).2]) [strs ((othS t s).1).aC,sl 2 sE ((othS t s).1).sT] ⟨J,J,tV⟩ (divn2.OthN_ok t s htm hsm) T.ent29 J (fun N _ _ _ h=>res2x h) fun D65 vs65=>(mv (xt J J (xt J J (al (key:=14) T.z25 (eC (eC eZ)) fun b14=>(sPA (cs':= [eqv (sv (ix vs65 0)),eqv (sv (ix vs65 1))]) J J J T.agg25 J J (ag (nl (th (sq (rg (lPA J J T.agg25 J (lPA J J T.agg25 J (calRI (φs:= [agg [sl 1 rE_ t.aC,sl 2 sE t.sT],agg [sl 1 rE_ s.aC,sl 2 sE s.sT]]) 710 (fun i vs=>tup [agg [eqv (sv (ix vs 0)),eqv (sv (ix vs 1))],int i.1.2]) (fun i=> [strs i.1.1.aC,sl 1 gE i.1.1.sT]) ⟨J,J,tV⟩ (divn2.MissN_ok t s htm hsm) T.ent16 J (fun N i _ _ _ h=>res2x h) fun i71 D71 vs71=>(mv (xt J J (xt J J (al (key:=16) T.z38 (eC (eC eZ)) fun b16=>(sPA (cs':= [eqv (sv (ix vs71 0)),eqv (sv (ix vs71 1))]) J J J T.agg38 J J (ag (nl (th (sq (rg (lPA J J T.agg38 J (lPA J J T.agg25 J (lPA J J T.agg25 J (calRI (φs:= [agg [sl 1 rE_ x.aC,sl 1 gE x.sT],agg [sl 1 rE_ t.aC,sl 2 sE t.sT],agg [sl 1 rE_ s.aC,sl 2 sE s.sT]]) 780 (fun i vs=>tup [agg [bl i.1.1,eqv (sv (ix vs 0)),eqv (sv (ix vs 1))],int (fineX x t s)]) (fun i=> [strs i.1.2.aC,sl 1 gE i.1.2.sT]) ⟨J,J,J,tV⟩ (divn3.FitsN_ok x t s htm hsm O) T.ent25 J (fun N i _ _ _ h=>resV2 h) fun i78 D78 vs78=> ?_))))))))))))))))))))))))))))))))))))))))))))))))))))))
   have hpz:=fits_size (v:=i78.1) O i78.2
   have hzq:sysOK i78.1.2=true→i78.1.2.sT.length*(x.sT.length*t.sT.length)≤1000000000:=fun h=>by
    have h1:=(sysOK_ok h).few1
    have h3:i78.1.2.sT.length*(x.sT.length*t.sT.length)≤10000*(8*6):=Nat.mul_le_mul h1 hxt1
    omega
   refine mv (xt rfl rfl (xt rfl rfl (al (key:=18) T.z49 (eC (eC (eC eZ))) fun b18=>(sPA (cs':= [bl i78.1.1,eqv (sv (ix vs78 0)),eqv (sv (ix vs78 1))]) rfl rfl rfl T.agg49 rfl rfl (ag (nl (th (sq (rg (fP rfl T.fld49_1 (lPA rfl rfl T.agg38 rfl (calF (φs:= [sys i78.1.2]) (φ:=sys i78.1.2) ⟨lreg2 (x:= .tmp 82) (vs:=vs78) (i:=0) (j:=1) 780 rfl rfl rfl rfl,tV⟩ (sysw.Copy_ok i78.1.2 O) T.ent26 (fun N _ _ _ h=>agg_fre h) (al (key:=20) T.z38 (eC (eC eZ)) fun b20=>(sPA (cs':= [sl 1 rE_ i78.1.2.aC,sl 1 gE i78.1.2.sT]) rfl rfl rfl T.agg38 rfl rfl (nl (th (sq (rg (lPA rfl rfl T.agg38 rfl (lPA rfl rfl T.agg25 rfl (lPA rfl rfl T.agg25 rfl (lPA rfl rfl T.agg49 rfl (calF (φs:= [sys x,spec t,spec s,agg [bl i78.1.1,strs i78.1.2.aC,sl 1 gE i78.1.2.sT]]) (φ:=tup [bl (rightB x t s i78.1.1 i78.1.2),int (fineX x t s)]) ⟨lhere (x:= .tmp 84) rfl,lhere (x:= .tmp 85) rfl,lhere (x:= .tmp 86) rfl,lregV (x:= .tmp 87) (vs:=vs78) (i:=0) (j:=1) 780 rfl rfl rfl rfl,tV⟩ (divb.Right_ok x t s i78.1.1 i78.1.2 htm hsm O hzq) T.ent31 (fun N _ _ _ h=>tup2_fre h) (nl (th (sq (sq (rg (lPA rfl rfl T.agg38 rfl (fP rfl T.fld49_1 (lPA rfl rfl T.agg38 rfl (calF (φs:= [sys i78.1.2,sys i78.1.2]) (φ:=bl (decide (i78.1.2=i78.1.2))) ⟨lhere (x:= .tmp 89) rfl,lreg2 (x:= .tmp 91) (vs:=vs78) (i:=0) (j:=1) 780 rfl rfl rfl rfl,tV⟩ (syss.SameM_ok i78.1.2 i78.1.2) T.ent32 (fun N _ _ _ h=>eqv_fre h) (no rfl (mv ?_))))))))))))))))))))))))))))))))))
   apply gOr (t:=94) (pd:=111) rfl
   rotate_left
   ·intro hg4 fin
    have hg4':=hg4
    try simp at hg4'
    refine gy rfl rfl rfl hg4 (mv (gy rfl rfl rfl hg4 (bi rfl rfl b_gtr (gy rfl rfl rfl hg4 (mv ?_)))))
    apply gAnd (t:=97) (pd:=110) rfl
    rotate_left
    ·intro hg5 fin
     have hg5':=hg5
     try simp at hg5'
     refine gy rfl rfl rfl hg5 (lPA rfl rfl T.agg25 rfl (gy rfl rfl rfl hg5 (iPAn rfl rfl T.arr54 T.agg25 rfl (gy rfl rfl rfl hg5 (lPA rfl rfl T.agg25 rfl (gy rfl rfl rfl hg5 (calF (φs:= [spec (divS t s).1,spec ⟨a0,s0⟩]) (φ:=bl (decide ((divS t s).1=⟨a0,s0⟩))) ⟨lreg2 (x:= .tmp 98) (vs:=vs59) (i:=0) (j:=1) 590 rfl rfl rfl rfl,lhere (x:= .tmp 100) rfl,tV⟩ (ref03.Same_ok (divS t s).1 ⟨a0,s0⟩) T.ent33 (fun N _ _ _ h=>eqv_fre h) (gy rfl rfl rfl hg5 (no rfl (gy rfl rfl rfl hg5 (mv ?_)))))))))))
     apply gOr (t:=103) (pd:=109) rfl
     rotate_left
     ·intro hg6 fin
      have hg6':=hg6
      try simp at hg6'
      exact gy J J J hg6 (lPA J J T.agg25 J (gy J J J hg6 (iPAn J J T.arr54 T.agg25 J (gy J J J hg6 (lPA J J T.agg25 J (gy J J J hg6 (calF (φs:= [spec (othS t s).1,spec ⟨a1,s1⟩]) (φ:=bl (decide ((othS t s).1=⟨a1,s1⟩))) ⟨lreg2 (x:= .tmp 104) (vs:=vs65) (i:=0) (j:=1) 650 J J J J,lhere (x:= .tmp 106) J,tV⟩ (ref03.Same_ok (othS t s).1 ⟨a1,s1⟩) T.ent33 (fun N _ _ _ h=>eqv_fre h) (gy J J J hg6 (no J (gy J J J hg5 (pkF J hg6 J (drp (X:= [(108,_),(107,_),(106,_),(105,_),(104,_)]) ⟨J,J,J,J,J,tV⟩ fin))))))))))))
     ·intro hg6 fin
      exact gn J J J hg6 J J (gn J J J hg6 J J (gn J J J hg6 J J (gn J J J hg6 J J (gn J J J hg6 J J (gy J J J hg5 (pkT J hg6 J (drp (X:= [(108,_),(107,_),(106,_),(105,_),(104,_)]) ⟨J,J,J,J,J,tV⟩ fin)))))))
     exact gy J J J hg4 (pkT J hg5 J (drp (X:= [(109,_),(103,_),(102,_),(101,_),(100,_),(99,_),(98,_)]) ⟨J,J,J,J,J,J,J,tV⟩ fin))
    ·intro hg5 fin
     exact gn J J J hg5 J J (gn J J J hg5 J J (gn J J J hg5 J J (gn J J J hg5 J J (gn J J J hg5 J J (gn J J J hg5 J J (gu J J J J J (gu J J J J J (gu J J J J J (gu J J J J J (gu J J J J J (gn J J J hg5 J J (gy J J J hg4 (pkF J hg5 J (drp (X:= [(109,_),(108,_),(107,_),(106,_),(105,_),(104,_),(103,_),(102,_),(101,_),(100,_),(99,_),(98,_)]) ⟨J,J,J,J,J,J,J,J,J,J,J,J,tV⟩ fin))))))))))))))
    exact pkF rfl hg4 rfl (drp (X:= [(110,_),(97,_),(96,_),(95,_)]) ⟨rfl,rfl,rfl,rfl,tV⟩ fin)
   ·intro hg4 fin
    exact gn J J J hg4 J J (gn J J J hg4 J J (gn J J J hg4 J J (gu J J J J J (gu J J J J J (gu J J J J J (gu J J J J J (gu J J J J J (gu J J J J J (gu J J J J J (gu J J J J J (gu J J J J J (gu J J J J J (gu J J J J J (gu J J J J J (gn J J J hg4 J J (pkT J hg4 J (drp (X:= [(110,_),(109,_),(108,_),(107,_),(106,_),(105,_),(104,_),(103,_),(102,_),(101,_),(100,_),(99,_),(98,_),(97,_),(96,_),(95,_)]) ⟨J,J,J,J,J,J,J,J,J,J,J,J,J,J,J,J,tV⟩ fin)))))))))))))))))
   refine nl (th ?_)
   refine cd J (fun hc2=> ?_) (fun hc2=> ?_)
   ·skip
    exfalso
    rcases hI0 with h|⟨e1,e2⟩
    ·subst h;simp at hc2
    ·rw[e1,e2] at hc2;simp at hc2
   ·skip
    refine sk (th (sq (dr (nh:=5) [0,1,0,7,15,31] T.mixed kR ?_)))
    refine st_ J (fun _ _ _ gq kq=>lPA (gq.1.trans J) J T.agg25 J kq) ?_
    refine st_ J (fun _ _ _ gq kq=>calF (φs:= [spec (divS t s).1]) (φ:=spec (divS t s).1) ⟨lreg2 (x:= .tmp 112) (vs:=vs59) (i:=0) (j:=1) 590 (gq.1.trans J) J J J,tV⟩ (ref03.Copy_ok (divS t s).1 O) T.ent15 (fun N _ _ _ h=>agg_fre h) kq) ?_
    refine st_ J (fun _ _ _ gq kq=>lPA (gq.1.trans J) J T.agg25 J kq) ?_
    refine st_ J (fun _ _ _ gq kq=>calF (φs:= [spec (othS t s).1]) (φ:=spec (othS t s).1) ⟨lreg2 (x:= .tmp 114) (vs:=vs65) (i:=0) (j:=1) 650 (gq.1.trans J) J J J,tV⟩ (ref03.Copy_ok (othS t s).1 O) T.ent15 (fun N _ _ _ h=>agg_fre h) kq) ?_
    refine st_ J (fun _ _ _ gq kq=>bd (css:= [(0,_),(2,_)]) T.st54 (eC (eC (eC (eC eZ)))) ⟨J,J,pA (cs:= [sl 1 rE_ ((divS t s).1).aC,sl 2 sE ((divS t s).1).sT]) (by exact(gq.1.trans J)),⟨J,J,pA (cs:= [sl 1 rE_ ((othS t s).1).aC,sl 2 sE ((othS t s).1).sT]) (by exact(gq.2.1.trans J)),tV⟩⟩ kq) ?_
    refine pn (sPA (cs':= [sl 1 rE_ ((divS t s).1).aC,sl 2 sE ((divS t s).1).sT,sl 1 rE_ ((othS t s).1).aC,sl 2 sE ((othS t s).1).sT]) J J J T.agg54 J J (nl (th (sq (rg (lPA J J T.agg25 J (rgT 590 J fun W59 hW59=>(rgM (Z':=firstZ (sv (ix vs59 1)) 2 0) 590 J (fun _ _ h=>h.elim) (cal (Hi:= [(590,rgz D59 W59 (firstZ (sv (ix vs59 1)) 2 0))]) (φs:= [agg [eqv (sv (ix vs59 0)),eqv (sv (ix vs59 1))]]) ⟨J,tV⟩ (rekeyIO 100 590 (Spoil_ok ((divS t s).1).aC ((divS t s).1).sT W59 D59 (ix vs59 0) (ix vs59 1) (leaf_ix hW59 J) (leaf_ix hW59 J))) T.ent34 ⟨rI,tV⟩ fun _ _=>(nl (th (sq (rg (lPA J J T.agg25 J (rgT 650 J fun W65 hW65=>(rgM (Z':=firstZ (sv (ix vs65 1)) 2 0) 650 J (fun _ _ h=>h.elim) (cal (Hi:= [(650,rgz D65 W65 (firstZ (sv (ix vs65 1)) 2 0))]) (φs:= [agg [eqv (sv (ix vs65 0)),eqv (sv (ix vs65 1))]]) ⟨J,tV⟩ (rekeyIO 100 650 (Spoil_ok ((othS t s).1).aC ((othS t s).1).sT W65 D65 (ix vs65 0) (ix vs65 1) (leaf_ix hW65 J) (leaf_ix hW65 J))) T.ent34 ⟨rI,tV⟩ fun _ _=>(nl (th (sq (rg (lPA J J T.agg38 J (rgT 710 J fun W71 hW71=>(rgM (Z':=firstZ (sv (ix vs71 1)) 1 0) 710 J (fun _ _ h=>h.elim) (cal (Hi:= [(710,rgz D71 W71 (firstZ (sv (ix vs71 1)) 1 0))]) (φs:= [agg [eqv (sv (ix vs71 0)),eqv (sv (ix vs71 1))]]) ⟨J,tV⟩ (rekeyIO 100 710 (Wreck_ok i71.1.1.aC i71.1.1.sT W71 D71 (ix vs71 0) (ix vs71 1) (leaf_ix hW71 J) (leaf_ix hW71 J))) T.ent35 ⟨rI,tV⟩ fun _ _=>(nl (th (sq (rg (fP J T.fld49_1 (lPA J J T.agg38 J (rgT 780 J fun W78 hW78=>(rgM (Z':=firstZ (sv (ix vs78 1)) 1 0) 780 J (fun _ _ h=>h.elim) (cal (Hi:= [(780,rgz D78 W78 (firstZ (sv (ix vs78 1)) 1 0))]) (φs:= [agg [eqv (sv (ix vs78 0)),eqv (sv (ix vs78 1))]]) ⟨J,tV⟩ (rekeyIO 100 780 (Wreck_ok i78.1.2.aC i78.1.2.sT W78 D78 (ix vs78 0) (ix vs78 1) (leaf_ix hW78 J) (leaf_ix hW78 J))) T.ent35 ⟨rI,tV⟩ fun _ _=>(nl (th (sq (rg (lPA J J T.agg38 J (lPA J J T.agg38 J (cal0 (φs:= [agg [sl 1 rE_ x.aC,sl 1 gE x.sT],agg [sl 1 rE_ x.aC,sl 1 gE x.sT]]) (φ:=bl (decide (x=x))) ⟨J,J,tV⟩ (syss.SameM_ok x x) T.ent32 (no J (mv ?_)))))))))))))))))))))))))))))))))))))))))))
    apply gOr (t:=130) (pd:=135) rfl
    rotate_left
    ·intro hg7 fin
     have hg7':=hg7
     try simp at hg7'
     exact gy J J J hg7 (lPA J J T.agg25 J (gy J J J hg7 (lPA J J T.agg25 J (gy J J J hg7 (cal0 (φs:= [agg [sl 1 rE_ t.aC,sl 2 sE t.sT],agg [sl 1 rE_ t.aC,sl 2 sE t.sT]]) (φ:=bl (decide (t=t))) ⟨J,J,tV⟩ (ref03.Same_ok t t) T.ent33 (gy J J J hg7 (no J (pkF J hg7 J (drp (X:= [(134,_),(133,_),(132,_),(131,_)]) ⟨J,J,J,J,tV⟩ fin)))))))))
    ·intro hg7 fin
     exact gn J J J hg7 J J (gn J J J hg7 J J (gn J J J hg7 J J (gn J J J hg7 J J (pkT J hg7 J (drp (X:= [(134,_),(133,_),(132,_),(131,_)]) ⟨J,J,J,J,tV⟩ fin)))))
    refine mv ?_
    apply gOr (t:=136) (pd:=141) rfl
    rotate_left
    ·intro hg8 fin
     have hg8':=hg8
     try simp at hg8'
     exact gy J J J hg8 (lPA J J T.agg25 J (gy J J J hg8 (lPA J J T.agg25 J (gy J J J hg8 (cal0 (φs:= [agg [sl 1 rE_ s.aC,sl 2 sE s.sT],agg [sl 1 rE_ s.aC,sl 2 sE s.sT]]) (φ:=bl (decide (s=s))) ⟨J,J,tV⟩ (ref03.Same_ok s s) T.ent33 (gy J J J hg8 (no J (pkF J hg8 J (drp (X:= [(140,_),(139,_),(138,_),(137,_)]) ⟨J,J,J,J,tV⟩ fin)))))))))
    ·intro hg8 fin
     exact gn J J J hg8 J J (gn J J J hg8 J J (gn J J J hg8 J J (gn J J J hg8 J J (pkT J hg8 J (drp (X:= [(140,_),(139,_),(138,_),(137,_)]) ⟨J,J,J,J,tV⟩ fin)))))
    refine nl (th ?_)
    refine cd J (fun hc3=> ?_) (fun hc3=> ?_)
    ·skip
     exact absurd hc3 (by simp)
    ·skip
     refine sk (eb (th (rg (bi J J (b_add i6) (mv (nl ?_))))))
     have hN0:(k+1)≤2:=by
      first|omega|simp_all
     have hN1:(k+1)=0∨((⟨((divS t s).1).aC,((divS t s).1).sT⟩:SS)=(divS t s).1∧(⟨((othS t s).1).aC,((othS t s).1).sT⟩:SS)=(othS t s).1):=by
      exact .inr ⟨rfl,rfl⟩
     exact ln (⟨k+1,((divS t s).1).aC,((divS t s).1).sT,((othS t s).1).aC,((othS t s).1).sT⟩:Nat × (List ByteArray) × (List SA) × (List ByteArray) × (List SA)) ⟨hN0,hN1⟩ dO ⟨id,id,id,id,id,id,id,id,tV⟩ ⟨rI,rI,rI,rI,rI,rI,rI,tV⟩
  ·try simp at hc1
   refine ex (xt_ (xt_ (xb (th (sq (rg (cal0 (φs:= []) (φ:=bl true) trivial diva.awake_ok T.ent10 (ag (nl (th (rt ?_)))))))))))
   exact rE () [.tmp 6] J [bl true] ⟨.tmp J,tV⟩ J trivial eX
end divz
end
end Go.Proofs.YtcjemmihcplgdaaGreat
