/- The walks of the functions and the plain laws. Own texts of this claim, packed: Zddivg, ZdWitSat, ZdWitVal, ZdBisS, Zddivw, Zddivv, Zddivf, ZdChsM, ZdValidM, ZdTrimI, ZdQuoM, ZdFailM, ZdDivM. -/
import Derived.Test.YtcjemmihcplgdaaGreatDoorX15
import Derived.Test.YtcjemmihcplgdaaGreatDoorX09
import Derived.Test.YtcjemmihcplgdaaGreatDoorX07
set_option linter.all false
namespace Go.Proofs.YtcjemmihcplgdaaGreatDoor
open AL Go
set_option maxRecDepth 100000
section
open ref01 ref03 ref04 ref06 prog prog2 prog3 prog6 prog13 Part Rungs LeftM TrimM RoundM MergeM BisM BisM4 BisM5 WalkM StepM WitM JudgM refw judg wit refj sysw divr divs divd dive LevM LevM2
noncomputable def satD (m:SSys) (s:SS):Bool:= @decide (SatM m s) (Classical.propDecidable _)
theorem satD_iff {m:SSys} {s:SS}:satD m s=true↔SatM m s:=by unfold satD;simp
noncomputable def madeB (m:SSys) (s:SS):Bool:=sysOK m&&decide (m.aC=s.aC)&&satD m s
theorem acc_badM {m:SSys} {t:SS} {p:Int × Int} (h:0≤p.2):accB t p.2 (offM m p.1.toNat)=true↔¬BadM m t p:=by
 unfold accB BadM
 simp[h]
theorem off8 {m:SSys} (hm:okSys m) {x:Nat} (hx:x<m.sT.length):∀e∈ix m.sT x,0≤e.1∧e.1<8:=fun e he=>by
 have:=hm.ed x hx e he
 have:=hm.n8
 omega
namespace T
theorem ent74:Ent Tryz.prog 74:=ent_of kR
theorem ent119:Ent Tryz.prog 119:=ent_of kR
theorem ent166:Ent Tryz.prog 166:=ent_of kR
theorem ent129:Ent Tryz.prog 129:=ent_of kR
theorem ent31:Ent Tryz.prog 31:=ent_of kR
theorem ent72:Ent Tryz.prog 72:=ent_of kR
end T
namespace divg
theorem good_ok (m:SSys) (t:SS) (x y:Int) (hm:okSys m) (x0:0≤x) (hx:x<(m.sT.length:Int)) (y0:0≤y) (hy:y<(t.sT.length:Int)):
 Fn0 Tryz.prog 166 [sys m,spec t,agg [int x,int y]] (bl (accB t y (offM m x.toNat))):=by
 refine fnI Tryz.func166 rfl rfl (fun w0 F0=> ?_)
 have h8:=off8 hm (x:=x.toNat) O
 refine fcC (inhS 0 J) (fun hS0=> ?_)
 obtain⟨hma0,hms0,hme0⟩:=sys_lens hS0
 refine fcC (inhS 1 J) (fun hS1=> ?_)
 obtain⟨hsa1,hss1,hse1⟩:=sLn hS1
 refine sq (rg (bx (key:=3) (cs:= [sl 1 rE_ m.aC,sl 1 gE m.sT]) J fun b3=>(bx (key:=4) (cs:= [sl 1 rE_ t.aC,sl 2 sE t.sT]) J fun b4=>(bx (key:=5) (cs:= [int x,int y]) J fun b5=>(ag (nl (th (sq (dr (nh:=9) [0,0,2,0,0,16,56,127,255] T.mixed kR ?_)))))))))
 refine st_ J (fun _ _ _ gq kq=>lPA (gq.1.trans J) J T.agg25 J kq) ?_
 refine st_ J (fun _ _ _ gq kq=>iPA (gq.1.trans J) J T.arr84 T.one3 J kq) ?_
 refine st_ J (fun _ _ _ gq kq=>lP (gq.1.trans J) J J T.one3 kq) ?_
 refine st_ J (fun _ _ _ gq kq=>lPA (gq.1.trans J) J T.agg43 J kq) ?_
 refine st_ J (fun _ _ _ gq kq=>iPA (gq.1.trans J) J T.arr84 T.one3 J kq) ?_
 refine st_ J (fun _ _ _ gq kq=>lP (gq.1.trans J) J J T.one3 kq) ?_
 refine st_ J (fun _ _ _ gq kq=>cal0 (φs:= [agg [sl 1 rE_ m.aC,sl 1 gE m.sT],int x]) (φ:=int (offM m x.toNat)) ⟨(gq.1.trans J),(gq.2.1.trans J),tV⟩ (divs.Offer_ok m x aS O O) T.ent74 kq) ?_
 refine st_ J (fun _ _ _ gq kq=>cal0 (φs:= [agg [sl 1 rE_ t.aC,sl 2 sE t.sT],int y,int (offM m x.toNat)]) (φ:=bl (accB t y (offM m x.toNat))) ⟨(gq.1.trans J),(gq.2.1.trans J),(gq.2.2.1.trans J),tV⟩ (divs.Accepts_ok t y (offM m x.toNat) O) T.ent119 kq) ?_
 refine st_ J (fun _ _ _ gq kq=>ag' (gq.1.trans J) kq) ?_
 refine pn (nl (th (rt ?_)))
 exact rE () [.tmp 6] J [bl (accB t y (offM m x.toNat))] ⟨.tmp J,tV⟩ J trivial eX
theorem Reach_ok (m:SSys) (t:SS) (hm:okSys m) (ht:oK t):
 AL.Fn Tryz.prog 129 [sys m,spec t] [] (ι:= { z:List (Int × Int) × Int × Bool//z.2.2=true↔SatM m t }) (fun _ i=>tup [sl 2 pE i.1.1,int i.1.2.1,bl i.1.2.2]) (fun _=> []):=by
 refine fnI Tryz.func129 rfl rfl (fun w0 F0=> ?_)
 have hT0:=hm.few0;have hT1:=hm.few1;have ht0:=ht.few0;have ht1:=ht.few1;have hn8:=hm.n8;have hm8:=ht.n8
 have hmm:m.sT.length*t.sT.length≤10000*10000:=Nat.mul_le_mul hT1 ht1
 refine fcC (inhS 0 J) (fun hS0=> ?_)
 obtain⟨hma0,hms0,hme0⟩:=sys_lens hS0
 refine fcC (inhS 1 J) (fun hS1=> ?_)
 obtain⟨hsa1,hss1,hse1⟩:=sLn hS1
 refine sq (rg (bx (key:=2) (cs:= [sl 1 rE_ m.aC,sl 1 gE m.sT]) J fun b2=>(bx (key:=3) (cs:= [sl 1 rE_ t.aC,sl 2 sE t.sT]) J fun b3=>(ag (kn 4 (sl 2 pE []) J slnil (ag (ag (nl (th (sq (rg (fP J T.fld43_1 (lP J J J T.one41 (fc (slenI 22 J) fun hm22=>(lnF J T.sl41 (mk (key:=24) (m:=m.sT.length) (enc:=eqvE) (y:=(.slice none 0 0:Value)) J J T.mk206 (eC eZ) mL mL fun v24=>(ag (nl (th (sq (sq (rg (nbB 231 m.sT.length 4 1 blE (mv (lnO J J T.sl206 (mv (nl (th (bk ?_)))))))))))))))))))))))))))))
 have hI0_0:0≤(List.replicate m.sT.length (.slice none 0 0:Value)).length:=by
  first|omega|simp
 have hI0_1:(List.replicate m.sT.length (.slice none 0 0:Value)).length=m.sT.length∧(List.replicate m.sT.length [])=List.replicate 0 (List.replicate t.sT.length false)++List.replicate (m.sT.length- 0) []:=by
  exact⟨by simp,by simp⟩
 refine lp (κ:=Nat × (List Value) × (List (List Bool))) (fun p=> [(2,ptr 2 b2 0),(3,ptr 3 b3 0),(4,sl 2 pE []),(5,int 0),(6,bl false),(7,osl 24 v24),(26,int ((List.replicate m.sT.length (.slice none 0 0:Value)).length:Int)),(27,int (p.1:Int))]) (fun p=> [(2,cell b2 [sl 1 rE_ m.aC,sl 1 gE m.sT]),(3,cell b3 [sl 1 rE_ t.aC,sl 2 sE t.sT]),(24,own v24 143 1 eqvE p.2.1),(231,bigown p.2.1 4 1 blE p.2.2 none)]) (fun p=>(p.1≤(List.replicate m.sT.length (.slice none 0 0:Value)).length)∧(p.2.1.length=m.sT.length∧p.2.2=List.replicate p.1 (List.replicate t.sT.length false)++List.replicate (m.sT.length- p.1) [])) (fun p=>(List.replicate m.sT.length (.slice none 0 0:Value)).length- p.1) ⟨0,List.replicate m.sT.length (.slice none 0 0:Value),List.replicate m.sT.length []⟩ ⟨hI0_0,hI0_1⟩ ⟨id,id,id,id,id,id,id,id,tV⟩ ⟨rI,rI,rI,rI,tV⟩ ?_
 intro⟨k,us,mt⟩ hG0
 obtain⟨hk0,⟨hul,hmt⟩⟩:(k≤(List.replicate m.sT.length (.slice none 0 0:Value)).length)∧(us.length=m.sT.length∧mt=List.replicate k (List.replicate t.sT.length false)++List.replicate (m.sT.length- k) []):=hG0
 show Ct _ _ _ _ [(2,ptr 2 b2 0),(3,ptr 3 b3 0),(4,sl 2 pE []),(5,int 0),(6,bl false),(7,osl 24 v24),(26,int ((List.replicate m.sT.length (.slice none 0 0:Value)).length:Int)),(27,int (k:Int))] [(2,cell b2 [sl 1 rE_ m.aC,sl 1 gE m.sT]),(3,cell b3 [sl 1 rE_ t.aC,sl 2 sE t.sT]),(24,own v24 143 1 eqvE us),(231,bigown us 4 1 blE mt none)] _
 have hml:mt.length=m.sT.length:=by rw[hmt];simp;omega
 refine sq (rg (bi J J b_lss (nl (th (sq ?_)))))
 refine cd J (fun hc0=> ?_) (fun hc0=> ?_)
 ·try simp at hc0
  refine sk (th (sq (bk (sq (rg (mv (ag (nl (th (tkBC 231 2399 k J J (by decide) (gK O) (gK O) (rg (mv (mv (fP J T.fld25_1 (lP J J J T.one23 (fc (slenI 33 J) fun hm33=>(lnF J T.sl23 (mk (key:=35) (m:=t.sT.length) (enc:=blE) (y:=false) J J T.mk143 (eC eZ) mL mL fun v35=>(iO J J J T.sl206 O O (sOO (k2:=35) J J osl_is J T.one143 gB J (y':=v35) J (nl (eb (th (rg (gvB (us:=us) 231 35 k J J (by decide) O (bi J J (b_add i6) (mv (nl ?_))))))))))))))))))))))))))))
  have hN0:(k+1)≤(List.replicate m.sT.length (.slice none 0 0:Value)).length:=by
   first|omega|simp_all
  have hN1:(us.set k v35).length=m.sT.length∧(mt.set k (List.replicate t.sT.length false))=List.replicate (k+1) (List.replicate t.sT.length false)++List.replicate (m.sT.length- (k+1)) []:=by
   refine⟨by simpa using hul,?_⟩
   rw[hmt];exact set_rep _ _ hc0
  exact ln (⟨k+1,us.set k v35,mt.set k (List.replicate t.sT.length false)⟩:Nat × (List Value) × (List (List Bool))) ⟨hN0,hN1⟩ dO ⟨id,id,id,id,id,id,id,id,tV⟩ ⟨rI,rI,rI,rI,tV⟩
 ·try simp at hc0
  have hmz:mt=mat m.sT.length t.sT.length []:=by rw[hmt,show k=m.sT.length by omega,Nat.sub_self,mat_zero];simp
  have hr0:(ix mt 0).length=t.sT.length:=by rw[hmz];exact mat_rowlen O
  refine ex (xt_ (xt_ (xb (th (sq (rg (mv (iO J J J T.sl206 O O (lO J J gB J T.one143 (tkB 231 2310 0 J J (by decide) (gK (k:=0) O) (gK (k:=0) O) (kn 40 (osl 2310 (ix us 0)) J eq_osl (iO J J J T.sl143 O O (sO (φ:=bl true) J J J T.one4 gB J (y':=true) J (nl (th (sq (rg (gvU 231 2310 0 J J (by decide) (gK (k:=0) O) (bd (css:= [(0,_),(1,_)]) T.st84 (eC (eC eZ)) ⟨J,J,p1 (φ:=int 0) J,⟨J,J,p1 (φ:=int 0) J,tV⟩⟩ (bsE (enc:=pE) (xs:= [(0,0)]) (css:= [[int 0,int 0]]) T.mk67 ⟨J,J,pA (cs:= [int 0,int 0]) J,tV⟩ J J J J (ag (nl (th (sq (sq (rg (ag (nl (th (bk ?_))))))))))))))))))))))))))))))
  have hI1_0:(mt.set 0 ((ix mt 0).set 0 true))=mat m.sT.length t.sT.length ([(0,0)]:List (Int × Int))∧LI (BadM m t) (SucM m t) ([(0,0)]:List (Int × Int)) ([(0,0)]:List (Int × Int))∧0≤(0:Int)∧(0:Int)+((min ([(0,0)]:List (Int × Int)).length 1:Nat):Int)≤(([(0,0)]:List (Int × Int)).length:Int):=by
   refine⟨?_,li_zero,O,by simp⟩
   rw[hmz]
   exact mat_set (vis:= []) (x:=0) (y:=0) O O
  refine lp (κ:=(List (List Bool)) × (List (Int × Int)) × (List (Int × Int)) × Int) (fun p=> [(2,ptr 2 b2 0),(3,ptr 3 b3 0),(7,osl 24 v24),(9,sl 2 pE p.2.2.1),(10,int p.2.2.2)]) (fun p=> [(2,cell b2 [sl 1 rE_ m.aC,sl 1 gE m.sT]),(3,cell b3 [sl 1 rE_ t.aC,sl 2 sE t.sT]),(24,own v24 143 1 eqvE us),(231,bigown us 4 1 blE p.1 none)]) (fun p=>p.1=mat m.sT.length t.sT.length p.2.1∧LI (BadM m t) (SucM m t) p.2.1 p.2.2.1∧0≤p.2.2.2∧p.2.2.2+((min p.2.2.1.length 1:Nat):Int)≤(p.2.1.length:Int)) (fun p=>m.sT.length*t.sT.length- p.2.1.length+min p.2.2.1.length 1) ⟨mt.set 0 ((ix mt 0).set 0 true),([(0,0)]:List (Int × Int)),([(0,0)]:List (Int × Int)),(0:Int)⟩ hI1_0 ⟨id,id,id,id,id,tV⟩ ⟨rI,rI,rI,rI,tV⟩ ?_
  intro⟨mt1,vis,now,dp⟩ hG1
  obtain⟨hmt1,hLI,hd0,hdp⟩:mt1=mat m.sT.length t.sT.length vis∧LI (BadM m t) (SucM m t) vis now∧0≤dp∧dp+((min now.length 1:Nat):Int)≤(vis.length:Int):=hG1
  show Ct _ _ _ _ [(2,ptr 2 b2 0),(3,ptr 3 b3 0),(7,osl 24 v24),(9,sl 2 pE now),(10,int dp)] [(2,cell b2 [sl 1 rE_ m.aC,sl 1 gE m.sT]),(3,cell b3 [sl 1 rE_ t.aC,sl 2 sE t.sT]),(24,own v24 143 1 eqvE us),(231,bigown us 4 1 blE mt1 none)] _
  have hv1:=nodup_pairs m.sT.length t.sT.length vis hLI.nd (fun p hp=>rchm_box hm ht (hLI.rch p hp))
  have hml1:mt1.length=m.sT.length:=by rw[hmt1];exact mat_len _ _ _
  refine sq (sq (rg (mv (fc (slenI 44 J) fun hm44=>(lnF J T.sl67 (bi J J b_gtr (nl (th ?_))))))))
  refine cd J (fun hc1=> ?_) (fun hc1=> ?_)
  ·try simp at hc1
   refine sk (th (sq (bk (sq (rg (nw 11 84 2 pE (ag (rtg (key:=11) 11 J (nl (th (sq (sq (rg (mv (lnF J T.sl67 (mv (nl (th (bk ?_)))))))))))))))))))
   have hI2_0:0≤now.length:=by
    first|omega|simp
   have hI2_1:mt1=mat m.sT.length t.sT.length vis∧LI (BadM m t) (SucM m t) vis (now.drop 0++([]:List (Int × Int)))∧vis.length=vis.length+([]:List (Int × Int)).length:=by
    exact⟨hmt1,by simpa using hLI,rfl⟩
   refine lp (κ:=Nat × (List (List Bool)) × Value × (List (Int × Int)) × (List (Int × Int))) (fun p=> [(2,ptr 2 b2 0),(3,ptr 3 b3 0),(7,osl 24 v24),(9,sl 2 pE now),(10,int dp),(11,osl 11 p.2.2.1),(49,sl 2 pE now),(50,int (now.length:Int)),(51,int (p.1:Int))]) (fun p=> [(2,cell b2 [sl 1 rE_ m.aC,sl 1 gE m.sT]),(3,cell b3 [sl 1 rE_ t.aC,sl 2 sE t.sT]),(11,own p.2.2.1 84 2 pE p.2.2.2.1),(24,own v24 143 1 eqvE us),(231,bigown us 4 1 blE p.2.1 none)]) (fun p=>(p.1≤now.length)∧(p.2.1=mat m.sT.length t.sT.length p.2.2.2.2∧LI (BadM m t) (SucM m t) p.2.2.2.2 (now.drop p.1++p.2.2.2.1)∧p.2.2.2.2.length=vis.length+p.2.2.2.1.length)) (fun p=>now.length- p.1) ⟨0,mt1,(.slice none 0 0),([]:List (Int × Int)),vis⟩ ⟨hI2_0,hI2_1⟩ ⟨id,id,id,id,id,id,id,id,id,tV⟩ ⟨rI,rI,rI,rI,rI,tV⟩ ?_
   intro⟨k2,mt2,v9x,nx,vis2⟩ hG2
   obtain⟨hk2,⟨hmt2,hLI2,hvl2⟩⟩:(k2≤now.length)∧(mt2=mat m.sT.length t.sT.length vis2∧LI (BadM m t) (SucM m t) vis2 (now.drop k2++nx)∧vis2.length=vis.length+nx.length):=hG2
   show Ct _ _ _ _ [(2,ptr 2 b2 0),(3,ptr 3 b3 0),(7,osl 24 v24),(9,sl 2 pE now),(10,int dp),(11,osl 11 v9x),(49,sl 2 pE now),(50,int (now.length:Int)),(51,int (k2:Int))] [(2,cell b2 [sl 1 rE_ m.aC,sl 1 gE m.sT]),(3,cell b3 [sl 1 rE_ t.aC,sl 2 sE t.sT]),(11,own v9x 84 2 pE nx),(24,own v24 143 1 eqvE us),(231,bigown us 4 1 blE mt2 none)] _
   have hv2:=nodup_pairs m.sT.length t.sT.length vis2 hLI2.nd (fun p hp=>rchm_box hm ht (hLI2.rch p hp))
   have hml2:mt2.length=m.sT.length:=by rw[hmt2];exact mat_len _ _ _
   refine sq (rg (bi J J b_lss (nl (th (sq ?_)))))
   refine cd J (fun hc2=> ?_) (fun hc2=> ?_)
   ·try simp at hc2
    have hpv:ix now k2∈vis2:=hLI2.opn _ (List.mem_append.2 (.inl (by rw[drop_ix O];exact List.mem_cons_self)))
    have hpr:=hLI2.rch _ hpv
    obtain⟨hp0,hp1,hp2,hp3⟩:=rchm_box hm ht hpr
    have hel:=hm.many (ix now k2).1.toNat O
    have hyl:=(ht.st (ix now k2).2.toNat O).len
    refine sk (th (sq (bk (sq (rg (iF J J T.sl67 O gB (lFA J T.agg84 (Nat.le_of_ble_eq_true J) (al (key:=13) T.z84 (eC (eC eZ)) fun b13=>(sPA (cs':= [int ((ix now k2).1),int ((ix now k2).2)]) J J J T.agg84 J J (nl (th (sq (sq (rg (lPA J J T.agg43 J (lPA J J T.agg25 J (lPA J J T.agg84 J (cal0 (φs:= [agg [sl 1 rE_ m.aC,sl 1 gE m.sT],agg [sl 1 rE_ t.aC,sl 2 sE t.sT],agg [int ((ix now k2).1),int ((ix now k2).2)]]) (φ:=bl (accB t ((ix now k2).2) (offM m ((ix now k2).1).toNat))) ⟨J,J,J,tV⟩ (divg.good_ok m t ((ix now k2).1) ((ix now k2).2) aS O O O O) T.ent166 (no J (nl (th ?_)))))))))))))))))))))
    refine cd J (fun hc3=> ?_) (fun hc3=> ?_)
    ·skip
     have hbd:BadM m t (ix now k2):=Classical.byContradiction fun h=>by have h2:=(acc_badM hp2).2 h;simp[h2] at hc3
     refine sq (rg (mv (ag (kn 4 (sl 2 pE []) J slnil (ag (ag (nl (th (rt (rt_ (rb (rt_ (rt_ (rb (rt_ (rb (rt_ (rt_ (rb (rt_ ?_))))))))))))))))))))
     exact rE ⟨([],dp,false),⟨fun h=>absurd (show false=true from h) (by decide),fun h=>absurd ((well_sat hm ht).2 h) (li_no hLI2 hpv hbd)⟩⟩ [.tmp 4,.tmp 5,.tmp 6] J [sl 2 pE [],int dp,bl false] ⟨.tmp J,.tmp J,.tmp J,tV⟩ J trivial eX
    ·skip
     have hnb:¬BadM m t (ix now k2):=(acc_badM hp2).1 (by simpa using hc3)
     refine sk (th (sq (rg (fP J T.fld43_1 (lP J J J T.one41 (iPA J J T.arr84 T.one3 J (lP J J J T.one3 (iF J J T.sl41 O gB (lF J J T.one103 (fc (slenI 66 J) fun hm66=>(lnF J T.sl103 (mv (nl (th (bk ?_)))))))))))))))
     have hI3_0:0≤(ix m.sT ((ix now k2).1).toNat).length:=by
      first|omega|simp
     have hI3_1:mt2=mat m.sT.length t.sT.length vis2∧LI (BadM m t) (SucM m t) vis2 (now.drop k2++nx)∧vis2.length=vis.length+nx.length∧∀j,j<0→((ix (ix m.sT (ix now k2).1.toNat) j).2,ix (ix t.sT (ix now k2).2.toNat).next (ix (ix m.sT (ix now k2).1.toNat) j).1.toNat)∈vis2:=by
      exact⟨hmt2,hLI2,hvl2,fun a ha=>absurd ha O⟩
     refine lp (κ:=Nat × (List (List Bool)) × Value × (List (Int × Int)) × (List (Int × Int))) (fun p=> [(2,ptr 2 b2 0),(3,ptr 3 b3 0),(7,osl 24 v24),(9,sl 2 pE now),(10,int dp),(11,osl 11 p.2.2.1),(13,ptr 13 b13 0),(49,sl 2 pE now),(50,int (now.length:Int)),(51,int (k2:Int)),(66,sl 2 pE (ix m.sT ((ix now k2).1).toNat)),(67,int ((ix m.sT ((ix now k2).1).toNat).length:Int)),(68,int (p.1:Int))]) (fun p=> [(2,cell b2 [sl 1 rE_ m.aC,sl 1 gE m.sT]),(3,cell b3 [sl 1 rE_ t.aC,sl 2 sE t.sT]),(11,own p.2.2.1 84 2 pE p.2.2.2.1),(13,cell b13 [int ((ix now k2).1),int ((ix now k2).2)]),(24,own v24 143 1 eqvE us),(231,bigown us 4 1 blE p.2.1 none)]) (fun p=>(p.1≤(ix m.sT ((ix now k2).1).toNat).length)∧(p.2.1=mat m.sT.length t.sT.length p.2.2.2.2∧LI (BadM m t) (SucM m t) p.2.2.2.2 (now.drop k2++p.2.2.2.1)∧p.2.2.2.2.length=vis.length+p.2.2.2.1.length∧∀j,j<p.1→((ix (ix m.sT (ix now k2).1.toNat) j).2,ix (ix t.sT (ix now k2).2.toNat).next (ix (ix m.sT (ix now k2).1.toNat) j).1.toNat)∈p.2.2.2.2)) (fun p=>(ix m.sT ((ix now k2).1).toNat).length- p.1) ⟨0,mt2,v9x,nx,vis2⟩ ⟨hI3_0,hI3_1⟩ ⟨id,id,id,id,id,id,id,id,id,id,id,id,id,tV⟩ ⟨rI,rI,rI,rI,rI,rI,tV⟩ ?_
     intro⟨k3,mt3,v9y,nx3,vis3⟩ hG3
     obtain⟨hk3,⟨hmt3,hLI3,hvl3,hdn⟩⟩:(k3≤(ix m.sT ((ix now k2).1).toNat).length)∧(mt3=mat m.sT.length t.sT.length vis3∧LI (BadM m t) (SucM m t) vis3 (now.drop k2++nx3)∧vis3.length=vis.length+nx3.length∧∀j,j<k3→((ix (ix m.sT (ix now k2).1.toNat) j).2,ix (ix t.sT (ix now k2).2.toNat).next (ix (ix m.sT (ix now k2).1.toNat) j).1.toNat)∈vis3):=hG3
     show Ct _ _ _ _ [(2,ptr 2 b2 0),(3,ptr 3 b3 0),(7,osl 24 v24),(9,sl 2 pE now),(10,int dp),(11,osl 11 v9y),(13,ptr 13 b13 0),(49,sl 2 pE now),(50,int (now.length:Int)),(51,int (k2:Int)),(66,sl 2 pE (ix m.sT ((ix now k2).1).toNat)),(67,int ((ix m.sT ((ix now k2).1).toNat).length:Int)),(68,int (k3:Int))] [(2,cell b2 [sl 1 rE_ m.aC,sl 1 gE m.sT]),(3,cell b3 [sl 1 rE_ t.aC,sl 2 sE t.sT]),(11,own v9y 84 2 pE nx3),(13,cell b13 [int ((ix now k2).1),int ((ix now k2).2)]),(24,own v24 143 1 eqvE us),(231,bigown us 4 1 blE mt3 none)] _
     have hv3:=nodup_pairs m.sT.length t.sT.length vis3 hLI3.nd (fun p hp=>rchm_box hm ht (hLI3.rch p hp))
     have hml3:mt3.length=m.sT.length:=by rw[hmt3];exact mat_len _ _ _
     refine sq (rg (bi J J b_lss (nl (th (sq ?_)))))
     refine cd J (fun hc4=> ?_) (fun hc4=> ?_)
     ·try simp at hc4
      have hein:(ix (ix m.sT (ix now k2).1.toNat) k3)∈edg m (ix now k2).1.toNat:=ix_memS (l:=(ix m.sT (ix now k2).1.toNat)) O
      have hes:=hm.ed _ O _ hein
      have hga:=edge_go hm ht (x:=(ix now k2).1.toNat) (y:=(ix now k2).2.toNat) O O (Classical.byContradiction hnb) hein
      obtain⟨hga1,hga2,hga3⟩:=hga
      dsimp only [nxt] at hga2 hga3
      have hrq:Rch (BadM m t) (SucM m t) ((ix (ix m.sT (ix now k2).1.toNat) k3).2,ix (ix t.sT (ix now k2).2.toNat).next (ix (ix m.sT (ix now k2).1.toNat) k3).1.toNat):=Rch.step hpr hnb ⟨_,hein,rfl⟩
      have hrl:(ix mt3 (ix (ix m.sT (ix now k2).1.toNat) k3).2.toNat).length=t.sT.length:=by rw[hmt3];exact mat_rowlen O
      have hmq:ix (ix mt3 (ix (ix m.sT (ix now k2).1.toNat) k3).2.toNat) (ix (ix t.sT (ix now k2).2.toNat).next (ix (ix m.sT (ix now k2).1.toNat) k3).1.toNat).toNat=decide (((ix (ix m.sT (ix now k2).1.toNat) k3).2,ix (ix t.sT (ix now k2).2.toNat).next (ix (ix m.sT (ix now k2).1.toNat) k3).1.toNat)∈vis3):=by
       rw[hmt3,mat_ix O O,Int.toNat_of_nonneg O,Int.toNat_of_nonneg O]
      refine sk (th (sq (bk (sq (rg (iF J J T.sl103 O gB (lFA J T.agg105 (Nat.le_of_ble_eq_true J) (al (key:=15) T.z105 (eC (eC eZ)) fun b15=>(sPA (cs':= [int ((ix (ix m.sT ((ix now k2).1).toNat) k3).1),int ((ix (ix m.sT ((ix now k2).1).toNat) k3).2)]) J J J T.agg105 J J (nl (th (sq ?_))))))))))))
      refine drH (nh:=16) [0,1,0,4,0,16,60,124,252,0,512,2044,4092,8191,0,32767] [(none,[]),(none,[15]),(none,[]),(none,[3]),(none,[]),(none,[13]),(none,[]),(none,[]),(none,[]),(none,[]),(none,[15]),(none,[]),(none,[]),(none,[]),(some 16,[]),(some 16,[16])] T.mixed kR kR ?_
      refine stv (d:=72) (fun β0=>ptr 15 b15 1) [] J (fun β β' hb=>J) (fun β0 _ _ _ _ gq gh kq=>fP (gq.1.trans J) T.fld105_1 kq) ?_
      refine stv (d:=73) (fun β0=>int ((ix (ix m.sT ((ix now k2).1).toNat) k3).2)) [15] J (fun β β' hb=>J) (fun β0 _ _ _ _ gq gh kq=>lP (gq.1.trans J) (gh.1.trans J) J T.one3 kq) ?_
      refine stv (d:=74) (fun β0=>ptr 3 b3 1) [] J (fun β β' hb=>J) (fun β0 _ _ _ _ gq gh kq=>fP (gq.1.trans J) T.fld25_1 kq) ?_
      refine stv (d:=75) (fun β0=>sl 2 sE t.sT) [3] J (fun β β' hb=>J) (fun β0 _ _ _ _ gq gh kq=>lP (gq.1.trans J) (gh.1.trans J) J T.one23 kq) ?_
      refine stv (d:=76) (fun β0=>ptr 13 b13 1) [] J (fun β β' hb=>J) (fun β0 _ _ _ _ gq gh kq=>iPA (gq.1.trans J) J T.arr84 T.one3 J kq) ?_
      refine stv (d:=77) (fun β0=>int ((ix now k2).2)) [13] J (fun β β' hb=>J) (fun β0 _ _ _ _ gq gh kq=>lP (gq.1.trans J) (gh.1.trans J) J T.one3 kq) ?_
      refine stv (d:=78) (fun β0=>fp [sl 1 nE (ix t.sT ((ix now k2).2).toNat).aP,sl 1 nE (ix t.sT ((ix now k2).2).toNat).next]) [] J (fun β β' hb=>J) (fun β0 _ _ _ _ gq gh kq=>iF (gq.1.trans J) (gq.2.1.trans J) T.sl23 O gB kq) ?_
      refine stv (d:=79) (fun β0=>fp [sl 1 nE (ix t.sT ((ix now k2).2).toNat).next]) [] J (fun β β' hb=>J) (fun β0 _ _ _ _ gq gh kq=>fF (gq.1.trans J) T.fld81_1 kq) ?_
      refine stv (d:=80) (fun β0=>sl 1 nE (ix t.sT ((ix now k2).2).toNat).next) [] J (fun β β' hb=>J) (fun β0 _ _ _ _ gq gh kq=>lF (gq.1.trans J) J T.one36 kq) ?_
      refine stv (d:=81) (fun β0=>ptr 15 b15 0) [] J (fun β β' hb=>J) (fun β0 _ _ _ _ gq gh kq=>fP (gq.1.trans J) T.fld105_0 kq) ?_
      refine stv (d:=82) (fun β0=>int ((ix (ix m.sT ((ix now k2).1).toNat) k3).1)) [15] J (fun β β' hb=>J) (fun β0 _ _ _ _ gq gh kq=>lP (gq.1.trans J) (gh.1.trans J) J T.one3 kq) ?_
      refine stv (d:=83) (fun β0=>fp [int (ix (ix t.sT ((ix now k2).2).toNat).next ((ix (ix m.sT ((ix now k2).1).toNat) k3).1).toNat)]) [] J (fun β β' hb=>J) (fun β0 _ _ _ _ gq gh kq=>iF (gq.1.trans J) (gq.2.1.trans J) T.sl36 O gB kq) ?_
      refine stv (d:=84) (fun β0=>int (ix (ix t.sT ((ix now k2).2).toNat).next ((ix (ix m.sT ((ix now k2).1).toNat) k3).1).toNat)) [] J (fun β β' hb=>J) (fun β0 _ _ _ _ gq gh kq=>lF (gq.1.trans J) J T.one3 kq) ?_
      refine stv (d:=85) (fun β0=>agg [int ((ix (ix m.sT ((ix now k2).1).toNat) k3).2),int (ix (ix t.sT ((ix now k2).2).toNat).next ((ix (ix m.sT ((ix now k2).1).toNat) k3).1).toNat)]) [] J (fun β β' hb=>J) (fun β0 _ _ _ _ gq gh kq=>bd (css:= [(0,_),(1,_)]) T.st84 (eC (eC eZ)) ⟨J,J,p1 (φ:=int ((ix (ix m.sT ((ix now k2).1).toNat) k3).2)) (by exact(gq.1.trans J)),⟨J,J,p1 (φ:=int (ix (ix t.sT ((ix now k2).2).toNat).next ((ix (ix m.sT ((ix now k2).1).toNat) k3).1).toNat)) (by exact(gq.2.1.trans J)),tV⟩⟩ kq) ?_
      refine sta 16 T.z84 (eC (eC eZ)) ?_
      refine stw 16 (fun β0=>cell (gbk (β0 14)) [int ((ix (ix m.sT ((ix now k2).1).toNat) k3).2),int (ix (ix t.sT ((ix now k2).2).toNat).next ((ix (ix m.sT ((ix now k2).1).toNat) k3).1).toNat)]) [16] J (fun β β' hb=>by first|rw[hb 14 J]|(dsimp only;rw[hb 14 J])) (fun β0 _ _ _ _ gq gh kq=>sPA (cs':= [int ((ix (ix m.sT ((ix now k2).1).toNat) k3).2),int (ix (ix t.sT ((ix now k2).2).toNat).next ((ix (ix m.sT ((ix now k2).1).toNat) k3).1).toNat)]) (gq.1.trans J) (gh.1.trans J) (gq.2.1.trans J) T.agg84 J J kq) ?_
      refine pnH fun β0=>(nl (th (sq (tkBC 231 2310 ((ix (ix m.sT (ix now k2).1.toNat) k3).2.toNat) J J (by decide) (gK O) (gK O) (dr (nh:=10) [0,0,2,7,15,0,32,127,255,511] T.mixed kR ?_)))))
      refine st_ J (fun _ _ _ gq kq=>mv' (gq.1.trans J) kq) ?_
      refine st_ J (fun _ _ _ gq kq=>iPA (gq.1.trans J) J T.arr84 T.one3 J kq) ?_
      refine st_ J (fun _ _ _ gq kq=>lP (gq.1.trans J) J J T.one3 kq) ?_
      refine st_ J (fun _ _ _ gq kq=>iO (gq.1.trans J) J (gq.2.1.trans J) T.sl206 O O kq) ?_
      refine st_ J (fun _ _ _ gq kq=>lO (gq.1.trans J) J gB J T.one143 kq) ?_
      refine st_ J (fun _ _ _ gq kq=>iPA (gq.1.trans J) J T.arr84 T.one3 J kq) ?_
      refine st_ J (fun _ _ _ gq kq=>lP (gq.1.trans J) J J T.one3 kq) ?_
      refine st_ J (fun _ _ _ gq kq=>iO ((gq.1.trans J).trans (osl_is (key:=2310)).symm) J (gq.2.1.trans J) T.sl143 O O kq) ?_
      refine st_ J (fun _ _ _ gq kq=>lO (gq.1.trans J) J gB J T.one4 kq) ?_
      refine st_ J (fun _ _ _ gq kq=>no (gq.1.trans J) kq) ?_
      refine pn (nl (th ?_))
      refine cd J (fun hc5=> ?_) (fun hc5=> ?_)
      ·skip
       have hnq:((ix (ix m.sT (ix now k2).1.toNat) k3).2,ix (ix t.sT (ix now k2).2.toNat).next (ix (ix m.sT (ix now k2).1.toNat) k3).1.toNat)∉vis3:=by
        intro h
        rw[hmq] at hc5
        simp[h] at hc5
       refine sq (dr (nh:=8) [0,0,2,7,15,0,32,127,255] T.mixed kR ?_)
       refine st_ J (fun _ _ _ gq kq=>mv' (gq.1.trans J) kq) ?_
       refine st_ J (fun _ _ _ gq kq=>iPA (gq.1.trans J) J T.arr84 T.one3 J kq) ?_
       refine st_ J (fun _ _ _ gq kq=>lP (gq.1.trans J) J J T.one3 kq) ?_
       refine st_ J (fun _ _ _ gq kq=>iO (gq.1.trans J) J (gq.2.1.trans J) T.sl206 O O kq) ?_
       refine st_ J (fun _ _ _ gq kq=>lO (gq.1.trans J) J gB J T.one143 kq) ?_
       refine st_ J (fun _ _ _ gq kq=>iPA (gq.1.trans J) J T.arr84 T.one3 J kq) ?_
       refine st_ J (fun _ _ _ gq kq=>lP (gq.1.trans J) J J T.one3 kq) ?_
       refine st_ J (fun _ _ _ gq kq=>iO ((gq.1.trans J).trans (osl_is (key:=2310)).symm) J (gq.2.1.trans J) T.sl143 O O kq) ?_
       refine pn (sO (φ:=bl true) J J J T.one4 gB J (y':=true) J (nl (th (rg (gvU 231 2310 ((ix (ix m.sT (ix now k2).1.toNat) k3).2.toNat) J J (by decide) (gK O) (mv (lPA J J T.agg84 J (bs (css:= [[int ((ix (ix m.sT ((ix now k2).1).toNat) k3).2),int (ix (ix t.sT ((ix now k2).2).toNat).next ((ix (ix m.sT ((ix now k2).1).toNat) k3).1).toNat)]]) T.mk67 ⟨J,J,pA (cs:= [int ((ix (ix m.sT ((ix now k2).1).toNat) k3).2),int (ix (ix t.sT ((ix now k2).2).toNat).next ((ix (ix m.sT ((ix now k2).1).toNat) k3).1).toNat)]) J,tV⟩ J J J (ap (key:=11) (zs:= [((ix (ix m.sT ((ix now k2).1).toNat) k3).2,ix (ix t.sT ((ix now k2).2).toNat).next ((ix (ix m.sT ((ix now k2).1).toNat) k3).1).toNat)]) osl_eq J J J T.mk67 (by unfold maxL at*;simp;omega) (by unfold maxL at*;simp;omega) fun v107=>(ag (nl (eb (th (rg (bi J J (b_add i6) (mv (nl ?_)))))))))))))))))
       have hN0:(k3+1)≤(ix m.sT ((ix now k2).1).toNat).length:=by
        first|omega|simp_all
       have hN1:(mt3.set ((ix (ix m.sT (ix now k2).1.toNat) k3).2.toNat) ((ix mt3 ((ix (ix m.sT (ix now k2).1.toNat) k3).2.toNat)).set (ix (ix t.sT ((ix now k2).2).toNat).next ((ix (ix m.sT ((ix now k2).1).toNat) k3).1).toNat).toNat true))=mat m.sT.length t.sT.length (vis3++ [((ix (ix m.sT (ix now k2).1.toNat) k3).2,ix (ix t.sT (ix now k2).2.toNat).next (ix (ix m.sT (ix now k2).1.toNat) k3).1.toNat)])∧LI (BadM m t) (SucM m t) (vis3++ [((ix (ix m.sT (ix now k2).1.toNat) k3).2,ix (ix t.sT (ix now k2).2.toNat).next (ix (ix m.sT (ix now k2).1.toNat) k3).1.toNat)]) (now.drop k2++(nx3++ [((ix (ix m.sT ((ix now k2).1).toNat) k3).2,ix (ix t.sT ((ix now k2).2).toNat).next ((ix (ix m.sT ((ix now k2).1).toNat) k3).1).toNat)]))∧(vis3++ [((ix (ix m.sT (ix now k2).1.toNat) k3).2,ix (ix t.sT (ix now k2).2.toNat).next (ix (ix m.sT (ix now k2).1.toNat) k3).1.toNat)]).length=vis.length+(nx3++ [((ix (ix m.sT ((ix now k2).1).toNat) k3).2,ix (ix t.sT ((ix now k2).2).toNat).next ((ix (ix m.sT ((ix now k2).1).toNat) k3).1).toNat)]).length∧∀j,j<(k3+1)→((ix (ix m.sT (ix now k2).1.toNat) j).2,ix (ix t.sT (ix now k2).2.toNat).next (ix (ix m.sT (ix now k2).1.toNat) j).1.toNat)∈(vis3++ [((ix (ix m.sT (ix now k2).1.toNat) k3).2,ix (ix t.sT (ix now k2).2.toNat).next (ix (ix m.sT (ix now k2).1.toNat) k3).1.toNat)]):=by
        refine⟨?_,?_,by simp;omega,fun a ha=> ?_⟩
        ·have hms:=mat_set (n:=m.sT.length) (m:=t.sT.length) (vis:=vis3) (x:=(ix (ix m.sT (ix now k2).1.toNat) k3).2.toNat) (y:=(ix (ix t.sT (ix now k2).2.toNat).next (ix (ix m.sT (ix now k2).1.toNat) k3).1.toNat).toNat) O O
         rw[Int.toNat_of_nonneg O,Int.toNat_of_nonneg O,←hmt3] at hms
         exact hms
        ·have:=li_push hLI3 hnq hrq
         rwa [List.append_assoc] at this
        ·by_cases e:a=k3
         ·subst e;exact List.mem_append.2 (.inr (List.mem_singleton.2 rfl))
         ·exact List.mem_append.2 (.inl (hdn a O))
       exact ln (⟨k3+1,mt3.set ((ix (ix m.sT (ix now k2).1.toNat) k3).2.toNat) ((ix mt3 ((ix (ix m.sT (ix now k2).1.toNat) k3).2.toNat)).set (ix (ix t.sT ((ix now k2).2).toNat).next ((ix (ix m.sT ((ix now k2).1).toNat) k3).1).toNat).toNat true),v107,nx3++ [((ix (ix m.sT ((ix now k2).1).toNat) k3).2,ix (ix t.sT ((ix now k2).2).toNat).next ((ix (ix m.sT ((ix now k2).1).toNat) k3).1).toNat)],vis3++ [((ix (ix m.sT (ix now k2).1.toNat) k3).2,ix (ix t.sT (ix now k2).2.toNat).next (ix (ix m.sT (ix now k2).1.toNat) k3).1.toNat)]⟩:Nat × (List (List Bool)) × Value × (List (Int × Int)) × (List (Int × Int))) ⟨hN0,hN1⟩ dO ⟨id,id,id,id,id,id,id,id,id,id,id,id,id,tV⟩ ⟨rI,rI,rI,rI,rI,rI,tV⟩
      ·skip
       have hyq:((ix (ix m.sT (ix now k2).1.toNat) k3).2,ix (ix t.sT (ix now k2).2.toNat).next (ix (ix m.sT (ix now k2).1.toNat) k3).1.toNat)∈vis3:=by
        rw[hmq] at hc5
        simpa using hc5
       refine gvSC 231 2310 ((ix (ix m.sT (ix now k2).1.toNat) k3).2.toNat) rfl rfl (by decide) (gK O) (gK O) (sk (eb (th (rg (bi rfl rfl (b_add i6) (mv (nl ?_)))))))
       have hN0:(k3+1)≤(ix m.sT ((ix now k2).1).toNat).length:=by
        first|omega|simp_all
       have hN1:mt3=mat m.sT.length t.sT.length vis3∧LI (BadM m t) (SucM m t) vis3 (now.drop k2++nx3)∧vis3.length=vis.length+nx3.length∧∀j,j<(k3+1)→((ix (ix m.sT (ix now k2).1.toNat) j).2,ix (ix t.sT (ix now k2).2.toNat).next (ix (ix m.sT (ix now k2).1.toNat) j).1.toNat)∈vis3:=by
        refine⟨hmt3,hLI3,hvl3,fun a ha=> ?_⟩
        by_cases e:a=k3
        ·subst e;exact hyq
        ·exact hdn a O
       exact ln (⟨k3+1,mt3,v9y,nx3,vis3⟩:Nat × (List (List Bool)) × Value × (List (Int × Int)) × (List (Int × Int))) ⟨hN0,hN1⟩ dO ⟨id,id,id,id,id,id,id,id,id,id,id,id,id,tV⟩ ⟨rI,rI,rI,rI,rI,rI,tV⟩
     ·try simp at hc4
      refine ex (xt_ (xt_ (xb (eb (th (rg (bi J J (b_add i6) (mv (nl ?_)))))))))
      have hN0:(k2+1)≤now.length:=by
       first|omega|simp_all
      have hN1:mt3=mat m.sT.length t.sT.length vis3∧LI (BadM m t) (SucM m t) vis3 (now.drop (k2+1)++nx3)∧vis3.length=vis.length+nx3.length:=by
       refine⟨hmt3,?_,hvl3⟩
       have h3:=hLI3
       rw[drop_ix O] at h3
       refine li_pop h3 ⟨hnb,?_⟩
       rintro _ ⟨e,he,rfl⟩
       obtain⟨j,hj,rfl⟩:=List.getElem_of_mem he
       have hj2:j<(ix m.sT (ix now k2).1.toNat).length:=hj
       have:=hdn j O
       rw[ix_get hj] at this
       exact this
      exact ln (⟨k2+1,mt3,v9y,nx3,vis3⟩:Nat × (List (List Bool)) × Value × (List (Int × Int)) × (List (Int × Int))) ⟨hN0,hN1⟩ dO ⟨id,id,id,id,id,id,id,id,id,tV⟩ ⟨rI,rI,rI,rI,rI,tV⟩
   ·try simp at hc2
    refine ex (xt_ (xt_ (xb (th (rg (fz 11 11 J J (mv (ag (nl (eb (th (rg (mv (bi J J (b_add i6) (ag (nl ?_))))))))))))))))
    have hN0:mt2=mat m.sT.length t.sT.length vis2∧LI (BadM m t) (SucM m t) vis2 nx∧0≤(dp+1)∧(dp+1)+((min nx.length 1:Nat):Int)≤(vis2.length:Int):=by
     refine⟨hmt2,?_,O,?_⟩
     ·rw[show now.drop k2= [] from List.drop_eq_nil_of_le O] at hLI2
      simpa using hLI2
     ·omega
    exact ln (⟨mt2,vis2,nx,dp+1⟩:(List (List Bool)) × (List (Int × Int)) × (List (Int × Int)) × Int) hN0 dO ⟨id,id,id,id,id,tV⟩ ⟨rI,rI,rI,rI,tV⟩
  ·try simp at hc1
   refine ex (xt_ (xt_ (xb (th (sq (rg (nw 17 84 2 pE (ag (rtg (key:=17) 17 J (nl (th (sq (sq (rg (mv (lnO J J T.sl206 (mv (nl (th (bk ?_))))))))))))))))))))
   have hI4_0:0≤us.length:=by
    first|omega|simp
   have hI4_1:([]:List (Int × Int)).length≤0*t.sT.length:=by
    exact Nat.zero_le _
   refine lp (κ:=Nat × Value × (List (Int × Int))) (fun p=> [(7,osl 24 v24),(17,osl 17 p.2.1),(112,int (us.length:Int)),(113,int (p.1:Int))]) (fun p=> [(2,cell b2 [sl 1 rE_ m.aC,sl 1 gE m.sT]),(3,cell b3 [sl 1 rE_ t.aC,sl 2 sE t.sT]),(17,own p.2.1 84 2 pE p.2.2),(24,own v24 143 1 eqvE us),(231,bigown us 4 1 blE mt1 none)]) (fun p=>(p.1≤us.length)∧(p.2.2.length≤p.1*t.sT.length)) (fun p=>us.length- p.1) ⟨0,(.slice none 0 0),([]:List (Int × Int))⟩ ⟨hI4_0,hI4_1⟩ ⟨id,id,id,id,tV⟩ ⟨rI,rI,rI,rI,rI,tV⟩ ?_
   intro⟨k4,v17x,ps⟩ hG4
   obtain⟨hk4,hps⟩:(k4≤us.length)∧(ps.length≤k4*t.sT.length):=hG4
   show Ct _ _ _ _ [(7,osl 24 v24),(17,osl 17 v17x),(112,int (us.length:Int)),(113,int (k4:Int))] [(2,cell b2 [sl 1 rE_ m.aC,sl 1 gE m.sT]),(3,cell b3 [sl 1 rE_ t.aC,sl 2 sE t.sT]),(17,own v17x 84 2 pE ps),(24,own v24 143 1 eqvE us),(231,bigown us 4 1 blE mt1 none)] _
   refine sq (rg (bi J J b_lss (nl (th (sq ?_)))))
   refine cd J (fun hc6=> ?_) (fun hc6=> ?_)
   ·try simp at hc6
    have hr4:(ix mt1 k4).length=t.sT.length:=by rw[hmt1];exact mat_rowlen O
    have hkm:k4*t.sT.length+t.sT.length≤m.sT.length*t.sT.length:=by rw[←Nat.succ_mul];exact Nat.mul_le_mul_right _ O
    refine sk (th (sq (bk (sq (rg (mv (ag (nl (th (sq (rg (mv (mv (iO J J J T.sl206 O O (lO J J gB J T.one143 (tkB 231 2320 k4 J J (by decide) (gK O) (gK O) (kn 119 (osl 2320 (ix us k4)) J eq_osl (lnO J J T.sl143 (mv (nl (th (bk ?_))))))))))))))))))))))
    have hI5_0:0≤(ix mt1 k4).length:=by
     first|omega|simp
    have hI5_1:ps.length≤k4*t.sT.length+0:=by
     exact hps
    refine lp (κ:=Nat × Value × (List (Int × Int))) (fun p=> [(7,osl 24 v24),(17,osl 17 p.2.1),(18,int (k4:Int)),(112,int (us.length:Int)),(113,int (k4:Int)),(119,osl 2320 (ix us k4)),(120,int ((ix mt1 k4).length:Int)),(121,int (p.1:Int))]) (fun p=> [(2,cell b2 [sl 1 rE_ m.aC,sl 1 gE m.sT]),(3,cell b3 [sl 1 rE_ t.aC,sl 2 sE t.sT]),(17,own p.2.1 84 2 pE p.2.2),(24,own v24 143 1 eqvE us),(231,bigown us 4 1 blE mt1 (some k4)),(2320,own (ix us k4) 4 1 blE (ix mt1 k4))]) (fun p=>(p.1≤(ix mt1 k4).length)∧(p.2.2.length≤k4*t.sT.length+p.1)) (fun p=>(ix mt1 k4).length- p.1) ⟨0,v17x,ps⟩ ⟨hI5_0,hI5_1⟩ ⟨id,id,id,id,id,id,id,id,tV⟩ ⟨rI,rI,rI,rI,rI,rI,tV⟩ ?_
    intro⟨k5,v17y,ps5⟩ hG5
    obtain⟨hk5,hps5⟩:(k5≤(ix mt1 k4).length)∧(ps5.length≤k4*t.sT.length+k5):=hG5
    show Ct _ _ _ _ [(7,osl 24 v24),(17,osl 17 v17y),(18,int (k4:Int)),(112,int (us.length:Int)),(113,int (k4:Int)),(119,osl 2320 (ix us k4)),(120,int ((ix mt1 k4).length:Int)),(121,int (k5:Int))] [(2,cell b2 [sl 1 rE_ m.aC,sl 1 gE m.sT]),(3,cell b3 [sl 1 rE_ t.aC,sl 2 sE t.sT]),(17,own v17y 84 2 pE ps5),(24,own v24 143 1 eqvE us),(231,bigown us 4 1 blE mt1 (some k4)),(2320,own (ix us k4) 4 1 blE (ix mt1 k4))] _
    refine sq (rg (bi J J b_lss (nl (th (sq ?_)))))
    refine cd J (fun hc7=> ?_) (fun hc7=> ?_)
    ·try simp at hc7
     refine sk (th (sq (bk (sq (rg (mv (iO J J J T.sl143 O O (lO J J gB J T.one4 (ag (ag (nl (th (sq (rg (mv (nl (th ?_)))))))))))))))))
     refine cd J (fun hc8=> ?_) (fun hc8=> ?_)
     ·try simp at hc8
      refine rg (mv (mv (mv (bd (css:= [(0,_),(1,_)]) T.st84 (eC (eC eZ)) ⟨J,J,p1 (φ:=int (k4:Int)) J,⟨J,J,p1 (φ:=int (k5:Int)) J,tV⟩⟩ (bs (css:= [[int (k4:Int),int (k5:Int)]]) T.mk67 ⟨J,J,pA (cs:= [int (k4:Int),int (k5:Int)]) J,tV⟩ J J J (ap (key:=17) (zs:= [((k4:Int),(k5:Int))]) osl_eq J J J T.mk67 (by unfold maxL at*;simp;omega) (by unfold maxL at*;simp;omega) fun v132=>(ag (nl (eb (th (rg (bi J J (b_add i6) (mv (nl ?_))))))))))))))
      have hN0:(k5+1)≤(ix mt1 k4).length:=by
       first|omega|simp_all
      have hN1:(ps5++ [((k4:Int),(k5:Int))]).length≤k4*t.sT.length+(k5+1):=by
       simp;omega
      exact ln (⟨k5+1,v132,ps5++ [((k4:Int),(k5:Int))]⟩:Nat × Value × (List (Int × Int))) ⟨hN0,hN1⟩ dO ⟨id,id,id,id,id,id,id,id,tV⟩ ⟨rI,rI,rI,rI,rI,rI,tV⟩
     ·try simp at hc8
      refine sk (eb (th (rg (bi J J (b_add i6) (mv (nl ?_))))))
      have hN0:(k5+1)≤(ix mt1 k4).length:=by
       first|omega|simp_all
      have hN1:ps5.length≤k4*t.sT.length+(k5+1):=by
       omega
      exact ln (⟨k5+1,v17y,ps5⟩:Nat × Value × (List (Int × Int))) ⟨hN0,hN1⟩ dO ⟨id,id,id,id,id,id,id,id,tV⟩ ⟨rI,rI,rI,rI,rI,rI,tV⟩
    ·try simp at hc7
     refine ex (xt_ (xt_ (xb (eb (th (rg (gvS 231 2320 k4 J J (by decide) (gK O) (gK O) (bi J J (b_add i6) (mv (nl ?_))))))))))
     have hN0:(k4+1)≤us.length:=by
      first|omega|simp_all
     have hN1:ps5.length≤(k4+1)*t.sT.length:=by
      rw[Nat.succ_mul];omega
     exact ln (⟨k4+1,v17y,ps5⟩:Nat × Value × (List (Int × Int))) ⟨hN0,hN1⟩ dO ⟨id,id,id,id,tV⟩ ⟨rI,rI,rI,rI,rI,tV⟩
   ·try simp at hc6
    refine ex (xt_ (xt_ (xb (th (sq (rg (fz 17 17 J J (mv (ag (ag (ag (nl (th (rt ?_))))))))))))))
    exact rE ⟨(ps,0,true),⟨fun _=>(well_sat hm ht).1 (li_yes (by rw[show now= [] from by first|exact hc1|exact List.eq_nil_of_length_eq_zero O] at hLI;exact hLI)),fun _=>J⟩⟩ [.tmp 4,.tmp 5,.tmp 6] J [sl 2 pE ps,int 0,bl true] ⟨.tmp J,.tmp J,.tmp J,tV⟩ J trivial eX
theorem Satisfies_ok (m:SSys) (t:SS) (hm:okSys m) (ht:oK t):
 Fn0 Tryz.prog 72 [sys m,spec t] (bl (satD m t)):=by
 refine fnI Tryz.func72 rfl rfl (fun w0 F0=> ?_)
 refine fcC (inhS 0 J) (fun hS0=> ?_)
 obtain⟨hma0,hms0,hme0⟩:=sys_lens hS0
 refine fcC (inhS 1 J) (fun hS1=> ?_)
 obtain⟨hsa1,hss1,hse1⟩:=sLn hS1
 refine sq (rg (bx (key:=2) (cs:= [sl 1 rE_ m.aC,sl 1 gE m.sT]) J fun b2=>(bx (key:=3) (cs:= [sl 1 rE_ t.aC,sl 2 sE t.sT]) J fun b3=>(ag (nl (th (sq (rg (lPA J J T.agg43 J (lPA J J T.agg25 J (cl (divg.Reach_ok m t aS aS) T.ent129 trivial fun N11 i11=>(mv (xt J J (xt J J (xt J J (ag (ag (ag (nl (th (sq (rg (mv (ag (nl (th (rt ?_)))))))))))))))))))))))))))
 have hr0:i11.1.2.2=(satD m t):=by
  rw[Bool.eq_iff_iff,satD_iff];exact i11.2
 exact rE () [.tmp 4] J [bl i11.1.2.2] ⟨.tmp J,tV⟩ (cA1 (fun x0=>rV [bl x0]) hr0) trivial eX
theorem Made_ok (m:SSys) (t:SS) (ht:oK t):
 Fn0 Tryz.prog 24 [sys m,spec t] (bl (madeB m t)):=by
 refine fnI Tryz.func24 rfl rfl (fun w0 F0=> ?_)
 refine fcC (inhS 0 J) (fun hS0=> ?_)
 obtain⟨hma0,hms0,hme0⟩:=sys_lens hS0
 refine fcC (inhS 1 J) (fun hS1=> ?_)
 obtain⟨hsa1,hss1,hse1⟩:=sLn hS1
 refine sq (rg (bx (key:=2) (cs:= [sl 1 rE_ m.aC,sl 1 gE m.sT]) J fun b2=>(bx (key:=3) (cs:= [sl 1 rE_ t.aC,sl 2 sE t.sT]) J fun b3=>(ag (nl (th (sq (rg (lPA J J T.agg43 J (cal0 (φs:= [agg [sl 1 rE_ m.aC,sl 1 gE m.sT]]) (φ:=bl (sysOK m)) ⟨J,tV⟩ (divs.Is_ok m) T.ent31 (mv ?_)))))))))))
 apply gAnd (t:=7) (pd:=13) rfl
 rotate_left
 ·intro hg0 fin
  have hg0':=hg0
  try simp at hg0'
  exact gy J J J hg0 (fP J T.fld43_0 (gy J J J hg0 (lP J J J T.one22 (gy J J J hg0 (fP J T.fld25_0 (gy J J J hg0 (lP J J J T.one22 (gy J J J hg0 (cal0 (φs:= [sl 1 rE_ m.aC,sl 1 rE_ t.aC]) (φ:=bl (decide (m.aC=t.aC))) ⟨J,J,tV⟩ (ref01.SameStrings_ok _ _) T.ent33 (pkT J hg0 J (drp (X:= [(12,_),(11,_),(10,_),(9,_),(8,_)]) ⟨J,J,J,J,J,tV⟩ fin)))))))))))
 ·intro hg0 fin
  exact gn J J J hg0 J J (gn J J J hg0 J J (gn J J J hg0 J J (gn J J J hg0 J J (gn J J J hg0 J J (pkF J hg0 J (drp (X:= [(12,_),(11,_),(10,_),(9,_),(8,_)]) ⟨J,J,J,J,J,tV⟩ fin))))))
 refine mv ?_
 apply gAnd (t:=14) (pd:=18) rfl
 rotate_left
 ·intro hg1 fin
  have hg1':=hg1
  try simp at hg1'
  have hok:okSys m:=sysOK_ok (by simp at hg1;exact hg1.1)
  exact gy J J J hg1 (lPA J J T.agg43 J (gy J J J hg1 (lPA J J T.agg25 J (gy J J J hg1 (cal0 (φs:= [agg [sl 1 rE_ m.aC,sl 1 gE m.sT],agg [sl 1 rE_ t.aC,sl 2 sE t.sT]]) (φ:=bl (satD m t)) ⟨J,J,tV⟩ (divg.Satisfies_ok m t aS aS) T.ent72 (pkT J hg1 J (drp (X:= [(17,_),(16,_),(15,_)]) ⟨J,J,J,tV⟩ fin)))))))
 ·intro hg1 fin
  exact gn J J J hg1 J J (gn J J J hg1 J J (gn J J J hg1 J J (pkF J hg1 J (drp (X:= [(17,_),(16,_),(15,_)]) ⟨J,J,J,tV⟩ fin))))
 refine ag (nl (th (rt ?_)))
 have hr0:(((sysOK m)&&(decide (m.aC=t.aC)))&&(satD m t))=(madeB m t):=by
  first|rfl|simp_all|omega
 exact rE () [.tmp 4] J [bl (((sysOK m)&&(decide (m.aC=t.aC)))&&(satD m t))] ⟨.tmp J,tV⟩ (cA1 (fun x0=>rV [bl x0]) hr0) trivial eX
end divg
end
section
namespace WitSat
open ref01 ref03 ref04 ref06 Part Rungs LeftM TrimM BisM BisM5 BisM6 WalkM StepM WitM JudgM
theorem has_inj {u v:Int} (h0:0≤u) (h1:0≤v) (h:∀a:Nat,has u (a:Int)=has v (a:Int)):u=v:=by
 have:u.toNat=v.toNat:=Nat.eq_of_testBit_eq fun a=>by have:=h a;unfold has at this;simpa using this
 omega
theorem has_lt {u:Int} (h:u<256) {a:Nat} (ha:has u (a:Int)=true):a<8:=by
 unfold has at ha
 rw[Int.toNat_natCast] at ha
 refine Classical.byContradiction fun hn=> ?_
 rw[Nat.testBit_lt_two_pow (Nat.lt_of_lt_of_le (show u.toNat<2^8 by omega) (Nat.pow_le_pow_right O O))] at ha
 cases ha
variable {T:SS} {want:List PP} {ss:List (List Int)} {q:List PP} {mm:List (PP × Int)} {m:SSys}
theorem edge_mem (h:WI T ss (firstW T want) q.length q mm m.sT) {x:Nat} (hx:x<q.length) {e:PP}:e∈edg m x↔∃a:Nat,e.1=(a:Int)∧a<63∧has (ix q x).2 (a:Int)=true∧∃u∈ix ss (tgt T (ix q x) (a:Int)).toNat,e.2=(q.idxOf (tgt T (ix q x) (a:Int),u):Int):=by
 have e1:edg m x=sortP (edF T ss q (ix q x)):=by
  show ix m.sT x=_
  rw[h.out];exact ix_map_range hx
 rw[e1,(sortP_perm _).mem_iff]
 unfold edF
 rw[List.mem_flatMap]
 constructor
 ·rintro⟨_,ha,he⟩
  obtain⟨a,rfl,ha1,ha2⟩:=listOf_mem.1 ha
  obtain⟨u,hu,rfl⟩:=List.mem_map.1 he
  exact⟨a,rfl,ha1,ha2,u,hu,rfl⟩
 ·rintro⟨a,e0,ha1,ha2,u,hu,e2⟩
  exact⟨(a:Int),listOf_mem.2 ⟨a,rfl,ha1,ha2⟩,List.mem_map.2 ⟨u,hu,Prod.ext e0.symm e2.symm⟩⟩
theorem m_len (h:WI T ss (firstW T want) q.length q mm m.sT):m.sT.length=q.length:=by rw[h.out];simp
theorem at_ok (hT:oK T) (hw:Wants T want) (hs:SetsOK T want ss) (h:WI T ss (firstW T want) q.length q mm m.sT) {x:Nat} (hx:x<q.length):
 0≤(ix q x).1∧(ix q x).1<(T.sT.length:Int)∧(ix q x).2∈acc T (ix q x).1.toNat∧0≤(ix q x).2∧(ix q x).2<256:=by
 obtain⟨b0,b1,b2⟩:=h.wq.bd _ (ix_memS hx)
 have ha:=sets_acc hw hs (fun _ h=>h) O b2
 have:=acc_bd (hT.st (ix q x).1.toNat O) ha
 exact⟨b0,b1,ha,this.1,this.2⟩
theorem first_in (hs:SetsOK T want ss) {x:Nat} (hx:x<T.sT.length):ix (acc T x) 0∈ix ss x:=(hs.mem x hx _).2 (.inl rfl)
theorem go_ok (hT:oK T) (hw:Wants T want) (hs:SetsOK T want ss) (h:WI T ss (firstW T want) q.length q mm m.sT) {x:Nat} (hx:x<q.length) {a:Nat} (ha:has (ix q x).2 (a:Int)=true):
 a<T.aC.length∧0≤tgt T (ix q x) (a:Int)∧tgt T (ix q x) (a:Int)<(T.sT.length:Int):=by
 obtain⟨b0,b1,b2,_⟩:=at_ok hT hw hs h hx
 exact or_go hT O ((orAll_has _ _).2 ⟨_,b2,ha⟩)
theorem off_eq (hT:oK T) (hw:Wants T want) (hs:SetsOK T want ss) (h:WI T ss (firstW T want) q.length q mm m.sT) {x:Nat} (hx:x<q.length):offM m x=(ix q x).2:=by
 obtain⟨b0,b1,b2,b3,b4⟩:=at_ok hT hw hs h hx
 refine has_inj (orAll_nn _) b3 fun a=> ?_
 rw[Bool.eq_iff_iff]
 show has (offE (edg m x)) (a:Int)=true↔_
 rw[off_has]
 constructor
 ·rintro⟨e,he,rfl⟩
  obtain⟨b,e1,_,hb,_⟩:=(edge_mem h hx).1 he
  rw[e1,Int.toNat_natCast];exact hb
 ·intro ha
  have hg:=go_ok hT hw hs h hx ha
  exact⟨((a:Int),_),(edge_mem h hx).2 ⟨a,rfl,by have:=has_lt b4 ha;omega,ha,_,first_in hs (x:=(tgt T (ix q x) (a:Int)).toNat) O,rfl⟩,by simp⟩
theorem edge_to (hT:oK T) (hw:Wants T want) (hs:SetsOK T want ss) (h:WI T ss (firstW T want) q.length q mm m.sT) {x:Nat} (hx:x<q.length) {e:PP} (he:e∈edg m x):
 0≤e.1∧e.1<(T.aC.length:Int)∧0≤e.2∧e.2<(q.length:Int)∧0≤ix (nxt T (ix q x).1.toNat) e.1.toNat∧(ix q e.2.toNat).1=ix (nxt T (ix q x).1.toNat) e.1.toNat:=by
 obtain⟨a,e1,_,ha,u,hu,e2⟩:=(edge_mem h hx).1 he
 have hg:=go_ok hT hw hs h hx ha
 have hin:(tgt T (ix q x) (a:Int),u)∈q:=h.dn x hx (a:Int) (listOf_mem.2 ⟨a,rfl,by have:=(at_ok hT hw hs h hx).2.2.2.2;have:=has_lt this ha;omega,ha⟩) u hu
 have hi:=List.idxOf_lt_length_of_mem hin
 have hq:ix q (q.idxOf (tgt T (ix q x) (a:Int),u))=(tgt T (ix q x) (a:Int),u):=by rw[ix_get hi];exact List.getElem_idxOf hi
 have ht:tgt T (ix q x) (a:Int)=ix (nxt T (ix q x).1.toNat) e.1.toNat:=by rw[e1];rfl
 refine⟨O,O,O,O,by rw[←ht];exact hg.2.1,?_⟩
 rw[e2,Int.toNat_natCast,hq];exact ht
theorem wit_sat (hT:oK T) (hw:Wants T want) (hf:(firstW T want).1=0) (hm:WitOK T want m):SatM m T:=by
 obtain⟨ss,q,mm,hs,h,_⟩:=hm
 refine⟨fun x y=>x<q.length∧(ix q x).1=(y:Int),⟨?_,?_,?_,?_⟩,h.wq.ne,?_⟩
 ·rintro x y ⟨hx,e⟩
  have:=(at_ok hT hw hs h hx).2.1;omega
 ·rintro x y ⟨hx,e⟩
  rw[off_eq hT hw hs h hx]
  have:=(at_ok hT hw hs h hx).2.2.1
  rw[e,Int.toNat_natCast] at this;exact this
 ·rintro x y ⟨hx,e⟩ _ he
  obtain⟨e',he',rfl⟩:=List.mem_map.1 he
  have hb:=at_ok hT hw hs h hx
  have hg:=edge_to hT hw hs h hx he'
  show e'.1.toNat<(nxt T y).length
  have:(nxt T y).length=T.aC.length:=(hT.st y O).len
  omega
 ·rintro x y ⟨hx,e⟩ _ he
  obtain⟨e',he',rfl⟩:=List.mem_map.1 he
  have hg:=edge_to hT hw hs h hx he'
  rw[e,Int.toNat_natCast] at hg
  exact⟨hg.2.2.2.2.1,by show e'.2.toNat<_;omega,by show(ix q e'.2.toNat).1=_;rw[hg.2.2.2.2.2];show _=((ix (nxt T y) e'.1.toNat).toNat:Int);omega⟩
 ·rw[h.wq.hd,hf];rfl
end WitSat
end
section
namespace WitVal
open ref01 ref03 ref04 ref06 Part Rungs LeftM TrimM BisM BisM5 BisM6 WalkM StepM WitM JudgM WitSat sysw
variable {T:SS} {want:List PP} {ss:List (List Int)} {q:List PP} {mm:List (PP × Int)} {m:SSys}
theorem nodup_map {α β:Type} {f:α→β}:∀{l:List α},l.Nodup→(∀a∈l,∀b∈l,f a=f b→a=b)→(l.map f).Nodup
 | [],_,_=>by simp
 |a::l,h,hf=>by
  rw[List.map_cons,List.nodup_cons]
  obtain⟨h1,h2⟩:=List.nodup_cons.1 h
  refine⟨fun hm=> ?_,nodup_map h2 fun x hx y hy=>hf x (List.mem_cons_of_mem _ hx) y (List.mem_cons_of_mem _ hy)⟩
  obtain⟨b,hb,e⟩:=List.mem_map.1 hm
  rw[hf b (List.mem_cons_of_mem _ hb) a List.mem_cons_self e] at hb
  exact h1 hb
theorem nodup_flat {α β:Type} {f:α→List β}:∀{l:List α},l.Nodup→(∀a∈l,(f a).Nodup)→(∀a∈l,∀b∈l,∀x,x∈f a→x∈f b→a=b)→(l.flatMap f).Nodup
 | [],_,_,_=>by simp
 |a::l,h,h1,h2=>by
  obtain⟨g1,g2⟩:=List.nodup_cons.1 h
  rw[List.flatMap_cons,List.nodup_append]
  refine⟨h1 a List.mem_cons_self,nodup_flat g2 (fun b hb=>h1 b (List.mem_cons_of_mem _ hb)) fun x hx y hy=>h2 x (List.mem_cons_of_mem _ hx) y (List.mem_cons_of_mem _ hy),fun x hx y hy e=> ?_⟩
  subst e
  obtain⟨b,hb,hxb⟩:=List.mem_flatMap.1 hy
  rw[←h2 a List.mem_cons_self b (List.mem_cons_of_mem _ hb) x hx hxb] at hb
  exact g1 hb
theorem flat_len {α β:Type} {f:α→List β} {K:Nat}:∀{l:List α},(∀a∈l,(f a).length≤K)→(l.flatMap f).length≤l.length*K
 | [],_=>by simp
 |a::l,h=>by
  have:=flat_len (K:=K) (fun b hb=>h b (List.mem_cons_of_mem a hb))
  have h0:=h a List.mem_cons_self
  rw[List.flatMap_cons,List.length_append,List.length_cons,Nat.succ_mul]
  omega
theorem listOf_nodup (n:Nat) (t:Int):(listOf n t).Nodup:=by
 unfold listOf
 exact nodup_map (List.filter_sublist.nodup List.nodup_range) fun a _ b _ e=>by omega
theorem sum_le {l:List (List PP)} {K:Nat}:(∀x∈l,x.length≤K)→sumLen l≤l.length*K:=by
 induction l with
 |nil=>intro _;simp[sumLen]
 |cons a l ih=>
  intro h
  have:=ih fun x hx=>h x (List.mem_cons_of_mem _ hx)
  have h0:=h a List.mem_cons_self
  rw[List.length_cons,Nat.succ_mul]
  unfold sumLen at this ⊢
  rw[List.map_cons,List.sum_cons]
  omega
theorem listOf8 {u:Int} (h:u<256):(listOf 63 u).length≤8:=by
 have h1:∀x∈listOf 63 u,x∈(List.range 8).map fun(a:Nat)=>(a:Int):=fun x hx=>by
  obtain⟨a,rfl,_,ha⟩:=listOf_mem.1 hx
  exact List.mem_map.2 ⟨a,List.mem_range.2 (has_lt h ha),rfl⟩
 have:=List.Nodup.length_le_of_subset (listOf_nodup 63 u) h1
 simpa using this
theorem edges_eq (h:WI T ss (firstW T want) q.length q mm m.sT) {x:Nat} (hx:x<q.length):edg m x=sortP (edF T ss q (ix q x)):=by
 show ix m.sT x=_
 rw[h.out];exact ix_map_range hx
theorem edF_nodup (hT:oK T) (hw:Wants T want) (hs:SetsOK T want ss) (h:WI T ss (firstW T want) q.length q mm m.sT) {x:Nat} (hx:x<q.length):(edF T ss q (ix q x)).Nodup:=by
 refine nodup_flat (listOf_nodup _ _) (fun a ha=> ?_) (fun a ha b hb e he1 he2=> ?_)
 ·obtain⟨a,rfl,ha1,ha2⟩:=listOf_mem.1 ha
  have hg:=go_ok hT hw hs h hx ha2
  refine nodup_map (hs.nd _ O) fun u hu v hv e=> ?_
  have hu':=h.dn x hx (a:Int) ha u hu
  have hv':=h.dn x hx (a:Int) ha v hv
  have hi:=List.idxOf_lt_length_of_mem hu'
  have e2:=(Prod.mk.inj e).2
  have e3:q.idxOf (tgt T (ix q x) (a:Int),u)=q.idxOf (tgt T (ix q x) (a:Int),v):=by omega
  have g1:=List.getElem_idxOf hi
  have g2:=List.getElem_idxOf (List.idxOf_lt_length_of_mem hv')
  simp only [e3] at g1
  exact(Prod.mk.inj (g1.symm.trans g2)).2
 ·obtain⟨u,_,rfl⟩:=List.mem_map.1 he1
  obtain⟨v,_,e⟩:=List.mem_map.1 he2
  exact(Prod.mk.inj e).1.symm
theorem wit_valid {K:Nat} (hT:oK T) (hw:Wants T want) (hs:SetsOK T want ss) (h:WI T ss (firstW T want) q.length q mm m.sT) (ha:m.aC=T.aC) (hK:∀x,x<T.sT.length→(ix ss x).length≤K) (hq:q.length≤5000) (hn:q.length*(8*K)≤400000):sysOK m=true:=by
 have hml:=m_len h
 have h0:=h.wq.ne
 have hlen:∀x,x<q.length→(edg m x).length≤8*K:=fun x hx=>by
  obtain⟨b0,b1,b2,b3,b4⟩:=at_ok hT hw hs h hx
  rw[edges_eq h hx,(sortP_perm _).length_eq]
  have h1:(edF T ss q (ix q x)).length≤(listOf 63 (ix q x).2).length*K:=flat_len fun a ha=>by
   obtain⟨a,rfl,_,ha2⟩:=listOf_mem.1 ha
   have hg:=go_ok hT hw hs h hx ha2
   unfold edA
   rw[List.length_map];exact hK _ O
  exact Nat.le_trans h1 (Nat.mul_le_mul_right K (listOf8 b4))
 have hed:∀x,x<q.length→edgesOK m.aC.length m.sT.length (edg m x)=true:=fun x hx=>by
  have hnd:(edg m x).Nodup:=by rw[edges_eq h hx];exact(sortP_perm _).nodup_iff.2 (edF_nodup hT hw hs h hx)
  have hso:(edg m x).Pairwise (fun p q=>p.1<q.1∨(p.1=q.1∧p.2≤q.2)):=by rw[edges_eq h hx];exact sortP_sorted _
  refine edges_of (fun j hj=> ?_) (fun j hj=> ?_)
  ·have hg:=edge_to hT hw hs h hx (ix_memS hj)
   rw[ha,hml]
   exact edgeOK_iff.2 ⟨hg.1,hg.2.1,hg.2.2.1,hg.2.2.2.1⟩
  ·rw[ix_get (show j<(edg m x).length by omega),ix_get hj]
   have g1:=(List.pairwise_iff_getElem.1 hso) j (j+1) O hj O
   have g2:=(List.pairwise_iff_getElem.1 hnd) j (j+1) O hj O
   rw[ltP_iff]
   rcases g1 with g|⟨g,g'⟩
   ·exact .inl g
   ·refine .inr ⟨g,?_⟩
    rcases Int.lt_or_eq_of_le g' with k|k
    ·exact k
    ·exact absurd (Prod.ext g k) g2
 have hmem:∀l∈m.sT,∃x,x<q.length∧l=edg m x:=fun l hl=>by
  obtain⟨x,hx,rfl⟩:=List.getElem_of_mem hl
  exact⟨x,O,(ix_get hx).symm⟩
 unfold sysOK
 rw[ha,hT.acts,decide_eq_true (show 1≤m.sT.length by omega),decide_eq_true (show m.sT.length≤5000 by omega),decide_eq_true (show sumLen m.sT≤400000 from by
  refine Nat.le_trans (sum_le (K:=8*K) fun l hl=> ?_) (by rw[hml];exact hn)
  obtain⟨x,hx,rfl⟩:=hmem l hl
  exact hlen x hx)]
 simp only [Bool.true_and,Bool.and_true]
 refine List.all_eq_true.2 fun l hl=> ?_
 obtain⟨x,hx,rfl⟩:=hmem l hl
 rw[←ha]
 exact hed x hx
end WitVal
end
section
namespace BisS
open ref01 ref03 ref04 ref06 Part Rungs LeftM TrimM MergeM RoundM BisM BisM4 BisM5 BisM6
structure BB (S D:SS) (R:Nat→Nat→Prop):Prop where
 bis:Bis S D R
 bd:∀{x y},R x y→x<S.sT.length∧y<D.sT.length
theorem BB.symm {S D:SS} {R:Nat→Nat→Prop} (h:BB S D R):BB D S (fun y x=>R x y):=
 ⟨⟨fun g=>(h.bis.acc g).symm,fun g=>(h.bis.len g).symm,fun {y x} g a ha=>by
   obtain⟨h1,h2⟩:=h.bis.nxt g a (by rw[h.bis.len g];exact ha)
   exact⟨h1.symm,fun h0=>h2 O⟩⟩,fun g=>⟨(h.bd g).2,(h.bd g).1⟩⟩
theorem bb_hol {S D:SS} {R:Nat→Nat→Prop} (h:BB S D R) {x y:Nat} (hxy:R x y) (hh:Hol S x):Hol D y:=by
 have key:Closed S (fun x=> ∀y,R x y→Hol D y):=by
  intro x hx hc y hxy
  refine Hol_closed D y (h.bd hxy).2 (fun i hi=> ?_)
  have ea:(ix S.sT x).aP=(ix D.sT y).aP:=h.bis.acc hxy
  have el:(ix S.sT x).next.length=(ix D.sT y).next.length:=h.bis.len hxy
  obtain⟨a,ha,h1,h2,h3⟩:=hc i (by rw[ea];exact hi)
  obtain⟨g1,g2⟩:=h.bis.nxt hxy a ha
  have g1:ix (ix S.sT x).next a<0↔ix (ix D.sT y).next a<0:=g1
  exact⟨a,by rw[←el];exact ha,O,by rw[←ea];exact h2,h3 _ (g2 h1)⟩
 exact hh _ key y hxy
theorem bb_hollow {S D:SS} {R:Nat→Nat→Prop} (h:BB S D R) {x y:Nat} (hxy:R x y):ix (hOl S) x=ix (hOl D) y:=by
 rw[Bool.eq_iff_iff,hollow_ix (h.bd hxy).1,hollow_ix (h.bd hxy).2]
 exact⟨bb_hol h hxy,bb_hol h.symm hxy⟩
theorem bb_keep {S D:SS} {R:Nat→Nat→Prop} (h:BB S D R) {x y:Nat} (hxy:R x y):keep S x=keep D y:=by
 have ea:(ix S.sT x).aP=(ix D.sT y).aP:=h.bis.acc hxy
 have el:(ix S.sT x).next.length=(ix D.sT y).next.length:=h.bis.len hxy
 unfold keep
 rw[ea,bb_hollow h hxy]
 congr 1
 funext t
 congr 2
 unfold falls
 rw[el]
 refine any_cong fun a ha=> ?_
 have hal:=List.mem_range.1 ha
 obtain⟨g1,g2⟩:=h.bis.nxt hxy a (by show a<(ix S.sT x).next.length;omega)
 have g1:ix (ix S.sT x).next a<0↔ix (ix D.sT y).next a<0:=g1
 by_cases hn:0≤ix (ix S.sT x).next a
 ·have hg:R (ix (ix S.sT x).next a).toNat (ix (ix D.sT y).next a).toNat:=g2 hn
  rw[decide_eq_true hn,decide_eq_true (show 0≤ix (ix D.sT y).next a by omega),bb_hollow h hg]
 ·rw[decide_eq_false hn,decide_eq_false (show ¬0≤ix (ix D.sT y).next a by omega)];rfl
theorem bb_solid {S D:SS} (hS:oK S) (hD:oK D) {R:Nat→Nat→Prop} (h:BB S D R):Bis (solid S) (solid D) R:=by
 have hl:∀{x y},R x y→S.aC.length=D.aC.length:=fun {x y} hxy=>by
  have h1:=(hS.st x (h.bd hxy).1).len
  have h2:=(hD.st y (h.bd hxy).2).len
  have h3:(ix S.sT x).next.length=(ix D.sT y).next.length:=h.bis.len hxy
  omega
 refine⟨fun {x y} hxy=>by rw[solid_acc (h.bd hxy).1,solid_acc (h.bd hxy).2,bb_keep h hxy],fun {x y} hxy=>by rw[solid_nlen hS (h.bd hxy).1,solid_nlen hD (h.bd hxy).2,hl hxy],fun {x y} hxy a ha=> ?_⟩
 have hx:=(h.bd hxy).1
 rw[solid_nlen hS hx] at ha
 have hal:a<(nxt S x).length:=by have:(nxt S x).length=S.aC.length:=(hS.st x hx).len;omega
 rw[solid_ix hS hx ha,solid_ix hD (h.bd hxy).2 (by rw[←hl hxy];exact ha),bb_keep h hxy]
 by_cases g:has (orAll (keep D y)) (a:Int)=true
 ·rw[if_pos g,if_pos g];exact h.bis.nxt hxy a hal
 ·rw[if_neg g,if_neg g];exact⟨Iff.rfl,fun h0=>absurd h0 (by decide)⟩
theorem bb_ref {S D:SS} (hS:oK S) (hD:oK D) (ha:S.aC=D.aC) {R:Nat→Nat→Prop} (h:BB S D R) (h0:R 0 0):RefP S D∧RefP D S:=(ref_iff hS hD ha).2 ⟨R,bb_solid hS hD h,h0⟩
structure Numb {α:Type} [DecidableEq α] [Inhabited α] (A:α→List Int) (N:α→Nat→α) (n:Nat) (z:α) (l:List α) (D:SS):Prop where
 len:D.sT.length=l.length
 nd:l.Nodup
 ne:0<l.length
 hd:ix l 0=z
 acc:∀i,i<l.length→acc D i=A (ix l i)
 nl:∀i,i<l.length→(nxt D i).length=n
 nx:∀i,i<l.length→∀a,a<n→ix (nxt D i) a=if has (orAll (A (ix l i))) (a:Int)=true then(l.idxOf (N (ix l i) a):Int) else-1
 cl:∀i,i<l.length→∀a,a<n→has (orAll (A (ix l i))) (a:Int)=true→N (ix l i) a∈l
theorem numb_bb {α:Type} [DecidableEq α] [Inhabited α] {A:α→List Int} {N:α→Nat→α} {n:Nat} {z:α} {l r:List α} {S D:SS} (h:Numb A N n z l S) (g:Numb A N n z r D):
 BB S D (fun x y=>x<l.length∧y<r.length∧ix l x=ix r y):=by
 refine⟨⟨fun {x y} ⟨hx,hy,e⟩=>by rw[h.acc x hx,g.acc y hy,e],fun {x y} ⟨hx,hy,e⟩=>by rw[h.nl x hx,g.nl y hy],fun {x y} ⟨hx,hy,e⟩ a ha=> ?_⟩,fun {x y} ⟨hx,hy,_⟩=>⟨by rw[h.len];exact hx,by rw[g.len];exact hy⟩⟩
 rw[h.nl x hx] at ha
 rw[h.nx x hx a ha,g.nx y hy a ha,e]
 by_cases c:has (orAll (A (ix r y))) (a:Int)=true
 ·rw[if_pos c,if_pos c]
  have h1:=h.cl x hx a ha (by rw[e];exact c)
  have h2:=g.cl y hy a ha c
  rw[e] at h1
  have i1:=List.idxOf_lt_length_of_mem h1
  have i2:=List.idxOf_lt_length_of_mem h2
  refine⟨O,fun _=>⟨by rw[Int.toNat_natCast];exact i1,by rw[Int.toNat_natCast];exact i2,?_⟩⟩
  rw[Int.toNat_natCast,Int.toNat_natCast,ix_get i1,ix_get i2,List.getElem_idxOf,List.getElem_idxOf]
 ·rw[if_neg c,if_neg c];exact⟨Iff.rfl,fun h0=>absurd h0 (by decide)⟩
theorem numb_ref {α:Type} [DecidableEq α] [Inhabited α] {A:α→List Int} {N:α→Nat→α} {n:Nat} {z:α} {l r:List α} {S D:SS} (hS:oK S) (hD:oK D) (ha:S.aC=D.aC) (h:Numb A N n z l S) (g:Numb A N n z r D):
 RefP S D∧RefP D S:=bb_ref hS hD ha (numb_bb h g) ⟨h.ne,g.ne,h.hd.trans g.hd.symm⟩
end BisS
end
section
open ref01 ref03 ref04 ref06 prog prog2 prog3 prog6 prog13 Part Rungs LeftM TrimM RoundM MergeM BisM BisM4 BisM5 WalkM StepM WitM JudgM JudgM2 refw judg wit refj sysw divr divs divd dive divg LevM LevM2
structure SomeOK (s:SS) (z:SSys × Int):Prop where
 bad:specOK s=false→z=(⟨[],[]⟩,30)
 hol:specOK s=true→ix (hOl s) 0=true→z=(⟨[],[]⟩,3)
 fit:specOK s=true→ix (hOl s) 0=false→z.2=0∧WitOK (tS s) [] z.1
theorem wants_nil {s:SS} (hs:oK s) (h0:ix (hOl s) 0=false):Wants (tS s) []:=⟨fun p hp=>(by cases hp),fun x hx=>tS_ne hs h0 hx,by simp⟩
namespace divw
theorem WitNil_ok (s:SS) (hT:oK s) (hw:Wants s []):AL.Fn Tryz.prog 71 [spec s,eqv (.slice none 0 0)] [] (ι:= { m:SSys//WitOK s [] m }) (fun N i=>nsys N i.1) (fun _=> []):=by
 refine fn_args (fun {w F vs} h=> ?_) (wit.Witness_ok s hT [] hw)
 match vs,h with
 | [_,_],⟨h1,h2,_⟩=>exact⟨h1,slnil h2,tV⟩
theorem Some_ok (s:SS) (hsm:smallSpec s):
 AL.Fn Tryz.prog 148 [spec s] [] (ι:= { z:SSys × Int//SomeOK s z }) (fun _ i=>tup [sys i.1.1,int i.1.2]) (fun _=> []):=by
 refine fnI Tryz.func148 rfl rfl (fun w0 F0=> ?_)
 refine fcC (inhS 0 J) (fun hS0=> ?_)
 obtain⟨hsa0,hss0,hse0⟩:=sLn hS0
 refine sq (rg (bx (key:=1) (cs:= [sl 1 rE_ s.aC,sl 2 sE s.sT]) J fun b1=>(al (key:=2) T.z43 (eC (eC eZ)) fun b2=>(ag (nl (th (sq (sq (rg (lPA J J T.agg25 J (cal0 (φs:= [agg [sl 1 rE_ s.aC,sl 2 sE s.sT]]) (φ:=bl (specOK s)) ⟨J,tV⟩ (prog2.Valid_ok s aS) T.ent111 (no J (nl (th ?_))))))))))))))
 refine cd J (fun hc0=> ?_) (fun hc0=> ?_)
 ·try simp at hc0
  have hno:specOK s=false:=by simpa using hc0
  refine sq (rg (bd (css:= []) T.st43 (eC (eC eZ)) trivial (sPA (cs':= [eqv (.slice none 0 0),eqv (.slice none 0 0)]) J J J T.agg43 J J (ag (nl (th (rt (rt_ ?_))))))))
  refine kncA 2 0 (sl 1 rE_ []) rfl rfl slnil ?_
  refine kncA 2 1 (sl 1 gE []) rfl rfl slnil ?_
  exact rE ⟨(⟨[],[]⟩,30),⟨fun _=>J,fun h=>(by rw[hno] at h;cases h),fun h=>(by rw[hno] at h;cases h)⟩⟩ [.cell 2 43,.tmp 3] J [agg [sl 1 rE_ [],sl 1 gE []],int 30] ⟨.agg J J T.agg43 J J,.tmp J,tV⟩ J trivial eX
 ·try simp at hc0
  have hyes:specOK s=true:=by simpa using hc0
  have hs:=okSpec_of hyes
  have hop:=ordS_pos s
  refine sk (th (sq (rg (lPA J J T.agg25 J (calW (φs:= [agg [sl 1 rE_ s.aC,sl 2 sE s.sT]]) (φ:=tup [agg [sl 1 rE_ ((tR s).1.aC),sl 2 sE ((tR s).1.sT)],sl 1 nE ((tR s).2)]) ⟨J,tV⟩ (prog9.Trimmed_ok s aS) T.ent68 (fun N hN=>fun h=>tup_le (cs:= [agg [fre N (sl 1 rE_ ((tR s).1.aC)),frb (ix (hOl s) 0) N (sl 2 sE ((tR s).1.sT))],sl 1 nE ((tR s).2)]) (ds:= [agg [sl 1 rE_ ((tR s).1.aC),sl 2 sE ((tR s).1.sT)],sl 1 nE ((tR s).2)]) ⟨fun h=>agg_le (cs:= [fre N (sl 1 rE_ ((tR s).1.aC)),frb (ix (hOl s) 0) N (sl 2 sE ((tR s).1.sT))]) (ds:= [sl 1 rE_ ((tR s).1.aC),sl 2 sE ((tR s).1.sT)]) ⟨fun h=>nw_le h,fun h=>frb_le h,tV⟩ h,fun h=>h,tV⟩ h) (mv (xt J J (xt J J (al (key:=4) T.z25 (eC (eC eZ)) fun b4=>(sPA (cs':= [sl 1 rE_ ((tR s).1.aC),sl 2 sE ((tR s).1.sT)]) J J J T.agg25 J J (ag (nl (th (sq (sq (rg (mv (fc (slenI 15 J) fun hm15=>(lnF J T.sl36 (bi J J b_eql (nl (th ?_))))))))))))))))))))))
  refine cd J (fun hc1=> ?_) (fun hc1=> ?_)
  ·try simp at hc1
   have hh0:ix (hOl s) 0=true:=by
    cases h:ix (hOl s) 0 with
    |true=>rfl
    |false=>
     exfalso
     rw[trimmed_not h] at hc1
     have h3:=hop
     rw[show ordS s= [] from hc1] at h3
     simp at h3
   refine sq (rg (bd (css:= []) T.st43 (eC (eC eZ)) trivial (sPA (cs':= [eqv (.slice none 0 0),eqv (.slice none 0 0)]) J J J T.agg43 J J (ag (nl (th (rt (rt_ ?_))))))))
   refine kncA 2 0 (sl 1 rE_ []) rfl rfl slnil ?_
   refine kncA 2 1 (sl 1 gE []) rfl rfl slnil ?_
   exact rE ⟨(⟨[],[]⟩,3),⟨fun h=>(by rw[hyes] at h;cases h),fun _ _=>J,fun _ h=>(by rw[hh0] at h;cases h)⟩⟩ [.cell 2 43,.tmp 3] J [agg [sl 1 rE_ [],sl 1 gE []],int 3] ⟨.agg J J T.agg43 J J,.tmp J,tV⟩ J trivial eX
  ·try simp at hc1
   have h00:ix (hOl s) 0=false:=by
    cases h:ix (hOl s) 0 with
    |false=>rfl
    |true=>exact absurd (by rw[trimmed_hol h]) hc1
   have hts:(tR s).1=tS s:=by rw[trimmed_not h00]
   have hto:oK (tR s).1:=by rw[hts];exact tS_ok hs
   have hwants:Wants (tR s).1 []:=by rw[hts];exact wants_nil hs h00
   refine sk (th (sq (rg (lPA J J T.agg25 J (cl (WitNil_ok ((tR s).1) aS aS) T.ent71 trivial fun N20 i20=>(sPA (cs':= [fre N20 (sl 1 rE_ i20.1.aC),fre N20 (sl 1 gE i20.1.sT)]) J J J T.agg43 J J (ag (nl (th (rt ?_))))))))))
   refine kncA 2 0 (sl 1 rE_ i20.1.aC) rfl rfl nw_le ?_
   refine kncA 2 1 (sl 1 gE i20.1.sT) rfl rfl nw_le ?_
   exact rE ⟨(i20.1,0),⟨fun h=>(by rw[hyes] at h;cases h),fun _ h=>(by rw[h00] at h;cases h),fun _ _=>⟨J,by obtain⟨w,hw⟩:=i20;show WitOK (tS s) [] w;rw[←hts];exact hw⟩⟩⟩ [.cell 2 43,.tmp 3] J [agg [sl 1 rE_ i20.1.aC,sl 1 gE i20.1.sT],int 0] ⟨.agg J J T.agg43 J J,.tmp J,tV⟩ J trivial eX
end divw
end
section
open ref01 ref03 ref04 ref06 prog prog2 prog3 prog6 prog13 Part Rungs LeftM TrimM RoundM MergeM BisM BisM4 BisM5 WalkM StepM WitM JudgM JudgM2 refw judg wit refj sysw divr divs divd dive divg divw LevM LevM2
noncomputable def fineX (x:SSys) (t s:SS):Int:=if sysOK x=true then(if fineE t s=0 then(if x.aC=t.aC then 0 else 10) else fineE t s) else 20
namespace T
theorem ent138:Ent Tryz.prog 138:=ent_of kR
end T
namespace divv
theorem fine_ok (x:SSys) (t s:SS) (ht:smallSpec t) (hs:smallSpec s):
 Fn0 Tryz.prog 149 [sys x,spec t,spec s] (int (fineX x t s)):=by
 refine fnI Tryz.func149 rfl rfl (fun w0 F0=> ?_)
 refine fcC (inhS 0 J) (fun hS0=> ?_)
 obtain⟨hma0,hms0,hme0⟩:=sys_lens hS0
 refine fcC (inhS 1 J) (fun hS1=> ?_)
 obtain⟨hsa1,hss1,hse1⟩:=sLn hS1
 refine fcC (inhS 2 J) (fun hS2=> ?_)
 obtain⟨hsa2,hss2,hse2⟩:=sLn hS2
 refine sq (rg (bx (key:=3) (cs:= [sl 1 rE_ x.aC,sl 1 gE x.sT]) J fun b3=>(bx (key:=4) (cs:= [sl 1 rE_ t.aC,sl 2 sE t.sT]) J fun b4=>(bx (key:=5) (cs:= [sl 1 rE_ s.aC,sl 2 sE s.sT]) J fun b5=>(ag (nl (th (sq (sq (rg (lPA J J T.agg43 J (cal0 (φs:= [agg [sl 1 rE_ x.aC,sl 1 gE x.sT]]) (φ:=bl (sysOK x)) ⟨J,tV⟩ (sysw.Valid_ok x) T.ent138 (no J (nl (th ?_)))))))))))))))
 refine cd J (fun hc0=> ?_) (fun hc0=> ?_)
 ·skip
  have hno:¬sysOK x=true:=by simpa using hc0
  refine sq (rg (ag (nl (th (rt (rt_ ?_))))))
  have hr0:(20:Int)=(fineX x t s):=by
   unfold fineX;rw[if_neg hno]
  exact rE () [.tmp 6] J [int 20] ⟨.tmp J,tV⟩ (cA1 (fun x0=>rV [int x0]) hr0) trivial eX
 ·skip
  have hyes:sysOK x=true:=by simpa using hc0
  refine sk (th (sq (sq (rg (lPA J J T.agg25 J (lPA J J T.agg25 J (cal0 (φs:= [agg [sl 1 rE_ t.aC,sl 2 sE t.sT],agg [sl 1 rE_ s.aC,sl 2 sE s.sT]]) (φ:=int (fineE t s)) ⟨J,J,tV⟩ (judg.Fine_ok t s aS aS) T.ent61 (ag (nl (th (sq (rg (mv (bi J J b_neq (nl (th ?_))))))))))))))))
  refine cd J (fun hc1=> ?_) (fun hc1=> ?_)
  ·skip
   have h1:¬fineE t s=0:=by simpa using hc1
   refine sq (rg (mv (ag (nl (th (rt (rt_ ?_)))))))
   have hr0:((fineE t s):Int)=(fineX x t s):=by
    unfold fineX;rw[if_pos hyes,if_neg h1]
   exact rE () [.tmp 6] J [int (fineE t s)] ⟨.tmp J,tV⟩ (cA1 (fun x0=>rV [int x0]) hr0) trivial eX
  ·skip
   have h1:fineE t s=0:=by simpa using hc1
   refine sk (th (sq (sq (rg (fP J T.fld43_0 (lP J J J T.one22 (fP J T.fld25_0 (lP J J J T.one22 (cal0 (φs:= [sl 1 rE_ x.aC,sl 1 rE_ t.aC]) (φ:=bl (decide (x.aC=t.aC))) ⟨J,J,tV⟩ (prog.sEqualstrE_ok _ _) T.ent112 (no J (nl (th ?_))))))))))))
   refine cd J (fun hc2=> ?_) (fun hc2=> ?_)
   ·skip
    have h2:¬x.aC=t.aC:=by simpa using hc2
    refine sq (rg (ag (nl (th (rt (rt_ ?_))))))
    have hr0:(10:Int)=(fineX x t s):=by
     unfold fineX;rw[if_pos hyes,if_pos h1,if_neg h2]
    exact rE () [.tmp 6] J [int 10] ⟨.tmp J,tV⟩ (cA1 (fun x0=>rV [int x0]) hr0) trivial eX
   ·skip
    have h2:x.aC=t.aC:=by simpa using hc2
    refine sk (th (sq (rg (ag (nl (th (rt ?_)))))))
    have hr0:(0:Int)=(fineX x t s):=by
     unfold fineX;rw[if_pos hyes,if_pos h1,if_pos h2]
    exact rE () [.tmp 6] J [int 0] ⟨.tmp J,tV⟩ (cA1 (fun x0=>rV [int x0]) hr0) trivial eX
theorem Every_ok (l:List ByteArray) (hl:l.length≤8):
 Fn0 Tryz.prog 151 [strs l] (spec (everyS l)):=by
 refine fnI Tryz.func151 rfl rfl (fun w0 F0=> ?_)
 have h2n:2^l.length≤2^8:=Nat.pow_le_pow_right O hl
 refine fcC (slenI 0 J) (fun hm0=> ?_)
 refine sq (rg (al (key:=2) T.z25 (eC (eC eZ)) fun b2=>(nl (th (sq (rg (mv (lnF J T.sl22 (mk (key:=7) (m:=l.length) (enc:=nE) (y:=(0:Int)) J J T.mk36 (eC eZ) (by unfold maxL at*;omega) (by unfold maxL at*;omega) fun v7=>(fz 7 7 J J (bd (css:= [(1,_)]) T.st81 (eC (eC eZ)) ⟨J,J,p1 (φ:=sl 1 nE (List.replicate l.length (0:Int))) J,tV⟩ (al (key:=3) T.z81 (eC (eC eZ)) fun b3=>(sPA (cs':= [eqv (.slice none 0 0),sl 1 nE (List.replicate l.length (0:Int))]) J J J T.agg81 J J (nl (th (sq (sq (rg (mv (lnF J T.sl22 (bi J J (b_shlI O O) (mv (nl (th (bk ?_)))))))))))))))))))))))))
 refine nwC 30 3 1 nE (kncC 3 0 (osl 30 (.slice none 0 0)) rfl rfl eq_osl ?_)
 have hI0_0:0≤2^l.length:=by
  first|omega|simp
 have hI0_1:([]:List Int)=(List.range 0).map fun(x:Nat)=>(x:Int):=by
  rfl
 refine lp (κ:=Nat × Value × (List Int)) (fun p=> [(0,sl 1 rE_ l),(2,ptr 2 b2 0),(3,ptr 3 b3 0),(11,int ((2^l.length:Nat):Int)),(12,int (p.1:Int))]) (fun p=> [(2,cell b2 [eqv (.slice none 0 0),eqv (.slice none 0 0)]),(3,cell b3 [osl 30 p.2.1,sl 1 nE (List.replicate l.length 0)]),(30,own p.2.1 3 1 nE p.2.2)]) (fun p=>(p.1≤2^l.length)∧(p.2.2=(List.range p.1).map fun(x:Nat)=>(x:Int))) (fun p=>2^l.length- p.1) ⟨0,(.slice none 0 0),([]:List Int)⟩ ⟨hI0_0,hI0_1⟩ ⟨id,id,id,id,id,tV⟩ ⟨rI,rI,rI,tV⟩ ?_
 intro⟨k,v,acc⟩ hG0
 obtain⟨hk0,hI0⟩:(k≤2^l.length)∧(acc=(List.range k).map fun(x:Nat)=>(x:Int)):=hG0
 show Ct _ _ _ _ [(0,sl 1 rE_ l),(2,ptr 2 b2 0),(3,ptr 3 b3 0),(11,int ((2^l.length:Nat):Int)),(12,int (k:Int))] [(2,cell b2 [eqv (.slice none 0 0),eqv (.slice none 0 0)]),(3,cell b3 [osl 30 v,sl 1 nE (List.replicate l.length 0)]),(30,own v 3 1 nE acc)] _
 have hlen:acc.length=k:=by rw[hI0];simp
 refine sq (rg (bi J J b_lss (nl (th (sq ?_)))))
 refine cd J (fun hc0=> ?_) (fun hc0=> ?_)
 ·try simp at hc0
  have hkk:k<2^l.length:=by exact_mod_cast hc0
  refine sk (th (sq (bk (sq (rg (mv (ag (nl (th (rg (fP J T.fld81_0 (lP J J J T.one36 (mv (bsE (enc:=nE) (xs:= [(k:Int)]) (css:= [[int (k:Int)]]) T.mk36 ⟨J,J,p1 (φ:=int (k:Int)) J,tV⟩ J J J J (ap (key:=30) (zs:= [(k:Int)]) osl_eq J J J T.mk36 (by unfold maxL at*;simp;omega) (by unfold maxL at*;simp;omega) fun v19=>(fP J T.fld81_0 (storePO J J J J T.one36 J (nl (eb (th (rg (bi J J (b_add i6) (mv (nl ?_))))))))))))))))))))))))
  have hN0:(k+1)≤2^l.length:=by
   first|omega|simp_all
  have hN1:(acc++ [(k:Int)])=(List.range (k+1)).map fun(x:Nat)=>(x:Int):=by
   rw[hI0,List.range_succ,List.map_append];rfl
  exact ln (⟨k+1,v19,acc++ [(k:Int)]⟩:Nat × Value × (List Int)) ⟨hN0,hN1⟩ dO ⟨id,id,id,id,id,tV⟩ ⟨rI,rI,rI,tV⟩
 ·try simp at hc0
  have hkk:2^l.length≤k:=by first|exact_mod_cast hc0|exact Nat.le_of_not_lt (by exact_mod_cast hc0)
  refine ex (xt_ (xt_ (xb (th (sq (fzcC 3 30 0 J J J J (dr (nh:=5) [0,1,0,4,15,31] T.mixed kR ?_)))))))
  refine st_ J (fun _ _ _ gq kq=>mv' (gq.1.trans J) kq) ?_
  refine st_ J (fun _ _ _ gq kq=>calW (φs:= [sl 1 rE_ l]) (φ:=sl 1 rE_ l) ⟨(gq.1.trans J),tV⟩ (prog.sClonestrE_ok _ O) T.ent78 (fun N hN=>fun h=>nw_le h) kq) ?_
  refine st_ J (fun _ _ _ gq kq=>lPA (gq.1.trans J) J T.agg81 J kq) ?_
  refine st_ J (fun _ _ _ gq kq=>bsE (enc:=sE) (xs:= [(⟨acc,List.replicate l.length 0⟩)]) (css:= [[sl 1 nE acc,sl 1 nE (List.replicate l.length 0)]]) T.mk23 ⟨J,J,pA (cs:= [sl 1 nE acc,sl 1 nE (List.replicate l.length 0)]) (by exact(gq.1.trans J)),tV⟩ J J J J kq) ?_
  refine st_ J (fun _ _ _ gq kq=>bd (css:= [(0,_),(1,_)]) T.st25 (eC (eC eZ)) ⟨J,J,p1 (φ:=sl 1 rE_ l) (by exact(gq.1.trans J)),⟨J,J,p1 (φ:=sl 2 sE [(⟨acc,List.replicate l.length 0⟩)]) (by exact(gq.2.1.trans J)),tV⟩⟩ kq) ?_
  refine pn (sPA (cs':= [sl 1 rE_ l,sl 2 sE [(⟨acc,List.replicate l.length 0⟩)]]) J J J T.agg25 J J (nl (th (rt ?_))))
  have hr0:l=(everyS l).aC:=by
   rfl
  have hr1: [(⟨acc,List.replicate l.length 0⟩)]=(everyS l).sT:=by
   unfold everyS;rw[hI0,show k=2^l.length by omega]
  exact rE () [.cell 2 25] J [agg [sl 1 rE_ l,sl 2 sE [(⟨acc,List.replicate l.length 0⟩)]]] ⟨.agg J J T.agg25 J J,tV⟩ (cA2 (fun x0 x1=>rV [agg [sl 1 rE_ x0,sl 2 sE x1]]) hr0 hr1) trivial eX
end divv
end
section
open ref01 ref03 ref04 ref06 prog prog2 prog3 prog6 prog13 Part Rungs LeftM TrimM RoundM MergeM BisM BisM4 BisM5 WalkM StepM WitM JudgM JudgM2 refw judg wit refj sysw divr divs divd dive divg divw divv LevM LevM2
def chs (x y:SA):Nat→Int→List Int
 |0,u=>if fitsB x y u=true then [u] else []
 |k+1,u=>chs x y k u++chs x y k (((u.toNat|||2^k:Nat):Int))
theorem fits_any (x y:SA) (u:Int):(!y.aP.any fun o=>decide (andI u o∉x.aP))=fitsB x y u:=by
 unfold fitsB
 rw[List.all_eq_not_any_not]
 congr 2
 funext o
 simp
namespace T
theorem ent188:Ent Tryz.prog 188:=ent_of kR
end T
namespace divf
theorem miss_ok (x:SA) (u o:Int) (hr:rising x.aP=true) (ho:0≤o∧o<256) (hu:0≤u∧u<256):
 Fn0 Tryz.prog 188 [int o,fp [ints x.aP,ints x.next],fp [int u]] (bl (decide (andI u o∉x.aP))):=by
 refine fnI Tryz.func188 rfl rfl (fun w0 F0=> ?_)
 refine sq (rg (ag (nl (th (sq (rg (lFA J T.agg81 (Nat.le_of_ble_eq_true J) (lF J J T.one3 (mv (bi J J (b_andI O O O O) (cal0 (φs:= [agg [sl 1 nE x.aP,sl 1 nE x.next],int ((u.toNat&&&o.toNat:Nat):Int)]) (φ:=bl (decide (((u.toNat&&&o.toNat:Nat):Int)∈x.aP))) ⟨J,J,tV⟩ (search.Accepts_ok x aS ((u.toNat&&&o.toNat:Nat):Int)) T.ent126 (no J (ag (nl (th (rt ?_))))))))))))))))
 have hr0:(!(decide (((u.toNat&&&o.toNat:Nat):Int)∈x.aP)))=(decide (andI u o∉x.aP)):=by
  unfold andI;simp
 exact rE () [.tmp 4] J [bl (!(decide (((u.toNat&&&o.toNat:Nat):Int)∈x.aP)))] ⟨.tmp J,tV⟩ (cA1 (fun x0=>rV [bl x0]) hr0) trivial eX
theorem ContainsFuncD_ok (l:List Int) (dom:Int→Prop) (pq:Int→Bool) (hd:∀k,k<l.length→dom (ix l k)):
 Fn0 Tryz.prog 120 [ints l,pf Tryz.prog dom nE (fun x=>bl (pq x))] (bl (l.any pq)):=by
 refine fnI Tryz.func120 rfl rfl (fun w0 F0=> ?_)
 refine fcC (slenI 0 J) (fun hm0=> ?_)
 refine sq (rg (ag (nl (th (sq (rg (mv (mv (cal0 (φs:= [sl 1 nE l,pf Tryz.prog dom nE (fun x=>bl (pq x))]) (φ:=int (idxF pq l)) ⟨J,J,tV⟩ (judg.IndexFuncD_ok l dom pq hd) T.ent158 (bi J J b_geq (ag (nl (th (rt ?_))))))))))))))
 have hr0:(decide (0≤(idxF pq l)))=(l.any pq):=by
  rw[idx_any]
 exact rE () [.tmp 4] J [bl (decide (0≤(idxF pq l)))] ⟨.tmp J,tV⟩ (cA1 (fun x0=>rV [bl x0]) hr0) trivial eX
theorem missF_ok (x:SA) (l:List Int) (hl:∀k,k<l.length→0≤ix l k∧ix l k<256) (u:Int) (hr:rising x.aP=true) (hu:0≤u∧u<256):Fn0 Tryz.prog 120 [ints l,clo 188 [fp [ints x.aP,ints x.next],fp [int u]]] (bl (l.any (fun o=>decide (andI u o∉x.aP)))):=by
 refine fn_args (fun {w F vs} h=> ?_) (ContainsFuncD_ok l (fun o=>0≤o∧o<256) (fun o=>decide (andI u o∉x.aP)) hl)
 match vs,h with
 | [_,_],⟨h1,h2,_⟩=>exact⟨h1,clo_pf T.ent188 (fun o ho=>miss_ok x u o hr ho hu) h2,tV⟩
end divf
end
section
namespace ChsM
open ref01 ref03 divs divf
theorem chs_gen (x y:SA):∀(n q:Nat),chs x y n ((2^n*q:Nat):Int)=((List.range (2^n)).map fun(i:Nat)=>((2^n*q+i:Nat):Int)).filter (fitsB x y)
 |0,q=>by
  show(if fitsB x y ((2^0*q:Nat):Int)=true then [((2^0*q:Nat):Int)] else [])=_
  simp only [Nat.pow_zero,List.range_one,List.map_cons,List.map_nil,Nat.add_zero,List.filter_cons,List.filter_nil]
 |n+1,q=>by
  have e1:2^ (n+1)*q=2^n*(2*q):=by rw[Nat.pow_succ,Nat.mul_assoc]
  have e2:((((2^ (n+1)*q:Nat):Int).toNat|||2^n:Nat):Int)=((2^n*(2*q+1):Nat):Int):=by
   rw[Int.toNat_natCast,←Nat.two_pow_add_eq_or_of_lt (Nat.pow_lt_pow_right O O) q,e1,Nat.mul_add,Nat.mul_one]
  show chs x y n _++chs x y n _=_
  rw[e2,chs_gen x y n (2*q+1),e1,chs_gen x y n (2*q),←List.filter_append]
  congr 1
  have e3:List.range (2^ (n+1))=List.range (2^n)++(List.range (2^n)).map (2^n+ ·):=by
   rw[Nat.pow_succ,Nat.mul_two,List.range_add]
  rw[e3,List.map_append,List.map_map]
  congr 1
  refine List.map_congr_left fun i _=> ?_
  show((2^n*(2*q+1)+i:Nat):Int)=((2^n*(2*q)+(2^n+i):Nat):Int)
  rw[Nat.mul_add (2^n) (2*q) 1,Nat.mul_one,Nat.add_assoc]
theorem chs_zero (x y:SA) (n:Nat):chs x y n 0=((List.range (2^n)).map fun(i:Nat)=>(i:Int)).filter (fitsB x y):=by
 have:=chs_gen x y n 0
 simp only [Nat.mul_zero,Nat.zero_add] at this
 exact this
end ChsM
end
section
open ref01 ref03 ref04 ref06 Part Rungs LeftM TrimM
namespace ValidM
theorem lt_pow_of_bits {u n:Nat} (h:∀a,u.testBit a=true→a<n):u<2^n:=
 Nat.lt_pow_two_of_testBit u (fun i hi=>by
  cases hb:u.testBit i with
  |false=>rfl
  |true=>exact absurd (h i hb) O)
theorem stateOK_of {x:SA} {N n:Nat} (h:okState x N n):stateOK x (N:Int) n=true:=by
 unfold stateOK
 simp only [Bool.and_eq_true,decide_eq_true_eq]
 refine⟨⟨⟨by rw[h.len],h.rise⟩,List.all_eq_true.2 (fun j hj=> ?_)⟩,List.all_eq_true.2 (fun u hu=> ?_)⟩
 ·obtain⟨a,ha,rfl⟩:=mem_ix hj
  have:=h.nx a (by rw[←h.len];exact ha)
  simp;omega
 ·obtain⟨i,hi,rfl⟩:=mem_ix hu
  have h1:=h.ac i hi
  have h2:=h.go i hi
  unfold setOK
  rw[Bool.and_eq_true]
  constructor
  ·unfold isSet
   have:(ix x.aP i).toNat<2^n:=lt_pow_of_bits (fun a ha=>(h2 a (by unfold has;rw[Int.toNat_natCast];exact ha)).1)
   simp only [Bool.and_eq_true,decide_eq_true_eq,Int.toNat_natCast]
   omega
  ·refine List.all_eq_true.2 (fun a ha=> ?_)
   obtain⟨b,rfl,hb,hh⟩:=listOf_mem.1 ha
   have:=(h2 b hh).2
   rw[Int.toNat_natCast];simpa using this
theorem specOK_of {s:SS} (h:oK s) (h5:s.sT.length≤500):specOK s=true:=by
 unfold specOK
 simp only [Bool.and_eq_true,decide_eq_true_eq]
 exact⟨⟨⟨h.acts,h.few0⟩,h5⟩,List.all_eq_true.2 (fun x hx=>by
  obtain⟨k,hk,rfl⟩:=List.getElem_of_mem hx
  have:=stateOK_of (h.st k hk)
  rwa [ix_get hk] at this)⟩
end ValidM
end
section
namespace TrimI
open ref01 ref03 ref04 ref06 Part Rungs LeftM TrimM RoundM MergeM BisM BisM2 BisM3 BisM4 BisM5 BisM6 divr divd
theorem visit_rg:∀m,visit [] (rg m)=rg m
 |0=>rfl
 |m+1=>by rw[rg_succ,visit_app,visit_rg m,visit1_out O (fun h=>by have:=(mem_rg.1 h).2;omega)]
theorem map_pos {s:SS} {m:Nat} (hm:m≤(ordS s).length):((ordS s).take m).map (posN (ordS s))=rg m:=by
 apply List.ext_getElem
 ·simp[BisM3.rg];omega
 ·intro i h1 h2
  simp only [List.length_map,List.length_take] at h1
  rw[List.getElem_map,List.getElem_take]
  have hi:i<(ordS s).length:=by omega
  have:=posN_ix (order_nodup (solid s)) hi
  rw[ix_get hi] at this
  rw[←ix_get h2,rg_ix O]
  exact this
theorem next_tS {s:SS} (hs:oK s) {i:Nat} (hi:i<(ordS s).length):((ix (solid s).sT (ix (ordS s) i).toNat).next.map fun k=>if 0≤k then posN (ordS s) k else k)=(ix (tS s).sT i).next:=by
 have hbd:=ord_bd hs hi
 have hx:(ix (ordS s) i).toNat<s.sT.length:=by omega
 have hl:=(hs.st _ hx).len
 rw[tS_at hi,solid_at hx]
 show(cut (ix s.sT _) (orAll (keep s _))).map _=tnext s _
 unfold cut tnext
 rw[List.map_map,hl]
 refine List.map_congr_left (fun a ha=> ?_)
 show(if 0≤(if _ then _ else _:Int) then posN _ (if _ then _ else _) else(if _ then _ else _))=(if _ then _ else _)
 by_cases hh:has (orAll (keep s (ix (ordS s) i).toNat)) (a:Int)=true
 ·rw[if_pos hh]
  have hg:=can_go hs hx hh
  rw[if_pos hg.2.1,if_pos hh]
 ·rw[if_neg hh,if_neg hh];rfl
theorem t_step {s:SS} (hs:oK s) {i:Nat} (hi:i<(ordS s).length):rg (qn s (i+1))=visit (rg (qn s i)) (ix (tS s).sT i).next:=by
 have hol:=ord_le hs
 have hgt:=qn_gt hs hi
 have hix:ix (bq (solid s) i) i=ix (ordS s) i:=(ix_prefix (bq_order hs (i:=i) O) hgt).symm
 have hstep:bq (solid s) (i+1)=visit (bq (solid s) i) (ix (solid s).sT (ix (ordS s) i).toNat).next:=by
  show(if i<(bq (solid s) i).length then _ else _)=_
  rw[if_pos hgt,hix]
 rw[←visit_rg (qn s (i+1)),←visit_rg (qn s i),←map_pos (qn_le hs (i:=i+1) O),←map_pos (qn_le hs (i:=i) O),←bq_take hs (i:=i+1) O,←bq_take hs (i:=i) O,hstep,
  visit_merge (g:=posN (ordS s)) (fun k=>(posN_bd _ k).1),next_tS hs hi]
theorem t_bq {s:SS} (hs:oK s):∀i,i≤(ordS s).length→bq (tS s) i=rg (qn s i)
 |0,_=>rfl
 |i+1,hi=>by
  have ih:=t_bq hs i O
  have hgt:=qn_gt hs (i:=i) O
  show(if i<(bq (tS s) i).length then _ else _)=_
  rw[ih,rg_len,if_pos hgt,rg_ix hgt,Int.toNat_natCast,t_step hs O]
theorem t_order {s:SS} (hs:oK s):order (tS s)=rg (ordS s).length:=by
 have hol:=ord_le hs
 have e:bq (solid s) (ordS s).length=ordS s:=by
  refine bq_end hs ?_ hol
  exact(bq_order hs hol).length_le
 unfold order
 rw[tS_len,t_bq hs _ (Nat.le_refl _)]
 show rg (bq (solid s) (ordS s).length).length=_
 rw[e]
theorem tS_tS {s:SS} (hs:oK s) (h0:ix (hOl s) 0=false):tS (tS s)=tS s:=by
 have ho:ordS (tS s)=rg (ordS s).length:=by
  show order (solid (tS s))=_
  rw[solid_tS hs h0,t_order hs]
 have hT:=tS_ok hs
 show(⟨s.aC,(ordS (tS s)).map (tstate (tS s))⟩:SS)=⟨s.aC,(ordS s).map (tstate s)⟩
 congr 1
 rw[ho]
 apply List.ext_getElem
 ·simp[BisM3.rg]
 ·intro i h1 h2
  simp only [List.length_map,rg_len] at h1
  have hi:i<(ordS s).length:=h1
  have e1:(rg (ordS s).length)[i]'(by rw[rg_len];exact h1)=(i:Int):=by rw[←ix_get (by rw[rg_len];exact h1)];exact rg_ix h1
  rw[List.getElem_map,e1]
  have e2:(List.map (tstate s) (ordS s))[i]=ix (tS s).sT i:=(ix_get (by rw[tS_len];exact hi)).symm
  rw[e2]
  have hk:=tS_keep hs h0 hi
  unfold tstate tnext
  rw[Int.toNat_natCast,hk,ho]
  have e3:ix (tS s).sT i=⟨keep s (ix (ordS s) i).toNat,tnext s (ix (ordS s) i)⟩:=tS_at hi
  rw[e3]
  congr 1
  unfold tnext
  refine List.map_congr_left fun a ha=> ?_
  have ha:a<s.aC.length:=List.mem_range.1 ha
  by_cases hh:has (orAll (keep s (ix (ordS s) i).toNat)) (a:Int)=true
  ·rw[if_pos hh,if_pos hh,ix_map_range ha,if_pos hh]
   obtain⟨p1,_⟩:=posN_at (ord_closed hs hi hh)
   have p0:=(posN_bd (ordS s) (ix (ix s.sT (ix (ordS s) i).toNat).next a)).1
   have hnd:(rg (ordS s).length).Nodup:=by
    have:=order_nodup (tS s)
    rwa [t_order hs] at this
   have hq:=posN_ix hnd (i:=(posN (ordS s) (ix (ix s.sT (ix (ordS s) i).toNat).next a)).toNat) (by rw[rg_len];omega)
   rw[rg_ix O,Int.toNat_of_nonneg p0] at hq
   exact hq
  ·rw[if_neg hh,if_neg hh]
theorem trim_trim {s:SS} (hs:oK s):(tR (tR s).1).1=(tR s).1:=by
 cases h:ix (hOl s) 0 with
 |true=>rw[trimmed_hol h];show(tR (nothing s.aC)).1=_;rw[trimmed_hol (nothing_hollow _)];rfl
 |false=>
  rw[trimmed_not h]
  show(tR (tS s)).1=tS s
  rw[trimmed_not (tS_hollow hs h 0)]
  exact tS_tS hs h
theorem hollow_trim {s:SS} (hs:oK s):ix (hOl (tR s).1) 0=ix (hOl s) 0:=by
 cases h:ix (hOl s) 0 with
 |true=>rw[trimmed_hol h];exact nothing_hollow _
 |false=>rw[trimmed_not h];exact tS_hollow hs h 0
theorem sim_trim {s:SS} (hs:oK s):Sim2 (solid (tR s).1) (solid s) 0 0:=by
 cases h:ix (hOl s) 0 with
 |true=>
  rw[trimmed_hol h]
  have f:=hs.few0
  have g:=(nothing_ok hs.acts).few0
  exact hol_sim (nothing_ok hs.acts) hs rfl O O (nothing_hollow _) h
 |false=>
  rw[trimmed_not h]
  have hop:=ordS_pos s
  have:=tS_sim hs h (i:=0) O
  show Sim2 (solid (tS s)) (solid s) 0 0
  rw[solid_tS hs h]
  rw[ord_zero] at this
  exact this
theorem ref_refl {s:SS} (hs:oK s):RefP s s:=((ref_iff hs hs rfl).2 (sim_refl _ _)).1
theorem ref_trim {s d:SS} (hs:oK s) (hd:oK d) (ha:s.aC=d.aC) (h:RefP s d∧RefP d s):RefP (tR s).1 d∧RefP d (tR s).1:=
 (ref_iff (trim_ok hs) hd ((trim_acts s).trans ha)).2 ((sim_trim hs).trans ((ref_iff hs hd ha).1 h))
theorem trim_len {s:SS} (hs:oK s):(tR s).1.sT.length≤s.sT.length:=by
 cases h:ix (hOl s) 0 with
 |true=>rw[trimmed_hol h];have:=hs.few0;show 1≤_;omega
 |false=>rw[trimmed_not h];show((ordS s).map _).length≤_;rw[List.length_map];exact ord_le hs
end TrimI
end
section
namespace QuoM
open ref01 ref03 ref04 ref06 Part Rungs LeftM TrimM RoundM MergeM BisM BisM4 BisM5 WitM JudgM LevM divr divs divd divf ChsM BisS TrimI
section
variable {α:Type} [DecidableEq α] [Inhabited α]
def pushL (l:List α) (p:α):List α:=if p∈l then l else l++ [p]
def outsL (A:α→List Int) (N:α→Nat→α) (p:α) (ks:List Int) (l:List α):List α:=ks.foldl (fun l a=>pushL l (N p a.toNat)) l
def actsL (A:α→List Int) (p:α):List Int:=listOf 63 (orAll (A p))
def stepL (A:α→List Int) (N:α→Nat→α) (l:List α) (p:α):List α:=outsL A N p (actsL A p) l
def runL (A:α→List Int) (N:α→Nat→α):Nat→Nat→List α→List α
 |0,_,l=>l
 |f+1,i,l=>if i<l.length then runL A N f (i+1) (stepL A N l (ix l i)) else l
theorem push_prefix (l:List α) (p:α):l<+:pushL l p:=by
 unfold pushL
 split
 ·exact List.prefix_rfl
 ·exact List.prefix_append _ _
theorem push_mem (l:List α) (p:α):p∈pushL l p:=by
 unfold pushL
 split
 ·assumption
 ·simp
theorem outs_prefix (A:α→List Int) (N:α→Nat→α) (p:α):∀(ks:List Int) (l:List α),l<+:outsL A N p ks l
 | [],l=>List.prefix_rfl
 |a::ks,l=>(push_prefix l _).trans (outs_prefix A N p ks _)
theorem outs_snoc (A:α→List Int) (N:α→Nat→α) (p:α) (ks:List Int) (a:Int) (l:List α):outsL A N p (ks++ [a]) l=pushL (outsL A N p ks l) (N p a.toNat):=by
 unfold outsL;rw[List.foldl_append];rfl
theorem outs_mem (A:α→List Int) (N:α→Nat→α) (p:α):∀(ks:List Int) (l:List α) (a:Int),a∈ks→N p a.toNat∈outsL A N p ks l
 | [],l,a,h=>nomatch h
 |b::ks,l,a,h=>by
  rcases List.mem_cons.1 h with rfl|h
  ·exact(outs_prefix A N p ks _).subset (push_mem l _)
  ·exact outs_mem A N p ks _ a h
theorem run_prefix (A:α→List Int) (N:α→Nat→α):∀(f i:Nat) (l:List α),l<+:runL A N f i l
 |0,i,l=>List.prefix_rfl
 |f+1,i,l=>by
  unfold runL
  split
  ·exact(outs_prefix A N _ _ l).trans (run_prefix A N f (i+1) _)
  ·exact List.prefix_rfl
structure Walk (A:α→List Int) (N:α→Nat→α) (ok:α→Prop) (z:α) (i:Nat) (l:List α):Prop where
 nd:l.Nodup
 ne:0<l.length
 hd:ix l 0=z
 ok:∀p∈l,ok p
 dn:∀j,j<i→j<l.length→∀a∈actsL A (ix l j),N (ix l j) a.toNat∈l
theorem ix_pre {l m:List α} (h:l<+:m) {j:Nat} (hj:j<l.length):ix m j=ix l j:=by
 obtain⟨t,rfl⟩:=h
 unfold ix
 rw[List.getD_eq_getElem?_getD,List.getD_eq_getElem?_getD,List.getElem?_append_left hj]
theorem push_nd {l:List α} {p:α} (h:l.Nodup):(pushL l p).Nodup:=by
 unfold pushL
 split
 ·exact h
 ·next g=>
  rw[List.nodup_append]
  refine⟨h,by simp,fun a ha b hb e=> ?_⟩
  rw[List.mem_singleton.1 hb] at e
  subst e;exact g ha
theorem push_in {l:List α} {p q:α} (h:q∈pushL l p):q∈l∨q=p:=by
 unfold pushL at h
 split at h
 ·exact .inl h
 ·rcases List.mem_append.1 h with h|h
  ·exact .inl h
  ·exact .inr (List.mem_singleton.1 h)
theorem outs_nd (A:α→List Int) (N:α→Nat→α) (p:α):∀(ks:List Int) (l:List α),l.Nodup→(outsL A N p ks l).Nodup
 | [],l,h=>h
 |a::ks,l,h=>outs_nd A N p ks _ (push_nd h)
theorem outs_in (A:α→List Int) (N:α→Nat→α) (p:α):∀(ks:List Int) (l:List α) (q:α),q∈outsL A N p ks l→q∈l∨∃a∈ks,q=N p a.toNat
 | [],l,q,h=> .inl h
 |a::ks,l,q,h=>by
  rcases outs_in A N p ks _ q h with h|⟨b,hb,e⟩
  ·rcases push_in h with h|h
   ·exact .inl h
   ·exact .inr ⟨a,List.mem_cons_self,h⟩
  ·exact .inr ⟨b,List.mem_cons_of_mem _ hb,e⟩
variable {A:α→List Int} {N:α→Nat→α} {ok:α→Prop} {z:α}
theorem walk_step (hok:∀p,ok p→∀a∈actsL A p,ok (N p a.toNat)) {i:Nat} {l:List α} (h:Walk A N ok z i l) (hi:i<l.length):Walk A N ok z (i+1) (stepL A N l (ix l i)):=by
 have hp:=outs_prefix A N (ix l i) (actsL A (ix l i)) l
 refine⟨outs_nd A N _ _ l h.nd,Nat.lt_of_lt_of_le h.ne hp.length_le,(ix_pre hp h.ne).trans h.hd,fun p hq=> ?_,fun j hj hl a ha=> ?_⟩
 ·rcases outs_in A N _ _ l p hq with g|⟨a,ha,rfl⟩
  ·exact h.ok p g
  ·exact hok _ (h.ok _ (ix_memS hi)) a ha
 ·have hjl:j<l.length:=by omega
  have e:ix (stepL A N l (ix l i)) j=ix l j:=ix_pre hp hjl
  rw[e] at ha ⊢
  by_cases g:j<i
  ·exact hp.subset (h.dn j g hjl a ha)
  ·have:j=i:=by omega
   subst this
   exact outs_mem A N _ _ l a ha
theorem walk_run (hok:∀p,ok p→∀a∈actsL A p,ok (N p a.toNat)):∀(f i:Nat) (l:List α),i≤l.length→Walk A N ok z i l→∃j,j≤(runL A N f i l).length∧Walk A N ok z j (runL A N f i l)∧(j=(runL A N f i l).length∨j=i+f)
 |0,i,l,hi,h=>⟨i,hi,h,.inr O⟩
 |f+1,i,l,hi,h=>by
  unfold runL
  split
  ·next g=>
   have hp:=outs_prefix A N (ix l i) (actsL A (ix l i)) l
   obtain⟨j,h1,h2,h3⟩:=walk_run hok f (i+1) _ (by have:=hp.length_le;show _≤(stepL A N l (ix l i)).length;unfold stepL;omega) (walk_step hok h g)
   exact⟨j,h1,h2,O⟩
  ·next g=>exact⟨i,hi,h,.inl O⟩
theorem walk_end (hok:∀p,ok p→∀a∈actsL A p,ok (N p a.toNat)) {B:Nat} (hB:∀l:List α,l.Nodup→(∀p∈l,ok p)→l.length≤B) {l:List α} (h:Walk A N ok z 0 l) {f:Nat} (hf:B≤f):Walk A N ok z (runL A N f 0 l).length (runL A N f 0 l):=by
 obtain⟨j,h1,h2,h3⟩:=walk_run hok f 0 l O h
 have:=hB _ h2.nd h2.ok
 have e:j=(runL A N f 0 l).length:=by omega
 rwa [e] at h2
def ofL (A:α→List Int) (N:α→Nat→α) (n:Nat) (L:List α) (p:α):SA:=⟨A p,(List.range n).map fun(a:Nat)=>if has (orAll (A p)) (a:Int)=true then(L.idxOf (N p a):Int) else-1⟩
theorem numb_of (hn:∀p,ok p→∀a:Nat,has (orAll (A p)) (a:Int)=true→a<63) {n:Nat} {L:List α} (h:Walk A N ok z L.length L) (acts:List ByteArray):Numb A N n z L ⟨acts,L.map (ofL A N n L)⟩:=by
 have hat:∀i,i<L.length→ix (L.map (ofL A N n L)) i=ofL A N n L (ix L i):=fun i hi=>TurnM.ix_mapS hi
 refine⟨by simp,h.nd,h.ne,h.hd,fun i hi=> ?_,fun i hi=> ?_,fun i hi a ha=> ?_,fun i hi a ha hh=> ?_⟩
 ·show(ix (L.map (ofL A N n L)) i).aP=_
  rw[hat i hi];rfl
 ·show(ix (L.map (ofL A N n L)) i).next.length=_
  rw[hat i hi];simp[ofL]
 ·show ix (ix (L.map (ofL A N n L)) i).next a=_
  rw[hat i hi]
  exact ix_map_range ha
 ·have:=h.dn i hi hi (a:Int) (listOf_mem.2 ⟨a,rfl,hn _ (h.ok _ (ix_memS hi)) a hh,hh⟩)
  rwa [Int.toNat_natCast] at this
theorem numb_ok {n:Nat} {L:List α} {D:SS} (hD:Numb A N n z L D) (hact:actionsOK D.aC=true) (hn:D.aC.length=n) (hl:L.length≤10000) (hb:∀p∈L,∀u∈A p,0≤u∧u<256) (hg:∀p∈L,∀a:Nat,has (orAll (A p)) (a:Int)=true→a<n) (hr:∀p∈L,rising (A p)=true):oK D:=by
 have n8:=actionsOK_len hact
 refine⟨hact,n8,by rw[hD.len];exact hD.ne,by rw[hD.len];exact hl,fun k hk=> ?_⟩
 rw[hD.len] at hk
 have hm:ix L k∈L:=ix_memS hk
 have ea:(ix D.sT k).aP=A (ix L k):=hD.acc k hk
 have en:(ix D.sT k).next.length=n:=hD.nl k hk
 have ex:∀a,a<n→ix (ix D.sT k).next a=if has (orAll (A (ix L k))) (a:Int)=true then(L.idxOf (N (ix L k) a):Int) else-1:=hD.nx k hk
 refine⟨by rw[en,hn],fun a ha=> ?_,fun i hi=> ?_,fun i hi a ha=> ?_,by rw[ea];exact hr _ hm⟩
 ·rw[ex a O]
  by_cases hh:has (orAll (A (ix L k))) (a:Int)=true
  ·rw[if_pos hh]
   have:=List.idxOf_lt_length_of_mem (hD.cl k hk a O hh)
   rw[hD.len];omega
  ·rw[if_neg hh];omega
 ·rw[ea] at hi ⊢
  exact hb _ hm _ (ix_memS hi)
 ·rw[ea] at hi ha
  have hh:has (orAll (A (ix L k))) (a:Int)=true:=(orAll_has _ _).2 ⟨_,ix_memS hi,ha⟩
  have:=hg _ hm a hh
  rw[ex a this,if_pos hh]
  omega
end
abbrev pix (l:List PP) (p:PP):Nat:= @List.idxOf PP instBEqOfDecidableEq p l
theorem idx_lt {α:Type} [DecidableEq α] {l:List α} {p:α} (h:p∈l):l.idxOf p<l.length:=List.idxOf_lt_length_of_mem h
theorem idx_at {α:Type} [DecidableEq α] [Inhabited α] {l:List α} {p:α} (h:p∈l):ix l (l.idxOf p)=p:=by rw[ix_get (idx_lt h)];exact List.getElem_idxOf _
theorem idx_app {α:Type} [DecidableEq α] {l r:List α} {p:α} (h:p∈l):(l++r).idxOf p=l.idxOf p:=by rw[List.idxOf_append,if_pos h]
theorem idx_end {α:Type} [DecidableEq α] {l:List α} {p:α} (h:p∉l):(l++ [p]).idxOf p=l.length:=by rw[List.idxOf_append,if_neg h];simp
theorem idx_le {α:Type} [DecidableEq α] [Inhabited α] {l:List α} {p:α} {k:Nat} (hk:k<l.length) (h:ix l k=p):l.idxOf p≤k:=by
 rcases Nat.lt_or_ge k (l.idxOf p) with g|g
 ·have hf:=List.not_of_lt_findIdx (p:=(· ==p)) (xs:=l) (i:=k) (by unfold List.idxOf at g;exact g)
  rw[ix_get hk] at h
  simp[h] at hf
 ·exact g
def bes:PP:=(-1,-1)
def subs (n:Nat):List Int:=(List.range (2^n)).map fun(x:Nat)=>(x:Int)
def qA (t s:SS) (p:PP):List Int:=if p=bes then subs t.aC.length else(subs t.aC.length).filter (fitsB (ix t.sT p.1.toNat) (ix s.sT p.2.toNat))
def qN (t s:SS) (p:PP) (a:Nat):PP:=if p≠bes∧0≤ix (nxt s p.2.toNat) a then(ix (nxt t p.1.toNat) a,ix (nxt s p.2.toNat) a) else bes
def qOk (t s:SS) (p:PP):Prop:=p=bes∨(0≤p.1∧p.1<(t.sT.length:Int)∧0≤p.2∧p.2<(s.sT.length:Int))
theorem subs_mem {n:Nat} {u:Int}:u∈subs n↔0≤u∧u<((2^n:Nat):Int):=by
 unfold subs
 rw[List.mem_map]
 constructor
 ·rintro⟨k,hk,rfl⟩
  have:=List.mem_range.1 hk
  omega
 ·rintro⟨h0,h1⟩
  exact⟨u.toNat,List.mem_range.2 O,O⟩
theorem qA_sub {t s:SS} {p:PP} {u:Int} (h:u∈qA t s p):u∈subs t.aC.length:=by
 unfold qA at h
 split at h
 ·exact h
 ·exact(List.mem_filter.1 h).1
theorem qA_fit {t s:SS} {p:PP} (hp:p≠bes) {u:Int} (h:u∈qA t s p):fitsB (ix t.sT p.1.toNat) (ix s.sT p.2.toNat) u=true:=by
 unfold qA at h
 rw[if_neg hp] at h
 exact(List.mem_filter.1 h).2
theorem subs_rise (n:Nat):(subs n).Pairwise (· < ·):=by
 unfold subs
 rw[List.pairwise_map]
 exact List.pairwise_lt_range.imp fun h=>by omega
theorem qA_rise (t s:SS) (p:PP):rising (qA t s p)=true:=by
 refine pw_rising ?_
 unfold qA
 split
 ·exact subs_rise _
 ·exact(subs_rise _).filter _
theorem qA_bd {t s:SS} (hn:t.aC.length≤8) {p:PP} {u:Int} (h:u∈qA t s p):0≤u∧u<256:=by
 have:=subs_mem.1 (qA_sub h)
 have h2:2^t.aC.length≤2^8:=Nat.pow_le_pow_right O hn
 omega
theorem has_sub {n:Nat} {u:Int} (h:u∈subs n) {a:Nat} (ha:has u (a:Int)=true):a<n:=by
 have hu:=subs_mem.1 h
 unfold has at ha
 rw[Int.toNat_natCast] at ha
 have h7:2^a≤u.toNat:=Nat.ge_two_pow_of_testBit ha
 exact(Nat.pow_lt_pow_iff_right (a:=2) O).1 O
theorem qA_has {t s:SS} {p:PP} {a:Nat} (h:has (orAll (qA t s p)) (a:Int)=true):a<t.aC.length:=by
 obtain⟨u,hu,ha⟩:=(orAll_has _ _).1 h
 exact has_sub (qA_sub hu) ha
theorem has_and {u o:Int} {a:Nat}:has (andI u o) (a:Int)=(has u (a:Int)&&has o (a:Int)):=by
 unfold has andI
 rw[Int.toNat_natCast,Int.toNat_natCast,Nat.testBit_and]
theorem qN_go {t s:SS} (ht:oK t) (hs:oK s) (hu:Used s) (ha:s.aC.length=t.aC.length) {p:PP} (hp:qOk t s p) (hb:p≠bes) {a:Nat} (h:has (orAll (qA t s p)) (a:Int)=true) (h0:0≤ix (nxt s p.2.toNat) a):
 0≤ix (nxt t p.1.toNat) a∧ix (nxt t p.1.toNat) a<(t.sT.length:Int)∧ix (nxt s p.2.toNat) a<(s.sT.length:Int):=by
 obtain⟨p0,p1,p2,p3⟩:=hp.resolve_left hb
 have han:=qA_has h
 have hx:p.1.toNat<t.sT.length:=by omega
 have hy:p.2.toNat<s.sT.length:=by omega
 obtain⟨u,hu1,hu2⟩:=(orAll_has _ _).1 h
 have hf:=qA_fit hb hu1
 obtain⟨o,ho1,ho2⟩:=(orAll_has _ _).1 ((hu _ hy a O).1 h0)
 unfold fitsB at hf
 have hin:andI u o∈(ix t.sT p.1.toNat).aP:=by simpa using List.all_eq_true.1 hf o ho1
 have hg:=acc_go (ht.st _ hx) hin (a:=a) (by rw[has_and,hu2,ho2];rfl)
 exact⟨hg.2,((ht.st _ hx).nx a han).2,((hs.st _ hy).nx a O).2⟩
theorem qN_ok {t s:SS} (ht:oK t) (hs:oK s) (hu:Used s) (ha:s.aC.length=t.aC.length) {p:PP} (hp:qOk t s p) {a:Nat} (h:has (orAll (qA t s p)) (a:Int)=true):qOk t s (qN t s p a):=by
 unfold qN
 split
 ·next g=>
  have:=qN_go ht hs hu ha hp g.1 h g.2
  exact .inr ⟨this.1,this.2.1,g.2,this.2.2⟩
 ·exact .inl rfl
theorem qN_acts {t s:SS} (ht:oK t) (hs:oK s) (hu:Used s) (ha:s.aC.length=t.aC.length):∀p,qOk t s p→∀a∈actsL (qA t s) p,qOk t s (qN t s p a.toNat):=fun p hp a h=>by
 obtain⟨b,rfl,_,hb⟩:=listOf_mem.1 h
 rw[Int.toNat_natCast]
 exact qN_ok ht hs hu ha hp hb
theorem filter_two {α:Type} (f:α→Bool):∀l:List α,l.length=(l.filter f).length+(l.filter fun p=> !f p).length
 | []=>rfl
 |a::l=>by
  have:=filter_two f l
  cases h:f a<;>simp[h]<;>omega
def nbes (p:PP):Bool:=decide (p≠bes)
theorem q_few {t s:SS} (l:List PP) (hn:l.Nodup) (h:∀p∈l,qOk t s p):l.length≤t.sT.length*s.sT.length+1:=by
 have h1:=nodup_pairs t.sT.length s.sT.length (l.filter nbes) (List.filter_sublist.nodup hn) (fun p hp=>by
  obtain⟨g1,g2⟩:=List.mem_filter.1 hp
  exact(h p g1).resolve_left (by simpa [nbes] using g2))
 have h2:(l.filter fun p=> !nbes p).length≤1:=by
  have hnd:(l.filter fun p=> !nbes p).Nodup:=List.filter_sublist.nodup hn
  have:=List.Nodup.length_le_of_subset hnd (l₂:= [bes]) (fun p hp=>by
   have:=(List.mem_filter.1 hp).2
   simpa [nbes] using this)
  simpa using this
 have h3:=filter_two nbes l
 omega
def qL (t s:SS):List PP:=runL (qA t s) (qN t s) (t.sT.length*s.sT.length+1) 0 [(0,0)]
theorem q_zero {t s:SS} (ht:oK t) (hs:oK s):Walk (qA t s) (qN t s) (qOk t s) (0,0) 0 [(0,0)]:=by
 have f1:=ht.few0
 have f2:=hs.few0
 exact⟨by simp,by simp,rfl,fun p hp=>by rw[List.mem_singleton.1 hp];exact .inr ⟨by simp,by show(0:Int)<_;omega,by simp,by show(0:Int)<_;omega⟩,fun j hj=>absurd hj O⟩
theorem q_walk {t s:SS} (ht:oK t) (hs:oK s) (hu:Used s) (ha:s.aC.length=t.aC.length):Walk (qA t s) (qN t s) (qOk t s) (0,0) (qL t s).length (qL t s):=
 walk_end (qN_acts ht hs hu ha) (fun l=>q_few l) (q_zero ht hs) (Nat.le_refl _)
def quoD (t s:SS):SS:=⟨t.aC,(qL t s).map (ofL (qA t s) (qN t s) t.aC.length (qL t s))⟩
theorem q_numb {t s:SS} (ht:oK t) (hs:oK s) (hu:Used s) (ha:s.aC.length=t.aC.length):Numb (qA t s) (qN t s) t.aC.length (0,0) (qL t s) (quoD t s):=
 numb_of (fun p hp a h=>by have:=qA_has h;have:=ht.n8;omega) (q_walk ht hs hu ha) _
theorem q_ok {t s:SS} (ht:oK t) {l:List PP} {D:SS} (h:Numb (qA t s) (qN t s) t.aC.length (0,0) l D) (ha:D.aC=t.aC) (hl:l.length≤10000):oK D:=
 numb_ok h (by rw[ha];exact ht.acts) (by rw[ha]) hl (fun p _ u hu=>qA_bd ht.n8 hu) (fun p _ a h=>qA_has h) (fun p _=>qA_rise t s p)
end QuoM
end
section
namespace FailM
open ref01 ref03 ref04 ref06 prog15 starts Part Rungs LeftM TrimM RoundM BisM BisM5 BisM6 WalkM StepM WitM JudgM LevM divs QuoM
abbrev T3:=Int × Int × Int
structure M5 where
 x:Int
 t:Int
 s:Int
 before:Int
 action:Int
deriving Inhabited,DecidableEq
def tri (m:M5):T3:=(m.x,m.t,m.s)
def toMt (m:M5):Mt:=⟨m.s,m.t,m.before,m.action⟩
def smap3 (mm:List (T3 × Bool)) (l:List T3):Prop:=∀p,mget mm p=if p∈l then some true else none
theorem smap3_get {mm:List (T3 × Bool)} {l:List T3} (h:smap3 mm l) (p:T3):(mget mm p).getD false=decide (p∈l):=by
 rw[h p]
 by_cases hp:p∈l
 ·rw[if_pos hp,decide_eq_true hp];rfl
 ·rw[if_neg hp,decide_eq_false hp];rfl
theorem smap3_push {mm:List (T3 × Bool)} {l:List T3} (h:smap3 mm l) (k:T3):smap3 (mset mm k true) (l++ [k]):=by
 intro p
 rw[mget_mset,h p]
 by_cases e:k=p
 ·rw[if_pos e,if_pos (by rw[e];simp)]
 ·rw[if_neg e]
  have:p∈l++ [k]↔p∈l:=by
   rw[List.mem_append]
   exact⟨fun h=>h.resolve_right (fun h=>e (List.mem_singleton.1 h).symm),.inl⟩
  by_cases hp:p∈l
  ·rw[if_pos hp,if_pos (this.2 hp)]
  ·rw[if_neg hp,if_neg (fun h=>hp (this.1 h))]
theorem smap3_zero:smap3 (mset ([]:List (T3 × Bool)) (0,0,0) true) [(0,0,0)]:=smap3_push (l:= []) (fun p=>by rw[if_neg (by simp)];rfl) (0,0,0)
def Bad3 (x:SSys) (t s:SS) (p:T3):Prop:=∃o∈acc s p.2.2.toNat,andI (offM x p.1.toNat) o∉acc t p.2.1.toNat
def nx3 (t s:SS) (p:T3) (e:PP):T3:=(e.2,ix (nxt t p.2.1.toNat) e.1.toNat,ix (nxt s p.2.2.toNat) e.1.toNat)
inductive Rch3 (x:SSys) (t s:SS):T3→Prop
 |zero:Rch3 x t s (0,0,0)
 |step {p:T3} {e:PP}:Rch3 x t s p→¬Bad3 x t s p→e∈edg x p.1.toNat→0≤ix (nxt s p.2.2.toNat) e.1.toNat→Rch3 x t s (nx3 t s p e)
def Well3 (x:SSys) (t s:SS):Prop:=∀p,Rch3 x t s p→¬Bad3 x t s p
def box3 (x:SSys) (t s:SS) (p:T3):Prop:=0≤p.1∧p.1<(x.sT.length:Int)∧0≤p.2.1∧p.2.1<(t.sT.length:Int)∧0≤p.2.2∧p.2.2<(s.sT.length:Int)
variable {x:SSys} {t s:SS}
theorem go3 (hx:okSys x) (ht:oK t) (hs:oK s) (hu:Used s) {p:T3} (hp:box3 x t s p) (hb:¬Bad3 x t s p) {e:PP} (he:e∈edg x p.1.toNat) (h0:0≤ix (nxt s p.2.2.toNat) e.1.toNat) (ha:x.aC.length=s.aC.length):box3 x t s (nx3 t s p e):=by
 obtain⟨p0,p1,p2,p3,p4,p5⟩:=hp
 have hed:=hx.ed p.1.toNat O e he
 have hz:p.2.2.toNat<s.sT.length:=by omega
 have hy:p.2.1.toNat<t.sT.length:=by omega
 obtain⟨o,ho1,ho2⟩:=(orAll_has _ _).1 ((hu _ hz e.1.toNat O).1 h0)
 have hin:andI (offM x p.1.toNat) o∈acc t p.2.1.toNat:=Classical.byContradiction fun hn=>hb ⟨o,ho1,hn⟩
 have hg:=LeftM.acc_go (ht.st _ hy) hin (a:=e.1.toNat) (by rw[QuoM.has_and,ho2,off_has.2 ⟨e,he,rfl⟩];rfl)
 exact⟨hed.2.2.1,hed.2.2.2,hg.2,((ht.st _ hy).nx _ hg.1).2,h0,((hs.st _ hz).nx _ O).2⟩
theorem box3_zero (hx:okSys x) (ht:oK t) (hs:oK s):box3 x t s (0,0,0):=by
 have f1:=hx.few0
 have f2:=ht.few0
 have f3:=hs.few0
 exact⟨by simp,by show(0:Int)<_;omega,by simp,by show(0:Int)<_;omega,by simp,by show(0:Int)<_;omega⟩
theorem rch3_box (hx:okSys x) (ht:oK t) (hs:oK s) (hu:Used s) (ha:x.aC.length=s.aC.length) {p:T3} (h:Rch3 x t s p):box3 x t s p:=by
 induction h with
 |zero=>exact box3_zero hx ht hs
 |step h1 h2 h3 h4 ih=>exact go3 hx ht hs hu ih h2 h3 h4 ha
structure QF (x:SSys) (t s:SS) (q:List M5):Prop where
 ne:0<q.length
 hd:ix q 0=⟨0,0,0,-1,0⟩
 nd:(q.map tri).Nodup
 rch:∀m∈q,Rch3 x t s (tri m)
 back:∀k,0<k→k<q.length→∃(b:Nat) (e:PP),(ix q k).before=(b:Int)∧(ix q k).action=e.1∧b<k∧¬Bad3 x t s (tri (ix q b))∧e∈edg x (ix q b).x.toNat∧0≤ix (nxt s (ix q b).s.toNat) e.1.toNat∧tri (ix q k)=nx3 t s (tri (ix q b)) e
def DoneF (x:SSys) (t s:SS) (q:List M5) (k:Nat):Prop:=
 ¬Bad3 x t s (tri (ix q k))∧∀e∈edg x (ix q k).x.toNat,0≤ix (nxt s (ix q k).s.toNat) e.1.toNat→nx3 t s (tri (ix q k)) e∈q.map tri
theorem ix5_left {l m:List M5} {j:Nat} (h:j<l.length):ix (l++m) j=ix l j:=by
 rw[ix_get (by simp;omega),ix_get h,List.getElem_append_left h]
theorem ix5_last {l:List M5} {x:M5}:ix (l++ [x]) l.length=x:=by
 rw[ix_get (by simp)];simp
theorem pre5_ix {q r:List M5} {k:Nat} (h:q<+:r) (hk:k<q.length):ix r k=ix q k:=by
 obtain⟨u,rfl⟩:=h
 exact ix5_left hk
theorem qf_zero:QF x t s [⟨0,0,0,-1,0⟩]:=by
 refine⟨by simp,rfl,by simp,fun m hm=> ?_,fun k h1 h2=>by simp at h2;omega⟩
 rw[List.mem_singleton.1 hm];exact .zero
theorem qf_push {q:List M5} (h:QF x t s q) {i:Nat} (hi:i<q.length) (hb:¬Bad3 x t s (tri (ix q i))) {e:PP} (he:e∈edg x (ix q i).x.toNat) (h0:0≤ix (nxt s (ix q i).s.toNat) e.1.toNat) {m:M5} (h1:tri m=nx3 t s (tri (ix q i)) e) (h2:m.before=(i:Int)) (h3:m.action=e.1)
 (hn:tri m∉q.map tri):QF x t s (q++ [m]):=by
 refine⟨by simp,by rw[ix5_left h.ne];exact h.hd,?_,fun k hk=> ?_,fun k k0 hk=> ?_⟩
 ·rw[List.map_append,List.nodup_append]
  refine⟨h.nd,by simp,fun p hp p' hp' e=>hn ?_⟩
  have:p'=tri m:=List.mem_singleton.1 hp'
  rw[←this,←e];exact hp
 ·rcases List.mem_append.1 hk with g|g
  ·exact h.rch k g
  ·rw[List.mem_singleton.1 g,h1]
   exact .step (h.rch _ (ix_memS hi)) hb he h0
 ·simp at hk
  by_cases g:k=q.length
  ·subst g
   refine⟨i,e,?_⟩
   rw[ix5_last,ix5_left hi]
   exact⟨h2,h3,hi,hb,he,h0,h1⟩
  ·obtain⟨b,a',p1,p2,p3,p4⟩:=h.back k k0 O
   refine⟨b,a',?_⟩
   rw[ix5_left O,ix5_left O]
   exact⟨p1,p2,p3,p4⟩
theorem donef_push {q:List M5} {m:M5} {k:Nat} (hk:k<q.length) (h:DoneF x t s q k):DoneF x t s (q++ [m]) k:=by
 unfold DoneF
 rw[ix5_left hk]
 exact⟨h.1,fun e he h0=>by rw[List.map_append];exact List.mem_append_left _ (h.2 e he h0)⟩
theorem nodup_triples (a b c:Nat) (l:List T3) (hnd:l.Nodup) (hb:∀p∈l,0≤p.1∧p.1<(a:Int)∧0≤p.2.1∧p.2.1<(b:Int)∧0≤p.2.2∧p.2.2<(c:Int)):l.length≤a*(b*c):=by
 have hf:∀p∈l,0≤p.1∧p.1<(a:Int)∧0≤((p.2.1.toNat*c+p.2.2.toNat:Nat):Int)∧((p.2.1.toNat*c+p.2.2.toNat:Nat):Int)<((b*c:Nat):Int):=fun p hp=>by
  have:=hb p hp
  have h2:(p.2.1.toNat+1)*c≤b*c:=Nat.mul_le_mul_right c O
  rw[Nat.add_mul] at h2
  omega
 have h1:=nodup_pairs a (b*c) (l.map fun p=>(p.1,((p.2.1.toNat*c+p.2.2.toNat:Nat):Int))) ?_ (fun p hp=>by
  obtain⟨p',hp',rfl⟩:=List.mem_map.1 hp
  exact hf p' hp')
 ·simpa using h1
 ·rw[List.nodup_iff_pairwise_ne,List.pairwise_map]
  refine List.Pairwise.imp_of_mem ?_ hnd
  intro u v hu hv hne e
  have b1:=hb u hu
  have b2:=hb v hv
  simp only [Prod.mk.injEq] at e
  have hc:0<c:=by omega
  have e0:u.2.1.toNat*c+u.2.2.toNat=v.2.1.toNat*c+v.2.2.toNat:=by omega
  have e1:u.2.1.toNat=v.2.1.toNat:=by
   have:=congrArg (· /c) e0
   simp only [Nat.mul_comm _ c] at this
   rw[Nat.mul_add_div hc,Nat.mul_add_div hc,Nat.div_eq_of_lt O,Nat.div_eq_of_lt O] at this
   omega
  have e2:u.2.2.toNat=v.2.2.toNat:=by rw[e1] at e0;omega
  exact hne (Prod.ext e.1 (Prod.ext O O))
theorem qf_len (hx:okSys x) (ht:oK t) (hs:oK s) (hu:Used s) (ha:x.aC.length=s.aC.length) {q:List M5} (h:QF x t s q):q.length≤x.sT.length*(t.sT.length*s.sT.length):=by
 have:=nodup_triples x.sT.length t.sT.length s.sT.length (q.map tri) h.nd (fun p hp=>by
  obtain⟨m,hm,rfl⟩:=List.mem_map.1 hp
  exact rch3_box hx ht hs hu ha (h.rch m hm))
 simpa using this
structure MidF (x:SSys) (t s:SS) (q:List M5) (i k:Nat) (q2:List M5) (mm2:List (T3 × Bool)):Prop where
 qi:QF x t s q2
 sm:smap3 mm2 (q2.map tri)
 pre:q<+:q2
 dn:∀j,j<i→DoneF x t s q2 j
 al:∀e∈(edg x (ix q i).x.toNat).take k,0≤ix (nxt s (ix q i).s.toNat) e.1.toNat→nx3 t s (tri (ix q i)) e∈q2.map tri
variable {q q2:List M5} {i k:Nat} {mm mm2:List (T3 × Bool)}
theorem midf_zero (h:QF x t s q) (hm:smap3 mm (q.map tri)) (hd:∀j,j<i→DoneF x t s q j):MidF x t s q i 0 q mm:=⟨h,hm,List.prefix_rfl,hd,fun e he=>by simp at he⟩
theorem midf_push (h:MidF x t s q i k q2 mm2) (hi:i<q.length) (hb:¬Bad3 x t s (tri (ix q i))) (hk:k<(edg x (ix q i).x.toNat).length) {e:PP} (he:ix (edg x (ix q i).x.toNat) k=e)
 (h0:0≤ix (nxt s (ix q i).s.toNat) e.1.toNat) (hn:(mget mm2 (nx3 t s (tri (ix q i)) e)).getD false=false):
 MidF x t s q i (k+1) (q2++ [⟨e.2,ix (nxt t (ix q i).t.toNat) e.1.toNat,ix (nxt s (ix q i).s.toNat) e.1.toNat,(i:Int),e.1⟩]) (mset mm2 (nx3 t s (tri (ix q i)) e) true):=by
 have hl:=h.pre.length_le
 have hqi:=pre5_ix h.pre hi
 have hem:e∈edg x (ix q i).x.toNat:=by rw[←he];exact ix_memS hk
 have hn':nx3 t s (tri (ix q i)) e∉q2.map tri:=by
  rw[smap3_get h.sm] at hn
  simpa using hn
 have hp:=qf_push h.qi (i:=i) O (by rw[hqi];exact hb) (e:=e) (by rw[hqi];exact hem) (by rw[hqi];exact h0) (m:=⟨e.2,ix (nxt t (ix q i).t.toNat) e.1.toNat,ix (nxt s (ix q i).s.toNat) e.1.toNat,(i:Int),e.1⟩) (by rw[hqi];rfl) rfl rfl hn'
 refine⟨hp,?_,h.pre.trans (List.prefix_append _ _),fun j hj=>donef_push O (h.dn j hj),fun b hb=> ?_⟩
 ·rw[List.map_append]
  exact smap3_push h.sm _
 ·intro hb0
  rw[List.map_append,List.mem_append]
  rw[take_s hk,he,List.mem_append] at hb
  rcases hb with h1|h1
  ·exact .inl (h.al b h1 hb0)
  ·have:b=e:=by simpa using h1
   subst this
   exact .inr (List.mem_singleton.2 rfl)
theorem midf_skip (h:MidF x t s q i k q2 mm2) (hk:k<(edg x (ix q i).x.toNat).length) {e:PP} (he:ix (edg x (ix q i).x.toNat) k=e)
 (hn:ix (nxt s (ix q i).s.toNat) e.1.toNat<0∨(mget mm2 (nx3 t s (tri (ix q i)) e)).getD false=true):MidF x t s q i (k+1) q2 mm2:=by
 refine⟨h.qi,h.sm,h.pre,h.dn,fun b hb b0=> ?_⟩
 rw[take_s hk,he,List.mem_append] at hb
 rcases hb with h1|h1
 ·exact h.al b h1 b0
 ·have:b=e:=by simpa using h1
  subst this
  have hn:=hn.resolve_left O
  rw[smap3_get h.sm] at hn
  simpa using hn
theorem midf_end (h:MidF x t s q i k q2 mm2) (hi:i<q.length) (hb:¬Bad3 x t s (tri (ix q i))) (hk:(edg x (ix q i).x.toNat).length≤k):
 QF x t s q2∧smap3 mm2 (q2.map tri)∧i+1≤q2.length∧∀j,j<i+1→DoneF x t s q2 j:=by
 have hl:=h.pre.length_le
 refine⟨h.qi,h.sm,O,fun j hj=> ?_⟩
 by_cases e:j=i
 ·subst e
  have hqi:=pre5_ix h.pre hi
  have hal:=h.al
  rw[List.take_of_length_le hk] at hal
  unfold DoneF
  rw[hqi]
  exact⟨hb,hal⟩
 ·exact h.dn j O
theorem fail_none (h:QF x t s q) (hd:∀k,k<q.length→DoneF x t s q k):Well3 x t s:=fun p hp=>by
 have hat:∀{p:T3},p∈q.map tri→∃k,k<q.length∧tri (ix q k)=p:=fun {p} hm=>by
  obtain⟨m,hm,e⟩:=List.mem_map.1 hm
  obtain⟨k,hk,rfl⟩:=List.getElem_of_mem hm
  exact⟨k,hk,by rw[ix_get hk];exact e⟩
 have hin:p∈q.map tri:=by
  induction hp with
  |zero=>
   have:=ix_memS (l:=q) h.ne
   rw[h.hd] at this
   exact List.mem_map.2 ⟨_,this,rfl⟩
  |step h1 h2 h3 h4 ih=>
   obtain⟨k,hk,rfl⟩:=hat ih
   exact(hd k hk).2 _ h3 h4
 obtain⟨k,hk,rfl⟩:=hat hin
 exact(hd k hk).1
theorem ix_toMt {k:Nat} (hk:k<q.length):ix (q.map toMt) k=toMt (ix q k):=TurnM.ix_mapS hk
theorem qf_back (h:QF x t s q):BackOK (q.map toMt):=fun k hk h0=>by
 rw[List.length_map] at hk
 rw[ix_toMt hk] at h0 ⊢
 show(ix q k).before<_
 have h0:0≤(ix q k).before:=h0
 rcases Nat.eq_zero_or_pos k with e|e
 ·subst e;rw[h.hd] at h0
  have h0:(0:Int)≤ -1:=h0
  omega
 ·obtain⟨b,a,e1,e2,e3,_⟩:=h.back k e hk
  rw[e1];omega
abbrev wordF (q:List M5) (k:Nat):List Int:=wordTo (q.map toMt) k
theorem qf_runs (hx:okSys x) (ht:oK t) (hs:oK s) (hu:Used s) (ha:x.aC.length=s.aC.length) (h:QF x t s q):∀k,k<q.length→Runs s (wordF q k) (ix q k).s.toNat∧goS t (wordF q k)=(ix q k).t:=by
 intro k
 induction k using Nat.strongRecOn with
 |_ k ih=>
  intro hk
  rcases Nat.eq_zero_or_pos k with e|e
  ·subst e
   have e1:ix (q.map toMt) 0=⟨0,0,-1,0⟩:=by rw[ix_toMt hk,h.hd];rfl
   unfold wordF
   rw[wordTo_nil (by rw[e1];show(-1:Int)<0;omega),h.hd]
   exact⟨.nil,rfl⟩
  ·obtain⟨b,ed,e1,e2,e3,e4,e5,e6,e7⟩:=h.back k e hk
   have g0:ix (q.map toMt) k=toMt (ix q k):=ix_toMt hk
   have hw:=wordTo_snoc (qf_back h) (k:=k) (by simpa using hk) (by rw[g0];show 0≤(ix q k).before;rw[e1];omega)
   rw[g0] at hw
   have hw:wordF q k=wordTo (q.map toMt) (ix q k).before.toNat++ [(ix q k).action]:=hw
   rw[e1,Int.toNat_natCast,e2] at hw
   obtain⟨g1,g2⟩:=ih b e3 O
   have hb:=rch3_box hx ht hs hu ha (h.rch _ (ix_memS (l:=q) (i:=b) O))
   obtain⟨b0,b1,b2,b3,b4,b5⟩:=hb
   have hed:=hx.ed (ix q b).x.toNat (by show(tri (ix q b)).1.toNat<_;omega) ed e5
   have hn0:((ed.1.toNat:Nat):Int)=ed.1:=by omega
   have e8:(ix q k).s=ix (nxt s (ix q b).s.toNat) ed.1.toNat:=congrArg (fun p:T3=>p.2.2) e7
   have e9:(ix q k).t=ix (nxt t (ix q b).t.toNat) ed.1.toNat:=congrArg (fun p:T3=>p.2.1) e7
   rw[hw,e8,e9,←hn0]
   refine⟨.snoc g1 ?_,?_⟩
   ·exact(hu _ (by show(tri (ix q b)).2.2.toNat<_;omega) ed.1.toNat O).1 e6
   ·show goS t (wordF q b++_)=_
    rw[goS_snoc,g2,stepS_nat (show 0≤(ix q b).t from b2),Int.toNat_natCast]
structure FailOK (x:SSys) (t s:SS) (z:List Int × Int × Bool):Prop where
 none:z.2.2=false→z.1= []∧z.2.1=0∧Well3 x t s
 some:z.2.2=true→∃q i,QF x t s q∧i<q.length∧z.1=wordF q i∧z.2.1∈acc s (ix q i).s.toNat∧andI (offM x (ix q i).x.toNat) z.2.1∉acc t (ix q i).t.toNat
end FailM
end
section
namespace DivM
open ref01 ref03 ref04 ref06 Part Rungs LeftM TrimM RoundM MergeM BisM BisM2 BisM4 BisM5 BisM6 WalkM WitM JudgM JudgM2 LevM divr divs divd dive divg divw divv refj sysw ChsM BisS TrimI ValidM WitSat WitVal QuoM
theorem every_has {n:Nat} (a:Nat):has (orAll (subs n)) (a:Int)=true↔a<n:=by
 rw[orAll_has]
 constructor
 ·rintro⟨u,hu,ha⟩;exact has_sub hu ha
 ·intro h
  refine⟨((2^a:Nat):Int),subs_mem.2 ⟨Int.natCast_nonneg _,?_⟩,by rw[has_pow];simp⟩
  have:=Nat.pow_lt_pow_right (a:=2) O h
  exact_mod_cast this
theorem every_at (l:List ByteArray):ix (everyS l).sT 0=⟨subs l.length,List.replicate l.length 0⟩:=rfl
theorem rep_ix {n a:Nat} (v:Int) (h:a<n):ix (List.replicate n v) a=v:=by rw[ix_get (by simpa using h)];simp
theorem every_ok {l:List ByteArray} (h:actionsOK l=true):oK (everyS l):=by
 have n8:=actionsOK_len h
 refine⟨h,n8,by show 1≤1;omega,by show 1≤10000;omega,fun k hk=> ?_⟩
 have hk:k<1:=hk
 obtain rfl:k=0:=by omega
 rw[every_at]
 have h2:2^l.length≤2^8:=Nat.pow_le_pow_right O n8
 refine⟨by simp[everyS],fun a ha=> ?_,fun i hi=> ?_,fun i hi a ha=> ?_,pw_rising (subs_rise _)⟩
 ·have ha:a<l.length:=ha
  show-1≤ix (List.replicate l.length 0) a∧ix (List.replicate l.length 0) a<((1:Nat):Int)
  rw[rep_ix 0 ha];omega
 ·have:=subs_mem.1 (ix_memS hi)
  show 0≤ix (subs l.length) i∧ix (subs l.length) i<256
  omega
 ·have:=has_sub (ix_memS hi) ha
  refine⟨this,?_⟩
  show 0≤ix (List.replicate l.length 0) a
  rw[rep_ix 0 this];omega
theorem every_not {l:List ByteArray} (h:actionsOK l=true):ix (hOl (everyS l)) 0=false:=by
 cases e:ix (hOl (everyS l)) 0 with
 |false=>rfl
 |true=>
  have hx:(0:Nat)<(everyS l).sT.length:=by show 0<1;omega
  have hH:=(hollow_ix hx).1 e
  exfalso
  refine hH (fun _=>False) (fun x hx hc=> ?_)
  have hx:x<1:=hx
  obtain rfl:x=0:=by omega
  obtain⟨_,_,_,_,h⟩:=hc 0 (by show 0<(subs l.length).length;unfold subs;simp;exact Nat.pos_of_ne_zero (by simp))
  exact h
theorem every_ord {l:List ByteArray} (h:actionsOK l=true):ordS (everyS l)= [0]:=by
 have hs:=every_ok h
 have h1:(ordS (everyS l)).length≤1:=ord_le hs
 have h2:=ordS_pos (everyS l)
 have h3:=ord_zero (everyS l)
 match hq:ordS (everyS l),h1,h2,h3 with
 | [y],_,_,h3=>rw[show y=0 from h3]
theorem every_trim {l:List ByteArray} (h:actionsOK l=true):(tR (everyS l)).1=everyS l:=by
 have hs:=every_ok h
 have hn:=every_not h
 rw[trimmed_not hn]
 show(⟨l,(ordS (everyS l)).map (tstate (everyS l))⟩:SS)=_
 rw[every_ord h]
 have hk:keep (everyS l) 0=subs l.length:=by
  rw[keep_filter hn,every_at]
  refine List.filter_eq_self.2 fun u hu=> ?_
  rw[Bool.not_eq_true']
  cases hf:falls (⟨subs l.length,List.replicate l.length 0⟩:SA) u (hOl (everyS l)) with
  |false=>rfl
  |true=>
   obtain⟨a,ha,_,_,hv⟩:=falls_iff.1 hf
   have ha:a<l.length:=by simpa using ha
   rw[show ix (List.replicate l.length (0:Int)) a=0 from rep_ix 0 ha] at hv
   rw[show(0:Int).toNat=0 from rfl,hn] at hv;cases hv
 show(⟨l,[tstate (everyS l) 0]⟩:SS)=⟨l,[⟨subs l.length,List.replicate l.length 0⟩]⟩
 congr 2
 unfold tstate tnext
 rw[show(0:Int).toNat=0 from rfl,hk,every_ord h]
 congr 1
 apply List.ext_getElem
 ·simp[everyS]
 ·intro a h1 h2
  have ha:a<l.length:=by simpa using h2
  rw[List.getElem_map,List.getElem_range,List.getElem_replicate,if_pos ((every_has a).2 ha)]
  have e:ix (ix (everyS l).sT 0).next a=0:=rep_ix 0 ha
  rw[e];rfl
noncomputable def quoS (t s:SS):SS × Bool:=
 if ix (hOl s) 0=true then(everyS t.aC,true)
 else if (qL t (tR s).1).length≤500 then((tR (quoD t (tR s).1)).1,true) else(⟨[],[]⟩,false)
noncomputable def divS (t s:SS):SS × Int:=
 if fineE t s=0 then(if (quoS t s).2=true then((quoS t s).1,0) else(⟨[],[]⟩,2)) else(⟨[],[]⟩,fineE t s)
structure RefQ (t s D:SS):Prop where
 acts:D.aC=t.aC
 hol:ix (hOl s) 0=true→D=everyS t.aC
 num:ix (hOl s) 0=false→∃l,Numb (qA t (tR s).1) (qN t (tR s).1) t.aC.length (0,0) l D∧l.length≤t.sT.length*s.sT.length+1
theorem refq_ok {t s D:SS} (ht:oK t) (h:RefQ t s D) (hz:t.sT.length*s.sT.length+1≤10000):oK D:=by
 cases e:ix (hOl s) 0 with
 |true=>rw[h.hol e];exact every_ok ht.acts
 |false=>
  obtain⟨l,h1,h2⟩:=h.num e
  exact q_ok ht h1 h.acts O
theorem ql_len {t s:SS} (ht:oK t) (hs:oK s) (ha:s.aC.length=t.aC.length):(qL t (tR s).1).length≤t.sT.length*s.sT.length+1:=by
 have hw:=q_walk ht (trim_ok hs) (trim_used hs) (by rw[trim_acts];exact ha)
 have h1:=q_few _ hw.nd hw.ok
 have h2:=Nat.mul_le_mul_left t.sT.length (trim_len hs)
 omega
structure Same (q D:SS):Prop where
 ok:oK q
 few:q.sT.length≤500
 acts:q.aC=D.aC
 trim:(tR q).1=q
 r1:RefP q D
 r2:RefP D q
theorem quo_same {t s D:SS} (ht:oK t) (hs:oK s) (ha:t.aC=s.aC) (h:RefQ t s D) (hz:t.sT.length*s.sT.length+1≤10000) (hq:(quoS t s).2=true):Same (quoS t s).1 D:=by
 have hD:=refq_ok ht h hz
 unfold quoS at hq ⊢
 cases e:ix (hOl s) 0 with
 |true=>
  rw[if_pos rfl]
  have:=h.hol e
  rw[this]
  exact⟨every_ok ht.acts,by show 1≤500;omega,rfl,every_trim ht.acts,ref_refl (every_ok ht.acts),ref_refl (every_ok ht.acts)⟩
 |false=>
  rw[e] at hq
  rw[if_neg (by simp)] at hq ⊢
  split at hq
  ·next g=>
   rw[if_pos g]
   obtain⟨l,h1,h2⟩:=h.num e
   have hl:(tR s).1.aC.length=t.aC.length:=by rw[trim_acts,←ha]
   have hN:=q_numb ht (trim_ok hs) (trim_used hs) hl
   have hok:oK (quoD t (tR s).1):=q_ok ht hN rfl O
   have hr:=numb_ref hok hD (show t.aC=D.aC from h.acts.symm) hN h1
   have hr2:=ref_trim hok hD (show t.aC=D.aC from h.acts.symm) hr
   refine⟨trim_ok hok,?_,by rw[trim_acts];exact h.acts.symm,trim_trim hok,hr2.1,hr2.2⟩
   have:=trim_len hok
   have e2:(quoD t (tR s).1).sT.length=(qL t (tR s).1).length:=by simp[quoD]
   show(tR (quoD t (tR s).1)).1.sT.length≤500
   omega
  ·cases hq
theorem quo_ok {t s:SS} (ht:oK t) (hs:oK s) (ha:t.aC=s.aC) (hq:(quoS t s).2=true):oK (quoS t s).1:=by
 unfold quoS at hq ⊢
 cases e:ix (hOl s) 0 with
 |true=>rw[if_pos rfl];exact every_ok ht.acts
 |false=>
  rw[e] at hq
  rw[if_neg (by simp)] at hq ⊢
  split at hq
  ·next g=>
   rw[if_pos g]
   exact trim_ok (q_ok ht (q_numb ht (trim_ok hs) (trim_used hs) (by rw[trim_acts,←ha])) rfl O)
  ·cases hq
theorem quo_large {t s:SS} (ht:oK t) (hs:oK s) (ha:t.aC=s.aC) (hq:(quoS t s).2=false):largeB t s=true:=by
 unfold quoS at hq
 cases e:ix (hOl s) 0 with
 |true=>rw[if_pos e] at hq;cases hq
 |false=>
  rw[e,if_neg (by simp)] at hq
  split at hq
  ·cases hq
  ·next g=>
   have:=ql_len ht hs (by rw[ha])
   unfold largeB
   rw[decide_eq_true_eq]
   have e2:((t.sT.length*s.sT.length:Nat):Int)=(t.sT.length:Int)*(s.sT.length:Int):=by simp
   omega
theorem refB_of {s t:SS} (h:RefP s t):refB s t=true:=refB_iff.2 h
theorem fine_same {q D:SS} (h:Same q D):fineR q D=true:=by
 unfold fineR eqR isTrimS
 rw[specOK_of h.ok h.few,decide_eq_true h.acts,decide_eq_true h.trim.symm,refB_of h.r1,refB_of h.r2];rfl
theorem div_small {t s:SS} (ht:smallSpec t) (h:(divS t s).2=0):smallSpec (divS t s).1:=by
 by_cases hf:fineE t s=0
 ·obtain⟨h1,h2,h3⟩:=Go.Proofs.YtcjemmihcplgdaaGreatDoor.fine_ok hf
  cases e:(quoS t s).2 with
  |true=>
   have e2:divS t s=((quoS t s).1,0):=by unfold divS;rw[if_pos hf,if_pos e]
   rw[e2]
   exact(quo_ok (okSpec_of h1) (okSpec_of h2) h3 e).small
  |false=>
   have e2:divS t s=(⟨[],[]⟩,2):=by unfold divS;rw[if_pos hf,if_neg (by simp[e])]
   rw[e2] at h;cases h
 ·have e2:divS t s=(⟨[],[]⟩,fineE t s):=by unfold divS;rw[if_neg hf]
  rw[e2] at h;exact absurd h hf
theorem sat_same {m:SSys} {q D:SS} (h:Same q D) (hD:oK D):SatM m q↔SatM m D:=by
 have hs:=(ref_iff h.ok hD h.acts).1 ⟨h.r1,h.r2⟩
 unfold SatM
 rw[sat_solid h.ok (off_ok m),sat_solid hD (off_ok m)]
 exact⟨fun g=>sat_sim g hs,fun g=>sat_sim g hs.symm⟩
theorem wit_made {q D:SS} (h:Same q D) (hD:oK D) (h0:ix (hOl q) 0=false) {m:SSys} (hm:WitOK (tS q) [] m):madeB m D=true:=by
 have hw:=wants_nil h.ok h0
 have hT:=tS_ok h.ok
 have ht:tS q=q:=by have:=h.trim;rwa [trimmed_not h0] at this
 have hsat:SatM m q:=by
  have:=wit_sat hT hw rfl hm
  rwa [ht] at this
 have hval:sysOK m=true:=by
  obtain⟨ss,qq,mm,hs,hW,ha⟩:=hm
  have hl:(tS q).sT.length≤500:=by rw[ht];exact h.few
  have hql:qq.length≤(tS q).sT.length:=wq_len hW.wq hs
  refine wit_valid (K:=1) hT hw hs hW ha (fun x hx=> ?_) O O
  have hnd:=hs.nd x hx
  have hall:∀u∈ix ss x,u=ix (acc (tS q) x) 0:=fun u hu=>by
   rcases(hs.mem x hx u).1 hu with g|g
   ·exact g
   ·cases g
  have:=List.Nodup.length_le_of_subset hnd (l₂:= [ix (acc (tS q) x) 0]) (fun u hu=>by rw[hall u hu];simp)
  simpa using this
 unfold madeB
 rw[hval,satD_iff.2 ((sat_same h hD).1 hsat),decide_eq_true (show m.aC=D.aC from by
  obtain⟨_,_,_,_,_,ha⟩:=hm
  rw[ha];exact h.acts)]
 rfl
structure MissOK (t s:SS) (z:SSys × Int):Prop where
 no:(divS t s).2≠0→z=(⟨[],[]⟩,(divS t s).2)
 yes:(divS t s).2=0→SomeOK (divS t s).1 z
theorem ref_hollow {q D:SS} (h:Same q D) (hD:oK D):ix (hOl q) 0=ix (hOl D) 0:=by
 have f1:=h.ok.few0
 have f2:=hD.few0
 have hs:=(ref_iff h.ok hD h.acts).1 ⟨h.r1,h.r2⟩
 cases h1:ix (hOl q) 0<;>cases h2:ix (hOl D) 0
 ·rfl
 ·exact absurd hs.symm (not_sim O O h2 h1)
 ·exact absurd hs (not_sim O O h1 h2)
 ·rfl
theorem miss_ok {t s D:SS} (hf:fineE t s=0) (h:RefQ t s D) (hz:t.sT.length*s.sT.length+1≤10000) {z:SSys × Int} (hm:MissOK t s z):
 (z.2=2∧largeB t s=true∧noneM z.1=true)∨(z.2=3∧noneM z.1=true∧ix (hOl D) 0=true)∨(z.2=0∧ix (hOl D) 0=false∧madeB z.1 D=true):=by
 obtain⟨h1,h2,h3⟩:=Go.Proofs.YtcjemmihcplgdaaGreatDoor.fine_ok hf
 have hD:=refq_ok (okSpec_of h1) h hz
 cases e:(quoS t s).2 with
 |false=>
  have e2:divS t s=(⟨[],[]⟩,2):=by unfold divS;rw[if_pos hf,if_neg (by simp[e])]
  rw[hm.no (by rw[e2];simp),e2]
  exact .inl ⟨rfl,quo_large (okSpec_of h1) (okSpec_of h2) h3 e,rfl⟩
 |true=>
  have e2:divS t s=((quoS t s).1,0):=by unfold divS;rw[if_pos hf,if_pos e]
  have hS:=quo_same (okSpec_of h1) (okSpec_of h2) h3 h hz e
  have hy:=hm.yes (by rw[e2])
  rw[e2] at hy
  have hv:=specOK_of hS.ok hS.few
  have hh:=ref_hollow hS hD
  cases g:ix (hOl D) 0 with
  |true=>
   rw[hy.hol hv (hh.trans g)]
   exact .inr (.inl ⟨rfl,rfl,rfl⟩)
  |false=>
   obtain⟨k1,k2⟩:=hy.fit hv (hh.trans g)
   exact .inr (.inr ⟨k1,rfl,wit_made hS hD (hh.trans g) k2⟩)
end DivM
end
end Go.Proofs.YtcjemmihcplgdaaGreatDoor
