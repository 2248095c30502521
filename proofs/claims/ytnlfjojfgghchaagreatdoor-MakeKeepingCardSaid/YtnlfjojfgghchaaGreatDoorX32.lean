/- The walks of the functions and the plain laws. Own texts of this claim, packed: Mkmks, Mkmks2, MkFixM, Mkmkv, Mkmkw. -/
import Derived.Test.YtnlfjojfgghchaaGreatDoorX30
import Derived.Test.YtnlfjojfgghchaaGreatDoorX23
import Derived.Test.YtnlfjojfgghchaaGreatDoorX07
import Derived.Test.YtnlfjojfgghchaaGreatDoorX31
import Derived.Test.YtnlfjojfgghchaaGreatDoorX24
import Derived.Test.YtnlfjojfgghchaaGreatDoorX15
set_option linter.all false
namespace Go.Proofs.YtnlfjojfgghchaaGreatDoor
open AL Go
set_option maxRecDepth 100000
section
open ref01 ref03 ref04 ref06 prog prog2 prog3 prog4 prog5 prog6 prog7 prog8 prog9 prog13 prog15 starts Part Rungs LeftM TrimM RoundM MergeM BisM BisM4 BisM5 Itoa Keys WalkM StepM WitM JudgM JudgM2 search refw judg wit refj sysw satj divr divs divd dive divg divw divv divp divt LevM LevM2 TrimI QuoM FailM DivM RefM FitM TogM ProdM prodw GenW CompM CompP CrossM KeepK GuardM MakeM LsysM LsysM2 MakeM2 KeepB AtM ClsM LstM MakeM3 GuaW LeadM ValidM mkk mkp mkl mkc mkq mkg mkr
namespace mks
end mks
end
section
open ref01 ref03 ref04 ref06 prog prog2 prog3 prog4 prog5 prog6 prog7 prog8 prog9 prog13 prog15 starts Part Rungs LeftM TrimM RoundM MergeM BisM BisM4 BisM5 Itoa Keys WalkM StepM WitM JudgM JudgM2 search refw judg wit refj sysw satj divr divs divd dive divg divw divv divp divt LevM LevM2 TrimI QuoM FailM DivM RefM FitM TogM ProdM prodw GenW CompM CompP CrossM KeepK GuardM MakeM LsysM LsysM2 MakeM2 KeepB AtM ClsM LstM MakeM3 GuaW LeadM ValidM mkk mkp mkl mkc mkq mkg mkr mks
theorem ix_some {α:Type} [Inhabited α] {l:List α} {i:Nat} {x:α} (h:l[i]?=some x):ix l i=x:=by
 obtain⟨h1,h2⟩:=List.getElem?_eq_some_iff.1 h
 rw[ix_get h1,h2]
namespace T
theorem ent18:Ent Tryz.prog 18:=ent_of kR
end T
namespace mks2
theorem CopyA_ok (s:SS) (hs:size s≤100000000):
 AL.Fn Tryz.prog 18 [spec s] [] (ι:=Value) (fun _ v=>agg [strs s.aC,osl 230 (sv v)]) (fun v=> [(230,own (sv v) 79 2 sE s.sT)]):=by
 refine fnI Tryz.func18 rfl rfl (fun w0 F0=> ?_)
 obtain⟨hb0,hb1⟩:=size_bd s
 refine fcC (inhS 0 J) (fun hS0=> ?_)
 obtain⟨hsa0,hss0,hse0⟩:=sLn hS0
 refine sq (rg (bx (key:=1) (cs:= [sl 1 rE_ s.aC,sl 2 sE s.sT]) J fun b1=>(al (key:=2) T.z28 (eC (eC eZ)) fun b2=>(nl (th (sq (rg (fP J T.fld28_0 (lP J J J T.one22 (appendF (enc:=rE_) (ys:=s.aC) J J T.mk22 mL (bd (css:= [(0,_)]) T.st28 (eC (eC eZ)) ⟨J,J,p1 (φ:=sl 1 rE_ s.aC) J,tV⟩ (al (key:=3) T.z28 (eC (eC eZ)) fun b3=>(sPA (cs':= [sl 1 rE_ s.aC,eqv (.slice none 0 0)]) J J J T.agg28 J J (nl (th (sq (sq (rg (fP J T.fld28_1 (lP J J J T.one26 (fc (slenI 11 J) fun hm11=>(lnF J T.sl26 (mv (nl (th (bk ?_))))))))))))))))))))))))))
 refine nwC 230 79 2 sE (kncC 3 1 (osl 230 (.slice none 0 0)) rfl rfl eq_osl ?_)
 have hI0_0:0≤s.sT.length:=by
  first|omega|simp
 have hI0_1:([]:List SA)=s.sT.take 0:=by
  rfl
 refine lp (κ:=Nat × Value × (List SA)) (fun p=> [(2,ptr 2 b2 0),(3,ptr 3 b3 0),(11,sl 2 sE s.sT),(12,int (s.sT.length:Int)),(13,int (p.1:Int))]) (fun p=> [(1,cell b1 [sl 1 rE_ s.aC,sl 2 sE s.sT]),(2,cell b2 [eqv (.slice none 0 0),eqv (.slice none 0 0)]),(3,cell b3 [sl 1 rE_ s.aC,osl 230 p.2.1]),(230,own p.2.1 79 2 sE p.2.2)]) (fun p=>(p.1≤s.sT.length)∧(p.2.2=s.sT.take p.1)) (fun p=>s.sT.length- p.1) ⟨0,(.slice none 0 0),([]:List SA)⟩ ⟨hI0_0,hI0_1⟩ ⟨id,id,id,id,id,tV⟩ ⟨rI,rI,rI,rI,tV⟩ ?_
 intro⟨k,v,acc⟩ hG0
 obtain⟨hk0,hI0⟩:(k≤s.sT.length)∧(acc=s.sT.take k):=hG0
 show Ct _ _ _ _ [(2,ptr 2 b2 0),(3,ptr 3 b3 0),(11,sl 2 sE s.sT),(12,int (s.sT.length:Int)),(13,int (k:Int))] [(1,cell b1 [sl 1 rE_ s.aC,sl 2 sE s.sT]),(2,cell b2 [eqv (.slice none 0 0),eqv (.slice none 0 0)]),(3,cell b3 [sl 1 rE_ s.aC,osl 230 v]),(230,own v 79 2 sE acc)] _
 have hlen:acc.length≤k:=by rw[hI0];simp;omega
 refine sq (rg (bi J J b_lss (nl (th (sq ?_)))))
 refine cd J (fun hc0=> ?_) (fun hc0=> ?_)
 ·try simp at hc0
  have hb2:=hb1 k O
  refine sk (th (sq (bk (sq (rg (iF J J T.sl26 O gB (lFA J T.agg79 (Nat.le_of_ble_eq_true J) (al (key:=5) T.z79 (eC (eC eZ)) fun b5=>(sPA (cs':= [sl 1 nE (ix s.sT k).aP,sl 1 nE (ix s.sT k).next]) J J J T.agg79 J J (nl (th (dr (nh:=10) [0,1,0,4,12,0,32,124,252,508,1023,2047,4095] T.mixed kR ?_))))))))))))
  refine st_ J (fun _ _ _ gq kq=>fP (gq.1.trans J) T.fld28_1 kq) ?_
  refine st_ J (fun _ _ _ gq kq=>lP (gq.1.trans J) J J T.one26 kq) ?_
  refine st_ J (fun _ _ _ gq kq=>fP (gq.1.trans J) T.fld79_0 kq) ?_
  refine st_ J (fun _ _ _ gq kq=>lP (gq.1.trans J) J J T.one66 kq) ?_
  refine st_ J (fun _ _ _ gq kq=>appendF (enc:=nE) (ys:=(ix s.sT k).aP) J (gq.1.trans J) T.mk66 mL kq) ?_
  refine st_ J (fun _ _ _ gq kq=>fP (gq.1.trans J) T.fld79_1 kq) ?_
  refine st_ J (fun _ _ _ gq kq=>lP (gq.1.trans J) J J T.one66 kq) ?_
  refine st_ J (fun _ _ _ gq kq=>appendF (enc:=nE) (ys:=(ix s.sT k).next) J (gq.1.trans J) T.mk66 mL kq) ?_
  refine st_ J (fun _ _ _ gq kq=>bd (css:= [(0,_),(1,_)]) T.st79 (eC (eC eZ)) ⟨J,J,p1 (φ:=sl 1 nE (ix s.sT k).aP) (by exact(gq.1.trans J)),⟨J,J,p1 (φ:=sl 1 nE (ix s.sT k).next) (by exact(gq.2.1.trans J)),tV⟩⟩ kq) ?_
  refine st_ J (fun _ _ _ gq kq=>bsE (enc:=sE) (xs:= [(ix s.sT k)]) (css:= [[sl 1 nE (ix s.sT k).aP,sl 1 nE (ix s.sT k).next]]) T.mk26 ⟨J,J,pA (cs:= [sl 1 nE (ix s.sT k).aP,sl 1 nE (ix s.sT k).next]) (by exact(gq.1.trans J)),tV⟩ J J J J kq) ?_
  refine pn (ap (key:=230) (zs:= [(ix s.sT k)]) osl_eq J J J T.mk26 (by unfold maxL at*;simp;omega) (by unfold maxL at*;simp;omega) fun v27=>(fP J T.fld28_1 (storePO J J J J T.one26 J (nl (eb (th (rg (bi J J (b_add i6) (mv (nl ?_))))))))))
  have hN0:(k+1)≤s.sT.length:=by
   first|omega|simp_all
  have hN1:(acc++ [(ix s.sT k)])=s.sT.take (k+1):=by
   rw[hI0,take_s O]
  exact ln (⟨k+1,v27,acc++ [(ix s.sT k)]⟩:Nat × Value × (List SA)) ⟨hN0,hN1⟩ dO ⟨id,id,id,id,id,tV⟩ ⟨rI,rI,rI,rI,tV⟩
 ·try simp at hc0
  refine ex (xt_ (xt_ (xb (th (sq (rg (fc (svI 230 J) fun hsv230=> ?_)))))))
  rw[←hsv230]
  refine lPA rfl rfl T.agg28 rfl (sPA (cs':= [sl 1 rE_ s.aC,osl 230 (sv v)]) rfl rfl rfl T.agg28 rfl rfl (nl (th (rt ?_))))
  rw[show k=s.sT.length by omega,List.take_length] at hI0
  subst hI0
  exact rE v [.cell 2 28] J [agg [sl 1 rE_ s.aC,osl 230 (sv v)]] ⟨.agg J J T.agg28 J J,tV⟩ J ⟨rI,tV⟩ eX
theorem RefKeeping_ok (s:SS) (hs:oK s) (hz:size s≤100000000) (u:Int) (h0:0≤u) (h1:u<256):
 Fn0 Tryz.prog 24 [spec s,int u] (spec (keepK u s)):=by
 refine fnI Tryz.func24 rfl rfl (fun w0 F0=> ?_)
 have f1:=hs.few1;have hn8:=hs.n8
 refine fcC (inhS 0 J) (fun hS0=> ?_)
 obtain⟨hsa0,hss0,hse0⟩:=sLn hS0
 refine sq (rg (bx (key:=2) (cs:= [sl 1 rE_ s.aC,sl 2 sE s.sT]) J fun b2=>(al (key:=4) T.z28 (eC (eC eZ)) fun b4=>(nl (th (sq (rg (lPA J J T.agg28 J (cl (CopyA_ok s O) T.ent18 trivial fun N11 i11=>(ownEq (enc':=avE) (ys:=(s.sT.map frz)) 230 J (by rw[List.map_map];rfl) (al (key:=5) T.z28 (eC (eC eZ)) fun b5=>(sPA (cs':= [sl 1 rE_ s.aC,osl 230 (sv i11)]) J J J T.agg28 J J (nl (th (sq (sq (rg (fP J T.fld28_1 (lP J J J T.one26 (fc (slenI 13 J) fun hm13=>(lnF J T.sl26 (mv (nl (th (bk ?_)))))))))))))))))))))))))
 have hI0_0:0≤s.sT.length:=by
  first|omega|simp
 have hI0_1:(s.sT.map frz)=ksD s u 0:=by
  exact(ksD_zero s u).symm
 refine lp (κ:=Nat × (List KP)) (fun p=> [(1,int u),(4,ptr 4 b4 0),(5,ptr 5 b5 0),(13,sl 2 sE s.sT),(14,int (s.sT.length:Int)),(15,int (p.1:Int))]) (fun p=> [(2,cell b2 [sl 1 rE_ s.aC,sl 2 sE s.sT]),(4,cell b4 [eqv (.slice none 0 0),eqv (.slice none 0 0)]),(5,cell b5 [sl 1 rE_ s.aC,osl 230 (sv i11)]),(230,own (sv i11) 79 2 avE p.2)]) (fun p=>(p.1≤s.sT.length)∧(p.2=ksD s u p.1)) (fun p=>s.sT.length- p.1) ⟨0,(s.sT.map frz)⟩ ⟨hI0_0,hI0_1⟩ ⟨id,id,id,id,id,id,tV⟩ ⟨rI,rI,rI,rI,tV⟩ ?_
 intro⟨k,ks⟩ hG0
 obtain⟨hk0,hks⟩:(k≤s.sT.length)∧(ks=ksD s u k):=hG0
 show Ct _ _ _ _ [(1,int u),(4,ptr 4 b4 0),(5,ptr 5 b5 0),(13,sl 2 sE s.sT),(14,int (s.sT.length:Int)),(15,int (k:Int))] [(2,cell b2 [sl 1 rE_ s.aC,sl 2 sE s.sT]),(4,cell b4 [eqv (.slice none 0 0),eqv (.slice none 0 0)]),(5,cell b5 [sl 1 rE_ s.aC,osl 230 (sv i11)]),(230,own (sv i11) 79 2 avE ks)] _
 have hkl:ks.length=s.sT.length:=by rw[hks];exact ksD_len s u O
 refine sq (rg (bi J J b_lss (nl (th (sq ?_)))))
 refine cd J (fun hc0=> ?_) (fun hc0=> ?_)
 ·try simp at hc0
  have hst:=hs.st k O
  have hacl:=hst.acl
  have hksk:ix ks k=frz (ix s.sT k):=by rw[hks];exact ix_some (ksD_at O)
  refine sk (th (sq (bk (sq (rg (mv (iF J J T.sl26 O gB (lFA J T.agg79 (Nat.le_of_ble_eq_true J) (al (key:=7) T.z79 (eC (eC eZ)) fun b7=>(ag (sPA (cs':= [sl 1 nE (ix s.sT k).aP,sl 1 nE (ix s.sT k).next]) J J J T.agg79 J J (nl (th (sq (rg (fP J T.fld28_1 (lP J J J T.one26 (mv (iO J J J T.sl26 O O (fO J T.fld79_0 (sO (φ:=eqv (.slice none 0 0)) J J J T.one66 (gN (show k<ks.length by omega)) J (y':=(eqvP (.slice none 0 0),(ix ks k).2)) J (nw 140 3 1 nE (nl (th (sq (rg (fP J T.fld79_0 (lP J J J T.one66 (fc (slenI 26 J) fun hm26=>(lnF J T.sl66 (mv (nl (th (bk ?_))))))))))))))))))))))))))))))))))
  have hI1_0:0≤(ix s.sT k).aP.length:=by
   first|omega|simp
  have hI1_1:(ks.set k (eqvP (.slice none 0 0),(ix ks k).2))=ksE s u k (eqvP (sv (.slice none 0 0)))∧([]:List Int)=((ix s.sT k).aP.take 0).filter (fun v=>decide (andI v u=u)):=by
   refine⟨?_,rfl⟩
   rw[hksk,hks];rfl
  refine lp (κ:=Nat × Value × (List Int) × (List KP)) (fun p=> [(1,int u),(4,ptr 4 b4 0),(5,ptr 5 b5 0),(6,int (k:Int)),(13,sl 2 sE s.sT),(14,int (s.sT.length:Int)),(15,int (k:Int)),(26,sl 1 nE (ix s.sT k).aP),(27,int ((ix s.sT k).aP.length:Int)),(28,int (p.1:Int))]) (fun p=> [(2,cell b2 [sl 1 rE_ s.aC,sl 2 sE s.sT]),(4,cell b4 [eqv (.slice none 0 0),eqv (.slice none 0 0)]),(5,cell b5 [sl 1 rE_ s.aC,osl 230 (sv i11)]),(7,cell b7 [sl 1 nE (ix s.sT k).aP,sl 1 nE (ix s.sT k).next]),(140,own (sv p.2.1) 3 1 nE p.2.2.1),(230,own (sv i11) 79 2 avE p.2.2.2)]) (fun p=>(p.1≤(ix s.sT k).aP.length)∧(p.2.2.2=ksE s u k (eqvP (sv p.2.1))∧p.2.2.1=((ix s.sT k).aP.take p.1).filter (fun v=>decide (andI v u=u)))) (fun p=>(ix s.sT k).aP.length- p.1) ⟨0,(.slice none 0 0),([]:List Int),ks.set k (eqvP (.slice none 0 0),(ix ks k).2)⟩ ⟨hI1_0,hI1_1⟩ ⟨id,id,id,id,id,id,id,id,id,id,tV⟩ ⟨rI,rI,rI,rI,rI,rI,tV⟩ ?_
  intro⟨k1,v2,ac,kc⟩ hG1
  obtain⟨hk1,⟨hkc,hac⟩⟩:(k1≤(ix s.sT k).aP.length)∧(kc=ksE s u k (eqvP (sv v2))∧ac=((ix s.sT k).aP.take k1).filter (fun v=>decide (andI v u=u))):=hG1
  show Ct _ _ _ _ [(1,int u),(4,ptr 4 b4 0),(5,ptr 5 b5 0),(6,int (k:Int)),(13,sl 2 sE s.sT),(14,int (s.sT.length:Int)),(15,int (k:Int)),(26,sl 1 nE (ix s.sT k).aP),(27,int ((ix s.sT k).aP.length:Int)),(28,int (k1:Int))] [(2,cell b2 [sl 1 rE_ s.aC,sl 2 sE s.sT]),(4,cell b4 [eqv (.slice none 0 0),eqv (.slice none 0 0)]),(5,cell b5 [sl 1 rE_ s.aC,osl 230 (sv i11)]),(7,cell b7 [sl 1 nE (ix s.sT k).aP,sl 1 nE (ix s.sT k).next]),(140,own (sv v2) 3 1 nE ac),(230,own (sv i11) 79 2 avE kc)] _
  have hat:kc[k]?=some (eqvP (sv v2),(ix s.sT k).next):=by rw[hkc];exact ksE_at O
  have hkx:ix kc k=(eqvP (sv v2),(ix s.sT k).next):=ix_some hat
  have hacv:(ix kc k).1.1=eqv (sv v2):=by rw[hkx];rfl
  have hkcl:kc.length=s.sT.length:=by rw[hkc];exact ksE_len s u O
  have hall:ac.length≤k1:=by rw[hac];refine Nat.le_trans (List.length_filter_le _ _) ?_;rw[List.length_take];omega
  refine sq (rg (bi J J b_lss (nl (th (sq ?_)))))
  refine cd J (fun hc1=> ?_) (fun hc1=> ?_)
  ·try simp at hc1
   have hak:=hst.ac k1 O
   refine sk (th (sq (bk (sq (rg (iF J J T.sl66 O gB (lF J J T.one3 (ag (nl (th (sq (rg (mv (mv (bi J J (b_andI O O O O) (mv (bi J J b_eql (nl (th ?_)))))))))))))))))))
   refine cd J (fun hc2=> ?_) (fun hc2=> ?_)
   ·try simp at hc2
    refine drH (nh:=15) [0,1,0,0,8,0,56,120,248,0,512,2040,4095,8191,16383] [(none,[]),(none,[5]),(none,[]),(none,[]),(none,[5]),(none,[]),(none,[230]),(none,[]),(none,[230]),(none,[]),(none,[]),(some 140,[140]),(none,[230]),(none,[]),(some 230,[230])] T.mixed kR kR ?_
    refine stv (d:=37) (fun β0=>ptr 5 b5 1) [] J bH (fun β0 _ _ _ _ gq gh kq=>fP (gq.1.trans J) T.fld28_1 kq) ?_
    refine stv (d:=38) (fun β0=>osl 230 (sv i11)) [5] J bH (fun β0 _ _ _ _ gq gh kq=>lP (gq.1.trans J) (gh.1.trans J) J T.one26 kq) ?_
    refine stv (d:=39) (fun β0=>int (k:Int)) [] J bH (fun β0 _ _ _ _ gq gh kq=>mv' (gq.1.trans J) kq) ?_
    refine stv (d:=40) (fun β0=>ptr 5 b5 1) [] J bH (fun β0 _ _ _ _ gq gh kq=>fP (gq.1.trans J) T.fld28_1 kq) ?_
    refine stv (d:=41) (fun β0=>osl 230 (sv i11)) [5] J bH (fun β0 _ _ _ _ gq gh kq=>lP (gq.1.trans J) (gh.1.trans J) J T.one26 kq) ?_
    refine stv (d:=42) (fun β0=>int (k:Int)) [] J bH (fun β0 _ _ _ _ gq gh kq=>mv' (gq.1.trans J) kq) ?_
    refine stv (d:=43) (fun β0=>eptr 230 (sv i11) 2 k 0) [230] J bH (fun β0 _ _ _ _ gq gh kq=>iO (gq.1.trans J) (gh.1.trans J) (gq.2.1.trans J) T.sl26 O O kq) ?_
    refine stv (d:=44) (fun β0=>eptr 230 (sv i11) 2 k 0) [] J bH (fun β0 _ _ _ _ gq gh kq=>fO (gq.1.trans J) T.fld79_0 kq) ?_
    refine stv (d:=45) (fun β0=>osl 140 (sv v2)) [230] J bH (fun β0 _ _ _ _ gq gh kq=>lO (gq.1.trans J) (gh.1.trans J) gB J T.one66 (kd (φ':=osl 140 (sv v2)) (by rw[osl_is,←hacv];exact fun h=>h) kq)) ?_
    refine stv (d:=46) (fun β0=>int (ix (ix s.sT k).aP k1)) [] J bH (fun β0 _ _ _ _ gq gh kq=>mv' (gq.1.trans J) kq) ?_
    refine stv (d:=47) (fun β0=>sl 1 nE [(ix (ix s.sT k).aP k1)]) [] J bH (fun β0 _ _ _ _ gq gh kq=>bsE (enc:=nE) (xs:= [(ix (ix s.sT k).aP k1)]) (css:= [[int (ix (ix s.sT k).aP k1)]]) T.mk66 ⟨J,J,p1 (φ:=int (ix (ix s.sT k).aP k1)) (by exact(gq.1.trans J)),tV⟩ J J J J kq) ?_
    refine stc (d:=48) (e:=3) (n:=1) (enc:=nE) (xs:=ac++ [(ix (ix s.sT k).aP k1)]) 140 [140] rfl (fun β0 _ _ _ _ gq gh kq=>ap (key:=140) (zs:= [(ix (ix s.sT k).aP k1)]) (fun h=>osl_of (gq.1.trans rfl) h) (gh.1.trans rfl) (gq.2.1.trans rfl) rfl T.mk66 (by unfold maxL at*;simp;omega) (by unfold maxL at*;simp;omega) fun v=>kq v) ?_
    refine stv (d:=49) (fun β0=>eptr 230 (sv i11) 2 k 0) [230] J bH (fun β0 _ _ _ _ gq gh kq=>iO (gq.1.trans J) (gh.1.trans J) (gq.2.1.trans J) T.sl26 O O kq) ?_
    refine stv (d:=50) (fun β0=>eptr 230 (sv i11) 2 k 0) [] J bH (fun β0 _ _ _ _ gq gh kq=>fO (gq.1.trans J) T.fld79_0 kq) ?_
    refine stw 230 (fun β0=>own (sv i11) 79 2 avE (kc.set k (eqvP (sv (β0 11)),(ix kc k).2))) [230] J (fun β β' hb=>by first|rw[hb 11 J]|(dsimp only;rw[hb 11 J])) (fun β0 _ _ _ _ gq gh kq=>sO (φ:=eqv (sv (β0 11))) (gq.1.trans J) (gh.1.trans J) ((gq.2.1.trans J).trans osl_is) T.one66 (gN (show k<kc.length by omega)) J (y':=(eqvP (sv (β0 11)),(ix kc k).2)) J kq) ?_
    refine pnH fun β0=>(nl (eb (th (rg (bi J J (b_add i6) (mv (nl ?_)))))))
    have hN0:(k1+1)≤(ix s.sT k).aP.length:=by
     first|omega|simp_all
    have hN1:(kc.set k (eqvP (sv (β0 11)),(ix kc k).2))=ksE s u k (eqvP (sv (β0 11)))∧(ac++ [(ix (ix s.sT k).aP k1)])=((ix s.sT k).aP.take (k1+1)).filter (fun v=>decide (andI v u=u)):=by
     refine⟨?_,?_⟩
     ·rw[hkx,hkc];exact ksE_set
     ·rw[keep_snoc O (by simpa [andI] using hc2),←hac]
    exact ln (⟨k1+1,(β0 11),ac++ [(ix (ix s.sT k).aP k1)],kc.set k (eqvP (sv (β0 11)),(ix kc k).2)⟩:Nat × Value × (List Int) × (List KP)) ⟨hN0,hN1⟩ dO ⟨id,id,id,id,id,id,id,id,id,id,tV⟩ ⟨rI,rI,rI,rI,rI,rI,tV⟩
   ·try simp at hc2
    refine sk (eb (th (rg (bi J J (b_add i6) (mv (nl ?_))))))
    have hN0:(k1+1)≤(ix s.sT k).aP.length:=by
     first|omega|simp_all
    have hN1:kc=ksE s u k (eqvP (sv v2))∧ac=((ix s.sT k).aP.take (k1+1)).filter (fun v=>decide (andI v u=u)):=by
     exact⟨hkc,by rw[keep_same_ O (by simpa [andI] using hc2),←hac]⟩
    exact ln (⟨k1+1,v2,ac,kc⟩:Nat × Value × (List Int) × (List KP)) ⟨hN0,hN1⟩ dO ⟨id,id,id,id,id,id,id,id,id,id,tV⟩ ⟨rI,rI,rI,rI,rI,rI,tV⟩
  ·try simp at hc1
   refine ex (xt_ (xt_ (xb (eb (th (rg (fzE 140 230 k 0 (slP ac,(ix s.sT k).next) J J (by decide) hat J J (bi J J (b_add i6) (mv (nl ?_))))))))))
   have hN0:(k+1)≤s.sT.length:=by
    first|omega|simp_all
   have hN1:(kc.set k (slP ac,(ix s.sT k).next))=ksD s u (k+1):=by
    rw[hkc,ksE_set,hac,show k1=(ix s.sT k).aP.length by omega,List.take_length];exact ksE_done O
   exact ln (⟨k+1,kc.set k (slP ac,(ix s.sT k).next)⟩:Nat × (List KP)) ⟨hN0,hN1⟩ dO ⟨id,id,id,id,id,id,tV⟩ ⟨rI,rI,rI,rI,tV⟩
 ·try simp at hc0
  refine ex (xt_ (xt_ (xb (th (sq (rg (ownEq (enc':=sE) (ys:=(keepK u s).sT) 230 J (by rw[hks,show k=s.sT.length by omega];exact ksD_end s u) (fzc 5 230 1 J J J J (lPA J J T.agg28 J (sPA (cs':= [sl 1 rE_ s.aC,sl 2 sE (keepK u s).sT]) J J J T.agg28 J J (nl (th (rt ?_)))))))))))))
  have hr0:s.aC=(keepK u s).aC:=by
   first|rfl|simp_all|omega
  exact rE () [.cell 4 28] J [agg [sl 1 rE_ s.aC,sl 2 sE (keepK u s).sT]] ⟨.agg J J T.agg28 J J,tV⟩ (cA1 (fun x0=>rV [agg [sl 1 rE_ x0,sl 2 sE (keepK u s).sT]]) hr0) trivial eX
end mks2
end
section
namespace FixM
open CompP ref01 ref03 ref04 ref06 Part Rungs LeftM TrimM RoundM MergeM BisM BisM3 BisM4 BisM5 BisM6 Keys WalkM WitM JudgM JudgM2 LevM divr divs divd dive divf divv judg refj sysw satj ChsM BisS TrimI ValidM WitSat WitVal QuoM FailM DivM RefM GenW CompM CrossM FitM TogM KeepK GuardM MakeM LsysM LsysM2 MakeM2 KeepB LstM MakeM3 GuaW LeadM
section
variable {s:SS} (hs:oK s) {ch:SS→Nat→Int} (hc:∀y,y<s.sT.length→ch s y∈acc s y)
include hs hc
theorem mde_small (hf:s.sT.length≤500):(mdeM ch s).sT.length≤500∧sumLen (mdeM ch s).sT≤4000:=by
 have hm:=mkM_ok hs hc
 obtain⟨g,hk,_⟩:=kY_ok (prt_ok hm)
 have ho:=lst_ok (prt_ok hm) hk
 have e1:(mkM (ch s) s).sT.length=s.sT.length:=by simp[mkM]
 have e2:=ordY_le hm
 have e3:=hk.few
 rw[prtM_len] at e3
 have hl:=lst_len (prtM (mkM (ch s) s)) (kY (prtM (mkM (ch s) s))) (classesY (prtM (mkM (ch s) s)))
 have h5:(mdeM ch s).sT.length≤500:=by
  show(lstM (prtM (mkM (ch s) s)) (kY (prtM (mkM (ch s) s))) (classesY (prtM (mkM (ch s) s)))).sT.length≤500
  omega
 refine⟨h5,Nat.le_trans (sum_le (K:=8) fun l hl2=> ?_) O⟩
 obtain⟨c,hc2,rfl⟩:=List.getElem_of_mem hl2
 have hc3:c<kY (prtM (mkM (ch s) s)):=by
  have hc4:c<(lstM (prtM (mkM (ch s) s)) (kY (prtM (mkM (ch s) s))) (classesY (prtM (mkM (ch s) s)))).sT.length:=hc2
  omega
 have:=made_len hs hc hk hc3
 rw[←ix_get hc2]
 exact this
end
structure MadeP (x:SSys) (g:SS) (u:Int):Prop where
 ok:sysOK x=true
 acts:x.aC=g.aC
 sat:SatM x g
 keep:KeepsP x u
 few:x.sT.length≤500
 sum:sumLen x.sT≤4000
theorem mad_cases {g:SS} {ok:Bool} {u:Int} (hg:ok=true→oK g∧g.sT.length≤500):
 (ok=false∧madS g ok u=(⟨[],[]⟩,2))∨(ok=true∧ix (hOl (keepK u g)) 0=true∧madS g ok u=(⟨[],[]⟩,3))∨(ok=true∧ix (hOl (keepK u g)) 0=false∧(madS g ok u).2=0∧MadeP (madS g ok u).1 g u):=by
 cases ok with
 |false=>exact .inl ⟨rfl,mad_large⟩
 |true=>
  obtain⟨hk,hf⟩:=hg rfl
  right
  obtain⟨hT,hT5⟩:=keepT_few hk hf u
  have hh:=keepT_hollow hk hf u
  cases e:ix (hOl (tR (keepK u g)).1) 0 with
  |true=>exact .inl ⟨rfl,by rw[←hh];exact e,mad_none e⟩
  |false=>
   right
   rw[mad_yes e]
   have hfree:=keepT_free hk hf e
   have hc:=lgC_in hfree
   have hv:=mde_valid hT (ch:=lgC) hc hT5
   have hsat:=(sat_keepT hk (u:=u)).1 (mde_sat hT (ch:=lgC) hc)
   have hsm:=mde_small hT (ch:=lgC) hc hT5
   exact⟨rfl,by rw[←hh];exact e,rfl,hv,(mde_acts hT (ch:=lgC) hc).trans (trim_acts _),hsat.1,hsat.2,hsm.1,hsm.2⟩
theorem ctl_cases {m:SSys} {t:SS} {u:Int} (hf:fineSE m t=0) (hu:isSet (t.aC.length:Int) u=true):
 ((guaS m t).2=false∧ctlS m t u=(⟨[],[]⟩,2))∨((guaS m t).2=true∧ix (hOl (keepK u (guaS m t).1)) 0=true∧ctlS m t u=(⟨[],[]⟩,3))∨
 ((guaS m t).2=true∧ix (hOl (keepK u (guaS m t).1)) 0=false∧(ctlS m t u).2=0∧sysOK (ctlS m t u).1=true∧(ctlS m t u).1.aC=t.aC∧WellT m (ctlS m t u).1 t∧KeepsP (ctlS m t u).1 u∧(ctlS m t u).1.sT.length≤500∧sumLen (ctlS m t u).1.sT≤4000):=by
 obtain⟨hmv,htv,hmt⟩:=fineSE_ok hf
 have hm:=sysOK_ok hmv
 have ht:=okSpec_of htv
 have e:ctlS m t u=madS (guaS m t).1 (guaS m t).2 u:=by unfold ctlS;rw[if_pos hf,if_pos hu]
 rw[e]
 rcases mad_cases (u:=u) (fun h=>⟨(gua_ok hm ht h).1,(gua_ok hm ht h).2.1⟩:(guaS m t).2=true→oK (guaS m t).1∧(guaS m t).1.sT.length≤500) with h|h|⟨h1,h2,h3,h4⟩
 ·exact .inl h
 ·exact .inr (.inl h)
 ·refine .inr (.inr ⟨h1,h2,h3,h4.ok,h4.acts.trans (gua_ok hm ht h1).2.2,?_,h4.keep,h4.few,h4.sum⟩)
  exact(gua_sat hm (sysOK_ok h4.ok) ht (h4.acts.trans (gua_ok hm ht h1).2.2) h1).1 h4.sat
def looseS:SSys:=⟨[⟨#[97]⟩,⟨#[98]⟩],[[(0,0),(1,0)]]⟩
def strictS:SS:=⟨[⟨#[97]⟩,⟨#[98]⟩],[⟨[1],[0,-1]⟩]⟩
theorem loose_valid:sysOK looseS=true:=by decide+kernel
theorem strict_valid:specOK strictS=true:=by decide+kernel
theorem strict_okS:oK strictS:=okSpec_of strict_valid
theorem fix_fine:fineSE looseS strictS=0:=by
 unfold fineSE
 rw[if_pos loose_valid,if_pos strict_valid,if_pos (show looseS.aC=strictS.aC from rfl)]
theorem fix_gl:gL looseS strictS= [[(0,0)]]:=by unfold gL;decide+kernel
theorem fix_gd:gD looseS strictS=strictS:=by unfold gD;rw[fix_gl];decide+kernel
theorem strict_not:ix (hOl strictS) 0=false:=CompP.not_hol (by decide) (by decide)
theorem strict_trim:(tR strictS).1=strictS:=by
 have hs:=strict_okS
 have hn:=strict_not
 have ho:ordS strictS= [0]:=by
  have h1:(ordS strictS).length≤1:=ord_le hs
  have h2:=ordS_pos strictS
  have h3:=BisM2.ord_zero strictS
  match hq:ordS strictS,h1,h2,h3 with
  | [y],_,_,h3=>rw[show y=0 from h3]
 have hk:keep strictS 0= [1]:=keep_all hs (by decide) (by decide)
 rw[trimmed_not hn]
 show(⟨strictS.aC,(ordS strictS).map (tstate strictS)⟩:SS)=strictS
 rw[ho]
 show(⟨strictS.aC,[tstate strictS 0]⟩:SS)=strictS
 unfold tstate tnext
 rw[show(0:Int).toNat=0 from rfl,hk,ho]
 decide
theorem fix_gua:guaS looseS strictS=(strictS,true):=by
 unfold guaS
 rw[fix_gl,if_pos (by decide),fix_gd,strict_trim]
theorem fix_gds:gdS looseS strictS=(strictS,0):=by
 unfold gdS
 rw[if_pos fix_fine,fix_gua,if_pos rfl]
theorem fix_set (u:Int) (h:u=1∨u=2):isSet (strictS.aC.length:Int) u=true:=by
 rcases h with rfl|rfl<;>decide
theorem fix_hol:ix (hOl (keepK 2 strictS)) 0=true:=by
 cases e:ix (hOl (keepK 2 strictS)) 0 with
 |true=>rfl
 |false=>
  obtain⟨x,R,hR,h0⟩:=(hollow_iff (keepK_ok strict_okS 2)).1 e
  have:=hR.acc h0
  have:=(keepK_acc (s:=strictS) (k:=0) (by decide)).1 this
  have h1:offM x 0=1:=List.mem_singleton.1 this.1
  rw[h1] at this
  exact absurd this.2 (by decide)
theorem fix_ctl2:ctlS looseS strictS 2=(⟨[],[]⟩,3):=by
 rcases ctl_cases fix_fine (fix_set 2 (.inr rfl)) with⟨h,_⟩|⟨_,_,h⟩|⟨_,h,_⟩
 ·rw[fix_gua] at h;cases h
 ·exact h
 ·rw[fix_gua] at h
  rw[show((strictS,true):SS × Bool).1=strictS from rfl,fix_hol] at h;cases h
theorem one_sys:SatM ⟨[⟨#[97]⟩,⟨#[98]⟩],[[(0,0)]]⟩ (keepK 1 strictS):=by
 refine sat_keeps.2 ⟨⟨fun x y=>x=0∧y=0,⟨fun {x y} h=>by rw[h.2];decide,fun {x y} h=>by rw[h.1,h.2];decide,fun {x y} h e he=> ?_,fun {x y} h e he=> ?_⟩,rfl,rfl⟩,fun x hx=> ?_⟩
 ·rw[h.1] at he
  rw[h.2]
  have:e=(0,0):=by
   obtain⟨d,hd,rfl⟩:=List.mem_map.1 he
   rw[List.mem_singleton.1 (show d∈[((0,0):PP)] from hd)];rfl
  rw[this];decide
 ·rw[h.1] at he
  rw[h.2]
  have:e=(0,0):=by
   obtain⟨d,hd,rfl⟩:=List.mem_map.1 he
   rw[List.mem_singleton.1 (show d∈[((0,0):PP)] from hd)];rfl
  rw[this];exact⟨by decide,by decide,by decide⟩
 ·have:x=0:=by
   induction hx with
   |zero=>rfl
   |step h1 h2 ih=>
    rw[ih] at h2
    have:=List.mem_singleton.1 h2
    rw[this];rfl
  rw[this];decide
theorem fix_ctl1:(ctlS looseS strictS 1).2=0∧sysOK (ctlS looseS strictS 1).1=true∧(ctlS looseS strictS 1).1.aC=strictS.aC∧WellT looseS (ctlS looseS strictS 1).1 strictS∧KeepsP (ctlS looseS strictS 1).1 1∧(ctlS looseS strictS 1).1.sT.length≤500∧sumLen (ctlS looseS strictS 1).1.sT≤4000:=by
 rcases ctl_cases fix_fine (fix_set 1 (.inl rfl)) with⟨h,_⟩|⟨_,h,_⟩|⟨_,_,h⟩
 ·rw[fix_gua] at h;cases h
 ·rw[fix_gua] at h
  have:ix (hOl (keepK 1 strictS)) 0=false:=(hollow_iff (keepK_ok strict_okS 1)).2 ⟨_,one_sys⟩
  rw[show((strictS,true):SS × Bool).1=strictS from rfl,this] at h;cases h
 ·exact h
theorem rgt_zero {x m:SSys} {t:SS} {u:Int} (hx:sysOK x=true) (hm:sysOK m=true) (ht:specOK t=true) (h1:x.aC=m.aC) (h2:x.aC=t.aC) (hu:isSet (t.aC.length:Int) u=true):rgtE x m t u=0:=by
 unfold rgtE
 rw[if_pos ⟨hx,hm⟩,if_pos ht,if_pos ⟨h1,h2⟩,if_pos hu]
theorem rgt_true {x m:SSys} {t:SS} {u:Int} (hE:rgtE x m t u=0) (hx:okSys x) (hw:WellT m x t) (hk:KeepsP x u):rgtB x m t u=true:=by
 unfold rgtB
 rw[hE,decide_eq_true rfl,Bool.true_and,(keeps_iff hx).2 hk,Bool.and_true]
 simp[hw]
theorem fix_right:rgtE (ctlS looseS strictS 1).1 looseS strictS 1=0∧rgtB (ctlS looseS strictS 1).1 looseS strictS 1=true:=by
 obtain⟨_,h1,h2,h3,h4,_⟩:=fix_ctl1
 have e:=rgt_zero h1 loose_valid strict_valid (h2.trans rfl) h2 (fix_set 1 (.inl rfl))
 exact⟨e,rgt_true e (sysOK_ok h1) h3 h4⟩
end FixM
end
section
open ref01 ref03 ref04 ref06 prog prog2 prog3 prog4 prog5 prog6 prog7 prog8 prog9 prog13 prog15 starts Part Rungs LeftM TrimM RoundM MergeM BisM BisM4 BisM5 Itoa Keys WalkM StepM WitM JudgM JudgM2 search refw judg wit refj sysw satj divr divs divd dive divg divw divv divp divt LevM LevM2 TrimI QuoM FailM DivM RefM FitM TogM ProdM prodw GenW CompM CompP CrossM KeepK GuardM MakeM LsysM LsysM2 MakeM2 KeepB AtM ClsM LstM MakeM3 GuaW LeadM FixM ValidM mkk mkp mkl mkc mkq mkg mkr mks mks2
def lightK (s:SS) (n:Int):Bool:=decide ((s.sT.length:Int)≤n)&&few s 400
theorem lightK_f {s:SS} {n:Int} (h:lightK s n=true):(s.sT.length:Int)≤n∧(size s:Int)≤400:=by
 unfold lightK few at h
 rw[Bool.and_eq_true,decide_eq_true_eq,decide_eq_true_eq] at h
 exact h
namespace T
theorem ent46:Ent Tryz.prog 46:=ent_of kR
theorem ent47:Ent Tryz.prog 47:=ent_of kR
theorem ent48:Ent Tryz.prog 48:=ent_of kR
theorem ent16:Ent Tryz.prog 16:=ent_of kR
theorem ent25:Ent Tryz.prog 25:=ent_of kR
theorem ent30:Ent Tryz.prog 30:=ent_of kR
end T
namespace mkv
theorem light18_ok (s:SS) (n:Int):
 Fn0 Tryz.prog 12 [spec s,int n] (bl (lightK s n)):=by
 refine fnI Tryz.func12 rfl rfl (fun w0 F0=> ?_)
 refine fcC (inhS 0 J) (fun hS0=> ?_)
 obtain⟨hsa0,hss0,hse0⟩:=sLn hS0
 refine sq (rg (bx (key:=2) (cs:= [sl 1 rE_ s.aC,sl 2 sE s.sT]) J fun b2=>(ag (nl (th (sq (rg (fP J T.fld28_1 (lP J J J T.one26 (fc (slenI 6 J) fun hm6=>(lnF J T.sl26 (mv (bi J J b_leq (mv ?_))))))))))))))
 apply gAnd (t:=10) (pd:=13) rfl
 rotate_left
 ·intro hg0 fin
  have hg0':=hg0
  try simp at hg0'
  exact gy J J J hg0 (lPA J J T.agg28 J (gy J J J hg0 (cal0 (φs:= [agg [sl 1 rE_ s.aC,sl 2 sE s.sT],int 400]) (φ:=bl (few s 400)) ⟨J,J,tV⟩ (ref03.Few_ok s _ O) T.ent46 (pkT J hg0 J (drp (X:= [(12,_),(11,_)]) ⟨J,J,tV⟩ fin)))))
 ·intro hg0 fin
  exact gn J J J hg0 J J (gn J J J hg0 J J (pkF J hg0 J (drp (X:= [(12,_),(11,_)]) ⟨J,J,tV⟩ fin)))
 refine ag (nl (th (rt ?_)))
 have hr0:((decide ((s.sT.length:Int)≤n))&&(few s 400))=(lightK s n):=by
  rfl
 exact rE () [.tmp 4] J [bl ((decide ((s.sT.length:Int)≤n))&&(few s 400))] ⟨.tmp J,tV⟩ (cA1 (fun x0=>rV [bl x0]) hr0) trivial eX
theorem loose_ok:
 Fn0 Tryz.prog 47 [] (sys looseS):=by
 refine fnI Tryz.func47 rfl rfl (fun w0 F0=> ?_)
 refine sq (rg (al (key:=0) T.z25 (eC (eC eZ)) fun b0=>(nl (th (sq (rg (bsE (enc:=rE_) (xs:= [({ data:= #[97] }),({ data:= #[98] })]) (css:= [[str ({ data:= #[97] })],[str ({ data:= #[98] })]]) T.mk22 ⟨J,J,p1 (φ:=str ({ data:= #[97] })) J,⟨J,J,p1 (φ:=str ({ data:= #[98] })) J,tV⟩⟩ J J J J (bd (css:= []) T.st94 (eC (eC eZ)) trivial (bd (css:= [(0,_)]) T.st94 (eC (eC eZ)) ⟨J,J,p1 (φ:=int 1) J,tV⟩ (bsE (enc:=pE) (xs:= [(0,0),(1,0)]) (css:= [[int 0,int 0],[int 1,int 0]]) T.mk87 ⟨J,J,pA (cs:= [int 0,int 0]) J,⟨J,J,pA (cs:= [int 1,int 0]) J,tV⟩⟩ J J J J (bsE (enc:=gE) (xs:= [[(0,0),(1,0)]]) (css:= [[sl 2 pE [(0,0),(1,0)]]]) T.mk23 ⟨J,J,p1 (φ:=sl 2 pE [(0,0),(1,0)]) J,tV⟩ J J J J (bd (css:= [(0,_),(1,_)]) T.st25 (eC (eC eZ)) ⟨J,J,p1 (φ:=sl 1 rE_ [({ data:= #[97] }),({ data:= #[98] })]) J,⟨J,J,p1 (φ:=sl 1 gE [[(0,0),(1,0)]]) J,tV⟩⟩ (sPA (cs':= [sl 1 rE_ [({ data:= #[97] }),({ data:= #[98] })],sl 1 gE [[(0,0),(1,0)]]]) J J J T.agg25 J J (nl (th (rt ?_))))))))))))))))
 have hr0: [({ data:= #[97] }),({ data:= #[98] })]=looseS.aC:=by
  first|rfl|simp_all|omega
 have hr1: [[(0,0),(1,0)]]=looseS.sT:=by
  first|rfl|simp_all|omega
 exact rE () [.cell 0 25] J [agg [sl 1 rE_ [({ data:= #[97] }),({ data:= #[98] })],sl 1 gE [[(0,0),(1,0)]]]] ⟨.agg J J T.agg25 J J,tV⟩ (cA2 (fun x0 x1=>rV [agg [sl 1 rE_ x0,sl 1 gE x1]]) hr0 hr1) trivial eX
theorem strict_ok:
 Fn0 Tryz.prog 48 [] (spec strictS):=by
 refine fnI Tryz.func48 rfl rfl (fun w0 F0=> ?_)
 refine sq (rg (al (key:=0) T.z28 (eC (eC eZ)) fun b0=>(nl (th (sq (rg (bsE (enc:=rE_) (xs:= [({ data:= #[97] }),({ data:= #[98] })]) (css:= [[str ({ data:= #[97] })],[str ({ data:= #[98] })]]) T.mk22 ⟨J,J,p1 (φ:=str ({ data:= #[97] })) J,⟨J,J,p1 (φ:=str ({ data:= #[98] })) J,tV⟩⟩ J J J J (bsE (enc:=nE) (xs:= [1]) (css:= [[int 1]]) T.mk66 ⟨J,J,p1 (φ:=int 1) J,tV⟩ J J J J (bsE (enc:=nE) (xs:= [0,(-1)]) (css:= [[int 0],[int (-1)]]) T.mk66 ⟨J,J,p1 (φ:=int 0) J,⟨J,J,p1 (φ:=int (-1)) J,tV⟩⟩ J J J J (bd (css:= [(0,_),(1,_)]) T.st79 (eC (eC eZ)) ⟨J,J,p1 (φ:=sl 1 nE [1]) J,⟨J,J,p1 (φ:=sl 1 nE [0,(-1)]) J,tV⟩⟩ (bsE (enc:=sE) (xs:= [(⟨[1],[0,(-1)]⟩)]) (css:= [[sl 1 nE [1],sl 1 nE [0,(-1)]]]) T.mk26 ⟨J,J,pA (cs:= [sl 1 nE [1],sl 1 nE [0,(-1)]]) J,tV⟩ J J J J (bd (css:= [(0,_),(1,_)]) T.st28 (eC (eC eZ)) ⟨J,J,p1 (φ:=sl 1 rE_ [({ data:= #[97] }),({ data:= #[98] })]) J,⟨J,J,p1 (φ:=sl 2 sE [(⟨[1],[0,(-1)]⟩)]) J,tV⟩⟩ (sPA (cs':= [sl 1 rE_ [({ data:= #[97] }),({ data:= #[98] })],sl 2 sE [(⟨[1],[0,(-1)]⟩)]]) J J J T.agg28 J J (nl (th (rt ?_))))))))))))))))
 have hr0: [({ data:= #[97] }),({ data:= #[98] })]=strictS.aC:=by
  first|rfl|simp_all|omega
 have hr1: [(⟨[1],[0,(-1)]⟩)]=strictS.sT:=by
  first|rfl|simp_all|omega
 exact rE () [.cell 0 28] J [agg [sl 1 rE_ [({ data:= #[97] }),({ data:= #[98] })],sl 2 sE [(⟨[1],[0,(-1)]⟩)]]] ⟨.agg J J T.agg28 J J,tV⟩ (cA2 (fun x0 x1=>rV [agg [sl 1 rE_ x0,sl 2 sE x1]]) hr0 hr1) trivial eX
theorem awake18_ok:
 AL.Fn Tryz.prog 13 [] [(998,ambH tab)] (ι:=Unit) (fun _ _=>bl true) (fun _=> []):=by
 refine fnI Tryz.func13 rfl rfl (fun w0 F0=> ?_)
 have hsm:smallSpec strictS:=strict_okS.small
 obtain⟨q1,q2,q3,q4,q5,q6,q7⟩:=fix_ctl1
 obtain⟨r1,r2⟩:=fix_right
 have q8:=fix_ctl2
 have q9:=fix_gds
 have hz:looseS.sT.length*(ctlS looseS strictS 1).1.sT.length<5000:=by show 1*_<5000;omega
 have hz2:sumLen looseS.sT*sumLen (ctlS looseS strictS 1).1.sT≤400000:=by show 2*_≤400000;omega
 refine tbH 9999 998 rfl ?_
 refine sq (rg (ag (nl (th (sq (rg (cal0 (φs:= []) (φ:=agg [sl 1 rE_ looseS.aC,sl 1 gE looseS.sT]) trivial mkv.loose_ok T.ent47 (cal0 (φs:= []) (φ:=agg [sl 1 rE_ strictS.aC,sl 2 sE strictS.sT]) trivial mkv.strict_ok T.ent48 (tbU (ψ:=tab) 10 9999 J J (cal0 (φs:= [both (agg [sl 1 rE_ looseS.aC,sl 1 gE looseS.sT]) tab,agg [sl 1 rE_ strictS.aC,sl 2 sE strictS.sT]]) (φ:=tup [agg [sl 1 rE_ ((gdS looseS strictS).1).aC,sl 2 sE ((gdS looseS strictS).1).sT],int ((gdS looseS strictS).2)]) ⟨J,J,tV⟩ (mkg.Guard_ok looseS strictS aS) T.ent16 (mv (xt J J (kn 13 (spec strictS) J (by rw[q9];exact fun h=>h) (xt J J (al (key:=1) T.z28 (eC (eC eZ)) fun b1=>(sPA (cs':= [sl 1 rE_ strictS.aC,sl 2 sE strictS.sT]) J J J T.agg28 J J (ag (nl (th (sq (rg (cal0 (φs:= []) (φ:=agg [sl 1 rE_ looseS.aC,sl 1 gE looseS.sT]) trivial mkv.loose_ok T.ent47 (cal0 (φs:= []) (φ:=agg [sl 1 rE_ strictS.aC,sl 2 sE strictS.sT]) trivial mkv.strict_ok T.ent48 (tbU (ψ:=tab) 16 9999 J J (calW (φs:= [both (agg [sl 1 rE_ looseS.aC,sl 1 gE looseS.sT]) tab,agg [sl 1 rE_ strictS.aC,sl 2 sE strictS.sT],int 1]) (φ:=tup [agg [sl 1 rE_ ((ctlS looseS strictS 1).1).aC,sl 1 gE ((ctlS looseS strictS 1).1).sT],int ((ctlS looseS strictS 1).2)]) ⟨J,J,J,tV⟩ (mkr.Control_ok looseS strictS aS 1) T.ent25 (fun N hN=>fun h=>tup_le (cs:= [agg [fre N (sl 1 rE_ ((ctlS looseS strictS 1).1).aC),fre N (sl 1 gE ((ctlS looseS strictS 1).1).sT)],int ((ctlS looseS strictS 1).2)]) (ds:= [agg [sl 1 rE_ ((ctlS looseS strictS 1).1).aC,sl 1 gE ((ctlS looseS strictS 1).1).sT],int ((ctlS looseS strictS 1).2)]) ⟨fun h=>agg_le (cs:= [fre N (sl 1 rE_ ((ctlS looseS strictS 1).1).aC),fre N (sl 1 gE ((ctlS looseS strictS 1).1).sT)]) (ds:= [sl 1 rE_ ((ctlS looseS strictS 1).1).aC,sl 1 gE ((ctlS looseS strictS 1).1).sT]) ⟨fun h=>nw_le h,fun h=>nw_le h,tV⟩ h,fun h=>h,tV⟩ h) (mv (xt J J (xt J J (al (key:=3) T.z25 (eC (eC eZ)) fun b3=>(sPA (cs':= [sl 1 rE_ ((ctlS looseS strictS 1).1).aC,sl 1 gE ((ctlS looseS strictS 1).1).sT]) J J J T.agg25 J J (ag (nl (th (sq (rg (cal0 (φs:= []) (φ:=agg [sl 1 rE_ looseS.aC,sl 1 gE looseS.sT]) trivial mkv.loose_ok T.ent47 (cal0 (φs:= []) (φ:=agg [sl 1 rE_ strictS.aC,sl 2 sE strictS.sT]) trivial mkv.strict_ok T.ent48 (tbU (ψ:=tab) 22 9999 J J (calW (φs:= [both (agg [sl 1 rE_ looseS.aC,sl 1 gE looseS.sT]) tab,agg [sl 1 rE_ strictS.aC,sl 2 sE strictS.sT],int 2]) (φ:=tup [agg [sl 1 rE_ ((ctlS looseS strictS 2).1).aC,sl 1 gE ((ctlS looseS strictS 2).1).sT],int ((ctlS looseS strictS 2).2)]) ⟨J,J,J,tV⟩ (mkr.Control_ok looseS strictS aS 2) T.ent25 (fun N hN=>fun h=>tup_le (cs:= [agg [fre N (sl 1 rE_ ((ctlS looseS strictS 2).1).aC),fre N (sl 1 gE ((ctlS looseS strictS 2).1).sT)],int ((ctlS looseS strictS 2).2)]) (ds:= [agg [sl 1 rE_ ((ctlS looseS strictS 2).1).aC,sl 1 gE ((ctlS looseS strictS 2).1).sT],int ((ctlS looseS strictS 2).2)]) ⟨fun h=>agg_le (cs:= [fre N (sl 1 rE_ ((ctlS looseS strictS 2).1).aC),fre N (sl 1 gE ((ctlS looseS strictS 2).1).sT)]) (ds:= [sl 1 rE_ ((ctlS looseS strictS 2).1).aC,sl 1 gE ((ctlS looseS strictS 2).1).sT]) ⟨fun h=>nw_le h,fun h=>nw_le h,tV⟩ h,fun h=>h,tV⟩ h) (mv (xt J J (xt J J (al (key:=5) T.z25 (eC (eC eZ)) fun b5=>(sPA (cs':= [sl 1 rE_ ((ctlS looseS strictS 2).1).aC,sl 1 gE ((ctlS looseS strictS 2).1).sT]) J J J T.agg25 J J (ag (nl (th (sq (dr (nh:=9) [0,0,2,7,15,31,31,63,255] T.mixed kR ?_)))))))))))))))))))))))))))))))))))))))))))))))))
 refine st_ J (fun _ _ _ gq kq=>lPA (gq.1.trans J) J T.agg25 J kq) ?_
 refine st_ J (fun _ _ _ gq kq=>cal0 (φs:= []) (φ:=agg [sl 1 rE_ looseS.aC,sl 1 gE looseS.sT]) trivial mkv.loose_ok T.ent47 kq) ?_
 refine st_ J (fun _ _ _ gq kq=>cal0 (φs:= []) (φ:=agg [sl 1 rE_ strictS.aC,sl 2 sE strictS.sT]) trivial mkv.strict_ok T.ent48 kq) ?_
 refine st_ J (fun _ _ _ gq kq=>cal0 (φs:= [agg [sl 1 rE_ ((ctlS looseS strictS 1).1).aC,sl 1 gE ((ctlS looseS strictS 1).1).sT],agg [sl 1 rE_ looseS.aC,sl 1 gE looseS.sT],agg [sl 1 rE_ strictS.aC,sl 2 sE strictS.sT],int 1]) (φ:=tup [bl (rgtB ((ctlS looseS strictS 1).1) looseS strictS 1),int (rgtE ((ctlS looseS strictS 1).1) looseS strictS 1)]) ⟨(gq.1.trans J),(gq.2.1.trans J),(gq.2.2.1.trans J),J,tV⟩ (mkr.Right_ok ((ctlS looseS strictS 1).1) looseS strictS aS 1 aS aS) T.ent30 kq) ?_
 refine st_ J (fun _ _ _ gq kq=>mv' (gq.1.trans J) kq) ?_
 refine st_ J (fun _ _ _ gq kq=>xt (gq.1.trans J) J kq) ?_
 refine st_ J (fun _ _ _ gq kq=>xt (gq.1.trans J) J kq) ?_
 refine st_ J (fun _ _ _ gq kq=>ag' (gq.1.trans J) kq) ?_
 refine st_ J (fun _ _ _ gq kq=>ag' (gq.1.trans J) kq) ?_
 refine pn (nl (th (sq (rg (mv (bi J J b_eql (mv ?_)))))))
 apply gAnd (t:=36) (pd:=41) rfl
 rotate_left
 ·intro hg0 fin
  have hg0':=hg0
  try simp at hg0'
  exact gy J J J hg0 (fP J T.fld28_1 (gy J J J hg0 (lP J J J T.one26 (gy J J J hg0 (fc (slenI 38 J) fun hm38=>(lnF J T.sl26 (gy J J J hg0 (bi J J b_gtr (pkT J hg0 J (drp (X:= [(40,_),(39,_),(38,_),(37,_)]) ⟨J,J,J,J,tV⟩ fin))))))))))
 ·intro hg0 fin
  exact gn J J J hg0 J J (gn J J J hg0 J J (gn J J J hg0 J J (gn J J J hg0 J J (pkF J hg0 J (drp (X:= [(40,_),(39,_),(38,_),(37,_)]) ⟨J,J,J,J,tV⟩ fin)))))
 refine mv ?_
 apply gAnd (t:=42) (pd:=50) rfl
 rotate_left
 ·intro hg1 fin
  have hg1':=hg1
  try simp at hg1'
  exact gy J J J hg1 (fP J T.fld28_1 (gy J J J hg1 (lP J J J T.one26 (gy J J J hg1 (iF J J T.sl26 O gB (gy J J J hg1 (fF J T.fld79_0 (gy J J J hg1 (lF J J T.one66 (gy J J J hg1 (bsE (enc:=nE) (xs:= [1]) (css:= [[int 1]]) T.mk66 ⟨J,J,p1 (φ:=int 1) J,tV⟩ J J J J (gy J J J hg1 (cal0 (φs:= [sl 1 nE (ix strictS.sT 0).aP,sl 1 nE [1]]) (φ:=bl (decide ((ix strictS.sT 0).aP= [1]))) ⟨J,J,tV⟩ (ref01.SameInts_ok _ _) T.ent49 (pkT J hg1 J (drp (X:= [(49,_),(48,_),(47,_),(46,_),(45,_),(44,_),(43,_)]) ⟨J,J,J,J,J,J,J,tV⟩ fin)))))))))))))))
 ·intro hg1 fin
  exact gn J J J hg1 J J (gn J J J hg1 J J (gn J J J hg1 J J (gn J J J hg1 J J (gn J J J hg1 J J (gn J J J hg1 J J (gn J J J hg1 J J (pkF J hg1 J (drp (X:= [(49,_),(48,_),(47,_),(46,_),(45,_),(44,_),(43,_)]) ⟨J,J,J,J,J,J,J,tV⟩ fin))))))))
 refine mv ?_
 apply gAnd (t:=51) (pd:=54) rfl
 rotate_left
 ·intro hg2 fin
  have hg2':=hg2
  try simp at hg2'
  exact gy J J J hg2 (mv (gy J J J hg2 (bi J J b_eql (pkT J hg2 J (drp (X:= [(53,_),(52,_)]) ⟨J,J,tV⟩ fin)))))
 ·intro hg2 fin
  exact gn J J J hg2 J J (gn J J J hg2 J J (pkF J hg2 J (drp (X:= [(53,_),(52,_)]) ⟨J,J,tV⟩ fin)))
 refine mv ?_
 apply gAnd (t:=55) (pd:=58) rfl
 rotate_left
 ·intro hg3 fin
  have hg3':=hg3
  try simp at hg3'
  exact gy J J J hg3 (mv (gy J J J hg3 (bi J J b_eql (pkT J hg3 J (drp (X:= [(57,_),(56,_)]) ⟨J,J,tV⟩ fin)))))
 ·intro hg3 fin
  exact gn J J J hg3 J J (gn J J J hg3 J J (pkF J hg3 J (drp (X:= [(57,_),(56,_)]) ⟨J,J,tV⟩ fin)))
 refine mv ?_
 apply gAnd (t:=59) (pd:=62) rfl
 rotate_left
 ·intro hg4 fin
  have hg4':=hg4
  try simp at hg4'
  exact gy J J J hg4 (mv (gy J J J hg4 (bi J J b_eql (pkT J hg4 J (drp (X:= [(61,_),(60,_)]) ⟨J,J,tV⟩ fin)))))
 ·intro hg4 fin
  exact gn J J J hg4 J J (gn J J J hg4 J J (pkF J hg4 J (drp (X:= [(61,_),(60,_)]) ⟨J,J,tV⟩ fin)))
 refine mv ?_
 apply gAnd (t:=63) (pd:=65) rfl
 rotate_left
 ·intro hg5 fin
  have hg5':=hg5
  try simp at hg5'
  exact gy J J J hg5 (mv (pkT J hg5 J (drp (X:= [(64,_)]) ⟨J,tV⟩ fin)))
 ·intro hg5 fin
  exact gn J J J hg5 J J (pkF J hg5 J (drp (X:= [(64,_)]) ⟨J,tV⟩ fin))
 refine ag (nl (th (rt ?_)))
 have hr0:(((((((decide (((gdS looseS strictS).2)=0))&&(decide (0<(strictS.sT.length:Int))))&&(decide ((ix strictS.sT 0).aP= [1])))&&(decide (((ctlS looseS strictS 1).2)=0)))&&(decide (((ctlS looseS strictS 2).2)=3)))&&(decide ((rgtE ((ctlS looseS strictS 1).1) looseS strictS 1)=0)))&&(rgtB ((ctlS looseS strictS 1).1) looseS strictS 1))=true:=by
  rw[q9,q1,q8,r1,r2];rfl
 exact rE () [.tmp 0] J [bl (((((((decide (((gdS looseS strictS).2)=0))&&(decide (0<(strictS.sT.length:Int))))&&(decide ((ix strictS.sT 0).aP= [1])))&&(decide (((ctlS looseS strictS 1).2)=0)))&&(decide (((ctlS looseS strictS 2).2)=3)))&&(decide ((rgtE ((ctlS looseS strictS 1).1) looseS strictS 1)=0)))&&(rgtB ((ctlS looseS strictS 1).1) looseS strictS 1))] ⟨.tmp J,tV⟩ (cA1 (fun x0=>rV [bl x0]) hr0) trivial eX
end mkv
end
section
open ref01 ref03 ref04 ref06 prog prog2 prog3 prog4 prog5 prog6 prog7 prog8 prog9 prog13 prog15 starts Part Rungs LeftM TrimM RoundM MergeM BisM BisM4 BisM5 Itoa Keys WalkM StepM WitM JudgM JudgM2 search refw judg wit refj sysw satj divr divs divd dive divg divw divv divp divt LevM LevM2 TrimI QuoM FailM DivM RefM FitM TogM ProdM prodw GenW CompM CompP CrossM KeepK GuardM MakeM LsysM LsysM2 MakeM2 KeepB AtM ClsM LstM MakeM3 GuaW LeadM FixM ValidM mkk mkp mkl mkc mkq mkg mkr mks mks2 mkv
theorem kep_err {s:SS} {u:Int} (h:(kepS s u).2≠0):isNone (kepS s u).1=true:=by
 unfold kepS at h ⊢
 split
 ·next g=>
  rw[if_pos g] at h
  split
  ·next g2=>rw[if_pos g2] at h;exact absurd rfl h
  ·rfl
 ·rfl
theorem kep_fine {s:SS} {u:Int} (h:(kepS s u).2=0):specOK s=true∧isSet (s.aC.length:Int) u=true∧(kepS s u).1=(tR (keepK u s)).1:=by
 unfold kepS at h ⊢
 split at h
 ·next g=>
  split at h
  ·next g2=>rw[if_pos g,if_pos g2];exact⟨g,g2,rfl⟩
  ·cases h
 ·cases h
namespace T
theorem ent12:Ent Tryz.prog 12:=ent_of kR
theorem ent13:Ent Tryz.prog 13:=ent_of kR
theorem ent24:Ent Tryz.prog 24:=ent_of kR
theorem ent32:Ent Tryz.prog 32:=ent_of kR
theorem ent20:Ent Tryz.prog 20:=ent_of kR
theorem ent22:Ent Tryz.prog 22:=ent_of kR
end T
namespace mkw
theorem MakeKeeping_ok (s:SS) (hss:smallSpec s) (u:Int):
 Fn0 Tryz.prog 6 [tabbed (spec s),int u] (bl true):=by
 refine fnI Tryz.func6 rfl rfl (fun w0 F0=> ?_)
 refine tbI 0 9999 rfl ?_
 refine tbJC (ψ:=tab) 9999 997 rfl ?_
 refine fcC (inhS 0 J) (fun hS0=> ?_)
 obtain⟨hsa0,hss0,hse0⟩:=sLn hS0
 refine sq (rg (bx (key:=2) (cs:= [sl 1 rE_ s.aC,sl 2 sE s.sT]) J fun b2=>(ag (nl (th (sq (sq (rg (lPA J J T.agg28 J (cal0 (φs:= [agg [sl 1 rE_ s.aC,sl 2 sE s.sT],int 40]) (φ:=bl (lightK s 40)) ⟨J,J,tV⟩ (mkv.light18_ok s 40) T.ent12 (no J (nl (th ?_)))))))))))))
 refine cd J (fun hc0=> ?_) (fun hc0=> ?_)
 ·try simp at hc0
  refine sq (rg (calT (ψ:=tab) (φs:= []) (φ:=bl true) trivial mkv.awake18_ok T.ent13 9999 J J (ag (nl (th (rt (rt_ ?_)))))))
  exact rE () [.tmp 4] J [bl true] ⟨.tmp J,tV⟩ J trivial eX
 ·try simp at hc0
  obtain⟨hz1,hz2⟩:=lightK_f (s:=s) (n:=40) (by simpa using hc0)
  have hz3:size s≤100000000:=by omega
  refine sk (th (sq (rg (ag (nl (th (sq (rg (al (key:=6) T.z28 (eC (eC eZ)) fun b6=>(nl (th (sq (bk (sq (rg (lPA J J T.agg28 J (cal0 (φs:= [agg [sl 1 rE_ s.aC,sl 2 sE s.sT]]) (φ:=bl (specOK s)) ⟨J,tV⟩ (ref03.Is_ok s) T.ent21 (no J (ag (nl (th ?_)))))))))))))))))))))
  refine jn (κ:=Int × SS) (fun p=> [(1,int u),(2,ptr 2 b2 0),(4,bl false),(5,int p.1),(6,ptr 6 b6 0),(9999,tab)]) (fun p=> [(2,cell b2 [sl 1 rE_ s.aC,sl 2 sE s.sT]),(6,cell b6 [sl 1 rE_ p.2.aC,sl 2 sE p.2.sT]),(997,ambH tab)]) (fun p=>p.1=(kepS s u).2∧(p.1=0→p.2=keepK u s)) ?_ ?_
  ·
   refine cd J (fun hc1=> ?_) (fun hc1=> ?_)
   ·try simp at hc1
    have hkn:kepS s u=(⟨[],[]⟩,30):=by unfold kepS;rw[if_neg (by simpa using hc1)]
    refine kncC 6 0 (sl 1 rE_ []) rfl rfl slnil (kncC 6 1 (sl 2 sE []) rfl rfl slnil (rg (ag (nl ?_))))
    have hN0:(30:Int)=(kepS s u).2∧((30:Int)=0→(⟨[],[]⟩:SS)=keepK u s):=by
     exact⟨by rw[hkn],fun h=>absurd h (by decide)⟩
    exact jx ⟨(30:Int),(⟨[],[]⟩:SS)⟩ hN0 ⟨id,id,id,id,id,id,tV⟩ ⟨rI,rI,rI,tV⟩
   ·try simp at hc1
    have hsv:specOK s=true:=by simpa using hc1
    have hs:=okSpec_of hsv
    have hn8:=hs.n8
    refine sq (rg (fP J T.fld28_0 (lP J J J T.one22 (fc (slenI 22 J) fun hm22=>(lnF J T.sl22 (mv (cal0 (φs:= [int (s.aC.length:Int),int u]) (φ:=bl (isSet (s.aC.length:Int) u)) ⟨J,J,tV⟩ (ref01.Set_ok _ _ O O) T.ent31 (no J (ag (nl (th ?_)))))))))))
    refine cd J (fun hc2=> ?_) (fun hc2=> ?_)
    ·try simp at hc2
     have hkn:kepS s u=(⟨[],[]⟩,1):=by unfold kepS;rw[if_pos hsv,if_neg (by simpa using hc2)]
     refine kncC 6 0 (sl 1 rE_ []) rfl rfl slnil (kncC 6 1 (sl 2 sE []) rfl rfl slnil (rg (ag (nl ?_))))
     have hN0:(1:Int)=(kepS s u).2∧((1:Int)=0→(⟨[],[]⟩:SS)=keepK u s):=by
      exact⟨by rw[hkn],fun h=>absurd h (by decide)⟩
     exact jx ⟨(1:Int),(⟨[],[]⟩:SS)⟩ hN0 ⟨id,id,id,id,id,id,tV⟩ ⟨rI,rI,rI,tV⟩
    ·try simp at hc2
     have hse:isSet (s.aC.length:Int) u=true:=by simpa using hc2
     obtain⟨hu0,hu1⟩:=isSet_b8 hs.n8 hse
     have hkn:kepS s u=((tR (keepK u s)).1,0):=by unfold kepS;rw[if_pos hsv,if_pos hse]
     refine rg (lPA J J T.agg28 J (mv (cal0 (φs:= [agg [sl 1 rE_ s.aC,sl 2 sE s.sT],int u]) (φ:=agg [sl 1 rE_ (keepK u s).aC,sl 2 sE (keepK u s).sT]) ⟨J,J,tV⟩ (mks2.RefKeeping_ok s aS O u O O) T.ent24 (sPA (cs':= [sl 1 rE_ (keepK u s).aC,sl 2 sE (keepK u s).sT]) J J J T.agg28 J J (nl ?_)))))
     have hN0:(0:Int)=(kepS s u).2∧((0:Int)=0→(keepK u s)=keepK u s):=by
      exact⟨by rw[hkn],fun _=>rfl⟩
     exact jx ⟨(0:Int),(keepK u s)⟩ hN0 ⟨id,id,id,id,id,id,tV⟩ ⟨rI,rI,rI,tV⟩
  ·intro⟨e,D⟩ hG
   have hJ1:e=(kepS s u).2∧(e=0→D=keepK u s):=hG
   skip
   show At _ _ _ [(1,int u),(2,ptr 2 b2 0),(4,bl false),(5,int e),(6,ptr 6 b6 0),(9999,tab)] [(2,cell b2 [sl 1 rE_ s.aC,sl 2 sE s.sT]),(6,cell b6 [sl 1 rE_ D.aC,sl 2 sE D.sT]),(997,ambH tab)]
   refine eb (th (sq (rg (lPA rfl rfl T.agg28 rfl (calW (φs:= [agg [sl 1 rE_ s.aC,sl 2 sE s.sT]]) (φ:=agg [sl 1 rE_ s.aC,sl 2 sE s.sT]) ⟨rfl,tV⟩ (ref03.Copy_ok s O) T.ent18 (fun N hN=>fun h=>agg_le (cs:= [fre N (sl 1 rE_ s.aC),fre N (sl 2 sE s.sT)]) (ds:= [sl 1 rE_ s.aC,sl 2 sE s.sT]) ⟨fun h=>nw_le h,fun h=>nw_le h,tV⟩ h) (mv (cal0 (φs:= [agg [sl 1 rE_ s.aC,sl 2 sE s.sT],int u]) (φ:=tup [agg [sl 1 rE_ ((kepS s u).1).aC,sl 2 sE ((kepS s u).1).sT],int ((kepS s u).2)]) ⟨rfl,rfl,tV⟩ (mkk.Keeping_ok s aS u) T.ent32 (mv (xt rfl rfl (xt rfl rfl (al (key:=7) T.z28 (eC (eC eZ)) fun b7=>(sPA (cs':= [sl 1 rE_ ((kepS s u).1).aC,sl 2 sE ((kepS s u).1).sT]) rfl rfl rfl T.agg28 rfl rfl (ag (nl (th (sq (sq (rg (mv (mv (bi rfl rfl b_neq (mv ?_))))))))))))))))))))))
   apply gOr (t:=37) (pd:=40) rfl
   rotate_left
   ·intro hg0 fin
    have hg0':=hg0
    try simp at hg0'
    exact gy J J J hg0 (mv (gy J J J hg0 (bi J J b_neq (pkF J hg0 J (drp (X:= [(39,_),(38,_)]) ⟨J,J,tV⟩ fin)))))
   ·intro hg0 fin
    exact gn J J J hg0 J J (gn J J J hg0 J J (pkT J hg0 J (drp (X:= [(39,_),(38,_)]) ⟨J,J,tV⟩ fin)))
   refine nl (th ?_)
   refine cd J (fun hc3=> ?_) (fun hc3=> ?_)
   ·skip
    have hne:(kepS s u).2≠0:=fun g=>by rw[hJ1.1,g] at hc3;simp at hc3
    have hno:=kep_err hne
    refine sq (rg (mv (mv (bi J J b_eql (mv ?_)))))
    apply gAnd (t:=44) (pd:=47) rfl
    rotate_left
    ·intro hg1 fin
     have hg1':=hg1
     try simp at hg1'
     exact gy J J J hg1 (lPA J J T.agg28 J (gy J J J hg1 (cal0 (φs:= [agg [sl 1 rE_ ((kepS s u).1).aC,sl 2 sE ((kepS s u).1).sT]]) (φ:=bl (isNone ((kepS s u).1))) ⟨J,tV⟩ (ref03.None_ok ((kepS s u).1)) T.ent20 (pkT J hg1 J (drp (X:= [(46,_),(45,_)]) ⟨J,J,tV⟩ fin)))))
    ·intro hg1 fin
     exact gn J J J hg1 J J (gn J J J hg1 J J (pkF J hg1 J (drp (X:= [(46,_),(45,_)]) ⟨J,J,tV⟩ fin)))
    refine mv ?_
    apply gAnd (t:=48) (pd:=50) rfl
    rotate_left
    ·intro hg2 fin
     have hg2':=hg2
     try simp at hg2'
     exact gy J J J hg2 (calT (ψ:=tab) (φs:= []) (φ:=bl true) trivial mkv.awake18_ok T.ent13 9999 J J (pkT J hg2 J (drp (X:= [(49,_)]) ⟨J,tV⟩ fin)))
    ·intro hg2 fin
     exact gn J J J hg2 J J (pkF J hg2 J (drp (X:= [(49,_)]) ⟨J,tV⟩ fin))
    refine ag (nl (th (rt (rt_ ?_))))
    have hr0:(((decide (((kepS s u).2)=e))&&(isNone ((kepS s u).1)))&&true)=true:=by
     rw[hno,hJ1.1,decide_eq_true rfl];rfl
    exact rE () [.tmp 4] J [bl (((decide (((kepS s u).2)=e))&&(isNone ((kepS s u).1)))&&true)] ⟨.tmp J,tV⟩ (cA1 (fun x0=>rV [bl x0]) hr0) trivial eX
   ·skip
    have hez:(kepS s u).2=0:=by
     rw[hJ1.1] at hc3
     simpa using hc3
    obtain⟨hsv,hse,hke⟩:=kep_fine hez
    have hs:=okSpec_of hsv
    have hD:D=keepK u s:=hJ1.2 (by rw[hJ1.1];exact hez)
    have hDk:oK D:=by rw[hD];exact keepK_ok hs u
    have hfin:fineR (kepS s u).1 D=true:=by rw[hke,hD];exact fine_same (keep_same hs (specOK_few hsv) u)
    refine sk (th (sq (rg (lPA J J T.agg28 J (lPA J J T.agg28 J (cal0 (φs:= [agg [sl 1 rE_ ((kepS s u).1).aC,sl 2 sE ((kepS s u).1).sT],agg [sl 1 rE_ D.aC,sl 2 sE D.sT]]) (φ:=bl (fineR ((kepS s u).1) D)) ⟨J,J,tV⟩ (dive.Fine_ok ((kepS s u).1) D aS) T.ent22 (mv ?_)))))))
    apply gAnd (t:=54) (pd:=56) rfl
    rotate_left
    ·intro hg3 fin
     have hg3':=hg3
     try simp at hg3'
     exact gy J J J hg3 (calT (ψ:=tab) (φs:= []) (φ:=bl true) trivial mkv.awake18_ok T.ent13 9999 J J (pkT J hg3 J (drp (X:= [(55,_)]) ⟨J,tV⟩ fin)))
    ·intro hg3 fin
     exact gn J J J hg3 J J (pkF J hg3 J (drp (X:= [(55,_)]) ⟨J,tV⟩ fin))
    refine ag (nl (th (rt ?_)))
    have hr0:((fineR ((kepS s u).1) D)&&true)=true:=by
     rw[hfin];rfl
    exact rE () [.tmp 4] J [bl ((fineR ((kepS s u).1) D)&&true)] ⟨.tmp J,tV⟩ (cA1 (fun x0=>rV [bl x0]) hr0) trivial eX
end mkw
end
end Go.Proofs.YtnlfjojfgghchaaGreatDoor
