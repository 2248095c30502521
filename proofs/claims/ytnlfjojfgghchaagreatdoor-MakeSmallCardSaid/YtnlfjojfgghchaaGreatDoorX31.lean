/- The walks of the functions and the plain laws. Own texts of this claim, packed: Mkmks, Mkmks2, MkFixM, Mkmkv, Mkmkw, MkRelM. -/
import Derived.Test.YtnlfjojfgghchaaGreatDoorX29
import Derived.Test.YtnlfjojfgghchaaGreatDoorX22
import Derived.Test.YtnlfjojfgghchaaGreatDoorX06
import Derived.Test.YtnlfjojfgghchaaGreatDoorX30
import Derived.Test.YtnlfjojfgghchaaGreatDoorX23
import Derived.Test.YtnlfjojfgghchaaGreatDoorX14
import Derived.Test.YtnlfjojfgghchaaGreatDoorX28
set_option linter.all false
namespace Go.Proofs.YtnlfjojfgghchaaGreatDoor
open AL Go
set_option maxRecDepth 100000
section
open ref01 ref03 ref04 ref06 prog prog2 prog3 prog4 prog5 prog6 prog7 prog8 prog9 prog13 prog15 starts Part Rungs LeftM TrimM RoundM MergeM BisM BisM4 BisM5 Itoa Keys WalkM StepM WitM JudgM JudgM2 search refw judg wit refj sysw satj divr divs divd dive divg divw divv divp divt LevM LevM2 TrimI QuoM FailM DivM RefM FitM TogM ProdM prodw GenW CompM CompP CrossM KeepK GuardM MakeM LsysM LsysM2 MakeM2 KeepB AtM ClsM LstM MakeM3 GuaW LeadM ValidM mkk mkp mkl mkc mkq mkg mkr
namespace T
theorem Xe:Ent Tryz.prog 60:=aO kR
end T
namespace mks
theorem Kk (s:SS) (hs:oK s):
 Fn0 Tryz.prog 23 [spec s] (bl (ix (hOl s) 0)):=by
 refine fnI Tryz.func23 rfl rfl (fun w0 F0=> ?_)
 have f0:=hs.few0
 refine fcC (cE 0 J) (fun hS0=> ?_)
 obtain⟨hsa0,hss0,hse0⟩:=sLn hS0
 refine sq (rg (bx (key:=1) (cs:= [sl 1 rE_ s.aC,sl 2 sE s.sT]) J fun b1=>(ag (nl (th (sq (rg (lPA J J T.bK J (bE (φs:= [agg [sl 1 rE_ s.aC,sl 2 sE s.sT]]) (φ:=sl 1 blE (hOl s)) ⟨J,tV⟩ (ref04.KP s aS) T.Xe (iF J J T.fQ O (gK (k:=0) (by rw[oJ];omega)) (lF J J T.eH (ag (nl (th (rt ?_)))))))))))))))
 exact rE () [.tmp 2] J [bl (ix (hOl s) 0)] ⟨.tmp J,tV⟩ J trivial eX
theorem Qa (m:aA) (hm:aY m):
 Fn0 Tryz.prog 112 [sys m,int 0] (ints (aG m)):=by
 refine fnI Tryz.func112 rfl rfl (fun w0 F0=> ?_)
 have f1:=hm.few1;have f0:=hm.few0;have hle:=mH hm
 refine fcC (cE 0 J) (fun hS0=> ?_)
 obtain⟨hma0,hms0,hme0⟩:=cG hS0
 refine sq (rg (bx (key:=2) (cs:= [sl 1 rE_ m.aC,sl 1 gE m.sT]) J fun b2=>(ag (nl (th (sq (rg (fP J T.bN (lP J J J T.cH (fc (aW 11 J) fun hm11=>(lnF J T.eB (mk (key:=13) (m:=m.sT.length) (enc:=blE) (y:=false) J J T.xC (eC eZ) mL mL fun v13=>(ag (nl (th (sq (rg (mv (mv (iO J J J T.fQ O (by simp;omega) (sO (φ:=bl true) J J J T.eH (gN (by simp;omega)) J (y':=true) J (nl (th (sq (rg (mv (bsO 18 (enc:=nE) (xs:= [0]) (css:= [[int 0]]) T.cT ⟨J,J,p1 (φ:=int 0) J,tV⟩ J J J J fun v18=>(ag (nl (th (sq (sq (rg (ag (nl (th (bk ?_)))))))))))))))))))))))))))))))))))))
 have hI0_0:([0]:List Int)=bqY m 0∧((List.replicate m.sT.length false).set 0 true)=jE m.sT.length ([0]:List Int)∧0≤([0]:List Int).length:=by
  exact⟨rfl,PZ f0,by simp⟩
 refine lp (κ:=Nat × Value × (List Int) × (List Bool)) (fun p=> [(2,ptr 2 b2 0),(4,eqv (.slice none 0 0)),(5,osl 13 v13),(6,osl 18 p.2.1),(7,int (p.1:Int))]) (fun p=> [(2,cell b2 [sl 1 rE_ m.aC,sl 1 gE m.sT]),(13,own v13 4 1 blE p.2.2.2),(18,own p.2.1 3 1 nE p.2.2.1)]) (fun p=>p.2.2.1=bqY m p.1∧p.2.2.2=jE m.sT.length p.2.2.1∧p.1≤p.2.2.1.length) (fun p=>m.sT.length- p.1) ⟨0,v18,([0]:List Int),(List.replicate m.sT.length false).set 0 true⟩ hI0_0 ⟨id,id,id,id,id,tV⟩ ⟨rI,rI,rI,tV⟩ ?_
 intro⟨i,v,q,fn⟩ hG0
 obtain⟨hqe,hfn,hiq⟩:q=bqY m i∧fn=jE m.sT.length q∧i≤q.length:=hG0
 show Ct _ _ _ _ [(2,ptr 2 b2 0),(4,eqv (.slice none 0 0)),(5,osl 13 v13),(6,osl 18 v),(7,int (i:Int))] [(2,cell b2 [sl 1 rE_ m.aC,sl 1 gE m.sT]),(13,own v13 4 1 blE fn),(18,own v 3 1 nE q)] _
 have hqlen:q.length≤m.sT.length:=by rw[hqe];exact Cd hm i
 have hfl:fn.length=m.sT.length:=by rw[hfn];exact wM _ _
 refine sq (sq (rg (mv (mv (lnO J J T.aU (bi J J aN (nl (th ?_))))))))
 refine cd J (fun hc0=> ?_) (fun hc0=> ?_)
 ·try simp at hc0
  have hqb:=(tA hm i).bd _ (by rw[←hqe];exact aR hc0)
  have hi5:i≤m.sT.length:=by omega
  refine sk (th (sq (bk (sq (dr (nh:=10) [0,1,0,0,12,28,63,127,255,0] T.mixed kR ?_)))))
  refine st_ J (fun _ _ _ gq kq=>fP (gq.1.trans J) T.bN kq) ?_
  refine st_ J (fun _ _ _ gq kq=>lP (gq.1.trans J) J J T.cH kq) ?_
  refine st_ J (fun _ _ _ gq kq=>mv' (gq.1.trans J) kq) ?_
  refine st_ J (fun _ _ _ gq kq=>mv' (gq.1.trans J) kq) ?_
  refine st_ J (fun _ _ _ gq kq=>iO (gq.1.trans J) J (gq.2.1.trans J) T.aU O O kq) ?_
  refine st_ J (fun _ _ _ gq kq=>lO (gq.1.trans J) J gB J T.aD kq) ?_
  refine st_ J (fun _ _ _ gq kq=>iF (gq.1.trans J) (gq.2.1.trans J) T.eB O gB kq) ?_
  refine st_ J (fun _ _ _ gq kq=>lF (gq.1.trans J) J T.fB kq) ?_
  refine st_ J (fun _ _ _ gq kq=>lnF (gq.1.trans J) T.cC kq) ?_
  refine st_ J (fun _ _ _ gq kq=>mv kq) ?_
  refine pn (nl (th (bk ?_)))
  have hI1_0:0≤(ix m.sT (ix q i).toNat).length:=by
   first|omega|simp
  have hI1_1:q=visit q ((fY m (ix q i)).take 0)∧fn=jE m.sT.length q∧q.length≤10000+0:=by
   exact⟨by rw[List.take_zero];rfl,hfn,O⟩
  refine lp (κ:=Nat × Value × (List Int) × (List Bool)) (fun p=> [(2,ptr 2 b2 0),(4,eqv (.slice none 0 0)),(5,osl 13 v13),(6,osl 18 p.2.1),(7,int (i:Int)),(32,sl 2 pE (ix m.sT (ix q i).toNat)),(33,int ((ix m.sT (ix q i).toNat).length:Int)),(34,int (p.1:Int))]) (fun p=> [(2,cell b2 [sl 1 rE_ m.aC,sl 1 gE m.sT]),(13,own v13 4 1 blE p.2.2.2),(18,own p.2.1 3 1 nE p.2.2.1)]) (fun p=>(p.1≤(ix m.sT (ix q i).toNat).length)∧(p.2.2.1=visit q ((fY m (ix q i)).take p.1)∧p.2.2.2=jE m.sT.length p.2.2.1∧p.2.2.1.length≤10000+p.1)) (fun p=>(ix m.sT (ix q i).toNat).length- p.1) ⟨0,v,q,fn⟩ ⟨hI1_0,hI1_1⟩ ⟨id,id,id,id,id,id,id,id,tV⟩ ⟨rI,rI,rI,tV⟩ ?_
  intro⟨k1,v2,q2,fn2⟩ hG1
  obtain⟨hk1,⟨hq2,hfn2,hq2l⟩⟩:(k1≤(ix m.sT (ix q i).toNat).length)∧(q2=visit q ((fY m (ix q i)).take k1)∧fn2=jE m.sT.length q2∧q2.length≤10000+k1):=hG1
  show Ct _ _ _ _ [(2,ptr 2 b2 0),(4,eqv (.slice none 0 0)),(5,osl 13 v13),(6,osl 18 v2),(7,int (i:Int)),(32,sl 2 pE (ix m.sT (ix q i).toNat)),(33,int ((ix m.sT (ix q i).toNat).length:Int)),(34,int (k1:Int))] [(2,cell b2 [sl 1 rE_ m.aC,sl 1 gE m.sT]),(13,own v13 4 1 blE fn2),(18,own v2 3 1 nE q2)] _
  have hmany:(ix m.sT (ix q i).toNat).length≤400000:=hm.many (ix q i).toNat O
  have hfl2:fn2.length=m.sT.length:=by rw[hfn2];exact wM _ _
  refine sq (rg (bi J J aN (nl (th (sq ?_)))))
  refine cd J (fun hc1=> ?_) (fun hc1=> ?_)
  ·try simp at hc1
   have hek:=hm.ed (ix q i).toNat O _ (aR hc1)
   have hek2:0≤(ix (ix m.sT (ix q i).toNat) k1).2∧(ix (ix m.sT (ix q i).toNat) k1).2<(m.sT.length:Int):=hek.2.2
   refine sk (th (sq (bk (sq (rg (iF J J T.cC O gB (lFA J T.bY (Nat.le_of_ble_eq_true J) (al (key:=9) T.z94 (eC (eC eZ)) fun b9=>(sPA (cs':= [int ((ix (ix m.sT (ix q i).toNat) k1).1),int ((ix (ix m.sT (ix q i).toNat) k1).2)]) J J J T.bY J J (nl (th (sq (rg (mv (fP J T.cS (lP J J J T.aD (iO J J J T.fQ O O (lO J J gB J T.eH (no J (nl (th ?_)))))))))))))))))))))
   refine cd J (fun hc2=> ?_) (fun hc2=> ?_)
   ·skip
    have hnin:(ix (edg m (ix q i).toNat) k1).2∉q2:=by
     rw[hfn2,IW hek2.1 hek2.2] at hc2
     simpa using hc2
    refine sq (rg (mv (fP J T.cS (lP J J J T.aD (iO J J J T.fQ O O (sO (φ:=bl true) J J J T.eH gB J (y':=true) J (nl (th (rg (mv (fP J T.cS (lP J J J T.aD (bsE (enc:=nE) (xs:= [((ix (ix m.sT (ix q i).toNat) k1).2)]) (css:= [[int ((ix (ix m.sT (ix q i).toNat) k1).2)]]) T.cT ⟨J,J,p1 (φ:=int ((ix (ix m.sT (ix q i).toNat) k1).2)) J,tV⟩ J J J J (ap (key:=18) (zs:= [((ix (ix m.sT (ix q i).toNat) k1).2)]) cD J J J T.cT (by unfold aT at*;simp;omega) (by unfold aT at*;simp;omega) fun v52=>(ag (nl (eb (th (rg (bi J J (aK i6) (mv (nl ?_))))))))))))))))))))))
    have hN0:(k1+1)≤(ix m.sT (ix q i).toNat).length:=by
     first|omega|simp_all
    have hN1:(q2++ [((ix (ix m.sT (ix q i).toNat) k1).2)])=visit q ((fY m (ix q i)).take (k1+1))∧(fn2.set ((ix (ix m.sT (ix q i).toNat) k1).2).toNat true)=jE m.sT.length (q2++ [((ix (ix m.sT (ix q i).toNat) k1).2)])∧(q2++ [((ix (ix m.sT (ix q i).toNat) k1).2)]).length≤10000+(k1+1):=by
     refine⟨?_,?_,by simp;omega⟩
     ·rw[vD (m:=m) (x:=ix q i) hc1,yE hek2.1 (by rw[←hq2];exact hnin),←hq2]
     ·rw[hfn2];exact GI hek2.1 hek2.2
    exact ln (⟨k1+1,v52,q2++ [((ix (ix m.sT (ix q i).toNat) k1).2)],fn2.set ((ix (ix m.sT (ix q i).toNat) k1).2).toNat true⟩:Nat × Value × (List Int) × (List Bool)) ⟨hN0,hN1⟩ dO ⟨id,id,id,id,id,id,id,id,tV⟩ ⟨rI,rI,rI,tV⟩
   ·skip
    have hin:(ix (edg m (ix q i).toNat) k1).2∈q2:=by
     rw[hfn2,IW hek2.1 hek2.2] at hc2
     simpa using hc2
    refine sk (eb (th (rg (bi J J (aK i6) (mv (nl ?_))))))
    have hN0:(k1+1)≤(ix m.sT (ix q i).toNat).length:=by
     first|omega|simp_all
    have hN1:q2=visit q ((fY m (ix q i)).take (k1+1))∧fn2=jE m.sT.length q2∧q2.length≤10000+(k1+1):=by
     refine⟨?_,hfn2,O⟩
     rw[vD (m:=m) (x:=ix q i) hc1,yF (by rw[←hq2];exact hin),←hq2]
    exact ln (⟨k1+1,v2,q2,fn2⟩:Nat × Value × (List Int) × (List Bool)) ⟨hN0,hN1⟩ dO ⟨id,id,id,id,id,id,id,id,tV⟩ ⟨rI,rI,rI,tV⟩
  ·try simp at hc1
   refine ex (xt_ (xt_ (xb (eb (th (rg (mv (bi J J (aK i6) (ag (nl ?_))))))))))
   have hN0:q2=bqY m (i+1)∧fn2=jE m.sT.length q2∧(i+1)≤q2.length:=by
    have he:q2=bqY m (i+1):=by
     rw[AC (by rw[←hqe];exact hc0),←hqe,hq2,show k1=(ix m.sT (ix q i).toNat).length by omega]
     congr 1
     exact List.take_of_length_le (by unfold fY;rw[List.length_map];exact Nat.le_refl _)
    have hpre:q<+:q2:=by rw[hq2];exact gO _ _
    have hle2:=hpre.length_le
    exact⟨he,hfn2,O⟩
   exact ln (⟨i+1,v2,q2,fn2⟩:Nat × Value × (List Int) × (List Bool)) hN0 (by show m.sT.length- (i+1)<m.sT.length- i;omega) ⟨id,id,id,id,id,tV⟩ ⟨rI,rI,rI,tV⟩
 ·try simp at hc0
  have hqo:q=aG m:=by rw[hqe];exact Dd hm O (by rw[←hqe];omega)
  refine ex (xt_ (xt_ (xb (th (sq (rg (mv (ag (nl (th (rt ?_)))))))))))
  refine fzA 18 4 rfl rfl ?_
  have hr0:q=(aG m):=by
   exact hqo
  exact rE () [.tmp 4] J [sl 1 nE q] ⟨.tmp J,tV⟩ (cA1 (fun x0=>rV [sl 1 nE x0]) hr0) trivial eX
end mks
end
section
open ref01 ref03 ref04 ref06 prog prog2 prog3 prog4 prog5 prog6 prog7 prog8 prog9 prog13 prog15 starts Part Rungs LeftM TrimM RoundM MergeM BisM BisM4 BisM5 Itoa Keys WalkM StepM WitM JudgM JudgM2 search refw judg wit refj sysw satj divr divs divd dive divg divw divv divp divt LevM LevM2 TrimI QuoM FailM DivM RefM FitM TogM ProdM prodw GenW CompM CompP CrossM KeepK GuardM MakeM LsysM LsysM2 MakeM2 KeepB AtM ClsM LstM MakeM3 GuaW LeadM ValidM mkk mkp mkl mkc mkq mkg mkr mks
namespace mks2
end mks2
end
section
namespace FixM
open CompP ref01 ref03 ref04 ref06 Part Rungs LeftM TrimM RoundM MergeM BisM BisM3 BisM4 BisM5 BisM6 Keys WalkM WitM JudgM JudgM2 LevM divr divs divd dive divf divv judg refj sysw satj ChsM BisS TrimI ValidM WitSat WitVal QuoM FailM DivM RefM GenW CompM CrossM FitM TogM KeepK GuardM MakeM LsysM LsysM2 MakeM2 KeepB LstM MakeM3 GuaW LeadM
section
variable {s:SS} (hs:oK s) {ch:SS→Nat→Int} (hc:∀y,y<s.sT.length→ch s y∈acc s y)
include hs hc
theorem Nb (hf:s.sT.length≤500):(dB ch s).sT.length≤500∧bX (dB ch s).sT≤4000:=by
 have hm:=sZ hs hc
 obtain⟨g,hk,_⟩:=Ci (oP hm)
 have ho:=Ga (oP hm) hk
 have e1:(mkM (ch s) s).sT.length=s.sT.length:=by simp[mkM]
 have e2:=mH hm
 have e3:=hk.few
 rw[kA] at e3
 have hl:=kX (aF (mkM (ch s) s)) (kY (aF (mkM (ch s) s))) (aJ (aF (mkM (ch s) s)))
 have h5:(dB ch s).sT.length≤500:=by
  show(iM (aF (mkM (ch s) s)) (kY (aF (mkM (ch s) s))) (aJ (aF (mkM (ch s) s)))).sT.length≤500
  omega
 refine⟨h5,Nat.le_trans (FC (K:=8) fun l hl2=> ?_) O⟩
 obtain⟨c,hc2,rfl⟩:=List.getElem_of_mem hl2
 have hc3:c<kY (aF (mkM (ch s) s)):=by
  have hc4:c<(iM (aF (mkM (ch s) s)) (kY (aF (mkM (ch s) s))) (aJ (aF (mkM (ch s) s)))).sT.length:=hc2
  omega
 have:=Gs hs hc hk hc3
 rw[←aH hc2]
 exact this
end
structure Xf (x:aA) (g:SS) (u:Int):Prop where
 ok:bI x=true
 acts:x.aC=g.aC
 sat:fX x g
 keep:qJ x u
 few:x.sT.length≤500
 sum:bX x.sT≤4000
theorem Nc {g:SS} {ok:Bool} {u:Int} (hg:ok=true→oK g∧g.sT.length≤500):
 (ok=false∧cV g ok u=(⟨[],[]⟩,2))∨(ok=true∧ix (hOl (bB u g)) 0=true∧cV g ok u=(⟨[],[]⟩,3))∨(ok=true∧ix (hOl (bB u g)) 0=false∧(cV g ok u).2=0∧Xf (cV g ok u).1 g u):=by
 cases ok with
 |false=>exact .inl ⟨rfl,Ec⟩
 |true=>
  obtain⟨hk,hf⟩:=hg rfl
  right
  obtain⟨hT,hT5⟩:=DZ hk hf u
  have hh:=yJ hk hf u
  cases e:ix (hOl (tR (bB u g)).1) 0 with
  |true=>exact .inl ⟨rfl,by rw[←hh];exact e,GG e⟩
  |false=>
   right
   rw[IV e]
   have hfree:=Ck hk hf e
   have hc:=MR hfree
   have hv:=Ea hT (ch:=lgC) hc hT5
   have hsat:=(Mi hk (u:=u)).1 (IP hT (ch:=lgC) hc)
   have hsm:=Nb hT (ch:=lgC) hc hT5
   exact⟨rfl,by rw[←hh];exact e,rfl,hv,(PD hT (ch:=lgC) hc).trans (qI _),hsat.1,hsat.2,hsm.1,hsm.2⟩
theorem Ed {m:aA} {t:SS} {u:Int} (hf:dM m t=0) (hu:fK (t.aC.length:Int) u=true):
 ((bF m t).2=false∧bL m t u=(⟨[],[]⟩,2))∨((bF m t).2=true∧ix (hOl (bB u (bF m t).1)) 0=true∧bL m t u=(⟨[],[]⟩,3))∨
 ((bF m t).2=true∧ix (hOl (bB u (bF m t).1)) 0=false∧(bL m t u).2=0∧bI (bL m t u).1=true∧(bL m t u).1.aC=t.aC∧wE m (bL m t u).1 t∧qJ (bL m t u).1 u∧(bL m t u).1.sT.length≤500∧bX (bL m t u).1.sT≤4000):=by
 obtain⟨hmv,htv,hmt⟩:=xY hf
 have hm:=fR hmv
 have ht:=iY htv
 have e:bL m t u=cV (bF m t).1 (bF m t).2 u:=by unfold bL;rw[if_pos hf,if_pos hu]
 rw[e]
 rcases Nc (u:=u) (fun h=>⟨(vG hm ht h).1,(vG hm ht h).2.1⟩:(bF m t).2=true→oK (bF m t).1∧(bF m t).1.sT.length≤500) with h|h|⟨h1,h2,h3,h4⟩
 ·exact .inl h
 ·exact .inr (.inl h)
 ·refine .inr (.inr ⟨h1,h2,h3,h4.ok,h4.acts.trans (vG hm ht h1).2.2,?_,h4.keep,h4.few,h4.sum⟩)
  exact(Tp hm (fR h4.ok) ht (h4.acts.trans (vG hm ht h1).2.2) h1).1 h4.sat
def aQ:aA:=⟨[⟨#[97]⟩,⟨#[98]⟩],[[(0,0),(1,0)]]⟩
def aB:SS:=⟨[⟨#[97]⟩,⟨#[98]⟩],[⟨[1],[0,-1]⟩]⟩
theorem zW:bI aQ=true:=by decide+kernel
theorem tG:bU aB=true:=by decide+kernel
theorem rL:oK aB:=iY tG
theorem AU:dM aQ aB=0:=by
 unfold dM
 rw[if_pos zW,if_pos tG,if_pos (show aQ.aC=aB.aC from rfl)]
theorem Nf:gL aQ aB= [[(0,0)]]:=by unfold gL;decide+kernel
theorem Wc:gD aQ aB=aB:=by unfold gD;rw[Nf];decide+kernel
theorem Kl:ix (hOl aB) 0=false:=CompP.CS (by decide) (by decide)
theorem Hv:(tR aB).1=aB:=by
 have hs:=rL
 have hn:=Kl
 have ho:aM aB= [0]:=by
  have h1:(aM aB).length≤1:=oN hs
  have h2:=lR aB
  have h3:=BisM2.sD aB
  match hq:aM aB,h1,h2,h3 with
  | [y],_,_,h3=>rw[show y=0 from h3]
 have hk:keep aB 0= [1]:=OL hs (by decide) (by decide)
 rw[eU hn]
 show(⟨aB.aC,(aM aB).map (fU aB)⟩:SS)=aB
 rw[ho]
 show(⟨aB.aC,[fU aB 0]⟩:SS)=aB
 unfold fU jH
 rw[show(0:Int).toNat=0 from rfl,hk,ho]
 decide
theorem vH:bF aQ aB=(aB,true):=by
 unfold bF
 rw[Nf,if_pos (by decide),Wc,Hv]
theorem TE:gdS aQ aB=(aB,0):=by
 unfold gdS
 rw[if_pos AU,vH,if_pos rfl]
theorem Df (u:Int) (h:u=1∨u=2):fK (aB.aC.length:Int) u=true:=by
 rcases h with rfl|rfl<;>decide
theorem TF:ix (hOl (bB 2 aB)) 0=true:=by
 cases e:ix (hOl (bB 2 aB)) 0 with
 |true=>rfl
 |false=>
  obtain⟨x,R,hR,h0⟩:=(Cj (jZ rL 2)).1 e
  have:=hR.acc h0
  have:=(uA (s:=aB) (k:=0) (by decide)).1 this
  have h1:bQ x 0=1:=List.mem_singleton.1 this.1
  rw[h1] at this
  exact absurd this.2 (by decide)
theorem Qb:bL aQ aB 2=(⟨[],[]⟩,3):=by
 rcases Ed AU (Df 2 (.inr rfl)) with⟨h,_⟩|⟨_,_,h⟩|⟨_,h,_⟩
 ·rw[vH] at h;cases h
 ·exact h
 ·rw[vH] at h
  rw[show((aB,true):SS × Bool).1=aB from rfl,TF] at h;cases h
theorem TG:fX ⟨[⟨#[97]⟩,⟨#[98]⟩],[[(0,0)]]⟩ (bB 1 aB):=by
 refine DN.2 ⟨⟨fun x y=>x=0∧y=0,⟨fun {x y} h=>by rw[h.2];decide,fun {x y} h=>by rw[h.1,h.2];decide,fun {x y} h e he=> ?_,fun {x y} h e he=> ?_⟩,rfl,rfl⟩,fun x hx=> ?_⟩
 ·rw[h.1] at he
  rw[h.2]
  have:e=(0,0):=by
   obtain⟨d,hd,rfl⟩:=List.mem_map.1 he
   rw[List.mem_singleton.1 (show d∈[((0,0):PP)] from hd)];rfl
  rw[this];decide
 ·rw[h.1] at he
  rw[h.2]
  have:e=(0,0):=by
   obtain⟨d,hd,rfl⟩:=List.mem_map.1 he
   rw[List.mem_singleton.1 (show d∈[((0,0):PP)] from hd)];rfl
  rw[this];exact⟨by decide,by decide,by decide⟩
 ·have:x=0:=by
   induction hx with
   |zero=>rfl
   |step h1 h2 ih=>
    rw[ih] at h2
    have:=List.mem_singleton.1 h2
    rw[this];rfl
  rw[this];decide
theorem GJ:(bL aQ aB 1).2=0∧bI (bL aQ aB 1).1=true∧(bL aQ aB 1).1.aC=aB.aC∧wE aQ (bL aQ aB 1).1 aB∧qJ (bL aQ aB 1).1 1∧(bL aQ aB 1).1.sT.length≤500∧bX (bL aQ aB 1).1.sT≤4000:=by
 rcases Ed AU (Df 1 (.inl rfl)) with⟨h,_⟩|⟨_,h,_⟩|⟨_,_,h⟩
 ·rw[vH] at h;cases h
 ·rw[vH] at h
  have:ix (hOl (bB 1 aB)) 0=false:=(Cj (jZ rL 1)).2 ⟨_,TG⟩
  rw[show((aB,true):SS × Bool).1=aB from rfl,this] at h;cases h
 ·exact h
theorem Qc {x m:aA} {t:SS} {u:Int} (hx:bI x=true) (hm:bI m=true) (ht:bU t=true) (h1:x.aC=m.aC) (h2:x.aC=t.aC) (hu:fK (t.aC.length:Int) u=true):iN x m t u=0:=by
 unfold iN
 rw[if_pos ⟨hx,hm⟩,if_pos ht,if_pos ⟨h1,h2⟩,if_pos hu]
theorem Qd {x m:aA} {t:SS} {u:Int} (hE:iN x m t u=0) (hx:aY x) (hw:wE m x t) (hk:qJ x u):mK x m t u=true:=by
 unfold mK
 rw[hE,decide_eq_true rfl,Bool.true_and,(Mv hx).2 hk,Bool.and_true]
 simp[hw]
theorem Ng:iN (bL aQ aB 1).1 aQ aB 1=0∧mK (bL aQ aB 1).1 aQ aB 1=true:=by
 obtain⟨_,h1,h2,h3,h4,_⟩:=GJ
 have e:=Qc h1 zW tG (h2.trans rfl) h2 (Df 1 (.inl rfl))
 exact⟨e,Qd e (fR h1) h3 h4⟩
end FixM
end
section
open ref01 ref03 ref04 ref06 prog prog2 prog3 prog4 prog5 prog6 prog7 prog8 prog9 prog13 prog15 starts Part Rungs LeftM TrimM RoundM MergeM BisM BisM4 BisM5 Itoa Keys WalkM StepM WitM JudgM JudgM2 search refw judg wit refj sysw satj divr divs divd dive divg divw divv divp divt LevM LevM2 TrimI QuoM FailM DivM RefM FitM TogM ProdM prodw GenW CompM CompP CrossM KeepK GuardM MakeM LsysM LsysM2 MakeM2 KeepB AtM ClsM LstM MakeM3 GuaW LeadM FixM ValidM mkk mkp mkl mkc mkq mkg mkr mks mks2
def yK (s:SS) (n:Int):Bool:=decide ((s.sT.length:Int)≤n)&&few s 400
theorem Qe {s:SS} {n:Int} (h:yK s n=true):(s.sT.length:Int)≤n∧(size s:Int)≤400:=by
 unfold yK few at h
 rw[Bool.and_eq_true,decide_eq_true_eq,decide_eq_true_eq] at h
 exact h
namespace T
theorem Xg:Ent Tryz.prog 46:=aO kR
theorem Ey:Ent Tryz.prog 47:=aO kR
theorem Ez:Ent Tryz.prog 48:=aO kR
theorem Xh:Ent Tryz.prog 16:=aO kR
theorem Ri:Ent Tryz.prog 25:=aO kR
theorem Xi:Ent Tryz.prog 30:=aO kR
theorem Xj:Ent Tryz.prog 49:=aO kR
end T
namespace mkv
theorem Km (s:SS) (n:Int):
 Fn0 Tryz.prog 12 [spec s,int n] (bl (yK s n)):=by
 refine fnI Tryz.func12 rfl rfl (fun w0 F0=> ?_)
 refine fcC (cE 0 J) (fun hS0=> ?_)
 obtain⟨hsa0,hss0,hse0⟩:=sLn hS0
 refine sq (rg (bx (key:=2) (cs:= [sl 1 rE_ s.aC,sl 2 sE s.sT]) J fun b2=>(ag (nl (th (sq (rg (fP J T.bP (lP J J J T.cO (fc (aW 6 J) fun hm6=>(lnF J T.dI (mv (bi J J tI (mv ?_))))))))))))))
 apply dX (t:=10) (pd:=13) rfl
 rotate_left
 ·intro hg0 fin
  have hg0':=hg0
  try simp at hg0'
  exact gy J J J hg0 (lPA J J T.bK J (gy J J J hg0 (bE (φs:= [agg [sl 1 rE_ s.aC,sl 2 sE s.sT],int 400]) (φ:=bl (few s 400)) ⟨J,J,tV⟩ (ref03.Up s _ O) T.Xg (pkT J hg0 J (drp (X:= [(12,_),(11,_)]) ⟨J,J,tV⟩ fin)))))
 ·intro hg0 fin
  exact gn J J J hg0 J J (gn J J J hg0 J J (pkF J hg0 J (drp (X:= [(12,_),(11,_)]) ⟨J,J,tV⟩ fin)))
 refine ag (nl (th (rt ?_)))
 have hr0:((decide ((s.sT.length:Int)≤n))&&(few s 400))=(yK s n):=by
  rfl
 exact rE () [.tmp 4] J [bl ((decide ((s.sT.length:Int)≤n))&&(few s 400))] ⟨.tmp J,tV⟩ (cA1 (fun x0=>rV [bl x0]) hr0) trivial eX
theorem wN:
 Fn0 Tryz.prog 47 [] (sys aQ):=by
 refine fnI Tryz.func47 rfl rfl (fun w0 F0=> ?_)
 refine sq (rg (al (key:=0) T.z25 (eC (eC eZ)) fun b0=>(nl (th (sq (rg (bsE (enc:=rE_) (xs:= [({ data:= #[97] }),({ data:= #[98] })]) (css:= [[str ({ data:= #[97] })],[str ({ data:= #[98] })]]) T.Cx ⟨J,J,p1 (φ:=str ({ data:= #[97] })) J,⟨J,J,p1 (φ:=str ({ data:= #[98] })) J,tV⟩⟩ J J J J (bd (css:= []) T.wJ (eC (eC eZ)) trivial (bd (css:= [(0,_)]) T.wJ (eC (eC eZ)) ⟨J,J,p1 (φ:=int 1) J,tV⟩ (bsE (enc:=pE) (xs:= [(0,0),(1,0)]) (css:= [[int 0,int 0],[int 1,int 0]]) T.lG ⟨J,J,pA (cs:= [int 0,int 0]) J,⟨J,J,pA (cs:= [int 1,int 0]) J,tV⟩⟩ J J J J (bsE (enc:=gE) (xs:= [[(0,0),(1,0)]]) (css:= [[sl 2 pE [(0,0),(1,0)]]]) T.pP ⟨J,J,p1 (φ:=sl 2 pE [(0,0),(1,0)]) J,tV⟩ J J J J (bd (css:= [(0,_),(1,_)]) T.lY (eC (eC eZ)) ⟨J,J,p1 (φ:=sl 1 rE_ [({ data:= #[97] }),({ data:= #[98] })]) J,⟨J,J,p1 (φ:=sl 1 gE [[(0,0),(1,0)]]) J,tV⟩⟩ (sPA (cs':= [sl 1 rE_ [({ data:= #[97] }),({ data:= #[98] })],sl 1 gE [[(0,0),(1,0)]]]) J J J T.aZ J J (nl (th (rt ?_))))))))))))))))
 have hr0: [({ data:= #[97] }),({ data:= #[98] })]=aQ.aC:=by
  first|rfl|simp_all|omega
 have hr1: [[(0,0),(1,0)]]=aQ.sT:=by
  first|rfl|simp_all|omega
 exact rE () [.cell 0 25] J [agg [sl 1 rE_ [({ data:= #[97] }),({ data:= #[98] })],sl 1 gE [[(0,0),(1,0)]]]] ⟨.agg J J T.aZ J J,tV⟩ (cA2 (fun x0 x1=>rV [agg [sl 1 rE_ x0,sl 1 gE x1]]) hr0 hr1) trivial eX
theorem uB:
 Fn0 Tryz.prog 48 [] (spec aB):=by
 refine fnI Tryz.func48 rfl rfl (fun w0 F0=> ?_)
 refine sq (rg (al (key:=0) T.z28 (eC (eC eZ)) fun b0=>(nl (th (sq (rg (bsE (enc:=rE_) (xs:= [({ data:= #[97] }),({ data:= #[98] })]) (css:= [[str ({ data:= #[97] })],[str ({ data:= #[98] })]]) T.Cx ⟨J,J,p1 (φ:=str ({ data:= #[97] })) J,⟨J,J,p1 (φ:=str ({ data:= #[98] })) J,tV⟩⟩ J J J J (bsE (enc:=nE) (xs:= [1]) (css:= [[int 1]]) T.cT ⟨J,J,p1 (φ:=int 1) J,tV⟩ J J J J (bsE (enc:=nE) (xs:= [0,(-1)]) (css:= [[int 0],[int (-1)]]) T.cT ⟨J,J,p1 (φ:=int 0) J,⟨J,J,p1 (φ:=int (-1)) J,tV⟩⟩ J J J J (bd (css:= [(0,_),(1,_)]) T.Af (eC (eC eZ)) ⟨J,J,p1 (φ:=sl 1 nE [1]) J,⟨J,J,p1 (φ:=sl 1 nE [0,(-1)]) J,tV⟩⟩ (bsE (enc:=sE) (xs:= [(⟨[1],[0,(-1)]⟩)]) (css:= [[sl 1 nE [1],sl 1 nE [0,(-1)]]]) T.rT ⟨J,J,pA (cs:= [sl 1 nE [1],sl 1 nE [0,(-1)]]) J,tV⟩ J J J J (bd (css:= [(0,_),(1,_)]) T.uE (eC (eC eZ)) ⟨J,J,p1 (φ:=sl 1 rE_ [({ data:= #[97] }),({ data:= #[98] })]) J,⟨J,J,p1 (φ:=sl 2 sE [(⟨[1],[0,(-1)]⟩)]) J,tV⟩⟩ (sPA (cs':= [sl 1 rE_ [({ data:= #[97] }),({ data:= #[98] })],sl 2 sE [(⟨[1],[0,(-1)]⟩)]]) J J J T.bK J J (nl (th (rt ?_))))))))))))))))
 have hr0: [({ data:= #[97] }),({ data:= #[98] })]=aB.aC:=by
  first|rfl|simp_all|omega
 have hr1: [(⟨[1],[0,(-1)]⟩)]=aB.sT:=by
  first|rfl|simp_all|omega
 exact rE () [.cell 0 28] J [agg [sl 1 rE_ [({ data:= #[97] }),({ data:= #[98] })],sl 2 sE [(⟨[1],[0,(-1)]⟩)]]] ⟨.agg J J T.bK J J,tV⟩ (cA2 (fun x0 x1=>rV [agg [sl 1 rE_ x0,sl 2 sE x1]]) hr0 hr1) trivial eX
theorem wO:
 AL.Fn Tryz.prog 13 [] [(998,dJ tab)] (ι:=Unit) (fun _ _=>bl true) (fun _=> []):=by
 refine fnI Tryz.func13 rfl rfl (fun w0 F0=> ?_)
 have hsm:iZ aB:=rL.small
 obtain⟨q1,q2,q3,q4,q5,q6,q7⟩:=GJ
 obtain⟨r1,r2⟩:=Ng
 have q8:=Qb
 have q9:=TE
 have hz:aQ.sT.length*(bL aQ aB 1).1.sT.length<5000:=by show 1*_<5000;omega
 have hz2:bX aQ.sT*bX (bL aQ aB 1).1.sT≤400000:=by show 2*_≤400000;omega
 refine tbH 9999 998 rfl ?_
 refine sq (rg (ag (nl (th (sq (rg (bE (φs:= []) (φ:=agg [sl 1 rE_ aQ.aC,sl 1 gE aQ.sT]) trivial mkv.wN T.Ey (bE (φs:= []) (φ:=agg [sl 1 rE_ aB.aC,sl 2 sE aB.sT]) trivial mkv.uB T.Ez (tbU (ψ:=tab) 10 9999 J J (bE (φs:= [both (agg [sl 1 rE_ aQ.aC,sl 1 gE aQ.sT]) tab,agg [sl 1 rE_ aB.aC,sl 2 sE aB.sT]]) (φ:=tup [agg [sl 1 rE_ ((gdS aQ aB).1).aC,sl 2 sE ((gdS aQ aB).1).sT],int ((gdS aQ aB).2)]) ⟨J,J,tV⟩ (mkg.PS aQ aB aS) T.Xh (mv (xt J J (kn 13 (spec aB) J (by rw[q9];exact fun h=>h) (xt J J (al (key:=1) T.z28 (eC (eC eZ)) fun b1=>(sPA (cs':= [sl 1 rE_ aB.aC,sl 2 sE aB.sT]) J J J T.bK J J (ag (nl (th (sq (rg (bE (φs:= []) (φ:=agg [sl 1 rE_ aQ.aC,sl 1 gE aQ.sT]) trivial mkv.wN T.Ey (bE (φs:= []) (φ:=agg [sl 1 rE_ aB.aC,sl 2 sE aB.sT]) trivial mkv.uB T.Ez (tbU (ψ:=tab) 16 9999 J J (kC (φs:= [both (agg [sl 1 rE_ aQ.aC,sl 1 gE aQ.sT]) tab,agg [sl 1 rE_ aB.aC,sl 2 sE aB.sT],int 1]) (φ:=tup [agg [sl 1 rE_ ((bL aQ aB 1).1).aC,sl 1 gE ((bL aQ aB 1).1).sT],int ((bL aQ aB 1).2)]) ⟨J,J,J,tV⟩ (mkr.Cn aQ aB aS 1) T.Ri (fun N hN=>fun h=>oI (cs:= [agg [fre N (sl 1 rE_ ((bL aQ aB 1).1).aC),fre N (sl 1 gE ((bL aQ aB 1).1).sT)],int ((bL aQ aB 1).2)]) (ds:= [agg [sl 1 rE_ ((bL aQ aB 1).1).aC,sl 1 gE ((bL aQ aB 1).1).sT],int ((bL aQ aB 1).2)]) ⟨fun h=>iV (cs:= [fre N (sl 1 rE_ ((bL aQ aB 1).1).aC),fre N (sl 1 gE ((bL aQ aB 1).1).sT)]) (ds:= [sl 1 rE_ ((bL aQ aB 1).1).aC,sl 1 gE ((bL aQ aB 1).1).sT]) ⟨fun h=>jG h,fun h=>jG h,tV⟩ h,fun h=>h,tV⟩ h) (mv (xt J J (xt J J (al (key:=3) T.z25 (eC (eC eZ)) fun b3=>(sPA (cs':= [sl 1 rE_ ((bL aQ aB 1).1).aC,sl 1 gE ((bL aQ aB 1).1).sT]) J J J T.aZ J J (ag (nl (th (sq (rg (bE (φs:= []) (φ:=agg [sl 1 rE_ aQ.aC,sl 1 gE aQ.sT]) trivial mkv.wN T.Ey (bE (φs:= []) (φ:=agg [sl 1 rE_ aB.aC,sl 2 sE aB.sT]) trivial mkv.uB T.Ez (tbU (ψ:=tab) 22 9999 J J (kC (φs:= [both (agg [sl 1 rE_ aQ.aC,sl 1 gE aQ.sT]) tab,agg [sl 1 rE_ aB.aC,sl 2 sE aB.sT],int 2]) (φ:=tup [agg [sl 1 rE_ ((bL aQ aB 2).1).aC,sl 1 gE ((bL aQ aB 2).1).sT],int ((bL aQ aB 2).2)]) ⟨J,J,J,tV⟩ (mkr.Cn aQ aB aS 2) T.Ri (fun N hN=>fun h=>oI (cs:= [agg [fre N (sl 1 rE_ ((bL aQ aB 2).1).aC),fre N (sl 1 gE ((bL aQ aB 2).1).sT)],int ((bL aQ aB 2).2)]) (ds:= [agg [sl 1 rE_ ((bL aQ aB 2).1).aC,sl 1 gE ((bL aQ aB 2).1).sT],int ((bL aQ aB 2).2)]) ⟨fun h=>iV (cs:= [fre N (sl 1 rE_ ((bL aQ aB 2).1).aC),fre N (sl 1 gE ((bL aQ aB 2).1).sT)]) (ds:= [sl 1 rE_ ((bL aQ aB 2).1).aC,sl 1 gE ((bL aQ aB 2).1).sT]) ⟨fun h=>jG h,fun h=>jG h,tV⟩ h,fun h=>h,tV⟩ h) (mv (xt J J (xt J J (al (key:=5) T.z25 (eC (eC eZ)) fun b5=>(sPA (cs':= [sl 1 rE_ ((bL aQ aB 2).1).aC,sl 1 gE ((bL aQ aB 2).1).sT]) J J J T.aZ J J (ag (nl (th (sq (dr (nh:=9) [0,0,2,7,15,31,31,63,255] T.mixed kR ?_)))))))))))))))))))))))))))))))))))))))))))))))))
 refine st_ J (fun _ _ _ gq kq=>lPA (gq.1.trans J) J T.aZ J kq) ?_
 refine st_ J (fun _ _ _ gq kq=>bE (φs:= []) (φ:=agg [sl 1 rE_ aQ.aC,sl 1 gE aQ.sT]) trivial mkv.wN T.Ey kq) ?_
 refine st_ J (fun _ _ _ gq kq=>bE (φs:= []) (φ:=agg [sl 1 rE_ aB.aC,sl 2 sE aB.sT]) trivial mkv.uB T.Ez kq) ?_
 refine st_ J (fun _ _ _ gq kq=>bE (φs:= [agg [sl 1 rE_ ((bL aQ aB 1).1).aC,sl 1 gE ((bL aQ aB 1).1).sT],agg [sl 1 rE_ aQ.aC,sl 1 gE aQ.sT],agg [sl 1 rE_ aB.aC,sl 2 sE aB.sT],int 1]) (φ:=tup [bl (mK ((bL aQ aB 1).1) aQ aB 1),int (iN ((bL aQ aB 1).1) aQ aB 1)]) ⟨(gq.1.trans J),(gq.2.1.trans J),(gq.2.2.1.trans J),J,tV⟩ (mkr.PX ((bL aQ aB 1).1) aQ aB aS 1 aS aS) T.Xi kq) ?_
 refine st_ J (fun _ _ _ gq kq=>mv' (gq.1.trans J) kq) ?_
 refine st_ J (fun _ _ _ gq kq=>xt (gq.1.trans J) J kq) ?_
 refine st_ J (fun _ _ _ gq kq=>xt (gq.1.trans J) J kq) ?_
 refine st_ J (fun _ _ _ gq kq=>ag' (gq.1.trans J) kq) ?_
 refine st_ J (fun _ _ _ gq kq=>ag' (gq.1.trans J) kq) ?_
 refine pn (nl (th (sq (rg (mv (bi J J fJ (mv ?_)))))))
 apply dX (t:=36) (pd:=41) rfl
 rotate_left
 ·intro hg0 fin
  have hg0':=hg0
  try simp at hg0'
  exact gy J J J hg0 (fP J T.bP (gy J J J hg0 (lP J J J T.cO (gy J J J hg0 (fc (aW 38 J) fun hm38=>(lnF J T.dI (gy J J J hg0 (bi J J gF (pkT J hg0 J (drp (X:= [(40,_),(39,_),(38,_),(37,_)]) ⟨J,J,J,J,tV⟩ fin))))))))))
 ·intro hg0 fin
  exact gn J J J hg0 J J (gn J J J hg0 J J (gn J J J hg0 J J (gn J J J hg0 J J (pkF J hg0 J (drp (X:= [(40,_),(39,_),(38,_),(37,_)]) ⟨J,J,J,J,tV⟩ fin)))))
 refine mv ?_
 apply dX (t:=42) (pd:=50) rfl
 rotate_left
 ·intro hg1 fin
  have hg1':=hg1
  try simp at hg1'
  exact gy J J J hg1 (fP J T.bP (gy J J J hg1 (lP J J J T.cO (gy J J J hg1 (iF J J T.dI O gB (gy J J J hg1 (fF J T.dG (gy J J J hg1 (lF J J T.bG (gy J J J hg1 (bsE (enc:=nE) (xs:= [1]) (css:= [[int 1]]) T.cT ⟨J,J,p1 (φ:=int 1) J,tV⟩ J J J J (gy J J J hg1 (bE (φs:= [sl 1 nE (ix aB.sT 0).aP,sl 1 nE [1]]) (φ:=bl (decide ((ix aB.sT 0).aP= [1]))) ⟨J,J,tV⟩ (ref01.GU _ _) T.Xj (pkT J hg1 J (drp (X:= [(49,_),(48,_),(47,_),(46,_),(45,_),(44,_),(43,_)]) ⟨J,J,J,J,J,J,J,tV⟩ fin)))))))))))))))
 ·intro hg1 fin
  exact gn J J J hg1 J J (gn J J J hg1 J J (gn J J J hg1 J J (gn J J J hg1 J J (gn J J J hg1 J J (gn J J J hg1 J J (gn J J J hg1 J J (pkF J hg1 J (drp (X:= [(49,_),(48,_),(47,_),(46,_),(45,_),(44,_),(43,_)]) ⟨J,J,J,J,J,J,J,tV⟩ fin))))))))
 refine mv ?_
 apply dX (t:=51) (pd:=54) rfl
 rotate_left
 ·intro hg2 fin
  have hg2':=hg2
  try simp at hg2'
  exact gy J J J hg2 (mv (gy J J J hg2 (bi J J fJ (pkT J hg2 J (drp (X:= [(53,_),(52,_)]) ⟨J,J,tV⟩ fin)))))
 ·intro hg2 fin
  exact gn J J J hg2 J J (gn J J J hg2 J J (pkF J hg2 J (drp (X:= [(53,_),(52,_)]) ⟨J,J,tV⟩ fin)))
 refine mv ?_
 apply dX (t:=55) (pd:=58) rfl
 rotate_left
 ·intro hg3 fin
  have hg3':=hg3
  try simp at hg3'
  exact gy J J J hg3 (mv (gy J J J hg3 (bi J J fJ (pkT J hg3 J (drp (X:= [(57,_),(56,_)]) ⟨J,J,tV⟩ fin)))))
 ·intro hg3 fin
  exact gn J J J hg3 J J (gn J J J hg3 J J (pkF J hg3 J (drp (X:= [(57,_),(56,_)]) ⟨J,J,tV⟩ fin)))
 refine mv ?_
 apply dX (t:=59) (pd:=62) rfl
 rotate_left
 ·intro hg4 fin
  have hg4':=hg4
  try simp at hg4'
  exact gy J J J hg4 (mv (gy J J J hg4 (bi J J fJ (pkT J hg4 J (drp (X:= [(61,_),(60,_)]) ⟨J,J,tV⟩ fin)))))
 ·intro hg4 fin
  exact gn J J J hg4 J J (gn J J J hg4 J J (pkF J hg4 J (drp (X:= [(61,_),(60,_)]) ⟨J,J,tV⟩ fin)))
 refine mv ?_
 apply dX (t:=63) (pd:=65) rfl
 rotate_left
 ·intro hg5 fin
  have hg5':=hg5
  try simp at hg5'
  exact gy J J J hg5 (mv (pkT J hg5 J (drp (X:= [(64,_)]) ⟨J,tV⟩ fin)))
 ·intro hg5 fin
  exact gn J J J hg5 J J (pkF J hg5 J (drp (X:= [(64,_)]) ⟨J,tV⟩ fin))
 refine ag (nl (th (rt ?_)))
 have hr0:(((((((decide (((gdS aQ aB).2)=0))&&(decide (0<(aB.sT.length:Int))))&&(decide ((ix aB.sT 0).aP= [1])))&&(decide (((bL aQ aB 1).2)=0)))&&(decide (((bL aQ aB 2).2)=3)))&&(decide ((iN ((bL aQ aB 1).1) aQ aB 1)=0)))&&(mK ((bL aQ aB 1).1) aQ aB 1))=true:=by
  rw[q9,q1,q8,r1,r2];rfl
 exact rE () [.tmp 0] J [bl (((((((decide (((gdS aQ aB).2)=0))&&(decide (0<(aB.sT.length:Int))))&&(decide ((ix aB.sT 0).aP= [1])))&&(decide (((bL aQ aB 1).2)=0)))&&(decide (((bL aQ aB 2).2)=3)))&&(decide ((iN ((bL aQ aB 1).1) aQ aB 1)=0)))&&(mK ((bL aQ aB 1).1) aQ aB 1))] ⟨.tmp J,tV⟩ (cA1 (fun x0=>rV [bl x0]) hr0) trivial eX
end mkv
end
section
open ref01 ref03 ref04 ref06 prog prog2 prog3 prog4 prog5 prog6 prog7 prog8 prog9 prog13 prog15 starts Part Rungs LeftM TrimM RoundM MergeM BisM BisM4 BisM5 Itoa Keys WalkM StepM WitM JudgM JudgM2 search refw judg wit refj sysw satj divr divs divd dive divg divw divv divp divt LevM LevM2 TrimI QuoM FailM DivM RefM FitM TogM ProdM prodw GenW CompM CompP CrossM KeepK GuardM MakeM LsysM LsysM2 MakeM2 KeepB AtM ClsM LstM MakeM3 GuaW LeadM FixM ValidM mkk mkp mkl mkc mkq mkg mkr mks mks2 mkv
namespace mkw
end mkw
end
section
namespace RelM
open ref01 ref03 ref04 ref06 Part Rungs LeftM TrimM RoundM MergeM BisM BisM3 BisM4 BisM5 BisM6 Keys WalkM WitM JudgM JudgM2 LevM divr divs divd dive divf divv judg sysw satj ChsM BisS TrimI ValidM WitSat WitVal QuoM FailM DivM RefM GenW CompM CrossM FitM TogM KeepK GuardM MakeM LsysM LsysM2 MakeM2 LstM KeepB MakeM3
theorem AW {l:List Int} (h:l.Nodup) {i j:Nat} (hi:i<l.length) (hj:j<l.length) (e:ix l i=ix l j):i=j:=by
 rw[aH hi,aH hj] at e
 have hp:=List.pairwise_iff_getElem.1 h
 rcases Nat.lt_trichotomy i j with g|g|g
 ·exact absurd e (hp i j hi hj g)
 ·exact g
 ·exact absurd e.symm (hp j i hj hi g)
def Qf (l:List PP):Prop:=∀d∈l,∀e∈l,d.1=e.1→d=e
def GK (m:aA):Prop:=∀x,x<m.sT.length→Qf (edg m x)
theorem TH (n:Nat) (u:Int) (nx:List Int):Qf (mkE n u nx):=fun d hd e he g=>by
 obtain⟨a,_,_,rfl⟩:=vA.1 hd
 obtain⟨b,_,_,rfl⟩:=vA.1 he
 have g:(a:Int)=(b:Int):=g
 have:a=b:=by omega
 subst this;rfl
theorem TI (ch:Nat→Int) (s:SS):GK (mkM ch s):=fun x hx=>by
 have hx:x<s.sT.length:=by simpa [mkM] using hx
 rw[sY hx];exact TH _ _ _
theorem TJ {m:aA} (hm:aY m) (h:GK m):GK (aF m):=fun i hi=>by
 rw[kA] at hi
 rw[pM hi]
 have hb:=(jD hm).bd _ (aR hi)
 intro d hd e he g
 obtain⟨d0,hd0,rfl⟩:=pN.1 hd
 obtain⟨e0,he0,rfl⟩:=pN.1 he
 have:=h (ix (aG m) i).toNat O d0 hd0 e0 he0 g
 rw[this]
theorem TK {m:aA} {k:Nat} {nx:List Int} (hc:lM m k nx) (h:GK m):GK (iM m k nx):=fun c hk=>by
 rw[kX] at hk
 rw[qK hk]
 obtain⟨r1,_⟩:=vC hc.lab hk
 intro d hd e he g
 obtain⟨d0,hd0,rfl⟩:=yD.1 hd
 obtain⟨e0,he0,rfl⟩:=yD.1 he
 have:=h _ r1 d0 hd0 e0 he0 g
 rw[this]
theorem Qg {l:List PP} (h:Qf l) (hp:l.Pairwise pK) {i:Nat} (hi:i+1<l.length):(ix l i).1≠(ix l (i+1)).1:=fun e=>by
 have h0:i<l.length:=by omega
 have:=h _ (aR h0) _ (aR hi) e
 have hq:=List.pairwise_iff_getElem.1 hp i (i+1) h0 hi O
 rw[←aH h0,←aH hi,this] at hq
 unfold pK at hq
 omega
theorem TL {m:aA} (hm:aY m) {x:Nat} (h:lV m x):lV (aF m) (dA (aG m) (x:Int)).toNat:=by
 have hq:=jD hm
 induction h with
 |zero=>
  have h0:ix (aG m) 0∈aG m:=aR hq.ne
  rw[hq.hd] at h0
  obtain⟨p1,p2⟩:=jB h0
  have p0:=(fD (aG m) 0).1
  have:(dA (aG m) 0).toNat=0:=AW hq.nd O hq.ne (by rw[p2,hq.hd])
  show lV (aF m) (dA (aG m) (0:Int)).toNat
  rw[this];exact .zero
 |step h1 h2 ih=>
  rename_i x e
  obtain⟨p1,p2⟩:=jB (Gd hm h1)
  have p0:=(fD (aG m) (x:Int)).1
  have hi:(dA (aG m) (x:Int)).toNat<(aG m).length:=by omega
  have h3:(e.1,dA (aG m) e.2)∈edg (aF m) (dA (aG m) (x:Int)).toNat:=by
   rw[pM hi,p2,Int.toNat_natCast]
   exact pN.2 ⟨e,h2,rfl⟩
  have h4:=lV.step ih h3
  have hin:=kW hm hi (e:=e) (by rw[p2,Int.toNat_natCast];exact h2)
  have hb:=hq.bd _ hin
  rw[show((e.2.toNat:Nat):Int)=e.2 by omega]
  exact h4
theorem TM {m:aA} (hm:aY m) {i:Nat} (hi:i<(aF m).sT.length):lV (aF m) i:=by
 have hq:=jD hm
 rw[kA] at hi
 have hin:=aR hi
 have hb:=hq.bd _ hin
 have h1:=TL hm (hq.rch _ hin)
 rw[show(((ix (aG m) i).toNat:Nat):Int)=ix (aG m) i by omega] at h1
 obtain⟨p1,p2⟩:=jB hin
 have p0:=(fD (aG m) (ix (aG m) i)).1
 have:(dA (aG m) (ix (aG m) i)).toNat=i:=AW hq.nd O hi p2
 rw[this] at h1;exact h1
theorem TP {m:aA} (hm:aY m) {k:Nat} {nx:List Int} (h:lM m k nx) (h0:ix nx 0=0) {x:Nat} (r:lV m x):x<m.sT.length∧lV (iM m k nx) (ix nx x).toNat:=by
 have f0:=hm.few0
 induction r with
 |zero=>rw[h0];exact⟨f0,.zero⟩
 |step h1 h2 ih=>
  rename_i x e
  obtain⟨hx,ih⟩:=ih
  have hb:=h.lab.bd x hx
  obtain⟨d,hd,_,g1,g2,g3⟩:=(Dc hm h).fw (x:=x) (y:=(ix nx x).toNat) ⟨hx,O,O⟩ e h2
  refine⟨g1,?_⟩
  rw[g3,Int.toNat_natCast]
  exact .step ih hd
theorem TQ {m:aA} (hm:aY m) {k:Nat} {nx:List Int} (h:lM m k nx) (h0:ix nx 0=0) (hr:∀i,i<m.sT.length→lV m i) {c:Nat} (hc:c<k):lV (iM m k nx) c:=by
 obtain⟨x,hx,e⟩:=h.lab.on c hc
 have:=(TP hm h h0 (hr x hx)).2
 rw[e,Int.toNat_natCast] at this;exact this
theorem Qh {m:aA} (hm:aY m) (h:∀i,i<m.sT.length→lV m i):(aG m).length=m.sT.length:=by
 have h1:=mH hm
 have h2:=xG (l:=(List.range m.sT.length).map fun(i:Nat)=>(i:Int)) (m:=aG m) (by
  refine DI List.nodup_range (fun a _ b _ e=>by omega)) (fun x hx=>by
  obtain⟨i,hi,rfl⟩:=List.mem_map.1 hx
  exact Gd hm (h i (List.mem_range.1 hi)))
 rw[List.length_map,List.length_range] at h2
 omega
structure Co (m:aA):Prop where
 det:∀x,x<m.sT.length→∀i,i+1<(ix m.sT x).length→(ix (ix m.sT x) i).1≠(ix (ix m.sT x) (i+1)).1
 all:(aG m).length=m.sT.length
 one:∀R:Nat→Nat→Prop,BisY m m R→∀c d,c<m.sT.length→d<m.sT.length→R c d→c=d
theorem Qi {s:SS} (hs:oK s) {ch:SS→Nat→Int} (hc:∀y,y<s.sT.length→ch s y∈acc s y):Co (dB ch s):=by
 have hm:=sZ hs hc
 have hp:=oP hm
 obtain⟨g,hk,ho⟩:=Ci hp
 have h0:ix (aJ (aF (mkM (ch s) s))) 0=0:=MS ho hp.few0
 have hd:=TK hk (TJ hm (TI (ch s) s))
 have hl:aY (dB ch s):=Ga hp hk
 refine⟨fun x hx i hi=>Qg (hd x hx) ?_ hi,?_,fun R hR c d hcc hdd r=> ?_⟩
 ·have hx:x<kY (aF (mkM (ch s) s)):=by rwa [show(dB ch s).sT.length=_ from kX _ _ _] at hx
  show(edg (iM _ _ _) x).Pairwise pK
  rw[qK hx];exact Iw _ _
 ·refine Qh hl (fun i hi=> ?_)
  rw[show(dB ch s).sT.length=_ from kX _ _ _] at hi
  exact TQ hp hk h0 (fun i hi=>TM hm hi) hi
 ·rw[show(dB ch s).sT.length=_ from kX _ _ _] at hcc hdd
  exact Ph hp hk hR hcc hdd r
abbrev nN:List Bool→List AV:=fun xs=> [sl 1 blE xs]
theorem pX {α:Type} [Inhabited α] {l:List α} {i:Nat} {a:α} (h:i<l.length):ix (l.set i a) i=a:=by
 rw[aH (by simpa using h),List.getElem_set_self]
theorem yL {α:Type} [Inhabited α] {l:List α} {i j:Nat} {a:α} (h:i≠j):ix (l.set i a) j=ix l j:=by
 simp[ix,List.getElem?_set_ne h]
abbrev Tab:=List (List Bool)
def mT (n:Nat) (tb:Tab):Prop:=tb.length=n∧∀i,i<n→(ix tb i).length=n
def oT (tb:Tab) (tr:Bool) (d e:PP):Bool:=decide (d.1=e.1)&&((!tr&&ix (ix tb d.2.toNat) e.2.toNat)||(tr&&ix (ix tb e.2.toNat) d.2.toNat))
def lH (m:aA) (tb:Tab) (tr:Bool) (x y:Nat):Bool:=(ix m.sT x).all fun d=>(ix m.sT y).any fun e=>oT tb tr d e
theorem Wd {m:aA} {tb:Tab} {tr:Bool} {x y k:Nat} (hk:k<(ix m.sT x).length) (h:((ix m.sT y).any fun e=>oT tb tr (ix (ix m.sT x) k) e)=false):lH m tb tr x y=false:=by
 cases e:lH m tb tr x y with
 |false=>rfl
 |true=>
  unfold lH at e
  have:=List.all_eq_true.1 e _ (aR hk)
  rw[h] at this;cases this
theorem TR {m:aA} {tb:Tab} {tr:Bool} {x y:Nat} (h:∀j,j<(ix m.sT x).length→((ix m.sT y).any fun e=>oT tb tr (ix (ix m.sT x) j) e)=true):lH m tb tr x y=true:=by
 unfold lH
 refine List.all_eq_true.2 fun d hd=> ?_
 obtain⟨j,hj,rfl⟩:=List.getElem_of_mem hd
 have:=h j hj
 rw[aH hj] at this
 exact this
theorem Qj {α:Type} [Inhabited α] {p:α→Bool} {l:List α} {k:Nat} (hk:k<l.length):(l.take (k+1)).any p=((l.take k).any p||p (ix l k)):=by
 rw[bJ hk,List.any_append];simp
def We (m:aA) (tb:Tab) (x y:Nat):Prop:=ix (ix tb x) y=true→lH m tb false x y=true∧lH m tb true y x=true
def yM (m:aA) (tb:Tab):Prop:=∀x y,x<m.sT.length→y<m.sT.length→We m tb x y
theorem TS {m:aA} (hm:aY m) {tb:Tab} (h:yM m tb):BisY m m (fun x y=>x<m.sT.length∧y<m.sT.length∧ix (ix tb x) y=true):=by
 refine⟨fun {x y} ⟨hx,hy,r⟩ e he=> ?_,fun {x y} ⟨hx,hy,r⟩ d hd=> ?_⟩
 ·obtain⟨h1,_⟩:=h x y hx hy r
  have h2:=List.all_eq_true.1 h1 e he
  obtain⟨d,hd,g⟩:=List.any_eq_true.1 h2
  have b1:=hm.ed x hx e he
  have b2:=hm.ed y hy d hd
  unfold oT at g
  simp at g
  exact⟨d,hd,g.1.symm,O,O,g.2⟩
 ·obtain⟨_,h1⟩:=h x y hx hy r
  have h2:=List.all_eq_true.1 h1 d hd
  obtain⟨e,he,g⟩:=List.any_eq_true.1 h2
  have b1:=hm.ed x hx e he
  have b2:=hm.ed y hy d hd
  unfold oT at g
  simp at g
  exact⟨e,he,g.1.symm,O,O,g.2⟩
theorem TT {m:aA} (hm:aY m) (hn:Co m) {tb:Tab} (h:yM m tb) {x y:Nat} (hx:x<m.sT.length) (hy:y<m.sT.length) (hne:x≠y):ix (ix tb x) y=false:=by
 cases e:ix (ix tb x) y with
 |false=>rfl
 |true=>exact absurd (hn.one _ (TS hm h) x y hx hy ⟨hx,hy,e⟩) hne
def nO (r:List Bool):Nat:=r.count true
def tH (tb:Tab):Nat:=(tb.map nO).sum
theorem GL:∀{r:List Bool} {j:Nat},j<r.length→ix r j=true→nO (r.set j false)+1=nO r
 |b::r,0,_,h=>by
  have h:b=true:=h
  subst h
  simp[nO]
 |b::r,j+1,hj,h=>by
  have:=GL (r:=r) (j:=j) (by simpa using hj) h
  unfold nO at this ⊢
  rw[List.set_cons_succ,List.count_cons,List.count_cons]
  omega
theorem GM:∀{tb:Tab} {i:Nat} {r:List Bool},i<tb.length→tH (tb.set i r)+nO (ix tb i)=tH tb+nO r
 |a::tb,0,r,_=>by
  show nO r+tH tb+nO a=nO a+tH tb+nO r
  omega
 |a::tb,i+1,r,hi=>by
  have:=GM (tb:=tb) (i:=i) (r:=r) (by simpa using hi)
  show nO a+tH (tb.set i r)+nO (ix tb i)=nO a+tH tb+nO r
  omega
def mA (m:aA) (tb:Tab) (k j:Nat) (t:Tab) (ag:Bool):Prop:=
 mT m.sT.length t∧((ag=false∧t=tb∧∀x y,x<m.sT.length→y<m.sT.length→(x<k∨x=k∧y<j)→We m tb x y)∨(ag=true∧tH t<tH tb))
theorem Nh {m:aA} {tb:Tab} (h:mT m.sT.length tb):mA m tb 0 0 tb false:=⟨h,.inl ⟨rfl,rfl,fun x y _ _ g=>by omega⟩⟩
theorem Ni {m:aA} {tb t:Tab} {k j:Nat} {ag:Bool} (h:mA m tb k j t ag) (g:ix (ix t k) j=true→lH m t false k j=true∧lH m t true j k=true):mA m tb k (j+1) t ag:=by
 obtain⟨h1,⟨e1,e2,h2⟩|h2⟩:=h
 ·subst e2
  refine⟨h1,.inl ⟨e1,rfl,fun x y hx hy q=> ?_⟩⟩
  by_cases c:x=k∧y=j
  ·obtain⟨rfl,rfl⟩:=c
   exact g
  ·exact h2 x y hx hy O
 ·exact⟨h1,.inr h2⟩
theorem Qk {m:aA} {tb t:Tab} {k j:Nat} {ag:Bool} (h:mA m tb k j t ag) (hk:k<m.sT.length) (hj:j<m.sT.length) (g:ix (ix t k) j=true):mA m tb k (j+1) (t.set k ((ix t k).set j false)) true:=by
 obtain⟨⟨h1,h2⟩,h3⟩:=h
 have e1:=GM (tb:=t) (i:=k) (r:=(ix t k).set j false) O
 have e2:=GL (r:=ix t k) (j:=j) (by rw[h2 k hk];exact hj) g
 refine⟨⟨by simpa using h1,fun i hi=> ?_⟩,.inr ⟨rfl,?_⟩⟩
 ·by_cases c:k=i
  ·subst c
   rw[pX O]
   rw[List.length_set];exact h2 k hi
  ·rw[yL c];exact h2 i hi
 ·rcases h3 with⟨_,rfl,_⟩|⟨_,h3⟩<;>omega
theorem Ql {m:aA} {tb t:Tab} {k j:Nat} {ag:Bool} (h:mA m tb k j t ag) (hj:m.sT.length≤j):mA m tb (k+1) 0 t ag:=by
 obtain⟨h1,⟨e1,e2,h2⟩|h2⟩:=h
 ·exact⟨h1,.inl ⟨e1,e2,fun x y hx hy q=>h2 x y hx hy O⟩⟩
 ·exact⟨h1,.inr h2⟩
theorem Qm {m:aA} {tb t:Tab} {k:Nat} {ag:Bool} (h:mA m tb k 0 t ag) (hk:m.sT.length≤k):mT m.sT.length t∧(ag=false→yM m t)∧(ag=true→tH t<tH tb):=by
 obtain⟨h1,⟨e1,e2,h2⟩|h2⟩:=h
 ·subst e2
  exact⟨h1,fun _ x y hx hy=>h2 x y hx hy O,fun e=>by rw[e1] at e;cases e⟩
 ·exact⟨h1,fun e=>(by rw[h2.1] at e;cases e),fun _=>h2.2⟩
def eJ (n:Nat) (q:List Int):List Int:=(List.range n).map fun(x:Nat)=>if (x:Int)∈q then(q.idxOf (x:Int):Int) else-1
theorem Qn (n:Nat) (q:List Int):(eJ n q).length=n:=by simp[eJ]
theorem IX {n:Nat} {q:List Int} {x:Nat} (hx:x<n):ix (eJ n q) x=if (x:Int)∈q then(q.idxOf (x:Int):Int) else-1:=bS hx
theorem Nj (n:Nat):eJ n []=List.replicate n (-1):=by
 unfold eJ
 apply List.ext_getElem (by simp)
 intro i h1 h2
 simp
theorem Qo {n:Nat} {q:List Int} {x:Int} (h0:0≤x) (h1:x<(n:Int)) (hx:x∉q):(eJ n q).set x.toNat (q.length:Int)=eJ n (q++ [x]):=by
 apply List.ext_getElem (by simp[eJ])
 intro i g1 g2
 have hi:i<n:=by simpa [eJ] using g2
 rw[List.getElem_set]
 by_cases c:x.toNat=i
 ·rw[if_pos c]
  simp only [eJ,List.getElem_map,List.getElem_range]
  have e:(i:Int)=x:=by omega
  rw[e,if_pos (by simp),List.idxOf_append,if_neg hx]
  simp
 ·rw[if_neg c]
  simp only [eJ,List.getElem_map,List.getElem_range]
  have e:(i:Int)≠x:=by omega
  by_cases d:(i:Int)∈q
  ·rw[if_pos d,if_pos (by simp[d]),List.idxOf_append,if_pos d]
  ·rw[if_neg d,if_neg (by simp[d,e])]
theorem TU {n:Nat} {q:List Int} {x:Nat} (hx:x<n): -1≤ix (eJ n q) x∧ix (eJ n q) x<(q.length:Int):=by
 rw[IX hx]
 by_cases c:(x:Int)∈q
 ·rw[if_pos c]
  have:=List.idxOf_lt_length_iff.2 c
  omega
 ·rw[if_neg c];omega
def qU (l:List PP) (e:PP):Nat:=(l.takeWhile fun d=>ltP d e).length
theorem IY:∀{l:List PP} {e:PP} {k:Nat},k≤l.length→(∀j,j<k→ltP (ix l j) e=true)→(k<l.length→ltP (ix l k) e=false)→k=qU l e
 | [],e,k,hk,_,_=>by simp at hk;subst hk;rfl
 |a::l,e,0,_,_,h=>by
  have h:ltP a e=false:=h (by simp)
  unfold qU
  rw[List.takeWhile_cons,h];rfl
 |a::l,e,k+1,hk,h,g=>by
  have h0:ltP a e=true:=h 0 O
  have:=IY (l:=l) (e:=e) (k:=k) (by simpa using hk) (fun j hj=>h (j+1) O) (fun hk=>g (by simpa using hk))
  unfold qU at this ⊢
  rw[List.takeWhile_cons,h0]
  simpa using this
def lN (l:List PP) (e:PP):List PP:=if qU l e<l.length∧ix l (qU l e)=e then l else l.take (qU l e)++ [e]++l.drop (qU l e)
theorem Nk (l:List PP) (e:PP):(lN l e).length≤l.length+1:=by
 unfold lN
 by_cases c:qU l e<l.length∧ix l (qU l e)=e
 ·rw[if_pos c];omega
 ·rw[if_neg c];simp;omega
theorem Kn {l:List PP} {e:PP} {k:Nat} (h:k=qU l e) (hk:k<l.length) (g:ix l k=e):lN l e=l:=by
 subst h
 unfold lN
 rw[if_pos ⟨hk,g⟩]
theorem Nl {l:List PP} {e:PP} {k:Nat} (h:k=qU l e) (g:¬(k<l.length∧ix l k=e)):lN l e=l.take k++ [e]++l.drop k:=by
 subst h
 unfold lN
 rw[if_neg g]
def kF (c:List Int) (es:List PP):List PP:=es.foldl (fun acc e=>lN acc (e.1,ix c e.2.toNat)) []
theorem Ee {c:List Int} {es:List PP} {k:Nat} (hk:k<es.length):kF c (es.take (k+1))=lN (kF c (es.take k)) ((ix es k).1,ix c (ix es k).2.toNat):=by
 unfold kF
 rw[bJ hk,List.foldl_append];rfl
theorem Qp (c:List Int) (es:List PP) (k:Nat):(kF c (es.take k)).length≤k:=by
 induction k with
 |zero=>simp[kF]
 |succ k ih=>
  by_cases hk:k<es.length
  ·rw[Ee hk]
   have:=Nk (kF c (es.take k)) ((ix es k).1,ix c (ix es k).2.toNat)
   omega
  ·rw[List.take_of_length_le O] at ih ⊢
   omega
end RelM
end
end Go.Proofs.YtnlfjojfgghchaaGreatDoor
