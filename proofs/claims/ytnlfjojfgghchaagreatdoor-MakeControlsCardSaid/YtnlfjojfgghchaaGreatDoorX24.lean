/- The walks of the functions and the plain laws. Own texts of this claim, packed: Mkmkp, MkAtM. -/
import Derived.Test.YtnlfjojfgghchaaGreatDoorX22
import Derived.Test.YtnlfjojfgghchaaGreatDoorX23
set_option linter.all false
namespace Go.Proofs.YtnlfjojfgghchaaGreatDoor
open AL Go
set_option maxRecDepth 100000
section
open ref01 ref03 ref04 ref06 prog prog2 prog3 prog4 prog5 prog6 prog7 prog8 prog9 Part Rungs LeftM TrimM RoundM MergeM BisM BisM4 BisM5 WalkM StepM WitM JudgM JudgM2 refw judg wit refj sysw satj divr divs divd dive TrimI QuoM FailM DivM KeepK GuardM MakeM LsysM LsysM2 KeepB mkk
def Gl (x:Int):Int:=((aK 63 x).length:Int)
def lU (p:Int × Int) (x:Int):Int × Int:=if p.2<Gl x then(x,Gl x) else p
def gR (l:List Int):Int:=(l.foldl lU (ix l 0,-1)).1
theorem Gm {m:List Int}:∀(l:List Int) (p:Int × Int),p.1∈m→(∀x∈l,x∈m)→(l.foldl lU p).1∈m
 | [],p,h,_=>h
 |x::l,p,h,hl=>by
  rw[List.foldl_cons]
  refine Gm l _ ?_ fun y hy=>hl y (by simp[hy])
  unfold lU
  split
  ·exact hl x (by simp)
  ·exact h
theorem TB {l:List Int} (h:0<l.length):gR l∈l:=Gm l _ (aQ h) fun x hx=>hx
theorem DZ {l:List Int} {k:Nat} (hk:k<l.length) (p:Int × Int):(l.take (k+1)).foldl lU p=lU ((l.take k).foldl lU p) (ix l k):=by
 rw[bM hk,List.foldl_append];rfl
theorem Gn (x:Int):(aK 63 x).length≤63:=by
 unfold aK
 first
  |(refine Nat.le_trans (List.length_filterMap_le _ _) ?_;simp)
  |(rw[List.length_map];exact Nat.le_trans (List.length_filter_le _ _) (by simp))
  |(exact Nat.le_trans (List.length_filter_le _ _) (by simp))
namespace T
theorem Gp:mP Tryz.prog 158 3 4 kN lI:=Gk kR kR
end T
namespace mkp
theorem Kh (l:List Int) (hl:0<l.length) (hb:∀k,k<l.length→0≤ix l k∧ix l k<256):
 Fn0 Tryz.prog 111 [ints l] (int (gR l)):=by
 refine fnI Tryz.func111 rfl rfl (fun w0 F0=> ?_)
 refine fcC (aV 0 J) (fun hm0=> ?_)
 refine sq (rg (ag (nl (th (sq (rg (mv (iF J J T.aX O gB (lF J J T.aF (ag (ag (nl (th (sq (sq (rg (mv (lnF J T.aX (mv (nl (th (bk ?_))))))))))))))))))))))
 have hI0_0:0≤l.length:=by
  first|omega|simp
 have hI0_1:((ix l 0),(-1:Int))=(l.take 0).foldl lU (ix l 0,-1):=by
  rfl
 refine lp (κ:=Nat × Int × Int) (fun p=> [(2,int 0),(3,int p.2.1),(4,int p.2.2),(11,sl 1 nE l),(12,int (l.length:Int)),(13,int (p.1:Int))]) (fun p=> []) (fun p=>(p.1≤l.length)∧((p.2.1,p.2.2)=(l.take p.1).foldl lU (ix l 0,-1))) (fun p=>l.length- p.1) ⟨0,ix l 0,(-1:Int)⟩ ⟨hI0_0,hI0_1⟩ ⟨id,id,id,id,id,id,tV⟩ trivial ?_
 intro⟨k,bb,mx⟩ hG0
 obtain⟨hk0,hI0⟩:(k≤l.length)∧((bb,mx)=(l.take k).foldl lU (ix l 0,-1)):=hG0
 show Ct _ _ _ _ [(2,int 0),(3,int bb),(4,int mx),(11,sl 1 nE l),(12,int (l.length:Int)),(13,int (k:Int))] [] _
 refine sq (rg (bi J J aO (nl (th (sq ?_)))))
 refine cd J (fun hc0=> ?_) (fun hc0=> ?_)
 ·try simp at hc0
  have hbk:=hb k O
  have h63:=Gn (ix l k)
  refine sk (th (sq (bk (sq (rg (iF J J T.aX O gB (lF J J T.aF (ag (nl (th (sq (rg (al (key:=7) T.z3 (eC eZ) fun b7=>(sP (φ:=int 0) J J J T.aF J (nl (th (sq (sq (rg (mv (bB (φs:= [int (ix l k)]) (φ:=clo 137 [fp [int (ix l k)]]) ⟨J,tV⟩ (prog3.tE (ix l k)) T.yX (nl (th (bk ?_))))))))))))))))))))))))
  have hR0:(0:Int)=(0:Int):=by
   rfl
  refine rf (κ:=Int) 900 (fun p=> [(7,cell b7 [int p])]) (fun iR p=>p=(iR:Int)) (fun c p=>False) J (Cv (ix l k) O O) T.uU J (fun _=>J) (fun _=>J) (0:Int) hR0 ⟨rI,tV⟩ ?_ ?_ (fun k h=>h.elim) (fun id k h=>h.elim) (fun c k h=>h.elim)
  ·intro m0 c x0 hG0 hx0 l R w1 M1 F1 hRd
   have hR0:c=(m0:Int):=hG0
   have hm63:m0<63:=by have:=(List.getElem?_eq_some_iff.1 hx0).1;omega
   refine sk (aq hRd J (bk (rg (lP J J J T.aF (bi J J (aG i6) (sP (φ:=int (c+1)) J J J T.aF J (nl (eb ?_))))))))
   have hN0:(c+1)=((m0+1):Int):=by
    omega
   exact rqN (c+1) hN0 ⟨rI,rI,tV⟩
  ·intro c hG0
   have hR0:c=((aK 63 (ix l k)).length:Int):=hG0
   refine eb (th (sq (rg (lP rfl rfl rfl T.aF (mv (bi rfl rfl fN (nl (th ?_))))))))
   refine cd J (fun hc1=> ?_) (fun hc1=> ?_)
   ·try simp at hc1
    refine dr (nh:=4) [0,0,1,7] T.mixed kR ?_
    refine st_ J (fun _ _ _ gq kq=>mv' (gq.1.trans J) kq) ?_
    refine st_ J (fun _ _ _ gq kq=>lP (gq.1.trans J) J J T.aF kq) ?_
    refine st_ J (fun _ _ _ gq kq=>ag' (gq.1.trans J) kq) ?_
    refine st_ J (fun _ _ _ gq kq=>ag' (gq.1.trans J) kq) ?_
    refine pn (nl (eb (th (rg (bi J J (aG i6) (mv (nl ?_)))))))
    have hN0:(k+1)≤l.length:=by
     first|omega|simp_all
    have hN1:((ix l k),c)=(l.take (k+1)).foldl lU (ix l 0,-1):=by
     rw[DZ O,←hI0];unfold lU;rw[if_pos (by unfold Gl;omega)];unfold Gl;rw[hR0]
    exact ln (⟨k+1,ix l k,c⟩:Nat × Int × Int) ⟨hN0,hN1⟩ dO ⟨id,id,id,id,id,id,tV⟩ trivial
   ·try simp at hc1
    refine sk (eb (th (rg (bi J J (aG i6) (mv (nl ?_))))))
    have hN0:(k+1)≤l.length:=by
     first|omega|simp_all
    have hN1:(bb,mx)=(l.take (k+1)).foldl lU (ix l 0,-1):=by
     rw[DZ O,←hI0];unfold lU;rw[if_neg (by unfold Gl;omega)]
    exact ln (⟨k+1,bb,mx⟩:Nat × Int × Int) ⟨hN0,hN1⟩ dO ⟨id,id,id,id,id,id,tV⟩ trivial
 ·try simp at hc0
  refine ex (xt_ (xt_ (xb (th (sq (rg (mv (ag (nl (th (rt ?_)))))))))))
  have hr0:(bb:Int)=(gR l):=by
   unfold gR
   rw[List.take_of_length_le O] at hI0
   rw[←hI0]
  exact rE () [.tmp 2] J [int bb] ⟨.tmp J,tV⟩ (cA1 (fun x0=>rV [int x0]) hr0) trivial eX
theorem Pq (m:aA) (hm:bA m) (u:Int) (h0:0≤u) (h1:u<256):
 Fn0 Tryz.prog 71 [sys m,int u] (bl (dB m u)):=by
 refine fnI Tryz.func71 rfl rfl (fun w0 F0=> ?_)
 have f1:=hm.few1;have f0:=hm.few0
 refine fcC (bW 0 J) (fun hS0=> ?_)
 obtain⟨hma0,hms0,hme0⟩:=bU hS0
 refine sq (rg (bx (key:=2) (cs:= [sl 1 rE_ m.aC,sl 1 gE m.sT]) J fun b2=>(ag (nl (th (sq (rg (mkm (key:=11) (kE:=kN) (dom:=lI) (vE:=blV) fun b11=>(AL.insert (q:=0) (u:=true) J J jZ J T.Gp ⟨O,O⟩ (mv (ag (nl (th (sq (rg (bsO 13 (enc:=nE) (xs:= [0]) (css:= [[int 0]]) T.bZ ⟨J,J,p1 (φ:=int 0) J,tV⟩ J J J J fun v13=>(ag (nl (th (sq (sq (rg (ag (nl (th (bk ?_))))))))))))))))))))))))))
 have hI0_0:([0]:List Int)=bqY m 0∧kL (cD ([]:List (Int × Bool)) 0 true) ([0]:List Int)∧0≤([0]:List Int).length∧∀j,j<0→bQ (bK m (ix ([0]:List Int) j).toNat) u=u:=by
  exact⟨rfl,Mz,by simp,fun j hj=>absurd hj O⟩
 refine lp (κ:=Nat × Value × (List Int) × (List (Int × Bool))) (fun p=> [(1,int u),(2,ptr 2 b2 0),(5,mpv 11 b11),(6,osl 13 p.2.1),(7,int (p.1:Int))]) (fun p=> [(2,cell b2 [sl 1 rE_ m.aC,sl 1 gE m.sT]),(11,mp b11 kN lI blV p.2.2.2),(13,own p.2.1 3 1 nE p.2.2.1)]) (fun p=>p.2.2.1=bqY m p.1∧kL p.2.2.2 p.2.2.1∧p.1≤p.2.2.1.length∧∀j,j<p.1→bQ (bK m (ix p.2.2.1 j).toNat) u=u) (fun p=>m.sT.length- p.1) ⟨0,v13,([0]:List Int),cD ([]:List (Int × Bool)) 0 true⟩ hI0_0 ⟨id,id,id,id,id,tV⟩ ⟨rI,rI,rI,tV⟩ ?_
 intro⟨i,v,q,mm⟩ hG0
 obtain⟨hqe,himm,hiq,hgd⟩:q=bqY m i∧kL mm q∧i≤q.length∧∀j,j<i→bQ (bK m (ix q j).toNat) u=u:=hG0
 show Ct _ _ _ _ [(1,int u),(2,ptr 2 b2 0),(5,mpv 11 b11),(6,osl 13 v),(7,int (i:Int))] [(2,cell b2 [sl 1 rE_ m.aC,sl 1 gE m.sT]),(11,mp b11 kN lI blV mm),(13,own v 3 1 nE q)] _
 have hqlen:q.length≤m.sT.length:=by rw[hqe];exact Ce hm i
 refine sq (sq (rg (mv (mv (lnO J J T.aX (bi J J aO (nl (th ?_))))))))
 refine cd J (fun hc0=> ?_) (fun hc0=> ?_)
 ·try simp at hc0
  have hqb:=(sM hm i).bd _ (by rw[←hqe];exact aQ hc0)
  have hql2:=Ce hm i
  rw[←hqe] at hql2
  have hob:=uY hm (x:=(ix q i).toNat) O
  have hi5:i≤m.sT.length:=by omega
  have hn88:=hm.n8
  have hob2:0≤dI (ix m.sT (ix q i).toNat)∧dI (ix m.sT (ix q i).toNat)<256:=hob
  have hoff:∀e∈ix m.sT (ix q i).toNat,0≤e.1∧e.1<8:=fun e he=>by have:=hm.ed (ix q i).toNat O e he;omega
  refine sk (th (sq (bk (sq (dr (nh:=9) [0,1,0,0,12,28,63,127,255] T.mixed kR ?_)))))
  refine st_ J (fun _ _ _ gq kq=>fP (gq.1.trans J) T.bO kq) ?_
  refine st_ J (fun _ _ _ gq kq=>lP (gq.1.trans J) J J T.cF kq) ?_
  refine st_ J (fun _ _ _ gq kq=>mv' (gq.1.trans J) kq) ?_
  refine st_ J (fun _ _ _ gq kq=>mv' (gq.1.trans J) kq) ?_
  refine st_ J (fun _ _ _ gq kq=>iO (gq.1.trans J) J (gq.2.1.trans J) T.aX O O kq) ?_
  refine st_ J (fun _ _ _ gq kq=>lO (gq.1.trans J) J gB J T.aF kq) ?_
  refine st_ J (fun _ _ _ gq kq=>iF (gq.1.trans J) (gq.2.1.trans J) T.dQ O gB kq) ?_
  refine st_ J (fun _ _ _ gq kq=>lF (gq.1.trans J) J T.gF kq) ?_
  refine st_ J (fun _ _ _ gq kq=>ag' (gq.1.trans J) kq) ?_
  refine pn (nl (th (sq (sq (rg (mv (bB (φs:= [sl 2 pE (ix m.sT (ix q i).toNat)]) (φ:=int (dI (ix m.sT (ix q i).toNat))) ⟨J,tV⟩ (sysw.xX (ix m.sT (ix q i).toNat) aS) T.Kd (mv (bi J J (rN O O O O) (mv (bi J J fI (nl (th ?_)))))))))))))
  refine cd J (fun hc1=> ?_) (fun hc1=> ?_)
  ·try simp at hc1
   have hres:=Pp (u:=u) hi5 (by rw[←hqe];exact hc0) (by rw[←hqe];simpa [bQ] using hc1)
   refine sq (rg (ag (nl (th (rt (rt_ (rb (rt_ (rt_ (rb (rt_ ?_)))))))))))
   have hr0:false=(dB m u):=by
    exact hres.symm
   exact rE () [.tmp 4] J [bl false] ⟨.tmp J,tV⟩ (cA1 (fun x0=>rV [bl x0]) hr0) trivial eX
  ·try simp at hc1
   have hgood:bQ (bK m (ix q i).toNat) u=u:=by simpa [bQ] using hc1
   refine sk (th (sq (rg (mv (fc (aV 34 J) fun hm34=>(lnF J T.cQ (mv (nl (th (bk ?_))))))))))
   have hI1_0:0≤(ix m.sT (ix q i).toNat).length:=by
    first|omega|simp
   have hI1_1:q=visit q ((fS m (ix q i)).take 0)∧kL mm q∧q.length≤10000+0:=by
    exact⟨by rw[List.take_zero];rfl,himm,O⟩
   refine lp (κ:=Nat × Value × (List Int) × (List (Int × Bool))) (fun p=> [(1,int u),(2,ptr 2 b2 0),(5,mpv 11 b11),(6,osl 13 p.2.1),(7,int (i:Int)),(34,sl 2 pE (ix m.sT (ix q i).toNat)),(35,int ((ix m.sT (ix q i).toNat).length:Int)),(36,int (p.1:Int))]) (fun p=> [(2,cell b2 [sl 1 rE_ m.aC,sl 1 gE m.sT]),(11,mp b11 kN lI blV p.2.2.2),(13,own p.2.1 3 1 nE p.2.2.1)]) (fun p=>(p.1≤(ix m.sT (ix q i).toNat).length)∧(p.2.2.1=visit q ((fS m (ix q i)).take p.1)∧kL p.2.2.2 p.2.2.1∧p.2.2.1.length≤10000+p.1)) (fun p=>(ix m.sT (ix q i).toNat).length- p.1) ⟨0,v,q,mm⟩ ⟨hI1_0,hI1_1⟩ ⟨id,id,id,id,id,id,id,id,tV⟩ ⟨rI,rI,rI,tV⟩ ?_
   intro⟨k1,v2,q2,mm2⟩ hG1
   obtain⟨hk1,⟨hq2,himm2,hq2l⟩⟩:(k1≤(ix m.sT (ix q i).toNat).length)∧(q2=visit q ((fS m (ix q i)).take k1)∧kL mm2 q2∧q2.length≤10000+k1):=hG1
   show Ct _ _ _ _ [(1,int u),(2,ptr 2 b2 0),(5,mpv 11 b11),(6,osl 13 v2),(7,int (i:Int)),(34,sl 2 pE (ix m.sT (ix q i).toNat)),(35,int ((ix m.sT (ix q i).toNat).length:Int)),(36,int (k1:Int))] [(2,cell b2 [sl 1 rE_ m.aC,sl 1 gE m.sT]),(11,mp b11 kN lI blV mm2),(13,own v2 3 1 nE q2)] _
   have hmany:(ix m.sT (ix q i).toNat).length≤400000:=hm.many (ix q i).toNat O
   refine sq (rg (bi J J aO (nl (th (sq ?_)))))
   refine cd J (fun hc2=> ?_) (fun hc2=> ?_)
   ·try simp at hc2
    have hek:=hm.ed (ix q i).toNat O _ (aQ hc2)
    have hek2:0≤(ix (ix m.sT (ix q i).toNat) k1).2∧(ix (ix m.sT (ix q i).toNat) k1).2<(m.sT.length:Int):=hek.2.2
    refine sk (th (sq (bk (sq (rg (iF J J T.cQ O gB (lFA J T.cJ (Nat.le_of_ble_eq_true J) (al (key:=10) T.z94 (eC (eC eZ)) fun b10=>(sPA (cs':= [int ((ix (ix m.sT (ix q i).toNat) k1).1),int ((ix (ix m.sT (ix q i).toNat) k1).2)]) J J J T.cJ J J (nl (th (sq (rg (mv (fP J T.cX (lP J J J T.aF (lookup (z:=false) (q:=(ix (ix m.sT (ix q i).toNat) k1).2) J J jZ T.Gp ⟨O,O⟩ T.VS (no J (nl (th ?_))))))))))))))))))))
    refine cd J (fun hc3=> ?_) (fun hc3=> ?_)
    ·try simp at hc3
     have hnin:(ix (edg m (ix q i).toNat) k1).2∉q2:=by have h:=himm2 (ix (edg m (ix q i).toNat) k1).2;rw[hc3] at h;simpa using h.symm
     refine sq (rg (mv (fP J T.cX (lP J J J T.aF (mapUpdate (q:=(ix (ix m.sT (ix q i).toNat) k1).2) (u:=true) J J jZ J T.Gp ⟨O,O⟩ (nl (th (rg (mv (fP J T.cX (lP J J J T.aF (bsE (enc:=nE) (xs:= [((ix (ix m.sT (ix q i).toNat) k1).2)]) (css:= [[int ((ix (ix m.sT (ix q i).toNat) k1).2)]]) T.bZ ⟨J,J,p1 (φ:=int ((ix (ix m.sT (ix q i).toNat) k1).2)) J,tV⟩ J J J J (ap (key:=13) (zs:= [((ix (ix m.sT (ix q i).toNat) k1).2)]) bX J J J T.bZ (by unfold aT at*;simp;omega) (by unfold aT at*;simp;omega) fun v52=>(ag (nl (eb (th (rg (bi J J (aG i6) (mv (nl ?_)))))))))))))))))))))
     have hN0:(k1+1)≤(ix m.sT (ix q i).toNat).length:=by
      first|omega|simp_all
     have hN1:(q2++ [((ix (ix m.sT (ix q i).toNat) k1).2)])=visit q ((fS m (ix q i)).take (k1+1))∧kL (cD mm2 ((ix (ix m.sT (ix q i).toNat) k1).2) true) (q2++ [((ix (ix m.sT (ix q i).toNat) k1).2)])∧(q2++ [((ix (ix m.sT (ix q i).toNat) k1).2)]).length≤10000+(k1+1):=by
      refine⟨?_,pY himm2 _,by simp;omega⟩
      rw[vH hc2,yG hek.2.2.1 (by rw[←hq2];exact hnin),←hq2]
     exact ln (⟨k1+1,v52,q2++ [((ix (ix m.sT (ix q i).toNat) k1).2)],cD mm2 ((ix (ix m.sT (ix q i).toNat) k1).2) true⟩:Nat × Value × (List Int) × (List (Int × Bool))) ⟨hN0,hN1⟩ dO ⟨id,id,id,id,id,id,id,id,tV⟩ ⟨rI,rI,rI,tV⟩
    ·try simp at hc3
     have hin:(ix (edg m (ix q i).toNat) k1).2∈q2:=by have h:=himm2 (ix (edg m (ix q i).toNat) k1).2;rw[(by simpa using hc3:(bP mm2 (ix (edg m (ix q i).toNat) k1).2).getD false=true)] at h;simpa using h.symm
     refine sk (eb (th (rg (bi J J (aG i6) (mv (nl ?_))))))
     have hN0:(k1+1)≤(ix m.sT (ix q i).toNat).length:=by
      first|omega|simp_all
     have hN1:q2=visit q ((fS m (ix q i)).take (k1+1))∧kL mm2 q2∧q2.length≤10000+(k1+1):=by
      refine⟨?_,himm2,O⟩
      rw[vH hc2,yH (by rw[←hq2];exact hin),←hq2]
     exact ln (⟨k1+1,v2,q2,mm2⟩:Nat × Value × (List Int) × (List (Int × Bool))) ⟨hN0,hN1⟩ dO ⟨id,id,id,id,id,id,id,id,tV⟩ ⟨rI,rI,rI,tV⟩
   ·try simp at hc2
    refine ex (xt_ (xt_ (xb (eb (th (rg (mv (bi J J (aG i6) (ag (nl ?_))))))))))
    have hN0:q2=bqY m (i+1)∧kL mm2 q2∧(i+1)≤q2.length∧∀j,j<(i+1)→bQ (bK m (ix q2 j).toNat) u=u:=by
     have he:q2=bqY m (i+1):=by
      rw[AA (by rw[←hqe];exact hc0),←hqe,hq2,show k1=(ix m.sT (ix q i).toNat).length by omega]
      congr 1
      exact List.take_of_length_le (by unfold fS;rw[List.length_map];exact Nat.le_refl _)
     have hpre:q<+:q2:=by rw[hq2];exact fZ _ _
     have hle:=hpre.length_le
     exact⟨he,himm2,O,fun j hj=>by
      rw[lB hpre O]
      by_cases e:j=i
      ·subst e;exact hgood
      ·exact hgd j O⟩
    exact ln (⟨i+1,v2,q2,mm2⟩:Nat × Value × (List Int) × (List (Int × Bool))) hN0 (by show m.sT.length- (i+1)<m.sT.length- i;omega) ⟨id,id,id,id,id,tV⟩ ⟨rI,rI,rI,tV⟩
 ·try simp at hc0
  refine ex (xt_ (xt_ (xb (th (sq (rg (ag (nl (th (rt ?_))))))))))
  have hr0:true=(dB m u):=by
   exact(MA hm (i:=i) (by rw[←hqe] at*;omega) (by rw[←hqe];omega) (fun j hj _=>by rw[←hqe];exact hgd j hj)).symm
  exact rE () [.tmp 4] J [bl true] ⟨.tmp J,tV⟩ (cA1 (fun x0=>rV [bl x0]) hr0) trivial eX
end mkp
end
section
namespace AtM
open ref01 ref03 ref04 ref06 Part Rungs LeftM TrimM RoundM MergeM BisM BisM3 BisM4 BisM5 BisM6 Keys WalkM WitM JudgM JudgM2 LevM divr divs divd dive divf divv judg sysw satj ChsM BisS TrimI QuoM FailM DivM RefM GenW CompM CrossM FitM TogM KeepK GuardM MakeM LsysM LsysM2 KeepB
def atY (n:Nat) (q:List Int):List Int:=(List.range n).map fun(x:Nat)=>if (x:Int)∈q then dV q (x:Int)+1 else 0
theorem zH (n:Nat) (q:List Int):(atY n q).length=n:=by simp[atY]
theorem Gq {n:Nat} {q:List Int} {x:Nat} (h:x<n):ix (atY n q) x=if (x:Int)∈q then dV q (x:Int)+1 else 0:=bS h
theorem IK {n:Nat} {q:List Int} {i:Nat} (h:i<(atY n q).length):(atY n q)[i]=if (i:Int)∈q then dV q (i:Int)+1 else 0:=by simp[atY]
theorem IL {n:Nat} {q:List Int} {y:Int} (h0:0≤y) (h1:y<(n:Int)) (hn:y∉q):(atY n q).set y.toNat ((q++ [y]).length:Int)=atY n (q++ [y]):=by
 apply List.ext_getElem (by simp[atY])
 intro i a1 a2
 rw[List.getElem_set,IK a2]
 by_cases e:y.toNat=i
 ·have e2:(i:Int)=y:=by omega
  rw[if_pos e,e2,if_pos (by simp),uV hn]
  simp
 ·have e2:(i:Int)≠y:=by omega
  have hi:i<(atY n q).length:=by rw[zH];rw[zH] at a2;exact a2
  rw[if_neg e,tK e2,IK hi]
  have:(i:Int)∈q++ [y]↔(i:Int)∈q:=by simp[e2]
  by_cases c:(i:Int)∈q
  ·rw[if_pos c,if_pos (this.2 c)]
  ·rw[if_neg c,if_neg (fun h=>c (this.1 h))]
theorem Pr {n:Nat} (h:0<n):(List.replicate n (0:Int)).set 0 1=atY n [0]:=by
 have e:List.replicate n (0:Int)=atY n []:=by
  apply List.ext_getElem (by simp[atY])
  intro i a1 a2
  simp[atY]
 rw[e]
 exact IL (n:=n) (q:= []) (y:=0) O O (by simp)
theorem Wi {n:Nat} {q:List Int} {y:Int} (h0:0≤y) (h1:y<(n:Int)) (h:ix (atY n q) y.toNat=0):y∉q:=fun hq=>by
 rw[Gq O,show((y.toNat:Nat):Int)=y by omega,if_pos hq] at h
 have:=(gW q y).1
 omega
theorem TC {n:Nat} {q:List Int} {y:Int} (h0:0≤y) (h1:y<(n:Int)) (h:ix (atY n q) y.toNat≠0):y∈q:=Classical.byContradiction fun hq=>h (by
 rw[Gq O,show((y.toNat:Nat):Int)=y by omega,if_neg hq])
theorem Wj {n:Nat} {q:List Int} {y:Int} (h0:0≤y) (h1:y<(n:Int)) (h:y∈q):ix (atY n q) y.toNat- 1=dV q y:=by
 rw[Gq O,show((y.toNat:Nat):Int)=y by omega,if_pos h];omega
def sR (l:List Int) (es:List PP) (k:Nat):List PP:=(es.take k).map fun e=>(e.1,dV l e.2)
theorem Ps {l:List Int} {es:List PP} {k:Nat} (h:es.length≤k):cG (sR l es k)=uJ l es:=by
 unfold sR uJ
 rw[List.take_of_length_le h]
theorem MB {l:List Int} {es:List PP} {k:Nat} (h:k<es.length):sR l es (k+1)=sR l es k++ [((ix es k).1,dV l (ix es k).2)]:=by
 unfold sR
 rw[bM h,List.map_append];rfl
theorem Pt {l:List Int} {es:List PP} {k:Nat}:(sR l es k).length≤k:=by unfold sR;rw[List.length_map,List.length_take];omega
def sS (m:aA) (k:Nat):List (List PP):=((aY m).take k).map fun x=>uJ (aY m) (edg m x.toNat)
theorem MC {m:aA} {k:Nat} (h:k<(aY m).length):sS m (k+1)=sS m k++ [uJ (aY m) (edg m (ix (aY m) k).toNat)]:=by
 unfold sS
 rw[bM h,List.map_append];rfl
theorem Pu {m:aA} {k:Nat} (h:(aY m).length≤k):sS m k=(aH m).sT:=by
 unfold sS
 rw[List.take_of_length_le h];rfl
theorem Pv (m:aA) (k:Nat):(sS m k).length≤k:=by unfold sS;rw[List.length_map,List.length_take];omega
end AtM
end
end Go.Proofs.YtnlfjojfgghchaaGreatDoor
