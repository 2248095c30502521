/- The walks of the functions and the plain laws. Own texts of this claim, packed: Mkmkp, MkAtM. -/
import Derived.Test.YtnlfjojfgghchaaGreatDoorX22
import Derived.Test.YtnlfjojfgghchaaGreatDoorX23
set_option linter.all false
namespace Go.Proofs.YtnlfjojfgghchaaGreatDoor
open AL Go
set_option maxRecDepth 100000
section
open ref01 ref03 ref04 ref06 prog prog2 prog3 prog4 prog5 prog6 prog7 prog8 prog9 Part Rungs LeftM TrimM RoundM MergeM BisM BisM4 BisM5 WalkM StepM WitM JudgM JudgM2 refw judg wit refj sysw satj divr divs divd dive TrimI QuoM FailM DivM KeepK GuardM MakeM LsysM LsysM2 KeepB mkk
def Hh (x:Int):Int:=((aL 63 x).length:Int)
def lV (p:Int × Int) (x:Int):Int × Int:=if p.2<Hh x then(x,Hh x) else p
def gJ (l:List Int):Int:=(l.foldl lV (ix l 0,-1)).1
theorem Hl {m:List Int}:∀(l:List Int) (p:Int × Int),p.1∈m→(∀x∈l,x∈m)→(l.foldl lV p).1∈m
 | [],p,h,_=>h
 |x::l,p,h,hl=>by
  rw[List.foldl_cons]
  refine Hl l _ ?_ fun y hy=>hl y (by simp[hy])
  unfold lV
  split
  ·exact hl x (by simp)
  ·exact h
theorem TU {l:List Int} (h:0<l.length):gJ l∈l:=Hl l _ (aO h) fun x hx=>hx
theorem EJ {l:List Int} {k:Nat} (hk:k<l.length) (p:Int × Int):(l.take (k+1)).foldl lV p=lV ((l.take k).foldl lV p) (ix l k):=by
 rw[bN hk,List.foldl_append];rfl
theorem Hm (x:Int):(aL 63 x).length≤63:=by
 unfold aL
 first
  |(refine Nat.le_trans (List.length_filterMap_le _ _) ?_;simp)
  |(rw[List.length_map];exact Nat.le_trans (List.length_filter_le _ _) (by simp))
  |(exact Nat.le_trans (List.length_filter_le _ _) (by simp))
namespace T
theorem Hn:jN Tryz.prog 158 3 4 kI lI:=Hg kR kR
end T
namespace mkp
theorem Ld (l:List Int) (hl:0<l.length) (hb:∀k,k<l.length→0≤ix l k∧ix l k<256):
 Fn0 Tryz.prog 111 [ints l] (int (gJ l)):=by
 refine fnI Tryz.func111 rfl rfl (fun w0 F0=> ?_)
 refine fcC (bL 0 J) (fun hm0=> ?_)
 refine sq (rg (ag (nl (th (sq (rg (mv (iF J J T.aT O gB (lF J J T.aH (ag (ag (nl (th (sq (sq (rg (mv (lnF J T.aT (mv (nl (th (bk ?_))))))))))))))))))))))
 have hI0_0:0≤l.length:=by
  first|omega|simp
 have hI0_1:((ix l 0),(-1:Int))=(l.take 0).foldl lV (ix l 0,-1):=by
  rfl
 refine lp (κ:=Nat × Int × Int) (fun p=> [(2,int 0),(3,int p.2.1),(4,int p.2.2),(11,sl 1 nE l),(12,int (l.length:Int)),(13,int (p.1:Int))]) (fun p=> []) (fun p=>(p.1≤l.length)∧((p.2.1,p.2.2)=(l.take p.1).foldl lV (ix l 0,-1))) (fun p=>l.length- p.1) ⟨0,ix l 0,(-1:Int)⟩ ⟨hI0_0,hI0_1⟩ ⟨id,id,id,id,id,id,tV⟩ trivial ?_
 intro⟨k,bb,mx⟩ hG0
 obtain⟨hk0,hI0⟩:(k≤l.length)∧((bb,mx)=(l.take k).foldl lV (ix l 0,-1)):=hG0
 show Ct _ _ _ _ [(2,int 0),(3,int bb),(4,int mx),(11,sl 1 nE l),(12,int (l.length:Int)),(13,int (k:Int))] [] _
 refine sq (rg (bi J J aZ (nl (th (sq ?_)))))
 refine cd J (fun hc0=> ?_) (fun hc0=> ?_)
 ·try simp at hc0
  have hbk:=hb k O
  have h63:=Hm (ix l k)
  refine sk (th (sq (bk (sq (rg (iF J J T.aT O gB (lF J J T.aH (ag (nl (th (sq (rg (al (key:=7) T.z3 (eC eZ) fun b7=>(sP (φ:=int 0) J J J T.aH J (nl (th (sq (sq (rg (mv (bI (φs:= [int (ix l k)]) (φ:=clo 137 [fp [int (ix l k)]]) ⟨J,tV⟩ (prog3.vY (ix l k)) T.wA (nl (th (bk ?_))))))))))))))))))))))))
  have hR0:(0:Int)=(0:Int):=by
   rfl
  refine rf (κ:=Int) 900 (fun p=> [(7,cell b7 [int p])]) (fun iR p=>p=(iR:Int)) (fun c p=>False) J (Au (ix l k) O O) T.rW J (fun _=>J) (fun _=>J) (0:Int) hR0 ⟨rI,tV⟩ ?_ ?_ (fun k h=>h.elim) (fun id k h=>h.elim) (fun c k h=>h.elim)
  ·intro m0 c x0 hG0 hx0 l R w1 M1 F1 hRd
   have hR0:c=(m0:Int):=hG0
   have hm63:m0<63:=by have:=(List.getElem?_eq_some_iff.1 hx0).1;omega
   refine sk (aq hRd J (bk (rg (lP J J J T.aH (bi J J (aM i6) (sP (φ:=int (c+1)) J J J T.aH J (nl (eb ?_))))))))
   have hN0:(c+1)=((m0+1):Int):=by
    omega
   exact rqN (c+1) hN0 ⟨rI,rI,tV⟩
  ·intro c hG0
   have hR0:c=((aL 63 (ix l k)).length:Int):=hG0
   refine eb (th (sq (rg (lP rfl rfl rfl T.aH (mv (bi rfl rfl jA (nl (th ?_))))))))
   refine cd J (fun hc1=> ?_) (fun hc1=> ?_)
   ·try simp at hc1
    refine dr (nh:=4) [0,0,1,7] T.mixed kR ?_
    refine st_ J (fun _ _ _ gq kq=>mv' (gq.1.trans J) kq) ?_
    refine st_ J (fun _ _ _ gq kq=>lP (gq.1.trans J) J J T.aH kq) ?_
    refine st_ J (fun _ _ _ gq kq=>ag' (gq.1.trans J) kq) ?_
    refine st_ J (fun _ _ _ gq kq=>ag' (gq.1.trans J) kq) ?_
    refine pn (nl (eb (th (rg (bi J J (aM i6) (mv (nl ?_)))))))
    have hN0:(k+1)≤l.length:=by
     first|omega|simp_all
    have hN1:((ix l k),c)=(l.take (k+1)).foldl lV (ix l 0,-1):=by
     rw[EJ O,←hI0];unfold lV;rw[if_pos (by unfold Hh;omega)];unfold Hh;rw[hR0]
    exact ln (⟨k+1,ix l k,c⟩:Nat × Int × Int) ⟨hN0,hN1⟩ dO ⟨id,id,id,id,id,id,tV⟩ trivial
   ·try simp at hc1
    refine sk (eb (th (rg (bi J J (aM i6) (mv (nl ?_))))))
    have hN0:(k+1)≤l.length:=by
     first|omega|simp_all
    have hN1:(bb,mx)=(l.take (k+1)).foldl lV (ix l 0,-1):=by
     rw[EJ O,←hI0];unfold lV;rw[if_neg (by unfold Hh;omega)]
    exact ln (⟨k+1,bb,mx⟩:Nat × Int × Int) ⟨hN0,hN1⟩ dO ⟨id,id,id,id,id,id,tV⟩ trivial
 ·try simp at hc0
  refine ex (xt_ (xt_ (xb (th (sq (rg (mv (ag (nl (th (rt ?_)))))))))))
  have hr0:(bb:Int)=(gJ l):=by
   unfold gJ
   rw[List.take_of_length_le O] at hI0
   rw[←hI0]
  exact rE () [.tmp 2] J [int bb] ⟨.tmp J,tV⟩ (cA1 (fun x0=>rV [int x0]) hr0) trivial eX
theorem Qo (m:aA) (hm:bC m) (u:Int) (h0:0≤u) (h1:u<256):
 Fn0 Tryz.prog 71 [sys m,int u] (bl (jD m u)):=by
 refine fnI Tryz.func71 rfl rfl (fun w0 F0=> ?_)
 have f1:=hm.few1;have f0:=hm.few0
 refine fcC (bW 0 J) (fun hS0=> ?_)
 obtain⟨hma0,hms0,hme0⟩:=cJ hS0
 refine sq (rg (bx (key:=2) (cs:= [sl 1 rE_ m.aC,sl 1 gE m.sT]) J fun b2=>(ag (nl (th (sq (rg (mkm (key:=11) (kE:=kI) (dom:=lI) (vE:=blV) fun b11=>(AL.insert (q:=0) (u:=true) J J jX J T.Hn ⟨O,O⟩ (mv (ag (nl (th (sq (rg (bsO 13 (enc:=nE) (xs:= [0]) (css:= [[int 0]]) T.cQ ⟨J,J,p1 (φ:=int 0) J,tV⟩ J J J J fun v13=>(ag (nl (th (sq (sq (rg (ag (nl (th (bk ?_))))))))))))))))))))))))))
 have hI0_0:([0]:List Int)=bqY m 0∧kG (bQ ([]:List (Int × Bool)) 0 true) ([0]:List Int)∧0≤([0]:List Int).length∧∀j,j<0→bS (bR m (ix ([0]:List Int) j).toNat) u=u:=by
  exact⟨rfl,NA,by simp,fun j hj=>absurd hj O⟩
 refine lp (κ:=Nat × Value × (List Int) × (List (Int × Bool))) (fun p=> [(1,int u),(2,ptr 2 b2 0),(5,mpv 11 b11),(6,osl 13 p.2.1),(7,int (p.1:Int))]) (fun p=> [(2,cell b2 [sl 1 rE_ m.aC,sl 1 gE m.sT]),(11,mp b11 kI lI blV p.2.2.2),(13,own p.2.1 3 1 nE p.2.2.1)]) (fun p=>p.2.2.1=bqY m p.1∧kG p.2.2.2 p.2.2.1∧p.1≤p.2.2.1.length∧∀j,j<p.1→bS (bR m (ix p.2.2.1 j).toNat) u=u) (fun p=>m.sT.length- p.1) ⟨0,v13,([0]:List Int),bQ ([]:List (Int × Bool)) 0 true⟩ hI0_0 ⟨id,id,id,id,id,tV⟩ ⟨rI,rI,rI,tV⟩ ?_
 intro⟨i,v,q,mm⟩ hG0
 obtain⟨hqe,himm,hiq,hgd⟩:q=bqY m i∧kG mm q∧i≤q.length∧∀j,j<i→bS (bR m (ix q j).toNat) u=u:=hG0
 show Ct _ _ _ _ [(1,int u),(2,ptr 2 b2 0),(5,mpv 11 b11),(6,osl 13 v),(7,int (i:Int))] [(2,cell b2 [sl 1 rE_ m.aC,sl 1 gE m.sT]),(11,mp b11 kI lI blV mm),(13,own v 3 1 nE q)] _
 have hqlen:q.length≤m.sT.length:=by rw[hqe];exact Hd hm i
 refine sq (sq (rg (mv (mv (lnO J J T.aT (bi J J aZ (nl (th ?_))))))))
 refine cd J (fun hc0=> ?_) (fun hc0=> ?_)
 ·try simp at hc0
  have hqb:=(vK hm i).bd _ (by rw[←hqe];exact aO hc0)
  have hql2:=Hd hm i
  rw[←hqe] at hql2
  have hob:=DD hm (x:=(ix q i).toNat) O
  have hi5:i≤m.sT.length:=by omega
  have hn88:=hm.n8
  have hob2:0≤cX (ix m.sT (ix q i).toNat)∧cX (ix m.sT (ix q i).toNat)<256:=hob
  have hoff:∀e∈ix m.sT (ix q i).toNat,0≤e.1∧e.1<8:=fun e he=>by have:=hm.ed (ix q i).toNat O e he;omega
  refine sk (th (sq (bk (sq (dr (nh:=9) [0,1,0,0,12,28,63,127,255] T.mixed kR ?_)))))
  refine st_ J (fun _ _ _ gq kq=>fP (gq.1.trans J) T.bY kq) ?_
  refine st_ J (fun _ _ _ gq kq=>lP (gq.1.trans J) J J T.dA kq) ?_
  refine st_ J (fun _ _ _ gq kq=>mv' (gq.1.trans J) kq) ?_
  refine st_ J (fun _ _ _ gq kq=>mv' (gq.1.trans J) kq) ?_
  refine st_ J (fun _ _ _ gq kq=>iO (gq.1.trans J) J (gq.2.1.trans J) T.aT O O kq) ?_
  refine st_ J (fun _ _ _ gq kq=>lO (gq.1.trans J) J gB J T.aH kq) ?_
  refine st_ J (fun _ _ _ gq kq=>iF (gq.1.trans J) (gq.2.1.trans J) T.gY O gB kq) ?_
  refine st_ J (fun _ _ _ gq kq=>lF (gq.1.trans J) J T.fK kq) ?_
  refine st_ J (fun _ _ _ gq kq=>ag' (gq.1.trans J) kq) ?_
  refine pn (nl (th (sq (sq (rg (mv (bI (φs:= [sl 2 pE (ix m.sT (ix q i).toNat)]) (φ:=int (cX (ix m.sT (ix q i).toNat))) ⟨J,tV⟩ (sysw.tU (ix m.sT (ix q i).toNat) aS) T.Fh (mv (bi J J (Bv O O O O) (mv (bi J J fV (nl (th ?_)))))))))))))
  refine cd J (fun hc1=> ?_) (fun hc1=> ?_)
  ·try simp at hc1
   have hres:=Qn (u:=u) hi5 (by rw[←hqe];exact hc0) (by rw[←hqe];simpa [bS] using hc1)
   refine sq (rg (ag (nl (th (rt (rt_ (rb (rt_ (rt_ (rb (rt_ ?_)))))))))))
   have hr0:false=(jD m u):=by
    exact hres.symm
   exact rE () [.tmp 4] J [bl false] ⟨.tmp J,tV⟩ (cA1 (fun x0=>rV [bl x0]) hr0) trivial eX
  ·try simp at hc1
   have hgood:bS (bR m (ix q i).toNat) u=u:=by simpa [bS] using hc1
   refine sk (th (sq (rg (mv (fc (bL 34 J) fun hm34=>(lnF J T.dU (mv (nl (th (bk ?_))))))))))
   have hI1_0:0≤(ix m.sT (ix q i).toNat).length:=by
    first|omega|simp
   have hI1_1:q=visit q ((iI m (ix q i)).take 0)∧kG mm q∧q.length≤10000+0:=by
    exact⟨by rw[List.take_zero];rfl,himm,O⟩
   refine lp (κ:=Nat × Value × (List Int) × (List (Int × Bool))) (fun p=> [(1,int u),(2,ptr 2 b2 0),(5,mpv 11 b11),(6,osl 13 p.2.1),(7,int (i:Int)),(34,sl 2 pE (ix m.sT (ix q i).toNat)),(35,int ((ix m.sT (ix q i).toNat).length:Int)),(36,int (p.1:Int))]) (fun p=> [(2,cell b2 [sl 1 rE_ m.aC,sl 1 gE m.sT]),(11,mp b11 kI lI blV p.2.2.2),(13,own p.2.1 3 1 nE p.2.2.1)]) (fun p=>(p.1≤(ix m.sT (ix q i).toNat).length)∧(p.2.2.1=visit q ((iI m (ix q i)).take p.1)∧kG p.2.2.2 p.2.2.1∧p.2.2.1.length≤10000+p.1)) (fun p=>(ix m.sT (ix q i).toNat).length- p.1) ⟨0,v,q,mm⟩ ⟨hI1_0,hI1_1⟩ ⟨id,id,id,id,id,id,id,id,tV⟩ ⟨rI,rI,rI,tV⟩ ?_
   intro⟨k1,v2,q2,mm2⟩ hG1
   obtain⟨hk1,⟨hq2,himm2,hq2l⟩⟩:(k1≤(ix m.sT (ix q i).toNat).length)∧(q2=visit q ((iI m (ix q i)).take k1)∧kG mm2 q2∧q2.length≤10000+k1):=hG1
   show Ct _ _ _ _ [(1,int u),(2,ptr 2 b2 0),(5,mpv 11 b11),(6,osl 13 v2),(7,int (i:Int)),(34,sl 2 pE (ix m.sT (ix q i).toNat)),(35,int ((ix m.sT (ix q i).toNat).length:Int)),(36,int (k1:Int))] [(2,cell b2 [sl 1 rE_ m.aC,sl 1 gE m.sT]),(11,mp b11 kI lI blV mm2),(13,own v2 3 1 nE q2)] _
   have hmany:(ix m.sT (ix q i).toNat).length≤400000:=hm.many (ix q i).toNat O
   refine sq (rg (bi J J aZ (nl (th (sq ?_)))))
   refine cd J (fun hc2=> ?_) (fun hc2=> ?_)
   ·try simp at hc2
    have hek:=hm.ed (ix q i).toNat O _ (aO hc2)
    have hek2:0≤(ix (ix m.sT (ix q i).toNat) k1).2∧(ix (ix m.sT (ix q i).toNat) k1).2<(m.sT.length:Int):=hek.2.2
    refine sk (th (sq (bk (sq (rg (iF J J T.dU O gB (lFA J T.dP (Nat.le_of_ble_eq_true J) (al (key:=10) T.z94 (eC (eC eZ)) fun b10=>(sPA (cs':= [int ((ix (ix m.sT (ix q i).toNat) k1).1),int ((ix (ix m.sT (ix q i).toNat) k1).2)]) J J J T.dP J J (nl (th (sq (rg (mv (fP J T.eY (lP J J J T.aH (lookup (z:=false) (q:=(ix (ix m.sT (ix q i).toNat) k1).2) J J jX T.Hn ⟨O,O⟩ T.Qe (no J (nl (th ?_))))))))))))))))))))
    refine cd J (fun hc3=> ?_) (fun hc3=> ?_)
    ·try simp at hc3
     have hnin:(ix (edg m (ix q i).toNat) k1).2∉q2:=by have h:=himm2 (ix (edg m (ix q i).toNat) k1).2;rw[hc3] at h;simpa using h.symm
     refine sq (rg (mv (fP J T.eY (lP J J J T.aH (mapUpdate (q:=(ix (ix m.sT (ix q i).toNat) k1).2) (u:=true) J J jX J T.Hn ⟨O,O⟩ (nl (th (rg (mv (fP J T.eY (lP J J J T.aH (bsE (enc:=nE) (xs:= [((ix (ix m.sT (ix q i).toNat) k1).2)]) (css:= [[int ((ix (ix m.sT (ix q i).toNat) k1).2)]]) T.cQ ⟨J,J,p1 (φ:=int ((ix (ix m.sT (ix q i).toNat) k1).2)) J,tV⟩ J J J J (ap (key:=13) (zs:= [((ix (ix m.sT (ix q i).toNat) k1).2)]) cB J J J T.cQ (by unfold aN at*;simp;omega) (by unfold aN at*;simp;omega) fun v52=>(ag (nl (eb (th (rg (bi J J (aM i6) (mv (nl ?_)))))))))))))))))))))
     have hN0:(k1+1)≤(ix m.sT (ix q i).toNat).length:=by
      first|omega|simp_all
     have hN1:(q2++ [((ix (ix m.sT (ix q i).toNat) k1).2)])=visit q ((iI m (ix q i)).take (k1+1))∧kG (bQ mm2 ((ix (ix m.sT (ix q i).toNat) k1).2) true) (q2++ [((ix (ix m.sT (ix q i).toNat) k1).2)])∧(q2++ [((ix (ix m.sT (ix q i).toNat) k1).2)]).length≤10000+(k1+1):=by
      refine⟨?_,nL himm2 _,by simp;omega⟩
      rw[CJ hc2,EG hek.2.2.1 (by rw[←hq2];exact hnin),←hq2]
     exact ln (⟨k1+1,v52,q2++ [((ix (ix m.sT (ix q i).toNat) k1).2)],bQ mm2 ((ix (ix m.sT (ix q i).toNat) k1).2) true⟩:Nat × Value × (List Int) × (List (Int × Bool))) ⟨hN0,hN1⟩ dO ⟨id,id,id,id,id,id,id,id,tV⟩ ⟨rI,rI,rI,tV⟩
    ·try simp at hc3
     have hin:(ix (edg m (ix q i).toNat) k1).2∈q2:=by have h:=himm2 (ix (edg m (ix q i).toNat) k1).2;rw[(by simpa using hc3:(bJ mm2 (ix (edg m (ix q i).toNat) k1).2).getD false=true)] at h;simpa using h.symm
     refine sk (eb (th (rg (bi J J (aM i6) (mv (nl ?_))))))
     have hN0:(k1+1)≤(ix m.sT (ix q i).toNat).length:=by
      first|omega|simp_all
     have hN1:q2=visit q ((iI m (ix q i)).take (k1+1))∧kG mm2 q2∧q2.length≤10000+(k1+1):=by
      refine⟨?_,himm2,O⟩
      rw[CJ hc2,EH (by rw[←hq2];exact hin),←hq2]
     exact ln (⟨k1+1,v2,q2,mm2⟩:Nat × Value × (List Int) × (List (Int × Bool))) ⟨hN0,hN1⟩ dO ⟨id,id,id,id,id,id,id,id,tV⟩ ⟨rI,rI,rI,tV⟩
   ·try simp at hc2
    refine ex (xt_ (xt_ (xb (eb (th (rg (mv (bi J J (aM i6) (ag (nl ?_))))))))))
    have hN0:q2=bqY m (i+1)∧kG mm2 q2∧(i+1)≤q2.length∧∀j,j<(i+1)→bS (bR m (ix q2 j).toNat) u=u:=by
     have he:q2=bqY m (i+1):=by
      rw[He (by rw[←hqe];exact hc0),←hqe,hq2,show k1=(ix m.sT (ix q i).toNat).length by omega]
      congr 1
      exact List.take_of_length_le (by unfold iI;rw[List.length_map];exact Nat.le_refl _)
     have hpre:q<+:q2:=by rw[hq2];exact gV _ _
     have hle:=hpre.length_le
     exact⟨he,himm2,O,fun j hj=>by
      rw[sL hpre O]
      by_cases e:j=i
      ·subst e;exact hgood
      ·exact hgd j O⟩
    exact ln (⟨i+1,v2,q2,mm2⟩:Nat × Value × (List Int) × (List (Int × Bool))) hN0 (by show m.sT.length- (i+1)<m.sT.length- i;omega) ⟨id,id,id,id,id,tV⟩ ⟨rI,rI,rI,tV⟩
 ·try simp at hc0
  refine ex (xt_ (xt_ (xb (th (sq (rg (ag (nl (th (rt ?_))))))))))
  have hr0:true=(jD m u):=by
   exact(NB hm (i:=i) (by rw[←hqe] at*;omega) (by rw[←hqe];omega) (fun j hj _=>by rw[←hqe];exact hgd j hj)).symm
  exact rE () [.tmp 4] J [bl true] ⟨.tmp J,tV⟩ (cA1 (fun x0=>rV [bl x0]) hr0) trivial eX
end mkp
end
section
namespace AtM
open ref01 ref03 ref04 ref06 Part Rungs LeftM TrimM RoundM MergeM BisM BisM3 BisM4 BisM5 BisM6 Keys WalkM WitM JudgM JudgM2 LevM divr divs divd dive divf divv judg sysw satj ChsM BisS TrimI QuoM FailM DivM RefM GenW CompM CrossM FitM TogM KeepK GuardM MakeM LsysM LsysM2 KeepB
def atY (n:Nat) (q:List Int):List Int:=(List.range n).map fun(x:Nat)=>if (x:Int)∈q then dN q (x:Int)+1 else 0
theorem zX (n:Nat) (q:List Int):(atY n q).length=n:=by simp[atY]
theorem Hq {n:Nat} {q:List Int} {x:Nat} (h:x<n):ix (atY n q) x=if (x:Int)∈q then dN q (x:Int)+1 else 0:=cG h
theorem JF {n:Nat} {q:List Int} {i:Nat} (h:i<(atY n q).length):(atY n q)[i]=if (i:Int)∈q then dN q (i:Int)+1 else 0:=by simp[atY]
theorem JG {n:Nat} {q:List Int} {y:Int} (h0:0≤y) (h1:y<(n:Int)) (hn:y∉q):(atY n q).set y.toNat ((q++ [y]).length:Int)=atY n (q++ [y]):=by
 apply List.ext_getElem (by simp[atY])
 intro i a1 a2
 rw[List.getElem_set,JF a2]
 by_cases e:y.toNat=i
 ·have e2:(i:Int)=y:=by omega
  rw[if_pos e,e2,if_pos (by simp),uX hn]
  simp
 ·have e2:(i:Int)≠y:=by omega
  have hi:i<(atY n q).length:=by rw[zX];rw[zX] at a2;exact a2
  rw[if_neg e,tM e2,JF hi]
  have:(i:Int)∈q++ [y]↔(i:Int)∈q:=by simp[e2]
  by_cases c:(i:Int)∈q
  ·rw[if_pos c,if_pos (this.2 c)]
  ·rw[if_neg c,if_neg (fun h=>c (this.1 h))]
theorem Qp {n:Nat} (h:0<n):(List.replicate n (0:Int)).set 0 1=atY n [0]:=by
 have e:List.replicate n (0:Int)=atY n []:=by
  apply List.ext_getElem (by simp[atY])
  intro i a1 a2
  simp[atY]
 rw[e]
 exact JG (n:=n) (q:= []) (y:=0) O O (by simp)
theorem Wr {n:Nat} {q:List Int} {y:Int} (h0:0≤y) (h1:y<(n:Int)) (h:ix (atY n q) y.toNat=0):y∉q:=fun hq=>by
 rw[Hq O,show((y.toNat:Nat):Int)=y by omega,if_pos hq] at h
 have:=(fZ q y).1
 omega
theorem TV {n:Nat} {q:List Int} {y:Int} (h0:0≤y) (h1:y<(n:Int)) (h:ix (atY n q) y.toNat≠0):y∈q:=Classical.byContradiction fun hq=>h (by
 rw[Hq O,show((y.toNat:Nat):Int)=y by omega,if_neg hq])
theorem Ws {n:Nat} {q:List Int} {y:Int} (h0:0≤y) (h1:y<(n:Int)) (h:y∈q):ix (atY n q) y.toNat- 1=dN q y:=by
 rw[Hq O,show((y.toNat:Nat):Int)=y by omega,if_pos h];omega
def sX (l:List Int) (es:List PP) (k:Nat):List PP:=(es.take k).map fun e=>(e.1,dN l e.2)
theorem Qq {l:List Int} {es:List PP} {k:Nat} (h:es.length≤k):bT (sX l es k)=uK l es:=by
 unfold sX uK
 rw[List.take_of_length_le h]
theorem NC {l:List Int} {es:List PP} {k:Nat} (h:k<es.length):sX l es (k+1)=sX l es k++ [((ix es k).1,dN l (ix es k).2)]:=by
 unfold sX
 rw[bN h,List.map_append];rfl
theorem Qr {l:List Int} {es:List PP} {k:Nat}:(sX l es k).length≤k:=by unfold sX;rw[List.length_map,List.length_take];omega
def sY (m:aA) (k:Nat):List (List PP):=((bD m).take k).map fun x=>uK (bD m) (edg m x.toNat)
theorem ND {m:aA} {k:Nat} (h:k<(bD m).length):sY m (k+1)=sY m k++ [uK (bD m) (edg m (ix (bD m) k).toNat)]:=by
 unfold sY
 rw[bN h,List.map_append];rfl
theorem Qs {m:aA} {k:Nat} (h:(bD m).length≤k):sY m k=(aF m).sT:=by
 unfold sY
 rw[List.take_of_length_le h];rfl
theorem Qt (m:aA) (k:Nat):(sY m k).length≤k:=by unfold sY;rw[List.length_map,List.length_take];omega
end AtM
end
end Go.Proofs.YtnlfjojfgghchaaGreatDoor
