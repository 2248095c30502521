/- The walks of the functions and the plain laws. Own texts of this claim, packed: Mkmks, Mkmks2, MkFixM, Mkmkv, Mkmkw, MkFixP, Mkmkw2. -/
import Derived.Test.YtnlfjojfgghchaaGreatDoorX29
import Derived.Test.YtnlfjojfgghchaaGreatDoorX22
import Derived.Test.YtnlfjojfgghchaaGreatDoorX06
import Derived.Test.YtnlfjojfgghchaaGreatDoorX30
import Derived.Test.YtnlfjojfgghchaaGreatDoorX23
import Derived.Test.YtnlfjojfgghchaaGreatDoorX14
set_option linter.all false
namespace Go.Proofs.YtnlfjojfgghchaaGreatDoor
open AL Go
set_option maxRecDepth 100000
section
open ref01 ref03 ref04 ref06 prog prog2 prog3 prog4 prog5 prog6 prog7 prog8 prog9 prog13 prog15 starts Part Rungs LeftM TrimM RoundM MergeM BisM BisM4 BisM5 Itoa Keys WalkM StepM WitM JudgM JudgM2 search refw judg wit refj sysw satj divr divs divd dive divg divw divv divp divt LevM LevM2 TrimI QuoM FailM DivM RefM FitM TogM ProdM prodw GenW CompM CompP CrossM KeepK GuardM MakeM LsysM LsysM2 MakeM2 KeepB AtM ClsM LstM MakeM3 GuaW LeadM ValidM mkk mkp mkl mkc mkq mkg mkr
def tW (n:Int):Bool:=decide (20<n)||decide ((500:Int)<((2^n.toNat:Nat):Int))
theorem WP {p q:Int × Int} (h:(!decide ((p.1,p.2)=(q.1,q.2)))=false):p=q:=by simpa [Prod.ext_iff] using h
theorem WR {p q:Int × Int} (h:(!decide ((p.1,p.2)=(q.1,q.2)))=true):p≠q:=fun e=>by subst e;simp at h
theorem Qr {l r:List (Int × Int)} (hl:l.length=r.length) (h:∀j,j<l.length→ix l j=ix r j):l=r:=by
 apply List.ext_getElem hl
 intro j h1 h2
 have:=h j h1
 rwa [aD h1,aD h2] at this
theorem WS {m:aA} {t:SS} {l:List (Int × Int)} {u:Int} (h:∀j,j<l.length→bQ u (bK m (ix l j).1.toNat)∈acc t (ix l j).2.toNat):gT m t l u=true:=by
 unfold gT
 refine List.all_eq_true.2 fun p hp=> ?_
 obtain⟨j,hj,rfl⟩:=List.getElem_of_mem hp
 have:=h j hj
 rw[aD hj] at this
 exact decide_eq_true this
theorem XL {m:aA} {t:SS} {l:List (Int × Int)} {u:Int} {k:Nat} (hk:k<l.length) (h:bQ u (bK m (ix l k).1.toNat)∉acc t (ix l k).2.toNat):gT m t l u=false:=by
 cases e:gT m t l u with
 |false=>rfl
 |true=>
  unfold gT at e
  exact absurd (of_decide_eq_true (List.all_eq_true.1 e _ (aQ hk))) h
theorem Up {m:aA} {t:SS} {p:Int × Int} {u:Int} (h2:0≤p.2) (h:(!xY t p.2 (((bK m p.1.toNat).toNat&&&u.toNat:Nat):Int))=false):bQ u (bK m p.1.toNat)∈acc t p.2.toNat:=by
 rw[Bool.not_eq_false',Kn h2] at h
 have:=of_decide_eq_true h
 rw[FitM.tQ];exact this
theorem WT {m:aA} {t:SS} {p:Int × Int} {u:Int} (h2:0≤p.2) (h:(!xY t p.2 (((bK m p.1.toNat).toNat&&&u.toNat:Nat):Int))=true):bQ u (bK m p.1.toNat)∉acc t p.2.toNat:=by
 rw[Bool.not_eq_true',Kn h2] at h
 have:=of_decide_eq_false h
 rw[FitM.tQ];exact this
theorem Nl {m:aA} {u:Int} {k:Nat} (hk:k<(aY m).length) (h:¬bQ (bK m (ix (aY m) k).toNat) u=u):dB m u=false:=by
 cases e:dB m u with
 |false=>rfl
 |true=>
  unfold dB at e
  exact absurd (of_decide_eq_true (List.all_eq_true.1 e _ (aQ hk))) h
theorem Kq {m:aA} {u:Int} (h:∀j,j<(aY m).length→bQ (bK m (ix (aY m) j).toNat) u=u):dB m u=true:=by
 unfold dB
 refine List.all_eq_true.2 fun x hx=> ?_
 obtain⟨j,hj,rfl⟩:=List.getElem_of_mem hx
 have:=h j hj
 rw[aD hj] at this
 exact decide_eq_true this
namespace T
theorem XM:Ent Tryz.prog 60:=aN kR
theorem WU:Ent Tryz.prog 112:=aN kR
theorem XN:Ent Tryz.prog 64:=aN kR
theorem XO:Ent Tryz.prog 65:=aN kR
theorem XP:Ent Tryz.prog 90:=aN kR
end T
namespace mks
theorem Uq (n:Int) (h0:0≤n):
 Fn0 Tryz.prog 19 [int n] (bl (tW n)):=by
 refine fnI Tryz.func19 rfl rfl (fun w0 F0=> ?_)
 refine sq (rg (ag (nl (th (sq (rg (mv (bi J J fN (mv ?_)))))))))
 apply gOr (t:=5) (pd:=9) rfl
 rotate_left
 ·intro hg0 fin
  have hg0':=hg0
  try simp at hg0'
  exact gy J J J hg0 (mv (gy J J J hg0 (bi J J (pU O O) (gy J J J hg0 (bi J J fN (pkF J hg0 J (drp (X:= [(8,_),(7,_),(6,_)]) ⟨J,J,J,tV⟩ fin)))))))
 ·intro hg0 fin
  exact gn J J J hg0 J J (gn J J J hg0 J J (gn J J J hg0 J J (pkT J hg0 J (drp (X:= [(8,_),(7,_),(6,_)]) ⟨J,J,J,tV⟩ fin))))
 refine ag (nl (th (rt ?_)))
 have hr0:((decide (20<n))||(decide (500<((2^n.toNat:Nat):Int))))=(tW n):=by
  rfl
 exact rE () [.tmp 2] J [bl ((decide (20<n))||(decide (500<((2^n.toNat:Nat):Int))))] ⟨.tmp J,tV⟩ (cA1 (fun x0=>rV [bl x0]) hr0) trivial eX
theorem Kr (s:SS) (hs:oK s):
 Fn0 Tryz.prog 23 [spec s] (bl (ix (hOl s) 0)):=by
 refine fnI Tryz.func23 rfl rfl (fun w0 F0=> ?_)
 have f0:=hs.few0
 refine fcC (bW 0 J) (fun hS0=> ?_)
 obtain⟨hsa0,hss0,hse0⟩:=sLn hS0
 refine sq (rg (bx (key:=1) (cs:= [sl 1 rE_ s.aC,sl 2 sE s.sT]) J fun b1=>(ag (nl (th (sq (rg (lPA J J T.bF J (bB (φs:= [agg [sl 1 rE_ s.aC,sl 2 sE s.sT]]) (φ:=sl 1 blE (hOl s)) ⟨J,tV⟩ (ref04.KU s aS) T.XM (iF J J T.gV O (gK (k:=0) (by rw[nT];omega)) (lF J J T.eT (ag (nl (th (rt ?_)))))))))))))))
 exact rE () [.tmp 2] J [bl (ix (hOl s) 0)] ⟨.tmp J,tV⟩ J trivial eX
theorem Qs (m:aA) (hm:bA m):
 Fn0 Tryz.prog 112 [sys m,int 0] (ints (aY m)):=by
 refine fnI Tryz.func112 rfl rfl (fun w0 F0=> ?_)
 have f1:=hm.few1;have f0:=hm.few0;have hle:=nL hm
 refine fcC (bW 0 J) (fun hS0=> ?_)
 obtain⟨hma0,hms0,hme0⟩:=bU hS0
 refine sq (rg (bx (key:=2) (cs:= [sl 1 rE_ m.aC,sl 1 gE m.sT]) J fun b2=>(ag (nl (th (sq (rg (fP J T.bO (lP J J J T.cF (fc (aV 11 J) fun hm11=>(lnF J T.dQ (mk (key:=13) (m:=m.sT.length) (enc:=blE) (y:=false) J J T.vT (eC eZ) mL mL fun v13=>(ag (nl (th (sq (rg (mv (mv (iO J J J T.gV O (by simp;omega) (sO (φ:=bl true) J J J T.eT (gN (by simp;omega)) J (y':=true) J (nl (th (sq (rg (mv (bsO 18 (enc:=nE) (xs:= [0]) (css:= [[int 0]]) T.bZ ⟨J,J,p1 (φ:=int 0) J,tV⟩ J J J J fun v18=>(ag (nl (th (sq (sq (rg (ag (nl (th (bk ?_)))))))))))))))))))))))))))))))))))))
 have hI0_0:([0]:List Int)=bqY m 0∧((List.replicate m.sT.length false).set 0 true)=iX m.sT.length ([0]:List Int)∧0≤([0]:List Int).length:=by
  exact⟨rfl,Qo f0,by simp⟩
 refine lp (κ:=Nat × Value × (List Int) × (List Bool)) (fun p=> [(2,ptr 2 b2 0),(4,eqv (.slice none 0 0)),(5,osl 13 v13),(6,osl 18 p.2.1),(7,int (p.1:Int))]) (fun p=> [(2,cell b2 [sl 1 rE_ m.aC,sl 1 gE m.sT]),(13,own v13 4 1 blE p.2.2.2),(18,own p.2.1 3 1 nE p.2.2.1)]) (fun p=>p.2.2.1=bqY m p.1∧p.2.2.2=iX m.sT.length p.2.2.1∧p.1≤p.2.2.1.length) (fun p=>m.sT.length- p.1) ⟨0,v18,([0]:List Int),(List.replicate m.sT.length false).set 0 true⟩ hI0_0 ⟨id,id,id,id,id,tV⟩ ⟨rI,rI,rI,tV⟩ ?_
 intro⟨i,v,q,fn⟩ hG0
 obtain⟨hqe,hfn,hiq⟩:q=bqY m i∧fn=iX m.sT.length q∧i≤q.length:=hG0
 show Ct _ _ _ _ [(2,ptr 2 b2 0),(4,eqv (.slice none 0 0)),(5,osl 13 v13),(6,osl 18 v),(7,int (i:Int))] [(2,cell b2 [sl 1 rE_ m.aC,sl 1 gE m.sT]),(13,own v13 4 1 blE fn),(18,own v 3 1 nE q)] _
 have hqlen:q.length≤m.sT.length:=by rw[hqe];exact Ce hm i
 have hfl:fn.length=m.sT.length:=by rw[hfn];exact wP _ _
 refine sq (sq (rg (mv (mv (lnO J J T.aX (bi J J aO (nl (th ?_))))))))
 refine cd J (fun hc0=> ?_) (fun hc0=> ?_)
 ·try simp at hc0
  have hqb:=(sM hm i).bd _ (by rw[←hqe];exact aQ hc0)
  have hi5:i≤m.sT.length:=by omega
  refine sk (th (sq (bk (sq (dr (nh:=10) [0,1,0,0,12,28,63,127,255,0] T.mixed kR ?_)))))
  refine st_ J (fun _ _ _ gq kq=>fP (gq.1.trans J) T.bO kq) ?_
  refine st_ J (fun _ _ _ gq kq=>lP (gq.1.trans J) J J T.cF kq) ?_
  refine st_ J (fun _ _ _ gq kq=>mv' (gq.1.trans J) kq) ?_
  refine st_ J (fun _ _ _ gq kq=>mv' (gq.1.trans J) kq) ?_
  refine st_ J (fun _ _ _ gq kq=>iO (gq.1.trans J) J (gq.2.1.trans J) T.aX O O kq) ?_
  refine st_ J (fun _ _ _ gq kq=>lO (gq.1.trans J) J gB J T.aF kq) ?_
  refine st_ J (fun _ _ _ gq kq=>iF (gq.1.trans J) (gq.2.1.trans J) T.dQ O gB kq) ?_
  refine st_ J (fun _ _ _ gq kq=>lF (gq.1.trans J) J T.gF kq) ?_
  refine st_ J (fun _ _ _ gq kq=>lnF (gq.1.trans J) T.cQ kq) ?_
  refine st_ J (fun _ _ _ gq kq=>mv kq) ?_
  refine pn (nl (th (bk ?_)))
  have hI1_0:0≤(ix m.sT (ix q i).toNat).length:=by
   first|omega|simp
  have hI1_1:q=visit q ((fS m (ix q i)).take 0)∧fn=iX m.sT.length q∧q.length≤10000+0:=by
   exact⟨by rw[List.take_zero];rfl,hfn,O⟩
  refine lp (κ:=Nat × Value × (List Int) × (List Bool)) (fun p=> [(2,ptr 2 b2 0),(4,eqv (.slice none 0 0)),(5,osl 13 v13),(6,osl 18 p.2.1),(7,int (i:Int)),(32,sl 2 pE (ix m.sT (ix q i).toNat)),(33,int ((ix m.sT (ix q i).toNat).length:Int)),(34,int (p.1:Int))]) (fun p=> [(2,cell b2 [sl 1 rE_ m.aC,sl 1 gE m.sT]),(13,own v13 4 1 blE p.2.2.2),(18,own p.2.1 3 1 nE p.2.2.1)]) (fun p=>(p.1≤(ix m.sT (ix q i).toNat).length)∧(p.2.2.1=visit q ((fS m (ix q i)).take p.1)∧p.2.2.2=iX m.sT.length p.2.2.1∧p.2.2.1.length≤10000+p.1)) (fun p=>(ix m.sT (ix q i).toNat).length- p.1) ⟨0,v,q,fn⟩ ⟨hI1_0,hI1_1⟩ ⟨id,id,id,id,id,id,id,id,tV⟩ ⟨rI,rI,rI,tV⟩ ?_
  intro⟨k1,v2,q2,fn2⟩ hG1
  obtain⟨hk1,⟨hq2,hfn2,hq2l⟩⟩:(k1≤(ix m.sT (ix q i).toNat).length)∧(q2=visit q ((fS m (ix q i)).take k1)∧fn2=iX m.sT.length q2∧q2.length≤10000+k1):=hG1
  show Ct _ _ _ _ [(2,ptr 2 b2 0),(4,eqv (.slice none 0 0)),(5,osl 13 v13),(6,osl 18 v2),(7,int (i:Int)),(32,sl 2 pE (ix m.sT (ix q i).toNat)),(33,int ((ix m.sT (ix q i).toNat).length:Int)),(34,int (k1:Int))] [(2,cell b2 [sl 1 rE_ m.aC,sl 1 gE m.sT]),(13,own v13 4 1 blE fn2),(18,own v2 3 1 nE q2)] _
  have hmany:(ix m.sT (ix q i).toNat).length≤400000:=hm.many (ix q i).toNat O
  have hfl2:fn2.length=m.sT.length:=by rw[hfn2];exact wP _ _
  refine sq (rg (bi J J aO (nl (th (sq ?_)))))
  refine cd J (fun hc1=> ?_) (fun hc1=> ?_)
  ·try simp at hc1
   have hek:=hm.ed (ix q i).toNat O _ (aQ hc1)
   have hek2:0≤(ix (ix m.sT (ix q i).toNat) k1).2∧(ix (ix m.sT (ix q i).toNat) k1).2<(m.sT.length:Int):=hek.2.2
   refine sk (th (sq (bk (sq (rg (iF J J T.cQ O gB (lFA J T.cJ (Nat.le_of_ble_eq_true J) (al (key:=9) T.z94 (eC (eC eZ)) fun b9=>(sPA (cs':= [int ((ix (ix m.sT (ix q i).toNat) k1).1),int ((ix (ix m.sT (ix q i).toNat) k1).2)]) J J J T.cJ J J (nl (th (sq (rg (mv (fP J T.cX (lP J J J T.aF (iO J J J T.gV O O (lO J J gB J T.eT (no J (nl (th ?_)))))))))))))))))))))
   refine cd J (fun hc2=> ?_) (fun hc2=> ?_)
   ·skip
    have hnin:(ix (edg m (ix q i).toNat) k1).2∉q2:=by
     rw[hfn2,Je hek2.1 hek2.2] at hc2
     simpa using hc2
    refine sq (rg (mv (fP J T.cX (lP J J J T.aF (iO J J J T.gV O O (sO (φ:=bl true) J J J T.eT gB J (y':=true) J (nl (th (rg (mv (fP J T.cX (lP J J J T.aF (bsE (enc:=nE) (xs:= [((ix (ix m.sT (ix q i).toNat) k1).2)]) (css:= [[int ((ix (ix m.sT (ix q i).toNat) k1).2)]]) T.bZ ⟨J,J,p1 (φ:=int ((ix (ix m.sT (ix q i).toNat) k1).2)) J,tV⟩ J J J J (ap (key:=18) (zs:= [((ix (ix m.sT (ix q i).toNat) k1).2)]) bX J J J T.bZ (by unfold aT at*;simp;omega) (by unfold aT at*;simp;omega) fun v52=>(ag (nl (eb (th (rg (bi J J (aG i6) (mv (nl ?_))))))))))))))))))))))
    have hN0:(k1+1)≤(ix m.sT (ix q i).toNat).length:=by
     first|omega|simp_all
    have hN1:(q2++ [((ix (ix m.sT (ix q i).toNat) k1).2)])=visit q ((fS m (ix q i)).take (k1+1))∧(fn2.set ((ix (ix m.sT (ix q i).toNat) k1).2).toNat true)=iX m.sT.length (q2++ [((ix (ix m.sT (ix q i).toNat) k1).2)])∧(q2++ [((ix (ix m.sT (ix q i).toNat) k1).2)]).length≤10000+(k1+1):=by
     refine⟨?_,?_,by simp;omega⟩
     ·rw[vH (m:=m) (x:=ix q i) hc1,yG hek2.1 (by rw[←hq2];exact hnin),←hq2]
     ·rw[hfn2];exact GP hek2.1 hek2.2
    exact ln (⟨k1+1,v52,q2++ [((ix (ix m.sT (ix q i).toNat) k1).2)],fn2.set ((ix (ix m.sT (ix q i).toNat) k1).2).toNat true⟩:Nat × Value × (List Int) × (List Bool)) ⟨hN0,hN1⟩ dO ⟨id,id,id,id,id,id,id,id,tV⟩ ⟨rI,rI,rI,tV⟩
   ·skip
    have hin:(ix (edg m (ix q i).toNat) k1).2∈q2:=by
     rw[hfn2,Je hek2.1 hek2.2] at hc2
     simpa using hc2
    refine sk (eb (th (rg (bi J J (aG i6) (mv (nl ?_))))))
    have hN0:(k1+1)≤(ix m.sT (ix q i).toNat).length:=by
     first|omega|simp_all
    have hN1:q2=visit q ((fS m (ix q i)).take (k1+1))∧fn2=iX m.sT.length q2∧q2.length≤10000+(k1+1):=by
     refine⟨?_,hfn2,O⟩
     rw[vH (m:=m) (x:=ix q i) hc1,yH (by rw[←hq2];exact hin),←hq2]
    exact ln (⟨k1+1,v2,q2,fn2⟩:Nat × Value × (List Int) × (List Bool)) ⟨hN0,hN1⟩ dO ⟨id,id,id,id,id,id,id,id,tV⟩ ⟨rI,rI,rI,tV⟩
  ·try simp at hc1
   refine ex (xt_ (xt_ (xb (eb (th (rg (mv (bi J J (aG i6) (ag (nl ?_))))))))))
   have hN0:q2=bqY m (i+1)∧fn2=iX m.sT.length q2∧(i+1)≤q2.length:=by
    have he:q2=bqY m (i+1):=by
     rw[AA (by rw[←hqe];exact hc0),←hqe,hq2,show k1=(ix m.sT (ix q i).toNat).length by omega]
     congr 1
     exact List.take_of_length_le (by unfold fS;rw[List.length_map];exact Nat.le_refl _)
    have hpre:q<+:q2:=by rw[hq2];exact fZ _ _
    have hle2:=hpre.length_le
    exact⟨he,hfn2,O⟩
   exact ln (⟨i+1,v2,q2,fn2⟩:Nat × Value × (List Int) × (List Bool)) hN0 (by show m.sT.length- (i+1)<m.sT.length- i;omega) ⟨id,id,id,id,id,tV⟩ ⟨rI,rI,rI,tV⟩
 ·try simp at hc0
  have hqo:q=aY m:=by rw[hqe];exact Da hm O (by rw[←hqe];omega)
  refine ex (xt_ (xt_ (xb (th (sq (rg (mv (ag (nl (th (rt ?_)))))))))))
  refine fzA 18 4 rfl rfl ?_
  have hr0:q=(aY m):=by
   exact hqo
  exact rE () [.tmp 4] J [sl 1 nE q] ⟨.tmp J,tV⟩ (cA1 (fun x0=>rV [sl 1 nE x0]) hr0) trivial eX
theorem Qt (m:aA) (hm:bA m) (u:Int) (h0:0≤u) (h1:u<256):
 Fn0 Tryz.prog 65 [sys m,int u] (bl (dB m u)):=by
 refine fnI Tryz.func65 rfl rfl (fun w0 F0=> ?_)
 have f1:=hm.few1;have hle:=nL hm;have hm8:=hm.n8
 refine fcC (bW 0 J) (fun hS0=> ?_)
 obtain⟨hma0,hms0,hme0⟩:=bU hS0
 refine sq (rg (bx (key:=2) (cs:= [sl 1 rE_ m.aC,sl 1 gE m.sT]) J fun b2=>(ag (nl (th (sq (sq (rg (lPA J J T.bE J (bB (φs:= [agg [sl 1 rE_ m.aC,sl 1 gE m.sT],int 0]) (φ:=sl 1 nE (aY m)) ⟨J,J,tV⟩ (mks.Qs m aS) T.WU (fc (aV 8 J) fun hm8=>(lnF J T.aX (mv (nl (th (bk ?_))))))))))))))))
 have hI0_0:0≤(aY m).length:=by
  first|omega|simp
 have hI0_1:∀j,j<0→bQ (bK m (ix (aY m) j).toNat) u=u:=by
  exact fun j hj=>absurd hj O
 refine lp (κ:=Nat) (fun p=> [(1,int u),(2,ptr 2 b2 0),(8,sl 1 nE (aY m)),(9,int ((aY m).length:Int)),(10,int (p:Int))]) (fun p=> [(2,cell b2 [sl 1 rE_ m.aC,sl 1 gE m.sT])]) (fun p=>(p≤(aY m).length)∧(∀j,j<p→bQ (bK m (ix (aY m) j).toNat) u=u)) (fun p=>(aY m).length- p) 0 ⟨hI0_0,hI0_1⟩ ⟨id,id,id,id,id,tV⟩ ⟨rI,tV⟩ ?_
 intro k hG0
 obtain⟨hk0,hI0⟩:(k≤(aY m).length)∧(∀j,j<k→bQ (bK m (ix (aY m) j).toNat) u=u):=hG0
 refine sq (rg (bi J J aO (nl (th (sq ?_)))))
 refine cd J (fun hc0=> ?_) (fun hc0=> ?_)
 ·try simp at hc0
  have hxb:=(kD hm).bd _ (aQ (l:=aY m) (i:=k) O)
  have hof:=FG hm (x:=(ix (aY m) k).toNat) O
  have hob:0≤bK m (ix (aY m) k).toNat∧bK m (ix (aY m) k).toNat<256:=uY hm O
  refine sk (th (sq (bk (sq (rg (iF J J T.aX O gB (lF J J T.aF (ag (nl (th (sq (rg (lPA J J T.bE J (mv (bB (φs:= [agg [sl 1 rE_ m.aC,sl 1 gE m.sT],int (ix (aY m) k)]) (φ:=int (bK m (ix (aY m) k).toNat)) ⟨J,J,tV⟩ (divs.wC m (ix (aY m) k) aS O O) T.EC (mv (bi J J (rN O O O O) (mv (bi J J fI (nl (th ?_)))))))))))))))))))))
  refine cd J (fun hc1=> ?_) (fun hc1=> ?_)
  ·try simp at hc1
   refine sq (rg (ag (nl (th (rt (rb (rt_ (rt_ (rb (rt_ ?_))))))))))
   have hr0:false=(dB m u):=by
    exact(Nl O (by simpa [bQ] using hc1)).symm
   exact rE () [.tmp 4] J [bl false] ⟨.tmp J,tV⟩ (cA1 (fun x0=>rV [bl x0]) hr0) trivial eX
  ·try simp at hc1
   refine sk (eb (th (rg (bi J J (aG i6) (mv (nl ?_))))))
   have hN0:(k+1)≤(aY m).length:=by
    first|omega|simp_all
   have hN1:∀j,j<(k+1)→bQ (bK m (ix (aY m) j).toNat) u=u:=by
    intro j hj
    by_cases e:j=k
    ·subst e;simpa [bQ] using hc1
    ·exact hI0 j O
   exact ln (k+1) ⟨hN0,hN1⟩ dO ⟨id,id,id,id,id,tV⟩ ⟨rI,tV⟩
 ·try simp at hc0
  refine ex (xt_ (xt_ (xb (th (sq (rg (ag (nl (th (rt ?_))))))))))
  have hr0:true=(dB m u):=by
   exact(Kq (fun j hj=>hI0 j O)).symm
  exact rE () [.tmp 4] J [bl true] ⟨.tmp J,tV⟩ (cA1 (fun x0=>rV [bl x0]) hr0) trivial eX
theorem HE (m x:aA) (t:SS) (hm:bA m) (hx:bA x) (ht:oK t) (hz:m.sT.length*x.sT.length*t.sT.length≤1000000000) (u:Int) (h0:0≤u) (h1:u<256):
 Fn0 Tryz.prog 29 [sys m,sys x,spec t,int u] (bl (oF m x t&&dB x u)):=by
 refine fnI Tryz.func29 rfl rfl (fun w0 F0=> ?_)
 refine fcC (bW 0 J) (fun hS0=> ?_)
 obtain⟨hma0,hms0,hme0⟩:=bU hS0
 refine fcC (bW 1 J) (fun hS1=> ?_)
 obtain⟨hma1,hms1,hme1⟩:=bU hS1
 refine fcC (bW 2 J) (fun hS2=> ?_)
 obtain⟨hsa2,hss2,hse2⟩:=sLn hS2
 refine sq (rg (bx (key:=4) (cs:= [sl 1 rE_ m.aC,sl 1 gE m.sT]) J fun b4=>(bx (key:=5) (cs:= [sl 1 rE_ x.aC,sl 1 gE x.sT]) J fun b5=>(bx (key:=6) (cs:= [sl 1 rE_ t.aC,sl 2 sE t.sT]) J fun b6=>(ag (nl (th (sq (rg (lPA J J T.bE J (lPA J J T.bE J (lPA J J T.bF J (bB (φs:= [agg [sl 1 rE_ m.aC,sl 1 gE m.sT],agg [sl 1 rE_ x.aC,sl 1 gE x.sT],agg [sl 1 rE_ t.aC,sl 2 sE t.sT]]) (φ:=bl (oF m x t)) ⟨J,J,J,tV⟩ (divt.HC m x t aS aS aS aS) T.XN (mv ?_))))))))))))))
 apply cZ (t:=13) (pd:=17) rfl
 rotate_left
 ·intro hg0 fin
  have hg0':=hg0
  try simp at hg0'
  exact gy J J J hg0 (lPA J J T.bE J (gy J J J hg0 (mv (gy J J J hg0 (bB (φs:= [agg [sl 1 rE_ x.aC,sl 1 gE x.sT],int u]) (φ:=bl (dB x u)) ⟨J,J,tV⟩ (mks.Qt x aS u O O) T.XO (pkT J hg0 J (drp (X:= [(16,_),(15,_),(14,_)]) ⟨J,J,J,tV⟩ fin)))))))
 ·intro hg0 fin
  exact gn J J J hg0 J J (gn J J J hg0 J J (gn J J J hg0 J J (pkF J hg0 J (drp (X:= [(16,_),(15,_),(14,_)]) ⟨J,J,J,tV⟩ fin))))
 refine ag (nl (th (rt ?_)))
 have hr0:((oF m x t)&&(dB x u))=(oF m x t&&dB x u):=by
  rfl
 exact rE () [.tmp 8] J [bl ((oF m x t)&&(dB x u))] ⟨.tmp J,tV⟩ (cA1 (fun x0=>rV [bl x0]) hr0) trivial eX
theorem GR (l r:List (Int × Int)):
 Fn0 Tryz.prog 53 [sl 2 pE l,sl 2 pE r] (bl (decide (l=r))):=by
 refine fnI Tryz.func53 rfl rfl (fun w0 F0=> ?_)
 refine fcC (aV 0 J) (fun hm0=> ?_)
 refine fcC (aV 1 J) (fun hm1=> ?_)
 refine sq (rg (ag (nl (th (sq (sq (rg (mv (lnF J T.fR (mv (lnF J T.fR (bi J J fI (nl (th ?_))))))))))))))
 refine cd J (fun hc0=> ?_) (fun hc0=> ?_)
 ·try simp at hc0
  refine sq (rg (ag (nl (th (rt (rt_ ?_))))))
  have hr0:false=(decide (l=r)):=by
   rw[decide_eq_false (fun e=>by subst e;omega)]
  exact rE () [.tmp 4] J [bl false] ⟨.tmp J,tV⟩ (cA1 (fun x0=>rV [bl x0]) hr0) trivial eX
 ·try simp at hc0
  refine sk (th (sq (sq (rg (mv (lnF J T.fR (mv (nl (th (bk ?_))))))))))
  have hI0_0:0≤l.length:=by
   first|omega|simp
  have hI0_1:∀j,j<0→ix l j=ix r j:=by
   exact fun j hj=>absurd hj O
  refine lp (κ:=Nat) (fun p=> [(1,sl 2 pE r),(12,sl 2 pE l),(13,int (l.length:Int)),(14,int (p:Int))]) (fun p=> []) (fun p=>(p≤l.length)∧(∀j,j<p→ix l j=ix r j)) (fun p=>l.length- p) 0 ⟨hI0_0,hI0_1⟩ ⟨id,id,id,id,tV⟩ trivial ?_
  intro k hG0
  obtain⟨hk0,hI0⟩:(k≤l.length)∧(∀j,j<k→ix l j=ix r j):=hG0
  refine sq (rg (bi J J aO (nl (th (sq ?_)))))
  refine cd J (fun hc1=> ?_) (fun hc1=> ?_)
  ·try simp at hc1
   refine sk (th (sq (bk (sq (rg (mv (iF J J T.fR O gB (lFA J T.dX (Nat.le_of_ble_eq_true J) (al (key:=6) T.z80 (eC (eC eZ)) fun b6=>(ag (sPA (cs':= [int ((ix l k).1),int ((ix l k).2)]) J J J T.dX J J (nl (th (sq (dr (nh:=6) [0,0,0,6,14,31] T.mixed kR ?_)))))))))))))))
   refine st_ J (fun _ _ _ gq kq=>lPA (gq.1.trans J) J T.dX J kq) ?_
   refine st_ J (fun _ _ _ gq kq=>mv' (gq.1.trans J) kq) ?_
   refine st_ J (fun _ _ _ gq kq=>mv' (gq.1.trans J) kq) ?_
   refine st_ J (fun _ _ _ gq kq=>iF (gq.1.trans J) (gq.2.1.trans J) T.fR O gB kq) ?_
   refine st_ J (fun _ _ _ gq kq=>lFA (gq.1.trans J) T.dX (Nat.le_of_ble_eq_true J) kq) ?_
   refine st_ J (fun _ _ _ gq kq=>Wn (gq.1.trans J) (gq.2.1.trans J) T.iM T.kd3 kR kR kq) ?_
   refine pn (nl (th ?_))
   refine cd J (fun hc2=> ?_) (fun hc2=> ?_)
   ·skip
    refine sq (rg (ag (nl (th (rt (rb (rt_ (rt_ (rb (rt_ ?_))))))))))
    have hr0:false=(decide (l=r)):=by
     rw[decide_eq_false (fun e=>WR hc2 (by rw[e]))]
    exact rE () [.tmp 4] J [bl false] ⟨.tmp J,tV⟩ (cA1 (fun x0=>rV [bl x0]) hr0) trivial eX
   ·skip
    refine sk (eb (th (rg (bi J J (aG i6) (mv (nl ?_))))))
    have hN0:(k+1)≤l.length:=by
     first|omega|simp_all
    have hN1:∀j,j<(k+1)→ix l j=ix r j:=by
     intro j hj
     by_cases e:j=k
     ·subst e;exact WP hc2
     ·exact hI0 j O
    exact ln (k+1) ⟨hN0,hN1⟩ dO ⟨id,id,id,id,tV⟩ trivial
  ·try simp at hc1
   refine ex (xt_ (xt_ (xb (th (sq (rg (ag (nl (th (rt ?_))))))))))
   have hr0:true=(decide (l=r)):=by
    rw[decide_eq_true (Qr O (fun j hj=>hI0 j O))]
   exact rE () [.tmp 4] J [bl true] ⟨.tmp J,tV⟩ (cA1 (fun x0=>rV [bl x0]) hr0) trivial eX
theorem Nn (m:aA) (hm:bA m) (t:SS) (ht:oK t) (l:List (Int × Int)) (hl:gOk m t l) (u:Int) (h0:0≤u) (h1:u<256):
 Fn0 Tryz.prog 50 [sys m,spec t,sl 2 pE l,int u] (bl (gT m t l u)):=by
 refine fnI Tryz.func50 rfl rfl (fun w0 F0=> ?_)
 have f1:=hm.few1;have f2:=ht.few1;have hn8:=ht.n8;have hm8:=hm.n8
 refine fcC (bW 0 J) (fun hS0=> ?_)
 obtain⟨hma0,hms0,hme0⟩:=bU hS0
 refine fcC (bW 1 J) (fun hS1=> ?_)
 obtain⟨hsa1,hss1,hse1⟩:=sLn hS1
 refine fcC (aV 2 J) (fun hm2=> ?_)
 refine sq (rg (bx (key:=4) (cs:= [sl 1 rE_ m.aC,sl 1 gE m.sT]) J fun b4=>(bx (key:=5) (cs:= [sl 1 rE_ t.aC,sl 2 sE t.sT]) J fun b5=>(ag (nl (th (sq (sq (rg (mv (lnF J T.fR (mv (nl (th (bk ?_)))))))))))))))
 have hI0_0:0≤l.length:=by
  first|omega|simp
 have hI0_1:∀j,j<0→bQ u (bK m (ix l j).1.toNat)∈acc t (ix l j).2.toNat:=by
  exact fun j hj=>absurd hj O
 refine lp (κ:=Nat) (fun p=> [(3,int u),(4,ptr 4 b4 0),(5,ptr 5 b5 0),(11,sl 2 pE l),(12,int (l.length:Int)),(13,int (p:Int))]) (fun p=> [(4,cell b4 [sl 1 rE_ m.aC,sl 1 gE m.sT]),(5,cell b5 [sl 1 rE_ t.aC,sl 2 sE t.sT])]) (fun p=>(p≤l.length)∧(∀j,j<p→bQ u (bK m (ix l j).1.toNat)∈acc t (ix l j).2.toNat)) (fun p=>l.length- p) 0 ⟨hI0_0,hI0_1⟩ ⟨id,id,id,id,id,id,tV⟩ ⟨rI,rI,tV⟩ ?_
 intro k hG0
 obtain⟨hk0,hI0⟩:(k≤l.length)∧(∀j,j<k→bQ u (bK m (ix l j).1.toNat)∈acc t (ix l j).2.toNat):=hG0
 refine sq (rg (bi J J aO (nl (th (sq ?_)))))
 refine cd J (fun hc0=> ?_) (fun hc0=> ?_)
 ·try simp at hc0
  have hb:=jP hl (aQ (l:=l) (i:=k) O)
  have hof:=FG hm (x:=(ix l k).1.toNat) O
  have hob:0≤bK m (ix l k).1.toNat∧bK m (ix l k).1.toNat<256:=uY hm O
  refine sk (th (sq (bk (sq (rg (iF J J T.fR O gB (lFA J T.dX (Nat.le_of_ble_eq_true J) (al (key:=10) T.z80 (eC (eC eZ)) fun b10=>(sPA (cs':= [int ((ix l k).1),int ((ix l k).2)]) J J J T.dX J J (nl (th (sq (dr (nh:=11) [0,0,2,0,0,16,56,0,248,511,1023] T.mixed kR ?_)))))))))))))
  refine st_ J (fun _ _ _ gq kq=>lPA (gq.1.trans J) J T.bF J kq) ?_
  refine st_ J (fun _ _ _ gq kq=>iPA (gq.1.trans J) J T.iM T.aF J kq) ?_
  refine st_ J (fun _ _ _ gq kq=>lP (gq.1.trans J) J J T.aF kq) ?_
  refine st_ J (fun _ _ _ gq kq=>lPA (gq.1.trans J) J T.bE J kq) ?_
  refine st_ J (fun _ _ _ gq kq=>iPA (gq.1.trans J) J T.iM T.aF J kq) ?_
  refine st_ J (fun _ _ _ gq kq=>lP (gq.1.trans J) J J T.aF kq) ?_
  refine st_ J (fun _ _ _ gq kq=>bB (φs:= [agg [sl 1 rE_ m.aC,sl 1 gE m.sT],int ((ix l k).1)]) (φ:=int (bK m ((ix l k).1).toNat)) ⟨(gq.1.trans J),(gq.2.1.trans J),tV⟩ (divs.wC m ((ix l k).1) aS O O) T.EC kq) ?_
  refine st_ J (fun _ _ _ gq kq=>mv' (gq.1.trans J) kq) ?_
  refine st_ J (fun _ _ _ gq kq=>bi (gq.1.trans J) (gq.2.1.trans J) (rN O O O O) kq) ?_
  refine st_ J (fun _ _ _ gq kq=>bB (φs:= [agg [sl 1 rE_ t.aC,sl 2 sE t.sT],int ((ix l k).2),int (((bK m ((ix l k).1).toNat).toNat&&&u.toNat:Nat):Int)]) (φ:=bl (xY t ((ix l k).2) (((bK m ((ix l k).1).toNat).toNat&&&u.toNat:Nat):Int))) ⟨(gq.1.trans J),(gq.2.1.trans J),(gq.2.2.1.trans J),tV⟩ (divs.nY t ((ix l k).2) (((bK m ((ix l k).1).toNat).toNat&&&u.toNat:Nat):Int) O) T.Rz kq) ?_
  refine st_ J (fun _ _ _ gq kq=>no (gq.1.trans J) kq) ?_
  refine pn (nl (th ?_))
  refine cd J (fun hc1=> ?_) (fun hc1=> ?_)
  ·skip
   refine sq (rg (ag (nl (th (rt (rb (rt_ (rt_ (rb (rt_ ?_))))))))))
   have hr0:false=(gT m t l u):=by
    exact(XL O (WT O hc1)).symm
   exact rE () [.tmp 8] J [bl false] ⟨.tmp J,tV⟩ (cA1 (fun x0=>rV [bl x0]) hr0) trivial eX
  ·skip
   refine sk (eb (th (rg (bi J J (aG i6) (mv (nl ?_))))))
   have hN0:(k+1)≤l.length:=by
    first|omega|simp_all
   have hN1:∀j,j<(k+1)→bQ u (bK m (ix l j).1.toNat)∈acc t (ix l j).2.toNat:=by
    intro j hj
    by_cases e:j=k
    ·subst e;exact Up O hc1
    ·exact hI0 j O
   exact ln (k+1) ⟨hN0,hN1⟩ dO ⟨id,id,id,id,id,id,tV⟩ ⟨rI,rI,tV⟩
 ·try simp at hc0
  refine ex (xt_ (xt_ (xb (th (sq (rg (ag (nl (th (rt ?_))))))))))
  have hr0:true=(gT m t l u):=by
   exact(WS (fun j hj=>hI0 j O)).symm
  exact rE () [.tmp 8] J [bl true] ⟨.tmp J,tV⟩ (cA1 (fun x0=>rV [bl x0]) hr0) trivial eX
theorem Np (m:aA) (hm:bA m) (l:List Int) (hl:∀x∈l,0≤x∧x<(m.sT.length:Int)) (hll:l.length≤1000000) (a:Int):
 Fn0 Tryz.prog 90 [sys m,ints l,int a] (ints (cY m l a)):=by
 refine fnI Tryz.func90 rfl rfl (fun w0 F0=> ?_)
 have f1:=hm.few1
 refine fcC (bW 0 J) (fun hS0=> ?_)
 obtain⟨hma0,hms0,hme0⟩:=bU hS0
 refine fcC (aV 1 J) (fun hm1=> ?_)
 refine sq (rg (bx (key:=3) (cs:= [sl 1 rE_ m.aC,sl 1 gE m.sT]) J fun b3=>(ag (nl (th (sq (rg (fP J T.bO (lP J J J T.cF (fc (aV 16 J) fun hm16=>(lnF J T.dQ (mk (key:=18) (m:=m.sT.length) (enc:=blE) (y:=false) J J T.vT (eC eZ) (by unfold aT at*;omega) (by unfold aT at*;omega) fun v18=>(ag (nl (th (sq (sq (rg (mv (lnF J T.aX (mv (nl (th (bk ?_))))))))))))))))))))))))
 have hI0_0:0≤l.length:=by
  first|omega|simp
 have hI0_1:NyS m l a 0 0 (List.replicate m.sT.length false):=by
  exact OX
 refine lp (κ:=Nat × (List Bool)) (fun p=> [(2,int a),(3,ptr 3 b3 0),(6,eqv (.slice none 0 0)),(7,osl 18 v18),(19,sl 1 nE l),(20,int (l.length:Int)),(21,int (p.1:Int))]) (fun p=> [(3,cell b3 [sl 1 rE_ m.aC,sl 1 gE m.sT]),(18,own v18 4 1 blE p.2)]) (fun p=>(p.1≤l.length)∧(NyS m l a p.1 0 p.2)) (fun p=>l.length- p.1) ⟨0,List.replicate m.sT.length false⟩ ⟨hI0_0,hI0_1⟩ ⟨id,id,id,id,id,id,id,tV⟩ ⟨rI,rI,tV⟩ ?_
 intro⟨k,inb⟩ hG0
 obtain⟨hk0,hI0⟩:(k≤l.length)∧(NyS m l a k 0 inb):=hG0
 show Ct _ _ _ _ [(2,int a),(3,ptr 3 b3 0),(6,eqv (.slice none 0 0)),(7,osl 18 v18),(19,sl 1 nE l),(20,int (l.length:Int)),(21,int (k:Int))] [(3,cell b3 [sl 1 rE_ m.aC,sl 1 gE m.sT]),(18,own v18 4 1 blE inb)] _
 have hbl:=hI0.len
 refine sq (rg (bi J J aO (nl (th (sq ?_)))))
 refine cd J (fun hc0=> ?_) (fun hc0=> ?_)
 ·try simp at hc0
  have hlk:=hl _ (aQ hc0)
  have hes:=hm.ed (ix l k).toNat O
  have hmy:=hm.many (ix l k).toNat O
  refine sk (th (sq (bk (sq (rg (iF J J T.aX O gB (lF J J T.aF (ag (nl (th (sq (rg (fP J T.bO (lP J J J T.cF (mv (iF J J T.dQ O gB (lF J J T.gF (fc (aV 29 J) fun hm29=>(lnF J T.cQ (mv (nl (th (bk ?_)))))))))))))))))))))))
  have hI1_0:0≤(ix m.sT (ix l k).toNat).length:=by
   first|omega|simp
  have hI1_1:NyS m l a k 0 inb:=by
   exact hI0
  refine lp (κ:=Nat × (List Bool)) (fun p=> [(2,int a),(3,ptr 3 b3 0),(6,eqv (.slice none 0 0)),(7,osl 18 v18),(19,sl 1 nE l),(20,int (l.length:Int)),(21,int (k:Int)),(29,sl 2 pE (ix m.sT (ix l k).toNat)),(30,int ((ix m.sT (ix l k).toNat).length:Int)),(31,int (p.1:Int))]) (fun p=> [(3,cell b3 [sl 1 rE_ m.aC,sl 1 gE m.sT]),(18,own v18 4 1 blE p.2)]) (fun p=>(p.1≤(ix m.sT (ix l k).toNat).length)∧(NyS m l a k p.1 p.2)) (fun p=>(ix m.sT (ix l k).toNat).length- p.1) ⟨0,inb⟩ ⟨hI1_0,hI1_1⟩ ⟨id,id,id,id,id,id,id,id,id,id,tV⟩ ⟨rI,rI,tV⟩ ?_
  intro⟨k1,in2⟩ hG1
  obtain⟨hk1,hI1⟩:(k1≤(ix m.sT (ix l k).toNat).length)∧(NyS m l a k k1 in2):=hG1
  show Ct _ _ _ _ [(2,int a),(3,ptr 3 b3 0),(6,eqv (.slice none 0 0)),(7,osl 18 v18),(19,sl 1 nE l),(20,int (l.length:Int)),(21,int (k:Int)),(29,sl 2 pE (ix m.sT (ix l k).toNat)),(30,int ((ix m.sT (ix l k).toNat).length:Int)),(31,int (k1:Int))] [(3,cell b3 [sl 1 rE_ m.aC,sl 1 gE m.sT]),(18,own v18 4 1 blE in2)] _
  have hbl2:=hI1.len
  refine sq (rg (bi J J aO (nl (th (sq ?_)))))
  refine cd J (fun hc1=> ?_) (fun hc1=> ?_)
  ·try simp at hc1
   have hek:=hes _ (aQ (l:=(ix m.sT (ix l k).toNat)) (i:=k1) O)
   refine sk (th (sq (bk (sq (rg (iF J J T.cQ O gB (lFA J T.cJ (Nat.le_of_ble_eq_true J) (al (key:=11) T.z94 (eC (eC eZ)) fun b11=>(sPA (cs':= [int ((ix (ix m.sT (ix l k).toNat) k1).1),int ((ix (ix m.sT (ix l k).toNat) k1).2)]) J J J T.cJ J J (nl (th (sq (rg (fP J T.cT (lP J J J T.aF (mv (bi J J dZ (nl (th ?_)))))))))))))))))))
   refine cd J (fun hc2=> ?_) (fun hc2=> ?_)
   ·try simp at hc2
    refine rg (mv (fP J T.cX (lP J J J T.aF (iO J J J T.gV O O (sO (φ:=bl true) J J J T.eT gB J (y':=true) J (nl (eb (th (rg (bi J J (aG i6) (mv (nl ?_))))))))))))
    have hN0:(k1+1)≤(ix m.sT (ix l k).toNat).length:=by
     first|omega|simp_all
    have hN1:NyS m l a k (k1+1) (in2.set ((ix (ix m.sT (ix l k).toNat) k1).2).toNat true):=by
     exact Tb hI1 hc2 hek.2.2.1 hek.2.2.2
    exact ln (⟨k1+1,in2.set ((ix (ix m.sT (ix l k).toNat) k1).2).toNat true⟩:Nat × (List Bool)) ⟨hN0,hN1⟩ dO ⟨id,id,id,id,id,id,id,id,id,id,tV⟩ ⟨rI,rI,tV⟩
   ·try simp at hc2
    refine sk (eb (th (rg (bi J J (aG i6) (mv (nl ?_))))))
    have hN0:(k1+1)≤(ix m.sT (ix l k).toNat).length:=by
     first|omega|simp_all
    have hN1:NyS m l a k (k1+1) in2:=by
     exact OZ hI1 hc2
    exact ln (⟨k1+1,in2⟩:Nat × (List Bool)) ⟨hN0,hN1⟩ dO ⟨id,id,id,id,id,id,id,id,id,id,tV⟩ ⟨rI,rI,tV⟩
  ·try simp at hc1
   refine ex (xt_ (xt_ (xb (eb (th (rg (bi J J (aG i6) (mv (nl ?_)))))))))
   have hN0:(k+1)≤l.length:=by
    first|omega|simp_all
   have hN1:NyS m l a (k+1) 0 in2:=by
    rw[show k1=(ix m.sT (ix l k).toNat).length by omega] at hI1
    exact OY hI1
   exact ln (⟨k+1,in2⟩:Nat × (List Bool)) ⟨hN0,hN1⟩ dO ⟨id,id,id,id,id,id,id,tV⟩ ⟨rI,rI,tV⟩
 ·try simp at hc0
  refine ex (xt_ (xt_ (xb (th (sq (rg (nw 12 3 1 nE (ag (rtg (key:=12) 12 J (nl (th (sq (sq (rg (mv (lnO J J T.gV (mv (nl (th (bk ?_))))))))))))))))))))
  have hI2_0:0≤inb.length:=by
   first|omega|simp
  have hI2_1:([]:List Int)=((List.range 0).filter fun(x:Nat)=>ix inb x).map fun(x:Nat)=>(x:Int):=by
   rfl
  refine lp (κ:=Nat × Value × (List Int)) (fun p=> [(6,eqv (.slice none 0 0)),(12,osl 12 p.2.1),(45,osl 18 v18),(46,int (inb.length:Int)),(47,int (p.1:Int))]) (fun p=> [(3,cell b3 [sl 1 rE_ m.aC,sl 1 gE m.sT]),(12,own p.2.1 3 1 nE p.2.2),(18,own v18 4 1 blE inb)]) (fun p=>(p.1≤inb.length)∧(p.2.2=((List.range p.1).filter fun(x:Nat)=>ix inb x).map fun(x:Nat)=>(x:Int))) (fun p=>inb.length- p.1) ⟨0,(.slice none 0 0),([]:List Int)⟩ ⟨hI2_0,hI2_1⟩ ⟨id,id,id,id,id,tV⟩ ⟨rI,rI,rI,tV⟩ ?_
  intro⟨k2,v12x,out⟩ hG2
  obtain⟨hk2,hI2⟩:(k2≤inb.length)∧(out=((List.range k2).filter fun(x:Nat)=>ix inb x).map fun(x:Nat)=>(x:Int)):=hG2
  show Ct _ _ _ _ [(6,eqv (.slice none 0 0)),(12,osl 12 v12x),(45,osl 18 v18),(46,int (inb.length:Int)),(47,int (k2:Int))] [(3,cell b3 [sl 1 rE_ m.aC,sl 1 gE m.sT]),(12,own v12x 3 1 nE out),(18,own v18 4 1 blE inb)] _
  have hol:out.length≤k2:=by rw[hI2,List.length_map];exact Nat.le_trans (List.length_filter_le _ _) (by simp)
  refine sq (rg (bi J J aO (nl (th (sq ?_)))))
  refine cd J (fun hc3=> ?_) (fun hc3=> ?_)
  ·try simp at hc3
   refine sk (th (sq (bk (sq (rg (mv (iO J J J T.gV O O (lO J J gB J T.eT (ag (ag (nl (th (sq (rg (mv (nl (th ?_)))))))))))))))))
   refine cd J (fun hc4=> ?_) (fun hc4=> ?_)
   ·try simp at hc4
    refine rg (mv (mv (bsE (enc:=nE) (xs:= [(k2:Int)]) (css:= [[int (k2:Int)]]) T.bZ ⟨J,J,p1 (φ:=int (k2:Int)) J,tV⟩ J J J J (ap (key:=12) (zs:= [(k2:Int)]) bX J J J T.bZ (by unfold aT at*;simp;omega) (by unfold aT at*;simp;omega) fun v56=>(ag (nl (eb (th (rg (bi J J (aG i6) (mv (nl ?_))))))))))))
    have hN0:(k2+1)≤inb.length:=by
     first|omega|simp_all
    have hN1:(out++ [(k2:Int)])=((List.range (k2+1)).filter fun(x:Nat)=>ix inb x).map fun(x:Nat)=>(x:Int):=by
     rw[List.range_succ,List.filter_append,List.map_append,←hI2]
     simp[hc4]
    exact ln (⟨k2+1,v56,out++ [(k2:Int)]⟩:Nat × Value × (List Int)) ⟨hN0,hN1⟩ dO ⟨id,id,id,id,id,tV⟩ ⟨rI,rI,rI,tV⟩
   ·try simp at hc4
    refine sk (eb (th (rg (bi J J (aG i6) (mv (nl ?_))))))
    have hN0:(k2+1)≤inb.length:=by
     first|omega|simp_all
    have hN1:out=((List.range (k2+1)).filter fun(x:Nat)=>ix inb x).map fun(x:Nat)=>(x:Int):=by
     rw[List.range_succ,List.filter_append,List.map_append,←hI2]
     simp[hc4]
    exact ln (⟨k2+1,v12x,out⟩:Nat × Value × (List Int)) ⟨hN0,hN1⟩ dO ⟨id,id,id,id,id,tV⟩ ⟨rI,rI,rI,tV⟩
  ·try simp at hc3
   refine ex (xt_ (xt_ (xb (th (sq (rg (mv (ag (nl (th (rt ?_)))))))))))
   refine fzA 12 6 rfl rfl ?_
   have hr0:out=(cY m l a):=by
    rw[show k=l.length by omega] at hI0
    rw[hI2,show k2=m.sT.length by have:=hI0.len;omega]
    exact Pb hI0
   exact rE () [.tmp 6] J [sl 1 nE out] ⟨.tmp J,tV⟩ (cA1 (fun x0=>rV [sl 1 nE x0]) hr0) trivial eX
theorem Ur (m:aA) (hm:bA m) (t:SS) (ht:oK t) (l:List (Int × Int)) (hl:gOk m t l) (a:Nat) (hh:has (aZ (gA m t l)) (a:Int)=true):
 Fn0 Tryz.prog 52 [sys m,spec t,sl 2 pE l,int (a:Int)] (sl 2 pE (GuardM.gN m t l a)):=by
 refine fnI Tryz.func52 rfl rfl (fun w0 F0=> ?_)
 have f1:=hm.few1;have f2:=ht.few1;have f3:=hm.few0;have f4:=ht.few0;have hn8:=ht.n8
 have hmn:m.sT.length*t.sT.length≤10000*10000:=Nat.mul_le_mul f1 f2
 refine fcC (bW 0 J) (fun hS0=> ?_)
 obtain⟨hma0,hms0,hme0⟩:=bU hS0
 refine fcC (bW 1 J) (fun hS1=> ?_)
 obtain⟨hsa1,hss1,hse1⟩:=sLn hS1
 refine fcC (aV 2 J) (fun hm2=> ?_)
 refine sq (rg (bx (key:=4) (cs:= [sl 1 rE_ m.aC,sl 1 gE m.sT]) J fun b4=>(bx (key:=5) (cs:= [sl 1 rE_ t.aC,sl 2 sE t.sT]) J fun b5=>(ag (nl (th (sq (rg (fP J T.bO (lP J J J T.cF (fc (aV 20 J) fun hm20=>(lnF J T.dQ (mk (key:=22) (m:=m.sT.length) (enc:=eJ) (y:=(.slice none 0 0:Value)) J J T.QU (eC eZ) mL mL fun v22=>(ag (nl (th (sq (sq (rg (nbB 231 m.sT.length 4 1 blE (mv (lnO J J T.tF (mv (nl (th (bk ?_))))))))))))))))))))))))))
 have hI0_0:0≤(List.replicate m.sT.length (.slice none 0 0:Value)).length:=by
  first|omega|simp
 have hI0_1:(List.replicate m.sT.length (.slice none 0 0:Value)).length=m.sT.length∧(List.replicate m.sT.length [])=List.replicate 0 (List.replicate t.sT.length false)++List.replicate (m.sT.length- 0) []:=by
  exact⟨by simp,by simp⟩
 refine lp (κ:=Nat × (List Value) × (List (List Bool))) (fun p=> [(2,sl 2 pE l),(3,int (a:Int)),(4,ptr 4 b4 0),(5,ptr 5 b5 0),(8,eqv (.slice none 0 0)),(9,osl 22 v22),(24,int ((List.replicate m.sT.length (.slice none 0 0:Value)).length:Int)),(25,int (p.1:Int))]) (fun p=> [(4,cell b4 [sl 1 rE_ m.aC,sl 1 gE m.sT]),(5,cell b5 [sl 1 rE_ t.aC,sl 2 sE t.sT]),(22,own v22 90 1 eJ p.2.1),(231,bJ p.2.1 4 1 blE p.2.2 none)]) (fun p=>(p.1≤(List.replicate m.sT.length (.slice none 0 0:Value)).length)∧(p.2.1.length=m.sT.length∧p.2.2=List.replicate p.1 (List.replicate t.sT.length false)++List.replicate (m.sT.length- p.1) [])) (fun p=>(List.replicate m.sT.length (.slice none 0 0:Value)).length- p.1) ⟨0,List.replicate m.sT.length (.slice none 0 0:Value),List.replicate m.sT.length []⟩ ⟨hI0_0,hI0_1⟩ ⟨id,id,id,id,id,id,id,id,tV⟩ ⟨rI,rI,rI,rI,tV⟩ ?_
 intro⟨k,us,mt⟩ hG0
 obtain⟨hk0,⟨hul,hmt⟩⟩:(k≤(List.replicate m.sT.length (.slice none 0 0:Value)).length)∧(us.length=m.sT.length∧mt=List.replicate k (List.replicate t.sT.length false)++List.replicate (m.sT.length- k) []):=hG0
 show Ct _ _ _ _ [(2,sl 2 pE l),(3,int (a:Int)),(4,ptr 4 b4 0),(5,ptr 5 b5 0),(8,eqv (.slice none 0 0)),(9,osl 22 v22),(24,int ((List.replicate m.sT.length (.slice none 0 0:Value)).length:Int)),(25,int (k:Int))] [(4,cell b4 [sl 1 rE_ m.aC,sl 1 gE m.sT]),(5,cell b5 [sl 1 rE_ t.aC,sl 2 sE t.sT]),(22,own v22 90 1 eJ us),(231,bJ us 4 1 blE mt none)] _
 have hml:mt.length=m.sT.length:=by rw[hmt];simp;omega
 refine sq (rg (bi J J aO (nl (th (sq ?_)))))
 refine cd J (fun hc0=> ?_) (fun hc0=> ?_)
 ·try simp at hc0
  refine sk (th (sq (bk (sq (rg (mv (ag (nl (th (NC 231 2399 k J J (by decide) (gK O) (gK O) (rg (mv (mv (fP J T.bL (lP J J J T.bT (fc (aV 31 J) fun hm31=>(lnF J T.cO (mk (key:=33) (m:=t.sT.length) (enc:=blE) (y:=false) J J T.vT (eC eZ) mL mL fun v33=>(iO J J J T.tF O O (sOO (k2:=33) J J eV J T.lN gB J (y':=v33) J (nl (eb (th (rg (gvB (us:=us) 231 33 k J J (by decide) O (bi J J (aG i6) (mv (nl ?_))))))))))))))))))))))))))))
  have hN0:(k+1)≤(List.replicate m.sT.length (.slice none 0 0:Value)).length:=by
   first|omega|simp_all
  have hN1:(us.set k v33).length=m.sT.length∧(mt.set k (List.replicate t.sT.length false))=List.replicate (k+1) (List.replicate t.sT.length false)++List.replicate (m.sT.length- (k+1)) []:=by
   refine⟨by simpa using hul,?_⟩
   rw[hmt];exact SD _ _ hc0
  exact ln (⟨k+1,us.set k v33,mt.set k (List.replicate t.sT.length false)⟩:Nat × (List Value) × (List (List Bool))) ⟨hN0,hN1⟩ dO ⟨id,id,id,id,id,id,id,id,tV⟩ ⟨rI,rI,rI,rI,tV⟩
 ·try simp at hc0
  have hmz:mt=mat m.sT.length t.sT.length (fH m t a (l.take 0)):=by rw[hmt,show k=m.sT.length by omega,Nat.sub_self];show _=mat _ _ [];rw[OC];simp
  refine ex (xt_ (xt_ (xb (th (sq (sq (rg (mv (lnF J T.fR (mv (nl (th (bk ?_)))))))))))))
  have hI1_0:0≤l.length:=by
   first|omega|simp
  have hI1_1:mt=mat m.sT.length t.sT.length (fH m t a (l.take 0)):=by
   exact hmz
  refine lp (κ:=Nat × (List (List Bool))) (fun p=> [(3,int (a:Int)),(4,ptr 4 b4 0),(5,ptr 5 b5 0),(8,eqv (.slice none 0 0)),(9,osl 22 v22),(36,sl 2 pE l),(37,int (l.length:Int)),(38,int (p.1:Int))]) (fun p=> [(4,cell b4 [sl 1 rE_ m.aC,sl 1 gE m.sT]),(5,cell b5 [sl 1 rE_ t.aC,sl 2 sE t.sT]),(22,own v22 90 1 eJ us),(231,bJ us 4 1 blE p.2 none)]) (fun p=>(p.1≤l.length)∧(p.2=mat m.sT.length t.sT.length (fH m t a (l.take p.1)))) (fun p=>l.length- p.1) ⟨0,mt⟩ ⟨hI1_0,hI1_1⟩ ⟨id,id,id,id,id,id,id,id,tV⟩ ⟨rI,rI,rI,rI,tV⟩ ?_
  intro⟨k1,mt1⟩ hG1
  obtain⟨hk1,hmt1⟩:(k1≤l.length)∧(mt1=mat m.sT.length t.sT.length (fH m t a (l.take k1))):=hG1
  show Ct _ _ _ _ [(3,int (a:Int)),(4,ptr 4 b4 0),(5,ptr 5 b5 0),(8,eqv (.slice none 0 0)),(9,osl 22 v22),(36,sl 2 pE l),(37,int (l.length:Int)),(38,int (k1:Int))] [(4,cell b4 [sl 1 rE_ m.aC,sl 1 gE m.sT]),(5,cell b5 [sl 1 rE_ t.aC,sl 2 sE t.sT]),(22,own v22 90 1 eJ us),(231,bJ us 4 1 blE mt1 none)] _
  have hml1:mt1.length=m.sT.length:=by rw[hmt1];exact Im _ _ _
  refine sq (rg (bi J J aO (nl (th (sq ?_)))))
  refine cd J (fun hc1=> ?_) (fun hc1=> ?_)
  ·try simp at hc1
   have hb:=jP hl (aQ (l:=l) (i:=k1) O)
   have hN1:∀x∈[(ix l k1).1],0≤x∧x<(m.sT.length:Int):=fun x hx=>by rw[List.mem_singleton.1 hx];exact⟨hb.1,hb.2.1⟩
   have hNl:=wF m [(ix l k1).1] (a:Int)
   refine sk (th (sq (bk (sq (rg (iF J J T.fR O gB (lFA J T.dX (Nat.le_of_ble_eq_true J) (al (key:=12) T.z80 (eC (eC eZ)) fun b12=>(sPA (cs':= [int ((ix l k1).1),int ((ix l k1).2)]) J J J T.dX J J (nl (th (sq (rg (lPA J J T.bE J (iPA J J T.iM T.aF J (lP J J J T.aF (bsE (enc:=nE) (xs:= [((ix l k1).1)]) (css:= [[int ((ix l k1).1)]]) T.bZ ⟨J,J,p1 (φ:=int ((ix l k1).1)) J,tV⟩ J J J J (mv (bB (φs:= [agg [sl 1 rE_ m.aC,sl 1 gE m.sT],sl 1 nE [((ix l k1).1)],int (a:Int)]) (φ:=sl 1 nE (cY m [((ix l k1).1)] (a:Int))) ⟨J,J,J,tV⟩ (mks.Np m aS [((ix l k1).1)] aS (by simp) (a:Int)) T.XP (fc (aV 47 J) fun hm47=>(lnF J T.aX (mv (nl (th (bk ?_)))))))))))))))))))))))))
   have hI2_0:0≤(cY m [((ix l k1).1)] (a:Int)).length:=by
    first|omega|simp
   have hI2_1:mt1=mat m.sT.length t.sT.length (fH m t a (l.take k1)++((cY m [(ix l k1).1] (a:Int)).take 0).map fun x=>((x,(ix (nxt t (ix l k1).2.toNat) a)):Int × Int)):=by
    rw[hmt1];simp
   refine lp (κ:=Nat × (List (List Bool))) (fun p=> [(3,int (a:Int)),(4,ptr 4 b4 0),(5,ptr 5 b5 0),(8,eqv (.slice none 0 0)),(9,osl 22 v22),(12,ptr 12 b12 0),(36,sl 2 pE l),(37,int (l.length:Int)),(38,int (k1:Int)),(47,sl 1 nE (cY m [((ix l k1).1)] (a:Int))),(48,int ((cY m [((ix l k1).1)] (a:Int)).length:Int)),(49,int (p.1:Int))]) (fun p=> [(4,cell b4 [sl 1 rE_ m.aC,sl 1 gE m.sT]),(5,cell b5 [sl 1 rE_ t.aC,sl 2 sE t.sT]),(12,cell b12 [int ((ix l k1).1),int ((ix l k1).2)]),(22,own v22 90 1 eJ us),(231,bJ us 4 1 blE p.2 none)]) (fun p=>(p.1≤(cY m [((ix l k1).1)] (a:Int)).length)∧(p.2=mat m.sT.length t.sT.length (fH m t a (l.take k1)++((cY m [(ix l k1).1] (a:Int)).take p.1).map fun x=>((x,(ix (nxt t (ix l k1).2.toNat) a)):Int × Int)))) (fun p=>(cY m [((ix l k1).1)] (a:Int)).length- p.1) ⟨0,mt1⟩ ⟨hI2_0,hI2_1⟩ ⟨id,id,id,id,id,id,id,id,id,id,id,id,tV⟩ ⟨rI,rI,rI,rI,rI,tV⟩ ?_
   intro⟨k2,mt2⟩ hG2
   obtain⟨hk2,hmt2⟩:(k2≤(cY m [((ix l k1).1)] (a:Int)).length)∧(mt2=mat m.sT.length t.sT.length (fH m t a (l.take k1)++((cY m [(ix l k1).1] (a:Int)).take k2).map fun x=>((x,(ix (nxt t (ix l k1).2.toNat) a)):Int × Int))):=hG2
   show Ct _ _ _ _ [(3,int (a:Int)),(4,ptr 4 b4 0),(5,ptr 5 b5 0),(8,eqv (.slice none 0 0)),(9,osl 22 v22),(12,ptr 12 b12 0),(36,sl 2 pE l),(37,int (l.length:Int)),(38,int (k1:Int)),(47,sl 1 nE (cY m [((ix l k1).1)] (a:Int))),(48,int ((cY m [((ix l k1).1)] (a:Int)).length:Int)),(49,int (k2:Int))] [(4,cell b4 [sl 1 rE_ m.aC,sl 1 gE m.sT]),(5,cell b5 [sl 1 rE_ t.aC,sl 2 sE t.sT]),(12,cell b12 [int ((ix l k1).1),int ((ix l k1).2)]),(22,own v22 90 1 eJ us),(231,bJ us 4 1 blE mt2 none)] _
   have hml2:mt2.length=m.sT.length:=by rw[hmt2];exact Im _ _ _
   refine sq (rg (bi J J aO (nl (th (sq ?_)))))
   refine cd J (fun hc2=> ?_) (fun hc2=> ?_)
   ·try simp at hc2
    obtain⟨kx,hkx,hkm,y,hy,e,he,he1,he2⟩:=Aj.1 (aQ (l:=(cY m [(ix l k1).1] (a:Int))) (i:=k2) O)
    rw[List.mem_singleton.1 hy] at he
    have hgo:=WA ht hl hh (aQ (l:=l) (i:=k1) O) he he1
    obtain⟨hgo1,hgo2,hgo3⟩:=hgo
    have hgo4:0≤ix (ix t.sT (ix l k1).2.toNat).next a∧ix (ix t.sT (ix l k1).2.toNat).next a<(t.sT.length:Int):=⟨hgo2,hgo3⟩
    have htst:=ht.st (ix l k1).2.toNat O
    have htnl:=htst.len
    have hk2b:0≤ix (cY m [(ix l k1).1] (a:Int)) k2∧ix (cY m [(ix l k1).1] (a:Int)) k2<(m.sT.length:Int):=by omega
    have hrl:(ix mt2 (ix (cY m [(ix l k1).1] (a:Int)) k2).toNat).length=t.sT.length:=by rw[hmt2];exact BM O
    refine sk (th (sq (bk (sq (rg (iF J J T.aX O gB (lF J J T.aF (ag (nl (th (NC 231 2310 (ix (cY m [(ix l k1).1] (a:Int)) k2).toNat J J (by decide) (gK O) (gK O) (dr (nh:=15) [0,0,3,7,0,16,0,64,240,496,1008,0,4080,8176,16383,32767] T.mixed kR ?_))))))))))))
    refine st_ J (fun _ _ _ gq kq=>mv' (gq.1.trans J) kq) ?_
    refine st_ J (fun _ _ _ gq kq=>mv' (gq.1.trans J) kq) ?_
    refine st_ J (fun _ _ _ gq kq=>iO (gq.1.trans J) J (gq.2.1.trans J) T.tF O O kq) ?_
    refine st_ J (fun _ _ _ gq kq=>lO (gq.1.trans J) J gB J T.lN kq) ?_
    refine st_ J (fun _ _ _ gq kq=>fP (gq.1.trans J) T.bL kq) ?_
    refine st_ J (fun _ _ _ gq kq=>lP (gq.1.trans J) J J T.bT kq) ?_
    refine st_ J (fun _ _ _ gq kq=>iPA (gq.1.trans J) J T.iM T.aF J kq) ?_
    refine st_ J (fun _ _ _ gq kq=>lP (gq.1.trans J) J J T.aF kq) ?_
    refine st_ J (fun _ _ _ gq kq=>iF (gq.1.trans J) (gq.2.1.trans J) T.cO O gB kq) ?_
    refine st_ J (fun _ _ _ gq kq=>fF (gq.1.trans J) T.cS kq) ?_
    refine st_ J (fun _ _ _ gq kq=>lF (gq.1.trans J) J T.bD kq) ?_
    refine st_ J (fun _ _ _ gq kq=>mv' (gq.1.trans J) kq) ?_
    refine st_ J (fun _ _ _ gq kq=>iF (gq.1.trans J) (gq.2.1.trans J) T.aX O gB kq) ?_
    refine st_ J (fun _ _ _ gq kq=>lF (gq.1.trans J) J T.aF kq) ?_
    refine st_ J (fun _ _ _ gq kq=>iO ((gq.1.trans J).trans (eV (key:=2310)).symm) J (gq.2.1.trans J) T.gV O O kq) ?_
    refine pn (sO (φ:=bl true) J J J T.eT gB J (y':=true) J (nl (eb (th (rg (gvU 231 2310 (ix (cY m [(ix l k1).1] (a:Int)) k2).toNat J J (by decide) (gK O) (bi J J (aG i6) (mv (nl ?_)))))))))
    have hN0:(k2+1)≤(cY m [((ix l k1).1)] (a:Int)).length:=by
     first|omega|simp_all
    have hN1:(mt2.set (ix (cY m [(ix l k1).1] (a:Int)) k2).toNat ((ix mt2 (ix (cY m [(ix l k1).1] (a:Int)) k2).toNat).set (ix (ix t.sT ((ix l k1).2).toNat).next a).toNat true))=mat m.sT.length t.sT.length (fH m t a (l.take k1)++((cY m [(ix l k1).1] (a:Int)).take (k2+1)).map fun x=>((x,(ix (nxt t (ix l k1).2.toNat) a)):Int × Int)):=by
     rw[bM O,List.map_append,←List.append_assoc,hmt2]
     have hms:=SC (n:=m.sT.length) (m:=t.sT.length) (vis:=fH m t a (l.take k1)++((cY m [(ix l k1).1] (a:Int)).take k2).map fun x=>((x,(ix (nxt t (ix l k1).2.toNat) a)):Int × Int)) (x:=(ix (cY m [(ix l k1).1] (a:Int)) k2).toNat) (y:=(ix (nxt t (ix l k1).2.toNat) a).toNat) O O
     rw[Int.toNat_of_nonneg O,Int.toNat_of_nonneg O] at hms
     exact hms
    exact ln (⟨k2+1,mt2.set (ix (cY m [(ix l k1).1] (a:Int)) k2).toNat ((ix mt2 (ix (cY m [(ix l k1).1] (a:Int)) k2).toNat).set (ix (ix t.sT ((ix l k1).2).toNat).next a).toNat true)⟩:Nat × (List (List Bool))) ⟨hN0,hN1⟩ dO ⟨id,id,id,id,id,id,id,id,id,id,id,id,tV⟩ ⟨rI,rI,rI,rI,rI,tV⟩
   ·try simp at hc2
    refine ex (xt_ (xt_ (xb (eb (th (rg (bi J J (aG i6) (mv (nl ?_)))))))))
    have hN0:(k1+1)≤l.length:=by
     first|omega|simp_all
    have hN1:mt2=mat m.sT.length t.sT.length (fH m t a (l.take (k1+1))):=by
     rw[hmt2,Nj O,List.take_of_length_le (l:=(cY m [(ix l k1).1] (a:Int))) O]
    exact ln (⟨k1+1,mt2⟩:Nat × (List (List Bool))) ⟨hN0,hN1⟩ dO ⟨id,id,id,id,id,id,id,id,tV⟩ ⟨rI,rI,rI,rI,tV⟩
  ·try simp at hc1
   have hvz:fH m t a (l.take k1)=fH m t a l:=by rw[List.take_of_length_le O]
   have hmt1e:mt1=mat m.sT.length t.sT.length (fH m t a l):=by rw[hmt1,hvz]
   refine ex (xt_ (xt_ (xb (th (sq (rg (nw 15 80 2 pE (ag (rtg (key:=15) 15 J (nl (th (sq (sq (rg (mv (lnO J J T.tF (mv (nl (th (bk ?_))))))))))))))))))))
   have hI3_0:0≤us.length:=by
    first|omega|simp
   have hI3_1:([]:List (Int × Int))=qK t.sT.length (fH m t a l) 0:=by
    rfl
   refine lp (κ:=Nat × Value × (List (Int × Int))) (fun p=> [(8,eqv (.slice none 0 0)),(9,osl 22 v22),(15,osl 15 p.2.1),(71,int (us.length:Int)),(72,int (p.1:Int))]) (fun p=> [(4,cell b4 [sl 1 rE_ m.aC,sl 1 gE m.sT]),(5,cell b5 [sl 1 rE_ t.aC,sl 2 sE t.sT]),(15,own p.2.1 80 2 pE p.2.2),(22,own v22 90 1 eJ us),(231,bJ us 4 1 blE mt1 none)]) (fun p=>(p.1≤us.length)∧(p.2.2=qK t.sT.length (fH m t a l) p.1)) (fun p=>us.length- p.1) ⟨0,(.slice none 0 0),([]:List (Int × Int))⟩ ⟨hI3_0,hI3_1⟩ ⟨id,id,id,id,id,tV⟩ ⟨rI,rI,rI,rI,rI,tV⟩ ?_
   intro⟨k3,w15,out⟩ hG3
   obtain⟨hk3,hout⟩:(k3≤us.length)∧(out=qK t.sT.length (fH m t a l) k3):=hG3
   show Ct _ _ _ _ [(8,eqv (.slice none 0 0)),(9,osl 22 v22),(15,osl 15 w15),(71,int (us.length:Int)),(72,int (k3:Int))] [(4,cell b4 [sl 1 rE_ m.aC,sl 1 gE m.sT]),(5,cell b5 [sl 1 rE_ t.aC,sl 2 sE t.sT]),(15,own w15 80 2 pE out),(22,own v22 90 1 eJ us),(231,bJ us 4 1 blE mt1 none)] _
   have hol:out.length≤10000*10000:=by rw[hout];exact Nat.le_trans GM (Nat.mul_le_mul O f2)
   refine sq (rg (bi J J aO (nl (th (sq ?_)))))
   refine cd J (fun hc3=> ?_) (fun hc3=> ?_)
   ·try simp at hc3
    have hrl3:(ix mt1 k3).length=t.sT.length:=by rw[hmt1e];exact BM O
    refine sk (th (sq (bk (sq (rg (mv (ag (nl (th (sq (rg (mv (mv (iO J J J T.tF O O (lO J J gB J T.lN (tkB 231 2320 k3 J J (by decide) (gK O) (gK O) (kn 78 (osl 2320 (ix us k3)) J dM (lnO J J T.gV (mv (nl (th (bk ?_))))))))))))))))))))))
    have hI4_0:0≤(ix mt1 k3).length:=by
     first|omega|simp
    have hI4_1:out=out++lY t.sT.length (fH m t a l) k3 0:=by
     exact(List.append_nil _).symm
    refine lp (κ:=Nat × Value × (List (Int × Int))) (fun p=> [(8,eqv (.slice none 0 0)),(9,osl 22 v22),(15,osl 15 p.2.1),(16,int (k3:Int)),(71,int (us.length:Int)),(72,int (k3:Int)),(78,osl 2320 (ix us k3)),(79,int ((ix mt1 k3).length:Int)),(80,int (p.1:Int))]) (fun p=> [(4,cell b4 [sl 1 rE_ m.aC,sl 1 gE m.sT]),(5,cell b5 [sl 1 rE_ t.aC,sl 2 sE t.sT]),(15,own p.2.1 80 2 pE p.2.2),(22,own v22 90 1 eJ us),(231,bJ us 4 1 blE mt1 (some k3)),(2320,own (ix us k3) 4 1 blE (ix mt1 k3))]) (fun p=>(p.1≤(ix mt1 k3).length)∧(p.2.2=out++lY t.sT.length (fH m t a l) k3 p.1)) (fun p=>(ix mt1 k3).length- p.1) ⟨0,w15,out⟩ ⟨hI4_0,hI4_1⟩ ⟨id,id,id,id,id,id,id,id,id,tV⟩ ⟨rI,rI,rI,rI,rI,rI,tV⟩ ?_
    intro⟨k4,x15,ou4⟩ hG4
    obtain⟨hk4,hout4⟩:(k4≤(ix mt1 k3).length)∧(ou4=out++lY t.sT.length (fH m t a l) k3 k4):=hG4
    show Ct _ _ _ _ [(8,eqv (.slice none 0 0)),(9,osl 22 v22),(15,osl 15 x15),(16,int (k3:Int)),(71,int (us.length:Int)),(72,int (k3:Int)),(78,osl 2320 (ix us k3)),(79,int ((ix mt1 k3).length:Int)),(80,int (k4:Int))] [(4,cell b4 [sl 1 rE_ m.aC,sl 1 gE m.sT]),(5,cell b5 [sl 1 rE_ t.aC,sl 2 sE t.sT]),(15,own x15 80 2 pE ou4),(22,own v22 90 1 eJ us),(231,bJ us 4 1 blE mt1 (some k3)),(2320,own (ix us k3) 4 1 blE (ix mt1 k3))] _
    have hol4:ou4.length≤10000*10000+k4:=by rw[hout4,List.length_append];have:=GL (n:=t.sT.length) (vis:=fH m t a l) (x:=k3) (k:=k4);omega
    refine sq (rg (bi J J aO (nl (th (sq ?_)))))
    refine cd J (fun hc4=> ?_) (fun hc4=> ?_)
    ·try simp at hc4
     have hmi:ix (ix mt1 k3) k4=decide (((k3:Int),(k4:Int))∈fH m t a l):=by rw[hmt1e];exact Vw O O
     refine sk (th (sq (bk (sq (rg (mv (iO J J J T.gV O O (lO J J gB J T.eT (ag (ag (nl (th (sq (rg (mv (nl (th ?_)))))))))))))))))
     refine cd J (fun hc5=> ?_) (fun hc5=> ?_)
     ·skip
      have hin:((k3:Int),(k4:Int))∈fH m t a l:=by rw[hmi] at hc5;exact of_decide_eq_true hc5
      refine rg (mv (mv (mv (bd (css:= [(0,_),(1,_)]) T.uC (eC (eC eZ)) ⟨J,J,p1 (φ:=int (k3:Int)) J,⟨J,J,p1 (φ:=int (k4:Int)) J,tV⟩⟩ (bsE (enc:=pE) (xs:= [((k3:Int),(k4:Int))]) (css:= [[int (k3:Int),int (k4:Int)]]) T.nW ⟨J,J,pA (cs:= [int (k3:Int),int (k4:Int)]) J,tV⟩ J J J J (ap (key:=15) (zs:= [((k3:Int),(k4:Int))]) bX J J J T.nW (by unfold aT at*;simp;omega) (by unfold aT at*;simp;omega) fun v91=>(ag (nl (eb (th (rg (bi J J (aG i6) (mv (nl ?_))))))))))))))
      have hN0:(k4+1)≤(ix mt1 k3).length:=by
       first|omega|simp_all
      have hN1:(ou4++ [((k3:Int),(k4:Int))])=out++lY t.sT.length (fH m t a l) k3 (k4+1):=by
       rw[Qi hin,←List.append_assoc,←hout4]
      exact ln (⟨k4+1,v91,ou4++ [((k3:Int),(k4:Int))]⟩:Nat × Value × (List (Int × Int))) ⟨hN0,hN1⟩ dO ⟨id,id,id,id,id,id,id,id,id,tV⟩ ⟨rI,rI,rI,rI,rI,rI,tV⟩
     ·skip
      have hin:((k3:Int),(k4:Int))∉fH m t a l:=by rw[hmi] at hc5;exact of_decide_eq_false hc5
      refine sk (eb (th (rg (bi J J (aG i6) (mv (nl ?_))))))
      have hN0:(k4+1)≤(ix mt1 k3).length:=by
       first|omega|simp_all
      have hN1:ou4=out++lY t.sT.length (fH m t a l) k3 (k4+1):=by
       rw[Uh hin,hout4]
      exact ln (⟨k4+1,x15,ou4⟩:Nat × Value × (List (Int × Int))) ⟨hN0,hN1⟩ dO ⟨id,id,id,id,id,id,id,id,id,tV⟩ ⟨rI,rI,rI,rI,rI,rI,tV⟩
    ·try simp at hc4
     refine ex (xt_ (xt_ (xb (eb (th (rg (gvS 231 2320 k3 J J (by decide) (gK O) (gK O) (bi J J (aG i6) (mv (nl ?_))))))))))
     have hN0:(k3+1)≤us.length:=by
      first|omega|simp_all
     have hN1:ou4=qK t.sT.length (fH m t a l) (k3+1):=by
      rw[Eg,←hout,hout4,show k4=t.sT.length by omega]
     exact ln (⟨k3+1,x15,ou4⟩:Nat × Value × (List (Int × Int))) ⟨hN0,hN1⟩ dO ⟨id,id,id,id,id,tV⟩ ⟨rI,rI,rI,rI,rI,tV⟩
   ·try simp at hc3
    refine ex (xt_ (xt_ (xb (th (sq (rg (mv (ag (nl (th (rt ?_)))))))))))
    refine fzA 15 8 rfl rfl ?_
    have hr0:out=(GuardM.gN m t l a):=by
     rw[hout,show k3=m.sT.length by omega];exact Qk hm hl
    exact rE () [.tmp 8] J [sl 2 pE out] ⟨.tmp J,tV⟩ (cA1 (fun x0=>rV [sl 2 pE x0]) hr0) trivial eX
end mks
end
section
open ref01 ref03 ref04 ref06 prog prog2 prog3 prog4 prog5 prog6 prog7 prog8 prog9 prog13 prog15 starts Part Rungs LeftM TrimM RoundM MergeM BisM BisM4 BisM5 Itoa Keys WalkM StepM WitM JudgM JudgM2 search refw judg wit refj sysw satj divr divs divd dive divg divw divv divp divt LevM LevM2 TrimI QuoM FailM DivM RefM FitM TogM ProdM prodw GenW CompM CompP CrossM KeepK GuardM MakeM LsysM LsysM2 MakeM2 KeepB AtM ClsM LstM MakeM3 GuaW LeadM ValidM mkk mkp mkl mkc mkq mkg mkr mks
theorem WV {n k:Nat} (h:k<2^n):ix (bY n) k=(k:Int):=by
 unfold bY
 exact bS h
theorem Jh {α:Type} [Inhabited α] {l:List α} {i:Nat} {x:α} (h:l[i]?=some x):ix l i=x:=by
 obtain⟨h1,h2⟩:=List.getElem?_eq_some_iff.1 h
 rw[aD h1,h2]
theorem Qu (n:Nat):(bY n).length=2^n:=by unfold bY;simp
theorem search_end {l:List (List (Int × Int))} {q:List (Int × Int)} {k:Nat} (hk:k≤l.length) (h:(decide ((k:Int)<(l.length:Int))&& !decide (ix l k=q))=false):k=l.length∨ix l k=q:=by
 rw[Bool.and_eq_false_iff,decide_eq_false_iff_not,Bool.not_eq_false',decide_eq_true_eq] at h
 rcases h with h|h
 ·left;omega
 ·exact .inr h
theorem zQ {l:List (List (Int × Int))} {q:List (Int × Int)} {k:Nat} (h:(decide ((k:Int)<(l.length:Int))&& !decide (ix l k=q))=true):k<l.length∧ix l k≠q:=by
 rw[Bool.and_eq_true,decide_eq_true_eq,Bool.not_eq_true',decide_eq_false_iff_not] at h
 exact⟨O,h.2⟩
namespace T
theorem XQ:Ent Tryz.prog 50:=aN kR
theorem XR:Ent Tryz.prog 52:=aN kR
theorem XS:Ent Tryz.prog 53:=aN kR
theorem RA:Ent Tryz.prog 18:=aN kR
end T
namespace mks2
theorem HF (m:aA) (hm:bA m) (t:SS) (ht:oK t):
 AL.Fn Tryz.prog 15 [sys m,spec t,int 600] [] (ι:= { z:SS × Bool//qM m t z }) (fun _ i=>tup [spec i.1.1,bl i.1.2]) (fun _=> []):=by
 refine fnI Tryz.func15 rfl rfl (fun w0 F0=> ?_)
 have f1:=hm.few1;have f2:=ht.few1;have f3:=hm.few0;have f4:=ht.few0;have hn8:=ht.n8;have hm8:=hm.n8;have hG:=Aw (m:=m) ht;have hz:=BZ hm ht
 obtain⟨N2,hN2⟩:∃N2,N2=2^t.aC.length:=⟨_,rfl⟩
 have hp8:N2≤256:=by rw[hN2];exact Nat.pow_le_pow_right O hn8
 have hsl:(bY t.aC.length).length=N2:=by rw[Qu,hN2]
 refine fcC (bW 0 J) (fun hS0=> ?_)
 obtain⟨hma0,hms0,hme0⟩:=bU hS0
 refine fcC (bW 1 J) (fun hS1=> ?_)
 obtain⟨hsa1,hss1,hse1⟩:=sLn hS1
 refine sq (rg (bx (key:=3) (cs:= [sl 1 rE_ m.aC,sl 1 gE m.sT]) J fun b3=>(bx (key:=4) (cs:= [sl 1 rE_ t.aC,sl 2 sE t.sT]) J fun b4=>(al (key:=6) T.z28 (eC (eC eZ)) fun b6=>(ag (nl (th (sq (rg (fP J T.dH (lP J J J T.cM (yR (enc:=rE_) (ys:=t.aC) J J T.xH mL (bd (css:= [(0,_)]) T.oP (eC (eC eZ)) ⟨J,J,p1 (φ:=sl 1 rE_ t.aC) J,tV⟩ (al (key:=8) T.z28 (eC (eC eZ)) fun b8=>(sPA (cs':= [sl 1 rE_ t.aC,eqv (.slice none 0 0)]) J J J T.bF J J (nl (th (sq (rg (bd (css:= [(0,_),(1,_)]) T.uC (eC (eC eZ)) ⟨J,J,p1 (φ:=int 0) J,⟨J,J,p1 (φ:=int 0) J,tV⟩⟩ (bsE (enc:=pE) (xs:= [(0,0)]) (css:= [[int 0,int 0]]) T.nW ⟨J,J,pA (cs:= [int 0,int 0]) J,tV⟩ J J J J (bsO 23 (enc:=gE) (xs:= [[(0,0)]]) (css:= [[sl 2 pE [(0,0)]]]) T.Ad ⟨J,J,p1 (φ:=sl 2 pE [(0,0)]) J,tV⟩ J J J J fun v23=>(ag (nl (th (sq (sq (rg (ag (nl (th (bk ?_))))))))))))))))))))))))))))))))
 refine nwC 100 79 2 sE (jS 8 1 (osl 100 (.slice none 0 0)) rfl rfl dM ?_)
 have hI0_0:HW (gA m t) (GuardM.gN m t) (gOk m t) [(0,0)] t.aC.length 0 ([[(0,0)]]:List (List (Int × Int))) ([]:List SA)∧([[(0,0)]]:List (List (Int × Int))).length≤1+8*0∧0≤600:=by
  exact⟨SR hz,by simp,O⟩
 refine lp (κ:=Nat × Value × (List (List (Int × Int))) × Value × (List SA)) (fun p=> [(2,int 600),(3,ptr 3 b3 0),(4,ptr 4 b4 0),(6,ptr 6 b6 0),(8,ptr 8 b8 0),(9,osl 23 p.2.1),(10,int (p.1:Int))]) (fun p=> [(3,cell b3 [sl 1 rE_ m.aC,sl 1 gE m.sT]),(4,cell b4 [sl 1 rE_ t.aC,sl 2 sE t.sT]),(6,cell b6 [eqv (.slice none 0 0),eqv (.slice none 0 0)]),(8,cell b8 [sl 1 rE_ t.aC,osl 100 p.2.2.2.1]),(23,own p.2.1 65 1 gE p.2.2.1),(100,own p.2.2.2.1 79 2 sE p.2.2.2.2)]) (fun p=>HW (gA m t) (GuardM.gN m t) (gOk m t) [(0,0)] t.aC.length p.1 p.2.2.1 p.2.2.2.2∧p.2.2.1.length≤1+8*p.1∧p.1≤600) (fun p=>601- p.1) ⟨0,v23,([[(0,0)]]:List (List (Int × Int))),(.slice none 0 0),([]:List SA)⟩ hI0_0 ⟨id,id,id,id,id,id,id,tV⟩ ⟨rI,rI,rI,rI,rI,rI,tV⟩ ?_
 intro⟨i,v,ql,v8,aI⟩ hG0
 obtain⟨hHW,hqlb,hi6⟩:HW (gA m t) (GuardM.gN m t) (gOk m t) [(0,0)] t.aC.length i ql aI∧ql.length≤1+8*i∧i≤600:=hG0
 show Ct _ _ _ _ [(2,int 600),(3,ptr 3 b3 0),(4,ptr 4 b4 0),(6,ptr 6 b6 0),(8,ptr 8 b8 0),(9,osl 23 v),(10,int (i:Int))] [(3,cell b3 [sl 1 rE_ m.aC,sl 1 gE m.sT]),(4,cell b4 [sl 1 rE_ t.aC,sl 2 sE t.sT]),(6,cell b6 [eqv (.slice none 0 0),eqv (.slice none 0 0)]),(8,cell b8 [sl 1 rE_ t.aC,osl 100 v8]),(23,own v 65 1 gE ql),(100,own v8 79 2 sE aI)] _
 have hil:=hHW.il
 have hol:aI.length≤i:=by rw[hHW.out];simp;omega
 refine sq (sq (rg (mv (mv (lnO J J T.oR (bi J J aO (nl (th ?_))))))))
 refine cd J (fun hc0=> ?_) (fun hc0=> ?_)
 ·try simp at hc0
  have hPm:=aQ hc0
  have hokP:=hHW.okl _ hPm
  refine sk (th (sq (bk (sq (sq (rg (mv (mv (bi J J fU (nl (th ?_)))))))))))
  refine cd J (fun hc1=> ?_) (fun hc1=> ?_)
  ·try simp at hc1
   refine sq (rg (bd (css:= []) T.oP (eC (eC eZ)) trivial (sPA (cs':= [eqv (.slice none 0 0),eqv (.slice none 0 0)]) J J J T.bF J J (ag (nl (th (rt (rt_ (rb (rt_ (rt_ (rb (rt_ ?_)))))))))))))
   refine gM 6 0 (sl 1 rE_ []) rfl rfl slnil ?_
   refine gM 6 1 (sl 2 sE []) rfl rfl slnil ?_
   exact rE ⟨(⟨[],[]⟩,false),Uk m t⟩ [.cell 6 28,.tmp 7] J [agg [sl 1 rE_ [],sl 2 sE []],bl false] ⟨.agg J J T.bF J J,.tmp J,tV⟩ J trivial eX
  ·try simp at hc1
   refine sk (th (sq (rg (al (key:=11) T.z79 (eC (eC eZ)) fun b11=>(nl (th (sq (rg (ag (nl (th (sq (sq (rg (fP J T.dH (lP J J J T.cM (fc (aV 35 J) fun hm35=>(lnF J T.eD (bi J J (pU O O) (kn 37 (int (N2:Int)) J (by rw[hN2];exact fun h=>h) (mv (nl (th (bk ?_))))))))))))))))))))))))
   refine nwC 110 3 1 nE (jS 11 0 (osl 110 (.slice none 0 0)) rfl rfl dM ?_)
   have hI1_0:0≤N2:=by
    first|omega|simp
   have hI1_1:([]:List Int)=gAH m t (ix ql i) 0∧(0:Int)=aZ ([]:List Int)∧0≤(0:Int)∧(0:Int)<256:=by
    exact⟨rfl,rfl,O,O⟩
   refine lp (κ:=Nat × Value × (List Int) × Int) (fun p=> [(2,int 600),(3,ptr 3 b3 0),(4,ptr 4 b4 0),(6,ptr 6 b6 0),(8,ptr 8 b8 0),(9,osl 23 v),(10,int (i:Int)),(11,ptr 11 b11 0),(12,int p.2.2.2),(37,int (N2:Int)),(38,int (p.1:Int))]) (fun p=> [(3,cell b3 [sl 1 rE_ m.aC,sl 1 gE m.sT]),(4,cell b4 [sl 1 rE_ t.aC,sl 2 sE t.sT]),(6,cell b6 [eqv (.slice none 0 0),eqv (.slice none 0 0)]),(8,cell b8 [sl 1 rE_ t.aC,osl 100 v8]),(11,cell b11 [osl 110 p.2.1,eqv (.slice none 0 0)]),(23,own v 65 1 gE ql),(100,own v8 79 2 sE aI),(110,own p.2.1 3 1 nE p.2.2.1)]) (fun p=>(p.1≤N2)∧(p.2.2.1=gAH m t (ix ql i) p.1∧p.2.2.2=aZ p.2.2.1∧0≤p.2.2.2∧p.2.2.2<256)) (fun p=>N2- p.1) ⟨0,(.slice none 0 0),([]:List Int),(0:Int)⟩ ⟨hI1_0,hI1_1⟩ ⟨id,id,id,id,id,id,id,id,id,id,id,tV⟩ ⟨rI,rI,rI,rI,rI,rI,rI,rI,tV⟩ ?_
   intro⟨k1,u11,ac,cn⟩ hG1
   obtain⟨hk1,⟨hac,hcn,hcn0,hcn1⟩⟩:(k1≤N2)∧(ac=gAH m t (ix ql i) k1∧cn=aZ ac∧0≤cn∧cn<256):=hG1
   show Ct _ _ _ _ [(2,int 600),(3,ptr 3 b3 0),(4,ptr 4 b4 0),(6,ptr 6 b6 0),(8,ptr 8 b8 0),(9,osl 23 v),(10,int (i:Int)),(11,ptr 11 b11 0),(12,int cn),(37,int (N2:Int)),(38,int (k1:Int))] [(3,cell b3 [sl 1 rE_ m.aC,sl 1 gE m.sT]),(4,cell b4 [sl 1 rE_ t.aC,sl 2 sE t.sT]),(6,cell b6 [eqv (.slice none 0 0),eqv (.slice none 0 0)]),(8,cell b8 [sl 1 rE_ t.aC,osl 100 v8]),(11,cell b11 [osl 110 u11,eqv (.slice none 0 0)]),(23,own v 65 1 gE ql),(100,own v8 79 2 sE aI),(110,own u11 3 1 nE ac)] _
   have hacl:ac.length≤k1:=by rw[hac];exact IZ
   refine sq (rg (bi J J aO (nl (th (sq ?_)))))
   refine cd J (fun hc2=> ?_) (fun hc2=> ?_)
   ·skip
    have hk1n:k1<N2:=by have:=of_decide_eq_true hc2;omega
    have hsk:ix (bY t.aC.length) k1=(k1:Int):=WV (by rw[←hN2];exact hk1n)
    have hkb:((k1:Nat):Int)<256:=by omega
    refine sk (th (sq (bk (sq (rg (mv (ag (nl (th (sq (dr (nh:=8) [0,0,0,0,12,28,0,127] T.mixed kR ?_)))))))))))
    refine st_ J (fun _ _ _ gq kq=>lPA (gq.1.trans J) J T.bE J kq) ?_
    refine st_ J (fun _ _ _ gq kq=>lPA (gq.1.trans J) J T.bF J kq) ?_
    refine st_ J (fun _ _ _ gq kq=>mv' (gq.1.trans J) kq) ?_
    refine st_ J (fun _ _ _ gq kq=>mv' (gq.1.trans J) kq) ?_
    refine st_ J (fun _ _ _ gq kq=>iO (gq.1.trans J) J (gq.2.1.trans J) T.oR O O kq) ?_
    refine st_ J (fun _ _ _ gq kq=>lO (gq.1.trans J) J gB J T.lQ kq) ?_
    refine st_ J (fun _ _ _ gq kq=>mv' (gq.1.trans J) kq) ?_
    refine st_ J (fun _ _ _ gq kq=>bB (φs:= [agg [sl 1 rE_ m.aC,sl 1 gE m.sT],agg [sl 1 rE_ t.aC,sl 2 sE t.sT],sl 2 pE (ix ql i),int (k1:Int)]) (φ:=bl (gT m t (ix ql i) (k1:Int))) ⟨(gq.1.trans J),(gq.2.1.trans J),(gq.2.2.1.trans J),(gq.2.2.2.1.trans J),tV⟩ (mks.Nn m aS t aS (ix ql i) aS (k1:Int) O O) T.XQ kq) ?_
    refine pn (nl (th ?_))
    refine cd J (fun hc3=> ?_) (fun hc3=> ?_)
    ·skip
     have hgt:gT m t (ix ql i) (ix (bY t.aC.length) k1)=true:=by rw[hsk];exact hc3
     refine sq (rg (fP J T.cK (lP J J J T.bD (mv (bsE (enc:=nE) (xs:= [(k1:Int)]) (css:= [[int (k1:Int)]]) T.bZ ⟨J,J,p1 (φ:=int (k1:Int)) J,tV⟩ J J J J (ap (key:=110) (zs:= [(k1:Int)]) bX J J J T.bZ (by unfold aT at*;simp;omega) (by unfold aT at*;simp;omega) fun v53=>(fP J T.cK (cI J J J J T.bD J (nl (th (rg (mv (mv (bi J J (vN O O O O) (ag (nl (eb (th (rg (bi J J (aG i6) (mv (nl ?_))))))))))))))))))))))
     have hN0:(k1+1)≤N2:=by
      first|omega|simp_all
     have hN1:(ac++ [(k1:Int)])=gAH m t (ix ql i) (k1+1)∧((cn.toNat|||k1:Nat):Int)=aZ (ac++ [(k1:Int)])∧0≤((cn.toNat|||k1:Nat):Int)∧((cn.toNat|||k1:Nat):Int)<256:=by
      exact⟨by rw[IX (by rw[hsl];exact hk1n) hgt,hac,hsk],by rw[iL,←hcn,Int.toNat_natCast],O,by have h:=kU (b:=(k1:Int)) hcn1 hkb;rw[Int.toNat_natCast] at h;exact h⟩
     exact ln (⟨k1+1,v53,ac++ [(k1:Int)],((cn.toNat|||k1:Nat):Int)⟩:Nat × Value × (List Int) × Int) ⟨hN0,hN1⟩ dO ⟨id,id,id,id,id,id,id,id,id,id,id,tV⟩ ⟨rI,rI,rI,rI,rI,rI,rI,rI,tV⟩
    ·skip
     have hgt:gT m t (ix ql i) (ix (bY t.aC.length) k1)=false:=by rw[hsk];exact hc3
     refine sk (eb (th (rg (bi J J (aG i6) (mv (nl ?_))))))
     have hN0:(k1+1)≤N2:=by
      first|omega|simp_all
     have hN1:ac=gAH m t (ix ql i) (k1+1)∧cn=aZ ac∧0≤cn∧cn<256:=by
      exact⟨by rw[Nb (by rw[hsl];exact hk1n) hgt,hac],hcn,hcn0,hcn1⟩
     exact ln (⟨k1+1,u11,ac,cn⟩:Nat × Value × (List Int) × Int) ⟨hN0,hN1⟩ dO ⟨id,id,id,id,id,id,id,id,id,id,id,tV⟩ ⟨rI,rI,rI,rI,rI,rI,rI,rI,tV⟩
   ·skip
    have hk1e:N2≤k1:=by have:=of_decide_eq_false hc2;omega
    have hac2:ac=(gA m t (ix ql i)):=by rw[hac];exact IY (by rw[hsl];exact hk1e)
    have hcn2:cn=aZ (gA m t (ix ql i)):=by rw[hcn,hac2]
    refine ex (xt_ (xt_ (xb (th (sq (sq (rg (fP J T.dH (lP J J J T.cM (lnF J T.eD (mv (nl (th (bk ?_))))))))))))))
    refine nwC 111 3 1 nE (jS 11 1 (osl 111 (.slice none 0 0)) rfl rfl dM ?_)
    have hI2_0:0≤t.aC.length:=by
     first|omega|simp
    have hI2_1:HN (gA m t) (GuardM.gN m t) (gOk m t) i ql 0 ql ([]:List Int)∧ql.length≤ql.length+0:=by
     exact⟨SU hHW,O⟩
    refine lp (κ:=Nat × Value × (List (List (Int × Int))) × Value × (List Int)) (fun p=> [(2,int 600),(3,ptr 3 b3 0),(4,ptr 4 b4 0),(6,ptr 6 b6 0),(8,ptr 8 b8 0),(9,osl 23 p.2.1),(10,int (i:Int)),(11,ptr 11 b11 0),(12,int cn),(61,int (t.aC.length:Int)),(62,int (p.1:Int))]) (fun p=> [(3,cell b3 [sl 1 rE_ m.aC,sl 1 gE m.sT]),(4,cell b4 [sl 1 rE_ t.aC,sl 2 sE t.sT]),(6,cell b6 [eqv (.slice none 0 0),eqv (.slice none 0 0)]),(8,cell b8 [sl 1 rE_ t.aC,osl 100 v8]),(11,cell b11 [osl 110 u11,osl 111 p.2.2.2.1]),(23,own p.2.1 65 1 gE p.2.2.1),(100,own v8 79 2 sE aI),(110,own u11 3 1 nE ac),(111,own p.2.2.2.1 3 1 nE p.2.2.2.2)]) (fun p=>(p.1≤t.aC.length)∧(HN (gA m t) (GuardM.gN m t) (gOk m t) i ql p.1 p.2.2.1 p.2.2.2.2∧p.2.2.1.length≤ql.length+p.1)) (fun p=>t.aC.length- p.1) ⟨0,v,ql,(.slice none 0 0),([]:List Int)⟩ ⟨hI2_0,hI2_1⟩ ⟨id,id,id,id,id,id,id,id,id,id,id,tV⟩ ⟨rI,rI,rI,rI,rI,rI,rI,rI,rI,tV⟩ ?_
    intro⟨k2,v2,l2,u12,nx⟩ hG2
    obtain⟨hk2,⟨hHN,hl2b⟩⟩:(k2≤t.aC.length)∧(HN (gA m t) (GuardM.gN m t) (gOk m t) i ql k2 l2 nx∧l2.length≤ql.length+k2):=hG2
    show Ct _ _ _ _ [(2,int 600),(3,ptr 3 b3 0),(4,ptr 4 b4 0),(6,ptr 6 b6 0),(8,ptr 8 b8 0),(9,osl 23 v2),(10,int (i:Int)),(11,ptr 11 b11 0),(12,int cn),(61,int (t.aC.length:Int)),(62,int (k2:Int))] [(3,cell b3 [sl 1 rE_ m.aC,sl 1 gE m.sT]),(4,cell b4 [sl 1 rE_ t.aC,sl 2 sE t.sT]),(6,cell b6 [eqv (.slice none 0 0),eqv (.slice none 0 0)]),(8,cell b8 [sl 1 rE_ t.aC,osl 100 v8]),(11,cell b11 [osl 110 u11,osl 111 u12]),(23,own v2 65 1 gE l2),(100,own v8 79 2 sE aI),(110,own u11 3 1 nE ac),(111,own u12 3 1 nE nx)] _
    have hnl:=VH hHN
    have hpre:=hHN.pre
    have hixP:ix l2 i=(ix ql i):=lB hpre hc0
    have hil2:i<l2.length:=Nat.lt_of_lt_of_le hc0 hpre.length_le
    refine sq (rg (bi J J aO (nl (th (sq ?_)))))
    refine cd J (fun hc4=> ?_) (fun hc4=> ?_)
    ·try simp at hc4
     refine sk (th (sq (bk (sq (rg (mv (ag (nl (th (sq (rg (ag (nl (th (sq (sq (rg (mv (mv (bB (φs:= [int cn,int (k2:Int)]) (φ:=bl (has cn (k2:Int))) ⟨J,J,tV⟩ (ref01.EZ _ _ O O O O) T.Jw (nl (th ?_))))))))))))))))))))))
     refine cd J (fun hc5=> ?_) (fun hc5=> ?_)
     ·skip
      have hh3:has (aZ (gA m t (ix ql i))) (k2:Int)=true:=by rw[←hcn2];exact hc5
      have hokN:=wK m t (ix ql i) k2
      refine sq (dr (nh:=9) [0,0,0,0,12,28,0,127,255] T.mixed kR ?_)
      refine st_ J (fun _ _ _ gq kq=>lPA (gq.1.trans J) J T.bE J kq) ?_
      refine st_ J (fun _ _ _ gq kq=>lPA (gq.1.trans J) J T.bF J kq) ?_
      refine st_ J (fun _ _ _ gq kq=>mv' (gq.1.trans J) kq) ?_
      refine st_ J (fun _ _ _ gq kq=>mv' (gq.1.trans J) kq) ?_
      refine st_ J (fun _ _ _ gq kq=>iO (gq.1.trans J) J (gq.2.1.trans J) T.oR O O kq) ?_
      refine st_ J (fun _ _ _ gq kq=>lO (gq.1.trans J) J gB J T.lQ (kd (φ':=sl 2 pE (ix ql i)) (by rw[hixP];exact fun h=>h) kq)) ?_
      refine st_ J (fun _ _ _ gq kq=>mv' (gq.1.trans J) kq) ?_
      refine st_ J (fun _ _ _ gq kq=>bB (φs:= [agg [sl 1 rE_ m.aC,sl 1 gE m.sT],agg [sl 1 rE_ t.aC,sl 2 sE t.sT],sl 2 pE (ix ql i),int (k2:Int)]) (φ:=sl 2 pE (GuardM.gN m t (ix ql i) k2)) ⟨(gq.1.trans J),(gq.2.1.trans J),(gq.2.2.1.trans J),(gq.2.2.2.1.trans J),tV⟩ (mks.Ur m aS t aS (ix ql i) aS k2 aS) T.XR kq) ?_
      refine st_ J (fun _ _ _ gq kq=>ag' (gq.1.trans J) kq) ?_
      refine pn (nl (th (sq (rg (ag (nl (th (sq (bk ?_)))))))))
      have hI3_0:0≤l2.length∧∀j,j<0→ix l2 j≠(GuardM.gN m t (ix ql i) k2):=by
       exact⟨O,fun j hj=>absurd hj O⟩
      refine lp (κ:=Nat) (fun p=> [(2,int 600),(3,ptr 3 b3 0),(4,ptr 4 b4 0),(6,ptr 6 b6 0),(8,ptr 8 b8 0),(9,osl 23 v2),(10,int (i:Int)),(11,ptr 11 b11 0),(12,int cn),(15,int (p:Int)),(16,sl 2 pE (GuardM.gN m t (ix ql i) k2)),(61,int (t.aC.length:Int)),(62,int (k2:Int))]) (fun p=> [(3,cell b3 [sl 1 rE_ m.aC,sl 1 gE m.sT]),(4,cell b4 [sl 1 rE_ t.aC,sl 2 sE t.sT]),(6,cell b6 [eqv (.slice none 0 0),eqv (.slice none 0 0)]),(8,cell b8 [sl 1 rE_ t.aC,osl 100 v8]),(11,cell b11 [osl 110 u11,osl 111 u12]),(23,own v2 65 1 gE l2),(100,own v8 79 2 sE aI),(110,own u11 3 1 nE ac),(111,own u12 3 1 nE nx)]) (fun p=>p≤l2.length∧∀j,j<p→ix l2 j≠(GuardM.gN m t (ix ql i) k2)) (fun p=>l2.length- p) 0 hI3_0 ⟨id,id,id,id,id,id,id,id,id,id,id,id,id,tV⟩ ⟨rI,rI,rI,rI,rI,rI,rI,rI,rI,tV⟩ ?_
      intro k3 hG3
      obtain⟨hkl,hne⟩:k3≤l2.length∧∀j,j<k3→ix l2 j≠(GuardM.gN m t (ix ql i) k2):=hG3
      refine sq (sq (rg (mv (mv (lnO J J T.oR (bi J J aO (mv ?_)))))))
      apply cZ (t:=80) (pd:=88) rfl
      rotate_left
      ·intro hg0 fin
       have hg0':=hg0
       try simp at hg0'
       exact gy J J J hg0 (mv (gy J J J hg0 (mv (gy J J J hg0 (iO J J J T.oR O O (gy J J J hg0 (lO J J gB J T.lQ (gy J J J hg0 (mv (gy J J J hg0 (bB (φs:= [sl 2 pE (ix l2 k3),sl 2 pE (GuardM.gN m t (ix ql i) k2)]) (φ:=bl (decide ((ix l2 k3)=(GuardM.gN m t (ix ql i) k2)))) ⟨J,J,tV⟩ (mks.GR (ix l2 k3) (GuardM.gN m t (ix ql i) k2)) T.XS (gy J J J hg0 (no J (pkT J hg0 J (drp (X:= [(87,_),(86,_),(85,_),(84,_),(83,_),(82,_),(81,_)]) ⟨J,J,J,J,J,J,J,tV⟩ fin)))))))))))))))
      ·intro hg0 fin
       exact gn J J J hg0 J J (gn J J J hg0 J J (gn J J J hg0 J J (gn J J J hg0 J J (gn J J J hg0 J J (gn J J J hg0 J J (gn J J J hg0 J J (pkF J hg0 J (drp (X:= [(87,_),(86,_),(85,_),(84,_),(83,_),(82,_),(81,_)]) ⟨J,J,J,J,J,J,J,tV⟩ fin))))))))
      refine nl (th ?_)
      refine cd J (fun hc6=> ?_) (fun hc6=> ?_)
      ·skip
       refine sk (th (bk (rg (mv (bi J J (aG i6) (ag (nl (eb ?_))))))))
       have hN0:(k3+1)≤l2.length∧∀j,j<(k3+1)→ix l2 j≠(GuardM.gN m t (ix ql i) k2):=by
        obtain⟨hs1,hs2⟩:=zQ hc6
        refine⟨O,fun j hj=> ?_⟩
        by_cases e:j=k3
        ·subst e;exact hs2
        ·exact hne j O
       exact ln (k3+1) hN0 (by have:=(zQ hc6).1;omega) ⟨id,id,id,id,id,id,id,id,id,id,id,id,id,tV⟩ ⟨rI,rI,rI,rI,rI,rI,rI,rI,rI,tV⟩
      ·skip
       have hst:k3=pxa l2 (GuardM.gN m t (ix ql i) k2):=Ql hkl (fun j hj=>hne j hj) (search_end hkl hc6)
       have hkc:(k3:Int)=(pxa l2 (GuardM.gN m t (ix ql i) k2):Int):=by rw[hst]
       refine ex (xt_ (xt_ (xb (th (sq (rg (mv (mv (lnO J J T.oR (bi J J dZ (nl (th ?_))))))))))))
       refine cd J (fun hc7=> ?_) (fun hc7=> ?_)
       ·try simp at hc7
        have hpn:=Ui (l:=l2) (q:=(GuardM.gN m t (ix ql i) k2)) O
        refine rg (mv (mv (bsE (enc:=gE) (xs:= [(GuardM.gN m t (ix ql i) k2)]) (css:= [[sl 2 pE (GuardM.gN m t (ix ql i) k2)]]) T.Ad ⟨J,J,p1 (φ:=sl 2 pE (GuardM.gN m t (ix ql i) k2)) J,tV⟩ J J J J (ap (key:=23) (zs:= [(GuardM.gN m t (ix ql i) k2)]) bX J J J T.Ad (by unfold aT at*;simp;omega) (by unfold aT at*;simp;omega) fun v98=>(ag (nl (th (rg (fP J T.cS (lP J J J T.bD (mv (bsE (enc:=nE) (xs:= [(k3:Int)]) (css:= [[int (k3:Int)]]) T.bZ ⟨J,J,p1 (φ:=int (k3:Int)) J,tV⟩ J J J J (ap (key:=111) (zs:= [(k3:Int)]) bX J J J T.bZ (by unfold aT at*;simp;omega) (by unfold aT at*;simp;omega) fun v103=>(fP J T.cS (cI J J J J T.bD J (nl (eb (th (rg (bi J J (aG i6) (mv (nl ?_))))))))))))))))))))))
        have hN0:(k2+1)≤t.aC.length:=by
         first|omega|simp_all
        have hN1:HN (gA m t) (GuardM.gN m t) (gOk m t) i ql (k2+1) (l2++ [(GuardM.gN m t (ix ql i) k2)]) (nx++ [(k3:Int)])∧(l2++ [(GuardM.gN m t (ix ql i) k2)]).length≤ql.length+(k2+1):=by
         refine⟨?_,by simp;omega⟩
         rw[←hpn,hkc]
         exact FO hHN hh3 hokN rfl
        exact ln (⟨k2+1,v98,l2++ [(GuardM.gN m t (ix ql i) k2)],v103,nx++ [(k3:Int)]⟩:Nat × Value × (List (List (Int × Int))) × Value × (List Int)) ⟨hN0,hN1⟩ dO ⟨id,id,id,id,id,id,id,id,id,id,id,tV⟩ ⟨rI,rI,rI,rI,rI,rI,rI,rI,rI,tV⟩
       ·try simp at hc7
        have hpo:=Uj (l:=l2) (q:=(GuardM.gN m t (ix ql i) k2)) O
        refine sk (th (rg (fP J T.cS (lP J J J T.bD (mv (bsE (enc:=nE) (xs:= [(k3:Int)]) (css:= [[int (k3:Int)]]) T.bZ ⟨J,J,p1 (φ:=int (k3:Int)) J,tV⟩ J J J J (ap (key:=111) (zs:= [(k3:Int)]) bX J J J T.bZ (by unfold aT at*;simp;omega) (by unfold aT at*;simp;omega) fun v103=>(fP J T.cS (cI J J J J T.bD J (nl (eb (th (rg (bi J J (aG i6) (mv (nl ?_))))))))))))))))
        have hN0:(k2+1)≤t.aC.length:=by
         first|omega|simp_all
        have hN1:HN (gA m t) (GuardM.gN m t) (gOk m t) i ql (k2+1) l2 (nx++ [(k3:Int)])∧l2.length≤ql.length+(k2+1):=by
         refine⟨?_,O⟩
         have h:=FO hHN hh3 hokN rfl
         rw[hpo] at h
         rw[hkc]
         exact h
        exact ln (⟨k2+1,v2,l2,v103,nx++ [(k3:Int)]⟩:Nat × Value × (List (List (Int × Int))) × Value × (List Int)) ⟨hN0,hN1⟩ dO ⟨id,id,id,id,id,id,id,id,id,id,id,tV⟩ ⟨rI,rI,rI,rI,rI,rI,rI,rI,rI,tV⟩
     ·skip
      have hh3:has (aZ (gA m t (ix ql i))) (k2:Int)=false:=by rw[←hcn2];exact hc5
      refine sk (th (rg (fP J T.cS (lP J J J T.bD (mv (bsE (enc:=nE) (xs:= [(-1)]) (css:= [[int (-1)]]) T.bZ ⟨J,J,p1 (φ:=int (-1)) J,tV⟩ J J J J (ap (key:=111) (zs:= [(-1)]) bX J J J T.bZ (by unfold aT at*;simp;omega) (by unfold aT at*;simp;omega) fun v103=>(fP J T.cS (cI J J J J T.bD J (nl (eb (th (rg (bi J J (aG i6) (mv (nl ?_))))))))))))))))
      have hN0:(k2+1)≤t.aC.length:=by
       first|omega|simp_all
      have hN1:HN (gA m t) (GuardM.gN m t) (gOk m t) i ql (k2+1) l2 (nx++ [(-1)])∧l2.length≤ql.length+(k2+1):=by
       exact⟨SV hHN hh3,O⟩
      exact ln (⟨k2+1,v2,l2,v103,nx++ [(-1)]⟩:Nat × Value × (List (List (Int × Int))) × Value × (List Int)) ⟨hN0,hN1⟩ dO ⟨id,id,id,id,id,id,id,id,id,id,id,tV⟩ ⟨rI,rI,rI,rI,rI,rI,rI,rI,rI,tV⟩
    ·try simp at hc4
     refine ex (xt_ (xt_ (xb (th (rg (fP J T.bL (lP J J J T.bT (fzc 11 110 0 J J J J (fzc 11 111 1 J J J J (lPA J J T.dJ J (bsE (enc:=sE) (xs:= [(⟨ac,nx⟩)]) (css:= [[sl 1 nE ac,sl 1 nE nx]]) T.mT ⟨J,J,pA (cs:= [sl 1 nE ac,sl 1 nE nx]) J,tV⟩ J J J J (ap (key:=100) (zs:= [(⟨ac,nx⟩)]) bX J J J T.mT (by unfold aT at*;simp;omega) (by unfold aT at*;simp;omega) fun v110=>(fP J T.bL (cI J J J J T.bT J (nl (eb (th (rg (mv (bi J J (aG i6) (ag (nl ?_))))))))))))))))))))))
     have hN0:HW (gA m t) (GuardM.gN m t) (gOk m t) [(0,0)] t.aC.length (i+1) l2 (aI++ [(⟨ac,nx⟩)])∧l2.length≤1+8*(i+1)∧(i+1)≤600:=by
      rw[show k2=t.aC.length by omega] at hHN
      rw[hac2]
      exact⟨SX hG hHW hHN hc0,O,O⟩
     exact ln (⟨i+1,v2,l2,v110,aI++ [(⟨ac,nx⟩)]⟩:Nat × Value × (List (List (Int × Int))) × Value × (List SA)) hN0 O ⟨id,id,id,id,id,id,id,tV⟩ ⟨rI,rI,rI,rI,rI,rI,tV⟩
 ·try simp at hc0
  refine ex (xt_ (xt_ (xb (th (sq (rg (fzc 8 100 1 J J J J (lPA J J T.bF J (sPA (cs':= [sl 1 rE_ t.aC,sl 2 sE aI]) J J J T.bF J J (ag (nl (th (rt ?_)))))))))))))
  exact rE ⟨(⟨t.aC,aI⟩,true),Qm ht hHW O O⟩ [.cell 6 28,.tmp 7] J [agg [sl 1 rE_ t.aC,sl 2 sE aI],bl true] ⟨.agg J J T.bF J J,.tmp J,tV⟩ J trivial eX
theorem Qv (s:SS) (hs:size s≤100000000):
 AL.Fn Tryz.prog 18 [spec s] [] (ι:=Value) (fun _ v=>agg [strs s.aC,osl 230 (sv v)]) (fun v=> [(230,own (sv v) 79 2 sE s.sT)]):=by
 refine fnI Tryz.func18 rfl rfl (fun w0 F0=> ?_)
 obtain⟨hb0,hb1⟩:=HP s
 refine fcC (bW 0 J) (fun hS0=> ?_)
 obtain⟨hsa0,hss0,hse0⟩:=sLn hS0
 refine sq (rg (bx (key:=1) (cs:= [sl 1 rE_ s.aC,sl 2 sE s.sT]) J fun b1=>(al (key:=2) T.z28 (eC (eC eZ)) fun b2=>(nl (th (sq (rg (fP J T.dH (lP J J J T.cM (yR (enc:=rE_) (ys:=s.aC) J J T.xH mL (bd (css:= [(0,_)]) T.oP (eC (eC eZ)) ⟨J,J,p1 (φ:=sl 1 rE_ s.aC) J,tV⟩ (al (key:=3) T.z28 (eC (eC eZ)) fun b3=>(sPA (cs':= [sl 1 rE_ s.aC,eqv (.slice none 0 0)]) J J J T.bF J J (nl (th (sq (sq (rg (fP J T.bL (lP J J J T.bT (fc (aV 11 J) fun hm11=>(lnF J T.cO (mv (nl (th (bk ?_))))))))))))))))))))))))))
 refine nwC 230 79 2 sE (jS 3 1 (osl 230 (.slice none 0 0)) rfl rfl dM ?_)
 have hI0_0:0≤s.sT.length:=by
  first|omega|simp
 have hI0_1:([]:List SA)=s.sT.take 0:=by
  rfl
 refine lp (κ:=Nat × Value × (List SA)) (fun p=> [(2,ptr 2 b2 0),(3,ptr 3 b3 0),(11,sl 2 sE s.sT),(12,int (s.sT.length:Int)),(13,int (p.1:Int))]) (fun p=> [(1,cell b1 [sl 1 rE_ s.aC,sl 2 sE s.sT]),(2,cell b2 [eqv (.slice none 0 0),eqv (.slice none 0 0)]),(3,cell b3 [sl 1 rE_ s.aC,osl 230 p.2.1]),(230,own p.2.1 79 2 sE p.2.2)]) (fun p=>(p.1≤s.sT.length)∧(p.2.2=s.sT.take p.1)) (fun p=>s.sT.length- p.1) ⟨0,(.slice none 0 0),([]:List SA)⟩ ⟨hI0_0,hI0_1⟩ ⟨id,id,id,id,id,tV⟩ ⟨rI,rI,rI,rI,tV⟩ ?_
 intro⟨k,v,acc⟩ hG0
 obtain⟨hk0,hI0⟩:(k≤s.sT.length)∧(acc=s.sT.take k):=hG0
 show Ct _ _ _ _ [(2,ptr 2 b2 0),(3,ptr 3 b3 0),(11,sl 2 sE s.sT),(12,int (s.sT.length:Int)),(13,int (k:Int))] [(1,cell b1 [sl 1 rE_ s.aC,sl 2 sE s.sT]),(2,cell b2 [eqv (.slice none 0 0),eqv (.slice none 0 0)]),(3,cell b3 [sl 1 rE_ s.aC,osl 230 v]),(230,own v 79 2 sE acc)] _
 have hlen:acc.length≤k:=by rw[hI0];simp;omega
 refine sq (rg (bi J J aO (nl (th (sq ?_)))))
 refine cd J (fun hc0=> ?_) (fun hc0=> ?_)
 ·try simp at hc0
  have hb2:=hb1 k O
  refine sk (th (sq (bk (sq (rg (iF J J T.cO O gB (lFA J T.dJ (Nat.le_of_ble_eq_true J) (al (key:=5) T.z79 (eC (eC eZ)) fun b5=>(sPA (cs':= [sl 1 nE (ix s.sT k).aP,sl 1 nE (ix s.sT k).next]) J J J T.dJ J J (nl (th (dr (nh:=10) [0,1,0,4,12,0,32,124,252,508,1023,2047,4095] T.mixed kR ?_))))))))))))
  refine st_ J (fun _ _ _ gq kq=>fP (gq.1.trans J) T.bL kq) ?_
  refine st_ J (fun _ _ _ gq kq=>lP (gq.1.trans J) J J T.bT kq) ?_
  refine st_ J (fun _ _ _ gq kq=>fP (gq.1.trans J) T.cK kq) ?_
  refine st_ J (fun _ _ _ gq kq=>lP (gq.1.trans J) J J T.bD kq) ?_
  refine st_ J (fun _ _ _ gq kq=>yR (enc:=nE) (ys:=(ix s.sT k).aP) J (gq.1.trans J) T.bZ mL kq) ?_
  refine st_ J (fun _ _ _ gq kq=>fP (gq.1.trans J) T.cS kq) ?_
  refine st_ J (fun _ _ _ gq kq=>lP (gq.1.trans J) J J T.bD kq) ?_
  refine st_ J (fun _ _ _ gq kq=>yR (enc:=nE) (ys:=(ix s.sT k).next) J (gq.1.trans J) T.bZ mL kq) ?_
  refine st_ J (fun _ _ _ gq kq=>bd (css:= [(0,_),(1,_)]) T.xI (eC (eC eZ)) ⟨J,J,p1 (φ:=sl 1 nE (ix s.sT k).aP) (by exact(gq.1.trans J)),⟨J,J,p1 (φ:=sl 1 nE (ix s.sT k).next) (by exact(gq.2.1.trans J)),tV⟩⟩ kq) ?_
  refine st_ J (fun _ _ _ gq kq=>bsE (enc:=sE) (xs:= [(ix s.sT k)]) (css:= [[sl 1 nE (ix s.sT k).aP,sl 1 nE (ix s.sT k).next]]) T.mT ⟨J,J,pA (cs:= [sl 1 nE (ix s.sT k).aP,sl 1 nE (ix s.sT k).next]) (by exact(gq.1.trans J)),tV⟩ J J J J kq) ?_
  refine pn (ap (key:=230) (zs:= [(ix s.sT k)]) bX J J J T.mT (by unfold aT at*;simp;omega) (by unfold aT at*;simp;omega) fun v27=>(fP J T.bL (cI J J J J T.bT J (nl (eb (th (rg (bi J J (aG i6) (mv (nl ?_))))))))))
  have hN0:(k+1)≤s.sT.length:=by
   first|omega|simp_all
  have hN1:(acc++ [(ix s.sT k)])=s.sT.take (k+1):=by
   rw[hI0,bM O]
  exact ln (⟨k+1,v27,acc++ [(ix s.sT k)]⟩:Nat × Value × (List SA)) ⟨hN0,hN1⟩ dO ⟨id,id,id,id,id,tV⟩ ⟨rI,rI,rI,rI,tV⟩
 ·try simp at hc0
  refine ex (xt_ (xt_ (xb (th (sq (rg (fc (svI 230 J) fun hsv230=> ?_)))))))
  rw[←hsv230]
  refine lPA rfl rfl T.bF rfl (sPA (cs':= [sl 1 rE_ s.aC,osl 230 (sv v)]) rfl rfl rfl T.bF rfl rfl (nl (th (rt ?_))))
  rw[show k=s.sT.length by omega,List.take_length] at hI0
  subst hI0
  exact rE v [.cell 2 28] J [agg [sl 1 rE_ s.aC,osl 230 (sv v)]] ⟨.agg J J T.bF J J,tV⟩ J ⟨rI,tV⟩ eX
theorem Ep (s:SS) (hs:oK s) (hz:size s≤100000000) (u:Int) (h0:0≤u) (h1:u<256):
 Fn0 Tryz.prog 24 [spec s,int u] (spec (aU u s)):=by
 refine fnI Tryz.func24 rfl rfl (fun w0 F0=> ?_)
 have f1:=hs.few1;have hn8:=hs.n8
 refine fcC (bW 0 J) (fun hS0=> ?_)
 obtain⟨hsa0,hss0,hse0⟩:=sLn hS0
 refine sq (rg (bx (key:=2) (cs:= [sl 1 rE_ s.aC,sl 2 sE s.sT]) J fun b2=>(al (key:=4) T.z28 (eC (eC eZ)) fun b4=>(nl (th (sq (rg (lPA J J T.bF J (cl (Qv s O) T.RA trivial fun N11 i11=>(QL (enc':=avE) (ys:=(s.sT.map frz)) 230 J (by rw[List.map_map];rfl) (al (key:=5) T.z28 (eC (eC eZ)) fun b5=>(sPA (cs':= [sl 1 rE_ s.aC,osl 230 (sv i11)]) J J J T.bF J J (nl (th (sq (sq (rg (fP J T.bL (lP J J J T.bT (fc (aV 13 J) fun hm13=>(lnF J T.cO (mv (nl (th (bk ?_)))))))))))))))))))))))))
 have hI0_0:0≤s.sT.length:=by
  first|omega|simp
 have hI0_1:(s.sT.map frz)=ksD s u 0:=by
  exact(Qp s u).symm
 refine lp (κ:=Nat × (List KP)) (fun p=> [(1,int u),(4,ptr 4 b4 0),(5,ptr 5 b5 0),(13,sl 2 sE s.sT),(14,int (s.sT.length:Int)),(15,int (p.1:Int))]) (fun p=> [(2,cell b2 [sl 1 rE_ s.aC,sl 2 sE s.sT]),(4,cell b4 [eqv (.slice none 0 0),eqv (.slice none 0 0)]),(5,cell b5 [sl 1 rE_ s.aC,osl 230 (sv i11)]),(230,own (sv i11) 79 2 avE p.2)]) (fun p=>(p.1≤s.sT.length)∧(p.2=ksD s u p.1)) (fun p=>s.sT.length- p.1) ⟨0,(s.sT.map frz)⟩ ⟨hI0_0,hI0_1⟩ ⟨id,id,id,id,id,id,tV⟩ ⟨rI,rI,rI,rI,tV⟩ ?_
 intro⟨k,ks⟩ hG0
 obtain⟨hk0,hks⟩:(k≤s.sT.length)∧(ks=ksD s u k):=hG0
 show Ct _ _ _ _ [(1,int u),(4,ptr 4 b4 0),(5,ptr 5 b5 0),(13,sl 2 sE s.sT),(14,int (s.sT.length:Int)),(15,int (k:Int))] [(2,cell b2 [sl 1 rE_ s.aC,sl 2 sE s.sT]),(4,cell b4 [eqv (.slice none 0 0),eqv (.slice none 0 0)]),(5,cell b5 [sl 1 rE_ s.aC,osl 230 (sv i11)]),(230,own (sv i11) 79 2 avE ks)] _
 have hkl:ks.length=s.sT.length:=by rw[hks];exact Dd s u O
 refine sq (rg (bi J J aO (nl (th (sq ?_)))))
 refine cd J (fun hc0=> ?_) (fun hc0=> ?_)
 ·try simp at hc0
  have hst:=hs.st k O
  have hacl:=hst.acl
  have hksk:ix ks k=frz (ix s.sT k):=by rw[hks];exact Jh (WL O)
  refine sk (th (sq (bk (sq (rg (mv (iF J J T.cO O gB (lFA J T.dJ (Nat.le_of_ble_eq_true J) (al (key:=7) T.z79 (eC (eC eZ)) fun b7=>(ag (sPA (cs':= [sl 1 nE (ix s.sT k).aP,sl 1 nE (ix s.sT k).next]) J J J T.dJ J J (nl (th (sq (rg (fP J T.bL (lP J J J T.bT (mv (iO J J J T.cO O O (fO J T.cK (sO (φ:=eqv (.slice none 0 0)) J J J T.bD (gN (show k<ks.length by omega)) J (y':=(oJ (.slice none 0 0),(ix ks k).2)) J (nw 140 3 1 nE (nl (th (sq (rg (fP J T.cK (lP J J J T.bD (fc (aV 26 J) fun hm26=>(lnF J T.aX (mv (nl (th (bk ?_))))))))))))))))))))))))))))))))))
  have hI1_0:0≤(ix s.sT k).aP.length:=by
   first|omega|simp
  have hI1_1:(ks.set k (oJ (.slice none 0 0),(ix ks k).2))=ksE s u k (oJ (sv (.slice none 0 0)))∧([]:List Int)=((ix s.sT k).aP.take 0).filter (fun v=>decide (bQ v u=u)):=by
   refine⟨?_,rfl⟩
   rw[hksk,hks];rfl
  refine lp (κ:=Nat × Value × (List Int) × (List KP)) (fun p=> [(1,int u),(4,ptr 4 b4 0),(5,ptr 5 b5 0),(6,int (k:Int)),(13,sl 2 sE s.sT),(14,int (s.sT.length:Int)),(15,int (k:Int)),(26,sl 1 nE (ix s.sT k).aP),(27,int ((ix s.sT k).aP.length:Int)),(28,int (p.1:Int))]) (fun p=> [(2,cell b2 [sl 1 rE_ s.aC,sl 2 sE s.sT]),(4,cell b4 [eqv (.slice none 0 0),eqv (.slice none 0 0)]),(5,cell b5 [sl 1 rE_ s.aC,osl 230 (sv i11)]),(7,cell b7 [sl 1 nE (ix s.sT k).aP,sl 1 nE (ix s.sT k).next]),(140,own (sv p.2.1) 3 1 nE p.2.2.1),(230,own (sv i11) 79 2 avE p.2.2.2)]) (fun p=>(p.1≤(ix s.sT k).aP.length)∧(p.2.2.2=ksE s u k (oJ (sv p.2.1))∧p.2.2.1=((ix s.sT k).aP.take p.1).filter (fun v=>decide (bQ v u=u)))) (fun p=>(ix s.sT k).aP.length- p.1) ⟨0,(.slice none 0 0),([]:List Int),ks.set k (oJ (.slice none 0 0),(ix ks k).2)⟩ ⟨hI1_0,hI1_1⟩ ⟨id,id,id,id,id,id,id,id,id,id,tV⟩ ⟨rI,rI,rI,rI,rI,rI,tV⟩ ?_
  intro⟨k1,v2,ac,kc⟩ hG1
  obtain⟨hk1,⟨hkc,hac⟩⟩:(k1≤(ix s.sT k).aP.length)∧(kc=ksE s u k (oJ (sv v2))∧ac=((ix s.sT k).aP.take k1).filter (fun v=>decide (bQ v u=u))):=hG1
  show Ct _ _ _ _ [(1,int u),(4,ptr 4 b4 0),(5,ptr 5 b5 0),(6,int (k:Int)),(13,sl 2 sE s.sT),(14,int (s.sT.length:Int)),(15,int (k:Int)),(26,sl 1 nE (ix s.sT k).aP),(27,int ((ix s.sT k).aP.length:Int)),(28,int (k1:Int))] [(2,cell b2 [sl 1 rE_ s.aC,sl 2 sE s.sT]),(4,cell b4 [eqv (.slice none 0 0),eqv (.slice none 0 0)]),(5,cell b5 [sl 1 rE_ s.aC,osl 230 (sv i11)]),(7,cell b7 [sl 1 nE (ix s.sT k).aP,sl 1 nE (ix s.sT k).next]),(140,own (sv v2) 3 1 nE ac),(230,own (sv i11) 79 2 avE kc)] _
  have hat:kc[k]?=some (oJ (sv v2),(ix s.sT k).next):=by rw[hkc];exact WM O
  have hkx:ix kc k=(oJ (sv v2),(ix s.sT k).next):=Jh hat
  have hacv:(ix kc k).1.1=eqv (sv v2):=by rw[hkx];rfl
  have hkcl:kc.length=s.sT.length:=by rw[hkc];exact Um s u O
  have hall:ac.length≤k1:=by rw[hac];refine Nat.le_trans (List.length_filter_le _ _) ?_;rw[List.length_take];omega
  refine sq (rg (bi J J aO (nl (th (sq ?_)))))
  refine cd J (fun hc1=> ?_) (fun hc1=> ?_)
  ·try simp at hc1
   have hak:=hst.ac k1 O
   refine sk (th (sq (bk (sq (rg (iF J J T.aX O gB (lF J J T.aF (ag (nl (th (sq (rg (mv (mv (bi J J (rN O O O O) (mv (bi J J dZ (nl (th ?_)))))))))))))))))))
   refine cd J (fun hc2=> ?_) (fun hc2=> ?_)
   ·try simp at hc2
    refine drH (nh:=15) [0,1,0,0,8,0,56,120,248,0,512,2040,4095,8191,16383] [(none,[]),(none,[5]),(none,[]),(none,[]),(none,[5]),(none,[]),(none,[230]),(none,[]),(none,[230]),(none,[]),(none,[]),(some 140,[140]),(none,[230]),(none,[]),(some 230,[230])] T.mixed kR kR ?_
    refine stv (d:=37) (fun β0=>ptr 5 b5 1) [] J bH (fun β0 _ _ _ _ gq gh kq=>fP (gq.1.trans J) T.bL kq) ?_
    refine stv (d:=38) (fun β0=>osl 230 (sv i11)) [5] J bH (fun β0 _ _ _ _ gq gh kq=>lP (gq.1.trans J) (gh.1.trans J) J T.bT kq) ?_
    refine stv (d:=39) (fun β0=>int (k:Int)) [] J bH (fun β0 _ _ _ _ gq gh kq=>mv' (gq.1.trans J) kq) ?_
    refine stv (d:=40) (fun β0=>ptr 5 b5 1) [] J bH (fun β0 _ _ _ _ gq gh kq=>fP (gq.1.trans J) T.bL kq) ?_
    refine stv (d:=41) (fun β0=>osl 230 (sv i11)) [5] J bH (fun β0 _ _ _ _ gq gh kq=>lP (gq.1.trans J) (gh.1.trans J) J T.bT kq) ?_
    refine stv (d:=42) (fun β0=>int (k:Int)) [] J bH (fun β0 _ _ _ _ gq gh kq=>mv' (gq.1.trans J) kq) ?_
    refine stv (d:=43) (fun β0=>dP 230 (sv i11) 2 k 0) [230] J bH (fun β0 _ _ _ _ gq gh kq=>iO (gq.1.trans J) (gh.1.trans J) (gq.2.1.trans J) T.cO O O kq) ?_
    refine stv (d:=44) (fun β0=>dP 230 (sv i11) 2 k 0) [] J bH (fun β0 _ _ _ _ gq gh kq=>fO (gq.1.trans J) T.cK kq) ?_
    refine stv (d:=45) (fun β0=>osl 140 (sv v2)) [230] J bH (fun β0 _ _ _ _ gq gh kq=>lO (gq.1.trans J) (gh.1.trans J) gB J T.bD (kd (φ':=osl 140 (sv v2)) (by rw[eV,←hacv];exact fun h=>h) kq)) ?_
    refine stv (d:=46) (fun β0=>int (ix (ix s.sT k).aP k1)) [] J bH (fun β0 _ _ _ _ gq gh kq=>mv' (gq.1.trans J) kq) ?_
    refine stv (d:=47) (fun β0=>sl 1 nE [(ix (ix s.sT k).aP k1)]) [] J bH (fun β0 _ _ _ _ gq gh kq=>bsE (enc:=nE) (xs:= [(ix (ix s.sT k).aP k1)]) (css:= [[int (ix (ix s.sT k).aP k1)]]) T.bZ ⟨J,J,p1 (φ:=int (ix (ix s.sT k).aP k1)) (by exact(gq.1.trans J)),tV⟩ J J J J kq) ?_
    refine stc (d:=48) (e:=3) (n:=1) (enc:=nE) (xs:=ac++ [(ix (ix s.sT k).aP k1)]) 140 [140] rfl (fun β0 _ _ _ _ gq gh kq=>ap (key:=140) (zs:= [(ix (ix s.sT k).aP k1)]) (fun h=>Vn (gq.1.trans rfl) h) (gh.1.trans rfl) (gq.2.1.trans rfl) rfl T.bZ (by unfold aT at*;simp;omega) (by unfold aT at*;simp;omega) fun v=>kq v) ?_
    refine stv (d:=49) (fun β0=>dP 230 (sv i11) 2 k 0) [230] J bH (fun β0 _ _ _ _ gq gh kq=>iO (gq.1.trans J) (gh.1.trans J) (gq.2.1.trans J) T.cO O O kq) ?_
    refine stv (d:=50) (fun β0=>dP 230 (sv i11) 2 k 0) [] J bH (fun β0 _ _ _ _ gq gh kq=>fO (gq.1.trans J) T.cK kq) ?_
    refine stw 230 (fun β0=>own (sv i11) 79 2 avE (kc.set k (oJ (sv (β0 11)),(ix kc k).2))) [230] J (fun β β' hb=>by first|rw[hb 11 J]|(dsimp only;rw[hb 11 J])) (fun β0 _ _ _ _ gq gh kq=>sO (φ:=eqv (sv (β0 11))) (gq.1.trans J) (gh.1.trans J) ((gq.2.1.trans J).trans eV) T.bD (gN (show k<kc.length by omega)) J (y':=(oJ (sv (β0 11)),(ix kc k).2)) J kq) ?_
    refine pnH fun β0=>(nl (eb (th (rg (bi J J (aG i6) (mv (nl ?_)))))))
    have hN0:(k1+1)≤(ix s.sT k).aP.length:=by
     first|omega|simp_all
    have hN1:(kc.set k (oJ (sv (β0 11)),(ix kc k).2))=ksE s u k (oJ (sv (β0 11)))∧(ac++ [(ix (ix s.sT k).aP k1)])=((ix s.sT k).aP.take (k1+1)).filter (fun v=>decide (bQ v u=u)):=by
     refine⟨?_,?_⟩
     ·rw[hkx,hkc];exact Jf
     ·rw[DT O (by simpa [bQ] using hc2),←hac]
    exact ln (⟨k1+1,(β0 11),ac++ [(ix (ix s.sT k).aP k1)],kc.set k (oJ (sv (β0 11)),(ix kc k).2)⟩:Nat × Value × (List Int) × (List KP)) ⟨hN0,hN1⟩ dO ⟨id,id,id,id,id,id,id,id,id,id,tV⟩ ⟨rI,rI,rI,rI,rI,rI,tV⟩
   ·try simp at hc2
    refine sk (eb (th (rg (bi J J (aG i6) (mv (nl ?_))))))
    have hN0:(k1+1)≤(ix s.sT k).aP.length:=by
     first|omega|simp_all
    have hN1:kc=ksE s u k (oJ (sv v2))∧ac=((ix s.sT k).aP.take (k1+1)).filter (fun v=>decide (bQ v u=u)):=by
     exact⟨hkc,by rw[BX O (by simpa [bQ] using hc2),←hac]⟩
    exact ln (⟨k1+1,v2,ac,kc⟩:Nat × Value × (List Int) × (List KP)) ⟨hN0,hN1⟩ dO ⟨id,id,id,id,id,id,id,id,id,id,tV⟩ ⟨rI,rI,rI,rI,rI,rI,tV⟩
  ·try simp at hc1
   refine ex (xt_ (xt_ (xb (eb (th (rg (fzE 140 230 k 0 (slP ac,(ix s.sT k).next) J J (by decide) hat J J (bi J J (aG i6) (mv (nl ?_))))))))))
   have hN0:(k+1)≤s.sT.length:=by
    first|omega|simp_all
   have hN1:(kc.set k (slP ac,(ix s.sT k).next))=ksD s u (k+1):=by
    rw[hkc,Jf,hac,show k1=(ix s.sT k).aP.length by omega,List.take_length];exact Qq O
   exact ln (⟨k+1,kc.set k (slP ac,(ix s.sT k).next)⟩:Nat × (List KP)) ⟨hN0,hN1⟩ dO ⟨id,id,id,id,id,id,tV⟩ ⟨rI,rI,rI,rI,tV⟩
 ·try simp at hc0
  refine ex (xt_ (xt_ (xb (th (sq (rg (QL (enc':=sE) (ys:=(aU u s).sT) 230 J (by rw[hks,show k=s.sT.length by omega];exact Ul s u) (fzc 5 230 1 J J J J (lPA J J T.bF J (sPA (cs':= [sl 1 rE_ s.aC,sl 2 sE (aU u s).sT]) J J J T.bF J J (nl (th (rt ?_)))))))))))))
  have hr0:s.aC=(aU u s).aC:=by
   first|rfl|simp_all|omega
  exact rE () [.cell 4 28] J [agg [sl 1 rE_ s.aC,sl 2 sE (aU u s).sT]] ⟨.agg J J T.bF J J,tV⟩ (cA1 (fun x0=>rV [agg [sl 1 rE_ x0,sl 2 sE (aU u s).sT]]) hr0) trivial eX
end mks2
end
section
namespace FixM
open CompP ref01 ref03 ref04 ref06 Part Rungs LeftM TrimM RoundM MergeM BisM BisM3 BisM4 BisM5 BisM6 Keys WalkM WitM JudgM JudgM2 LevM divr divs divd dive divf divv judg refj sysw satj ChsM BisS TrimI ValidM WitSat WitVal QuoM FailM DivM RefM GenW CompM CrossM FitM TogM KeepK GuardM MakeM LsysM LsysM2 MakeM2 KeepB LstM MakeM3 GuaW LeadM
section
variable {s:SS} (hs:oK s) {ch:SS→Nat→Int} (hc:∀y,y<s.sT.length→ch s y∈acc s y)
include hs hc
theorem Nq (hf:s.sT.length≤500):(iW ch s).sT.length≤500∧bR (iW ch s).sT≤4000:=by
 have hm:=vC hs hc
 obtain⟨g,hk,_⟩:=EB (qC hm)
 have ho:=Mx (qC hm) hk
 have e1:(mkM (ch s) s).sT.length=s.sT.length:=by simp[mkM]
 have e2:=nL hm
 have e3:=hk.few
 rw[lG] at e3
 have hl:=rL (aH (mkM (ch s) s)) (kY (aH (mkM (ch s) s))) (aJ (aH (mkM (ch s) s)))
 have h5:(iW ch s).sT.length≤500:=by
  show(jQ (aH (mkM (ch s) s)) (kY (aH (mkM (ch s) s))) (aJ (aH (mkM (ch s) s)))).sT.length≤500
  omega
 refine⟨h5,Nat.le_trans (FH (K:=8) fun l hl2=> ?_) O⟩
 obtain⟨c,hc2,rfl⟩:=List.getElem_of_mem hl2
 have hc3:c<kY (aH (mkM (ch s) s)):=by
  have hc4:c<(jQ (aH (mkM (ch s) s)) (kY (aH (mkM (ch s) s))) (aJ (aH (mkM (ch s) s)))).sT.length:=hc2
  omega
 have:=Gy hs hc hk hc3
 rw[←aD hc2]
 exact this
end
structure XT (x:aA) (g:SS) (u:Int):Prop where
 ok:bN x=true
 acts:x.aC=g.aC
 sat:eW x g
 keep:mG x u
 few:x.sT.length≤500
 sum:bR x.sT≤4000
theorem Nr {g:SS} {ok:Bool} {u:Int} (hg:ok=true→oK g∧g.sT.length≤500):
 (ok=false∧cU g ok u=(⟨[],[]⟩,2))∨(ok=true∧ix (hOl (aU u g)) 0=true∧cU g ok u=(⟨[],[]⟩,3))∨(ok=true∧ix (hOl (aU u g)) 0=false∧(cU g ok u).2=0∧XT (cU g ok u).1 g u):=by
 cases ok with
 |false=>exact .inl ⟨rfl,Ee⟩
 |true=>
  obtain⟨hk,hf⟩:=hg rfl
  right
  obtain⟨hT,hT5⟩:=Ec hk hf u
  have hh:=yJ hk hf u
  cases e:ix (hOl (tR (aU u g)).1) 0 with
  |true=>exact .inl ⟨rfl,by rw[←hh];exact e,GK e⟩
  |false=>
   right
   rw[Jd e]
   have hfree:=Cj hk hf e
   have hc:=MZ hfree
   have hv:=Na hT (ch:=lgC) hc hT5
   have hsat:=(Mn hk (u:=u)).1 (TV hT (ch:=lgC) hc)
   have hsm:=Nq hT (ch:=lgC) hc hT5
   exact⟨rfl,by rw[←hh];exact e,rfl,hv,(PS hT (ch:=lgC) hc).trans (qB _),hsat.1,hsat.2,hsm.1,hsm.2⟩
theorem tX {m:aA} {t:SS} {u:Int} (hf:dA m t=0) (hu:eO (t.aC.length:Int) u=true):
 ((bC m t).2=false∧aM m t u=(⟨[],[]⟩,2))∨((bC m t).2=true∧ix (hOl (aU u (bC m t).1)) 0=true∧aM m t u=(⟨[],[]⟩,3))∨
 ((bC m t).2=true∧ix (hOl (aU u (bC m t).1)) 0=false∧(aM m t u).2=0∧bN (aM m t u).1=true∧(aM m t u).1.aC=t.aC∧lT m (aM m t u).1 t∧mG (aM m t u).1 u∧(aM m t u).1.sT.length≤500∧bR (aM m t u).1.sT≤4000):=by
 obtain⟨hmv,htv,hmt⟩:=lC hf
 have hm:=eF hmv
 have ht:=iA htv
 have e:aM m t u=cU (bC m t).1 (bC m t).2 u:=by unfold aM;rw[if_pos hf,if_pos hu]
 rw[e]
 rcases Nr (u:=u) (fun h=>⟨(vJ hm ht h).1,(vJ hm ht h).2.1⟩:(bC m t).2=true→oK (bC m t).1∧(bC m t).1.sT.length≤500) with h|h|⟨h1,h2,h3,h4⟩
 ·exact .inl h
 ·exact .inr (.inl h)
 ·refine .inr (.inr ⟨h1,h2,h3,h4.ok,h4.acts.trans (vJ hm ht h1).2.2,?_,h4.keep,h4.few,h4.sum⟩)
  exact(TR hm (eF h4.ok) ht (h4.acts.trans (vJ hm ht h1).2.2) h1).1 h4.sat
def aR:aA:=⟨[⟨#[97]⟩,⟨#[98]⟩],[[(0,0),(1,0)]]⟩
def aB:SS:=⟨[⟨#[97]⟩,⟨#[98]⟩],[⟨[1],[0,-1]⟩]⟩
theorem zR:bN aR=true:=by decide+kernel
theorem sW:cE aB=true:=by decide+kernel
theorem rB:oK aB:=iA sW
theorem AP:dA aR aB=0:=by
 unfold dA
 rw[if_pos zR,if_pos sW,if_pos (show aR.aC=aB.aC from rfl)]
theorem Nt:gL aR aB= [[(0,0)]]:=by unfold gL;decide+kernel
theorem WW:gD aR aB=aB:=by unfold gD;rw[Nt];decide+kernel
theorem Kt:ix (hOl aB) 0=false:=CompP.CN (by decide) (by decide)
theorem HG:(tR aB).1=aB:=by
 have hs:=rB
 have hn:=Kt
 have ho:aL aB= [0]:=by
  have h1:(aL aB).length≤1:=nZ hs
  have h2:=mV aB
  have h3:=BisM2.rU aB
  match hq:aL aB,h1,h2,h3 with
  | [y],_,_,h3=>rw[show y=0 from h3]
 have hk:keep aB 0= [1]:=OM hs (by decide) (by decide)
 rw[fD hn]
 show(⟨aB.aC,(aL aB).map (fM aB)⟩:SS)=aB
 rw[ho]
 show(⟨aB.aC,[fM aB 0]⟩:SS)=aB
 unfold fM iZ
 rw[show(0:Int).toNat=0 from rfl,hk,ho]
 decide
theorem vK:bC aR aB=(aB,true):=by
 unfold bC
 rw[Nt,if_pos (by decide),WW,HG]
theorem Us:gdS aR aB=(aB,0):=by
 unfold gdS
 rw[if_pos AP,vK,if_pos rfl]
theorem De (u:Int) (h:u=1∨u=2):eO (aB.aC.length:Int) u=true:=by
 rcases h with rfl|rfl<;>decide
theorem Ut:ix (hOl (aU 2 aB)) 0=true:=by
 cases e:ix (hOl (aU 2 aB)) 0 with
 |true=>rfl
 |false=>
  obtain⟨x,R,hR,h0⟩:=(rA (gX rB 2)).1 e
  have:=hR.acc h0
  have:=(tT (s:=aB) (k:=0) (by decide)).1 this
  have h1:bK x 0=1:=List.mem_singleton.1 this.1
  rw[h1] at this
  exact absurd this.2 (by decide)
theorem Qw:aM aR aB 2=(⟨[],[]⟩,3):=by
 rcases tX AP (De 2 (.inr rfl)) with⟨h,_⟩|⟨_,_,h⟩|⟨_,h,_⟩
 ·rw[vK] at h;cases h
 ·exact h
 ·rw[vK] at h
  rw[show((aB,true):SS × Bool).1=aB from rfl,Ut] at h;cases h
theorem Uu:eW ⟨[⟨#[97]⟩,⟨#[98]⟩],[[(0,0)]]⟩ (aU 1 aB):=by
 refine tU.2 ⟨⟨fun x y=>x=0∧y=0,⟨fun {x y} h=>by rw[h.2];decide,fun {x y} h=>by rw[h.1,h.2];decide,fun {x y} h e he=> ?_,fun {x y} h e he=> ?_⟩,rfl,rfl⟩,fun x hx=> ?_⟩
 ·rw[h.1] at he
  rw[h.2]
  have:e=(0,0):=by
   obtain⟨d,hd,rfl⟩:=List.mem_map.1 he
   rw[List.mem_singleton.1 (show d∈[((0,0):PP)] from hd)];rfl
  rw[this];decide
 ·rw[h.1] at he
  rw[h.2]
  have:e=(0,0):=by
   obtain⟨d,hd,rfl⟩:=List.mem_map.1 he
   rw[List.mem_singleton.1 (show d∈[((0,0):PP)] from hd)];rfl
  rw[this];exact⟨by decide,by decide,by decide⟩
 ·have:x=0:=by
   induction hx with
   |zero=>rfl
   |step h1 h2 ih=>
    rw[ih] at h2
    have:=List.mem_singleton.1 h2
    rw[this];rfl
  rw[this];decide
theorem GU:(aM aR aB 1).2=0∧bN (aM aR aB 1).1=true∧(aM aR aB 1).1.aC=aB.aC∧lT aR (aM aR aB 1).1 aB∧mG (aM aR aB 1).1 1∧(aM aR aB 1).1.sT.length≤500∧bR (aM aR aB 1).1.sT≤4000:=by
 rcases tX AP (De 1 (.inl rfl)) with⟨h,_⟩|⟨_,h,_⟩|⟨_,_,h⟩
 ·rw[vK] at h;cases h
 ·rw[vK] at h
  have:ix (hOl (aU 1 aB)) 0=false:=(rA (gX rB 1)).2 ⟨_,Uu⟩
  rw[show((aB,true):SS × Bool).1=aB from rfl,this] at h;cases h
 ·exact h
theorem Qx {x m:aA} {t:SS} {u:Int} (hx:bN x=true) (hm:bN m=true) (ht:cE t=true) (h1:x.aC=m.aC) (h2:x.aC=t.aC) (hu:eO (t.aC.length:Int) u=true):iE x m t u=0:=by
 unfold iE
 rw[if_pos ⟨hx,hm⟩,if_pos ht,if_pos ⟨h1,h2⟩,if_pos hu]
theorem Qy {x m:aA} {t:SS} {u:Int} (hE:iE x m t u=0) (hx:bA x) (hw:lT m x t) (hk:mG x u):lX x m t u=true:=by
 unfold lX
 rw[hE,decide_eq_true rfl,Bool.true_and,(DY hx).2 hk,Bool.and_true]
 simp[hw]
theorem Nu:iE (aM aR aB 1).1 aR aB 1=0∧lX (aM aR aB 1).1 aR aB 1=true:=by
 obtain⟨_,h1,h2,h3,h4,_⟩:=GU
 have e:=Qx h1 zR sW (h2.trans rfl) h2 (De 1 (.inl rfl))
 exact⟨e,Qy e (eF h1) h3 h4⟩
noncomputable def dG (m:aA) (t:SS) (u:Int):Int:=if bN m=true then(if cE t=true then(if m.aC=t.aC then(if eO (t.aC.length:Int) u=true then 0 else 1) else 10) else 30) else 20
theorem wR {m:aA} {t:SS} {u:Int} (h:dG m t u=0):dA m t=0∧eO (t.aC.length:Int) u=true:=by
 unfold dG at h
 unfold dA
 split at h
 ·next g1=>
  split at h
  ·next g2=>
   split at h
   ·next g3=>
    split at h
    ·next g4=>exact⟨by rw[if_pos g1,if_pos g2,if_pos g3],g4⟩
    ·cases h
   ·cases h
  ·cases h
 ·cases h
theorem Ji {m:aA} {t:SS} {u:Int} (h:dG m t u≠0):aM m t u=(⟨[],[]⟩,dG m t u):=by
 unfold dG at h ⊢
 unfold aM dA
 by_cases g1:bN m=true
 ·rw[if_pos g1] at h ⊢
  rw[if_pos g1]
  by_cases g2:cE t=true
  ·rw[if_pos g2] at h ⊢
   rw[if_pos g2]
   by_cases g3:m.aC=t.aC
   ·rw[if_pos g3] at h ⊢
    rw[if_pos g3,if_pos rfl]
    by_cases g4:eO (t.aC.length:Int) u=true
    ·rw[if_pos g4] at h;exact absurd rfl h
    ·rw[if_neg g4,if_neg g4]
   ·rw[if_neg g3,if_neg g3,if_neg (by decide)]
  ·rw[if_neg g2,if_neg g2,if_neg (by decide)]
 ·rw[if_neg g1,if_neg g1,if_neg (by decide)]
end FixM
end
section
open ref01 ref03 ref04 ref06 prog prog2 prog3 prog4 prog5 prog6 prog7 prog8 prog9 prog13 prog15 starts Part Rungs LeftM TrimM RoundM MergeM BisM BisM4 BisM5 Itoa Keys WalkM StepM WitM JudgM JudgM2 search refw judg wit refj sysw satj divr divs divd dive divg divw divv divp divt LevM LevM2 TrimI QuoM FailM DivM RefM FitM TogM ProdM prodw GenW CompM CompP CrossM KeepK GuardM MakeM LsysM LsysM2 MakeM2 KeepB AtM ClsM LstM MakeM3 GuaW LeadM FixM ValidM mkk mkp mkl mkc mkq mkg mkr mks mks2
def GV (m:aA) (n:Int):Bool:=decide ((m.sT.length:Int)≤n)&&xW m 300
def yK (s:SS) (n:Int):Bool:=decide ((s.sT.length:Int)≤n)&&few s 400
theorem WX {m:aA} {n:Int} (h:GV m n=true):(m.sT.length:Int)≤n∧BL m≤300:=by
 unfold GV xW at h
 rw[Bool.and_eq_true,decide_eq_true_eq,decide_eq_true_eq] at h
 exact⟨h.1,O⟩
theorem Qz {s:SS} {n:Int} (h:yK s n=true):(s.sT.length:Int)≤n∧(size s:Int)≤400:=by
 unfold yK few at h
 rw[Bool.and_eq_true,decide_eq_true_eq,decide_eq_true_eq] at h
 exact h
theorem WY {a b:Bool} (h:(!a|| !b)=false):a=true∧b=true:=by
 cases a<;>cases b<;>simp_all
theorem Uv {a b:Nat} (h:zF (a*b)=true):tW ((a:Int)*(b:Int))=true:=by
 unfold zF at h
 unfold tW
 rw[←Int.natCast_mul,Int.toNat_natCast]
 rw[Bool.or_eq_true,decide_eq_true_eq,decide_eq_true_eq] at h ⊢
 rcases h with h|h
 ·left;exact Int.ofNat_lt.2 h
 ·right;exact Int.ofNat_lt.2 h
namespace T
theorem XU:Ent Tryz.prog 45:=aN kR
theorem XV:Ent Tryz.prog 46:=aN kR
theorem RB:Ent Tryz.prog 27:=aN kR
theorem XW:Ent Tryz.prog 21:=aN kR
theorem RD:Ent Tryz.prog 28:=aN kR
theorem ED:Ent Tryz.prog 47:=aN kR
theorem EE:Ent Tryz.prog 48:=aN kR
theorem XX:Ent Tryz.prog 16:=aN kR
theorem Ku:Ent Tryz.prog 25:=aN kR
theorem XY:Ent Tryz.prog 30:=aN kR
theorem XZ:Ent Tryz.prog 49:=aN kR
end T
namespace mkv
theorem QA (m:aA) (n:Int):
 Fn0 Tryz.prog 11 [sys m,int n] (bl (GV m n)):=by
 refine fnI Tryz.func11 rfl rfl (fun w0 F0=> ?_)
 refine fcC (bW 0 J) (fun hS0=> ?_)
 obtain⟨hma0,hms0,hme0⟩:=bU hS0
 refine sq (rg (bx (key:=2) (cs:= [sl 1 rE_ m.aC,sl 1 gE m.sT]) J fun b2=>(ag (nl (th (sq (rg (fP J T.bO (lP J J J T.cF (fc (aV 6 J) fun hm6=>(lnF J T.dQ (mv (bi J J nN (mv ?_))))))))))))))
 apply cZ (t:=10) (pd:=13) rfl
 rotate_left
 ·intro hg0 fin
  have hg0':=hg0
  try simp at hg0'
  exact gy J J J hg0 (lPA J J T.bE J (gy J J J hg0 (bB (φs:= [agg [sl 1 rE_ m.aC,sl 1 gE m.sT],int 300]) (φ:=bl (xW m 300)) ⟨J,J,tV⟩ (sysw.Fc m 300 O) T.XU (pkT J hg0 J (drp (X:= [(12,_),(11,_)]) ⟨J,J,tV⟩ fin)))))
 ·intro hg0 fin
  exact gn J J J hg0 J J (gn J J J hg0 J J (pkF J hg0 J (drp (X:= [(12,_),(11,_)]) ⟨J,J,tV⟩ fin)))
 refine ag (nl (th (rt ?_)))
 have hr0:((decide ((m.sT.length:Int)≤n))&&(xW m 300))=(GV m n):=by
  rfl
 exact rE () [.tmp 4] J [bl ((decide ((m.sT.length:Int)≤n))&&(xW m 300))] ⟨.tmp J,tV⟩ (cA1 (fun x0=>rV [bl x0]) hr0) trivial eX
theorem Kv (s:SS) (n:Int):
 Fn0 Tryz.prog 12 [spec s,int n] (bl (yK s n)):=by
 refine fnI Tryz.func12 rfl rfl (fun w0 F0=> ?_)
 refine fcC (bW 0 J) (fun hS0=> ?_)
 obtain⟨hsa0,hss0,hse0⟩:=sLn hS0
 refine sq (rg (bx (key:=2) (cs:= [sl 1 rE_ s.aC,sl 2 sE s.sT]) J fun b2=>(ag (nl (th (sq (rg (fP J T.bL (lP J J J T.bT (fc (aV 6 J) fun hm6=>(lnF J T.cO (mv (bi J J nN (mv ?_))))))))))))))
 apply cZ (t:=10) (pd:=13) rfl
 rotate_left
 ·intro hg0 fin
  have hg0':=hg0
  try simp at hg0'
  exact gy J J J hg0 (lPA J J T.bF J (gy J J J hg0 (bB (φs:= [agg [sl 1 rE_ s.aC,sl 2 sE s.sT],int 400]) (φ:=bl (few s 400)) ⟨J,J,tV⟩ (ref03.Fc s _ O) T.XV (pkT J hg0 J (drp (X:= [(12,_),(11,_)]) ⟨J,J,tV⟩ fin)))))
 ·intro hg0 fin
  exact gn J J J hg0 J J (gn J J J hg0 J J (pkF J hg0 J (drp (X:= [(12,_),(11,_)]) ⟨J,J,tV⟩ fin)))
 refine ag (nl (th (rt ?_)))
 have hr0:((decide ((s.sT.length:Int)≤n))&&(few s 400))=(yK s n):=by
  rfl
 exact rE () [.tmp 4] J [bl ((decide ((s.sT.length:Int)≤n))&&(few s 400))] ⟨.tmp J,tV⟩ (cA1 (fun x0=>rV [bl x0]) hr0) trivial eX
theorem wS:
 Fn0 Tryz.prog 47 [] (sys aR):=by
 refine fnI Tryz.func47 rfl rfl (fun w0 F0=> ?_)
 refine sq (rg (al (key:=0) T.z25 (eC (eC eZ)) fun b0=>(nl (th (sq (rg (bsE (enc:=rE_) (xs:= [({ data:= #[97] }),({ data:= #[98] })]) (css:= [[str ({ data:= #[97] })],[str ({ data:= #[98] })]]) T.xH ⟨J,J,p1 (φ:=str ({ data:= #[97] })) J,⟨J,J,p1 (φ:=str ({ data:= #[98] })) J,tV⟩⟩ J J J J (bd (css:= []) T.AB (eC (eC eZ)) trivial (bd (css:= [(0,_)]) T.AB (eC (eC eZ)) ⟨J,J,p1 (φ:=int 1) J,tV⟩ (bsE (enc:=pE) (xs:= [(0,0),(1,0)]) (css:= [[int 0,int 0],[int 1,int 0]]) T.oY ⟨J,J,pA (cs:= [int 0,int 0]) J,⟨J,J,pA (cs:= [int 1,int 0]) J,tV⟩⟩ J J J J (bsE (enc:=gE) (xs:= [[(0,0),(1,0)]]) (css:= [[sl 2 pE [(0,0),(1,0)]]]) T.sH ⟨J,J,p1 (φ:=sl 2 pE [(0,0),(1,0)]) J,tV⟩ J J J J (bd (css:= [(0,_),(1,_)]) T.oD (eC (eC eZ)) ⟨J,J,p1 (φ:=sl 1 rE_ [({ data:= #[97] }),({ data:= #[98] })]) J,⟨J,J,p1 (φ:=sl 1 gE [[(0,0),(1,0)]]) J,tV⟩⟩ (sPA (cs':= [sl 1 rE_ [({ data:= #[97] }),({ data:= #[98] })],sl 1 gE [[(0,0),(1,0)]]]) J J J T.bE J J (nl (th (rt ?_))))))))))))))))
 have hr0: [({ data:= #[97] }),({ data:= #[98] })]=aR.aC:=by
  first|rfl|simp_all|omega
 have hr1: [[(0,0),(1,0)]]=aR.sT:=by
  first|rfl|simp_all|omega
 exact rE () [.cell 0 25] J [agg [sl 1 rE_ [({ data:= #[97] }),({ data:= #[98] })],sl 1 gE [[(0,0),(1,0)]]]] ⟨.agg J J T.bE J J,tV⟩ (cA2 (fun x0 x1=>rV [agg [sl 1 rE_ x0,sl 1 gE x1]]) hr0 hr1) trivial eX
theorem tY:
 Fn0 Tryz.prog 48 [] (spec aB):=by
 refine fnI Tryz.func48 rfl rfl (fun w0 F0=> ?_)
 refine sq (rg (al (key:=0) T.z28 (eC (eC eZ)) fun b0=>(nl (th (sq (rg (bsE (enc:=rE_) (xs:= [({ data:= #[97] }),({ data:= #[98] })]) (css:= [[str ({ data:= #[97] })],[str ({ data:= #[98] })]]) T.xH ⟨J,J,p1 (φ:=str ({ data:= #[97] })) J,⟨J,J,p1 (φ:=str ({ data:= #[98] })) J,tV⟩⟩ J J J J (bsE (enc:=nE) (xs:= [1]) (css:= [[int 1]]) T.bZ ⟨J,J,p1 (φ:=int 1) J,tV⟩ J J J J (bsE (enc:=nE) (xs:= [0,(-1)]) (css:= [[int 0],[int (-1)]]) T.bZ ⟨J,J,p1 (φ:=int 0) J,⟨J,J,p1 (φ:=int (-1)) J,tV⟩⟩ J J J J (bd (css:= [(0,_),(1,_)]) T.xI (eC (eC eZ)) ⟨J,J,p1 (φ:=sl 1 nE [1]) J,⟨J,J,p1 (φ:=sl 1 nE [0,(-1)]) J,tV⟩⟩ (bsE (enc:=sE) (xs:= [(⟨[1],[0,(-1)]⟩)]) (css:= [[sl 1 nE [1],sl 1 nE [0,(-1)]]]) T.mT ⟨J,J,pA (cs:= [sl 1 nE [1],sl 1 nE [0,(-1)]]) J,tV⟩ J J J J (bd (css:= [(0,_),(1,_)]) T.oP (eC (eC eZ)) ⟨J,J,p1 (φ:=sl 1 rE_ [({ data:= #[97] }),({ data:= #[98] })]) J,⟨J,J,p1 (φ:=sl 2 sE [(⟨[1],[0,(-1)]⟩)]) J,tV⟩⟩ (sPA (cs':= [sl 1 rE_ [({ data:= #[97] }),({ data:= #[98] })],sl 2 sE [(⟨[1],[0,(-1)]⟩)]]) J J J T.bF J J (nl (th (rt ?_))))))))))))))))
 have hr0: [({ data:= #[97] }),({ data:= #[98] })]=aB.aC:=by
  first|rfl|simp_all|omega
 have hr1: [(⟨[1],[0,(-1)]⟩)]=aB.sT:=by
  first|rfl|simp_all|omega
 exact rE () [.cell 0 28] J [agg [sl 1 rE_ [({ data:= #[97] }),({ data:= #[98] })],sl 2 sE [(⟨[1],[0,(-1)]⟩)]]] ⟨.agg J J T.bF J J,tV⟩ (cA2 (fun x0 x1=>rV [agg [sl 1 rE_ x0,sl 2 sE x1]]) hr0 hr1) trivial eX
theorem QB (m:aA) (t:SS) (u:Int):
 Fn0 Tryz.prog 14 [sys m,spec t,int u] (int (dG m t u)):=by
 refine fnI Tryz.func14 rfl rfl (fun w0 F0=> ?_)
 refine fcC (bW 0 J) (fun hS0=> ?_)
 obtain⟨hma0,hms0,hme0⟩:=bU hS0
 refine fcC (bW 1 J) (fun hS1=> ?_)
 obtain⟨hsa1,hss1,hse1⟩:=sLn hS1
 refine sq (rg (bx (key:=3) (cs:= [sl 1 rE_ m.aC,sl 1 gE m.sT]) J fun b3=>(bx (key:=4) (cs:= [sl 1 rE_ t.aC,sl 2 sE t.sT]) J fun b4=>(ag (nl (th (sq (bk (sq (rg (lPA J J T.bE J (bB (φs:= [agg [sl 1 rE_ m.aC,sl 1 gE m.sT]]) (φ:=bl (bN m)) ⟨J,tV⟩ (divs.vR m) T.RB (no J (ag (nl (th ?_))))))))))))))))
 refine cd J (fun hc0=> ?_) (fun hc0=> ?_)
 ·try simp at hc0
  refine sq (rg (ag (nl (th (rt (rb (rt_ ?_)))))))
  have hr0:(20:Int)=(dG m t u):=by
   unfold dG;rw[if_neg (by simpa using hc0)]
  exact rE () [.tmp 6] J [int 20] ⟨.tmp J,tV⟩ (cA1 (fun x0=>rV [int x0]) hr0) trivial eX
 ·try simp at hc0
  refine sq (rg (lPA J J T.bF J (bB (φs:= [agg [sl 1 rE_ t.aC,sl 2 sE t.sT]]) (φ:=bl (cE t)) ⟨J,tV⟩ (ref03.vR t) T.XW (no J (ag (nl (th ?_)))))))
  refine cd J (fun hc1=> ?_) (fun hc1=> ?_)
  ·try simp at hc1
   refine sq (rg (ag (nl (th (rt (rb (rt_ ?_)))))))
   have hr0:(30:Int)=(dG m t u):=by
    unfold dG;rw[if_pos (by simpa using hc0),if_neg (by simpa using hc1)]
   exact rE () [.tmp 6] J [int 30] ⟨.tmp J,tV⟩ (cA1 (fun x0=>rV [int x0]) hr0) trivial eX
  ·try simp at hc1
   have htv:cE t=true:=by simpa using hc1
   have hn8:=(iA htv).n8
   refine sq (rg (fP J T.fB (lP J J J T.cM (fP J T.dH (lP J J J T.cM (bB (φs:= [sl 1 rE_ m.aC,sl 1 rE_ t.aC]) (φ:=bl (decide (m.aC=t.aC))) ⟨J,J,tV⟩ (ref01.uT _ _) T.RD (no J (ag (nl (th ?_))))))))))
   refine cd J (fun hc2=> ?_) (fun hc2=> ?_)
   ·try simp at hc2
    refine sq (rg (ag (nl (th (rt (rb (rt_ ?_)))))))
    have hr0:(10:Int)=(dG m t u):=by
     unfold dG;rw[if_pos (by simpa using hc0),if_pos htv,if_neg (by simpa using hc2)]
    exact rE () [.tmp 6] J [int 10] ⟨.tmp J,tV⟩ (cA1 (fun x0=>rV [int x0]) hr0) trivial eX
   ·try simp at hc2
    refine sq (rg (fP J T.dH (lP J J J T.cM (fc (aV 24 J) fun hm24=>(lnF J T.eD (mv (bB (φs:= [int (t.aC.length:Int),int u]) (φ:=bl (eO (t.aC.length:Int) u)) ⟨J,J,tV⟩ (ref01.KR _ _ O O) T.QR (no J (ag (nl (th ?_)))))))))))
    refine cd J (fun hc3=> ?_) (fun hc3=> ?_)
    ·try simp at hc3
     refine sq (rg (ag (nl (th (rt (rb (rt_ ?_)))))))
     have hr0:(1:Int)=(dG m t u):=by
      unfold dG;rw[if_pos (by simpa using hc0),if_pos htv,if_pos (by simpa using hc2),if_neg (by simpa using hc3)]
     exact rE () [.tmp 6] J [int 1] ⟨.tmp J,tV⟩ (cA1 (fun x0=>rV [int x0]) hr0) trivial eX
    ·try simp at hc3
     refine sk (eb (th (sq (rg (ag (nl (th (rt ?_))))))))
     have hr0:(0:Int)=(dG m t u):=by
      unfold dG;rw[if_pos (by simpa using hc0),if_pos htv,if_pos (by simpa using hc2),if_pos (by simpa using hc3)]
     exact rE () [.tmp 6] J [int 0] ⟨.tmp J,tV⟩ (cA1 (fun x0=>rV [int x0]) hr0) trivial eX
theorem wT:
 AL.Fn Tryz.prog 13 [] [(998,eB tab)] (ι:=Unit) (fun _ _=>bl true) (fun _=> []):=by
 refine fnI Tryz.func13 rfl rfl (fun w0 F0=> ?_)
 have hsm:jH aB:=rB.small
 obtain⟨q1,q2,q3,q4,q5,q6,q7⟩:=GU
 obtain⟨r1,r2⟩:=Nu
 have q8:=Qw
 have q9:=Us
 have hz:aR.sT.length*(aM aR aB 1).1.sT.length<5000:=by show 1*_<5000;omega
 have hz2:bR aR.sT*bR (aM aR aB 1).1.sT≤400000:=by show 2*_≤400000;omega
 refine tbH 9999 998 rfl ?_
 refine sq (rg (ag (nl (th (sq (rg (bB (φs:= []) (φ:=agg [sl 1 rE_ aR.aC,sl 1 gE aR.sT]) trivial mkv.wS T.ED (bB (φs:= []) (φ:=agg [sl 1 rE_ aB.aC,sl 2 sE aB.sT]) trivial mkv.tY T.EE (tbU (ψ:=tab) 10 9999 J J (bB (φs:= [both (agg [sl 1 rE_ aR.aC,sl 1 gE aR.sT]) tab,agg [sl 1 rE_ aB.aC,sl 2 sE aB.sT]]) (φ:=tup [agg [sl 1 rE_ ((gdS aR aB).1).aC,sl 2 sE ((gdS aR aB).1).sT],int ((gdS aR aB).2)]) ⟨J,J,tV⟩ (mkg.Qa aR aB aS) T.XX (mv (xt J J (kn 13 (spec aB) J (by rw[q9];exact fun h=>h) (xt J J (al (key:=1) T.z28 (eC (eC eZ)) fun b1=>(sPA (cs':= [sl 1 rE_ aB.aC,sl 2 sE aB.sT]) J J J T.bF J J (ag (nl (th (sq (rg (bB (φs:= []) (φ:=agg [sl 1 rE_ aR.aC,sl 1 gE aR.sT]) trivial mkv.wS T.ED (bB (φs:= []) (φ:=agg [sl 1 rE_ aB.aC,sl 2 sE aB.sT]) trivial mkv.tY T.EE (tbU (ψ:=tab) 16 9999 J J (kK (φs:= [both (agg [sl 1 rE_ aR.aC,sl 1 gE aR.sT]) tab,agg [sl 1 rE_ aB.aC,sl 2 sE aB.sT],int 1]) (φ:=tup [agg [sl 1 rE_ ((aM aR aB 1).1).aC,sl 1 gE ((aM aR aB 1).1).sT],int ((aM aR aB 1).2)]) ⟨J,J,J,tV⟩ (mkr.wO aR aB aS 1) T.Ku (fun N hN=>fun h=>rQ (cs:= [agg [fre N (sl 1 rE_ ((aM aR aB 1).1).aC),fre N (sl 1 gE ((aM aR aB 1).1).sT)],int ((aM aR aB 1).2)]) (ds:= [agg [sl 1 rE_ ((aM aR aB 1).1).aC,sl 1 gE ((aM aR aB 1).1).sT],int ((aM aR aB 1).2)]) ⟨fun h=>jE (cs:= [fre N (sl 1 rE_ ((aM aR aB 1).1).aC),fre N (sl 1 gE ((aM aR aB 1).1).sT)]) (ds:= [sl 1 rE_ ((aM aR aB 1).1).aC,sl 1 gE ((aM aR aB 1).1).sT]) ⟨fun h=>iY h,fun h=>iY h,tV⟩ h,fun h=>h,tV⟩ h) (mv (xt J J (xt J J (al (key:=3) T.z25 (eC (eC eZ)) fun b3=>(sPA (cs':= [sl 1 rE_ ((aM aR aB 1).1).aC,sl 1 gE ((aM aR aB 1).1).sT]) J J J T.bE J J (ag (nl (th (sq (rg (bB (φs:= []) (φ:=agg [sl 1 rE_ aR.aC,sl 1 gE aR.sT]) trivial mkv.wS T.ED (bB (φs:= []) (φ:=agg [sl 1 rE_ aB.aC,sl 2 sE aB.sT]) trivial mkv.tY T.EE (tbU (ψ:=tab) 22 9999 J J (kK (φs:= [both (agg [sl 1 rE_ aR.aC,sl 1 gE aR.sT]) tab,agg [sl 1 rE_ aB.aC,sl 2 sE aB.sT],int 2]) (φ:=tup [agg [sl 1 rE_ ((aM aR aB 2).1).aC,sl 1 gE ((aM aR aB 2).1).sT],int ((aM aR aB 2).2)]) ⟨J,J,J,tV⟩ (mkr.wO aR aB aS 2) T.Ku (fun N hN=>fun h=>rQ (cs:= [agg [fre N (sl 1 rE_ ((aM aR aB 2).1).aC),fre N (sl 1 gE ((aM aR aB 2).1).sT)],int ((aM aR aB 2).2)]) (ds:= [agg [sl 1 rE_ ((aM aR aB 2).1).aC,sl 1 gE ((aM aR aB 2).1).sT],int ((aM aR aB 2).2)]) ⟨fun h=>jE (cs:= [fre N (sl 1 rE_ ((aM aR aB 2).1).aC),fre N (sl 1 gE ((aM aR aB 2).1).sT)]) (ds:= [sl 1 rE_ ((aM aR aB 2).1).aC,sl 1 gE ((aM aR aB 2).1).sT]) ⟨fun h=>iY h,fun h=>iY h,tV⟩ h,fun h=>h,tV⟩ h) (mv (xt J J (xt J J (al (key:=5) T.z25 (eC (eC eZ)) fun b5=>(sPA (cs':= [sl 1 rE_ ((aM aR aB 2).1).aC,sl 1 gE ((aM aR aB 2).1).sT]) J J J T.bE J J (ag (nl (th (sq (dr (nh:=9) [0,0,2,7,15,31,31,63,255] T.mixed kR ?_)))))))))))))))))))))))))))))))))))))))))))))))))
 refine st_ J (fun _ _ _ gq kq=>lPA (gq.1.trans J) J T.bE J kq) ?_
 refine st_ J (fun _ _ _ gq kq=>bB (φs:= []) (φ:=agg [sl 1 rE_ aR.aC,sl 1 gE aR.sT]) trivial mkv.wS T.ED kq) ?_
 refine st_ J (fun _ _ _ gq kq=>bB (φs:= []) (φ:=agg [sl 1 rE_ aB.aC,sl 2 sE aB.sT]) trivial mkv.tY T.EE kq) ?_
 refine st_ J (fun _ _ _ gq kq=>bB (φs:= [agg [sl 1 rE_ ((aM aR aB 1).1).aC,sl 1 gE ((aM aR aB 1).1).sT],agg [sl 1 rE_ aR.aC,sl 1 gE aR.sT],agg [sl 1 rE_ aB.aC,sl 2 sE aB.sT],int 1]) (φ:=tup [bl (lX ((aM aR aB 1).1) aR aB 1),int (iE ((aM aR aB 1).1) aR aB 1)]) ⟨(gq.1.trans J),(gq.2.1.trans J),(gq.2.2.1.trans J),J,tV⟩ (mkr.Qg ((aM aR aB 1).1) aR aB aS 1 aS aS) T.XY kq) ?_
 refine st_ J (fun _ _ _ gq kq=>mv' (gq.1.trans J) kq) ?_
 refine st_ J (fun _ _ _ gq kq=>xt (gq.1.trans J) J kq) ?_
 refine st_ J (fun _ _ _ gq kq=>xt (gq.1.trans J) J kq) ?_
 refine st_ J (fun _ _ _ gq kq=>ag' (gq.1.trans J) kq) ?_
 refine st_ J (fun _ _ _ gq kq=>ag' (gq.1.trans J) kq) ?_
 refine pn (nl (th (sq (rg (mv (bi J J dZ (mv ?_)))))))
 apply cZ (t:=36) (pd:=41) rfl
 rotate_left
 ·intro hg0 fin
  have hg0':=hg0
  try simp at hg0'
  exact gy J J J hg0 (fP J T.bL (gy J J J hg0 (lP J J J T.bT (gy J J J hg0 (fc (aV 38 J) fun hm38=>(lnF J T.cO (gy J J J hg0 (bi J J fN (pkT J hg0 J (drp (X:= [(40,_),(39,_),(38,_),(37,_)]) ⟨J,J,J,J,tV⟩ fin))))))))))
 ·intro hg0 fin
  exact gn J J J hg0 J J (gn J J J hg0 J J (gn J J J hg0 J J (gn J J J hg0 J J (pkF J hg0 J (drp (X:= [(40,_),(39,_),(38,_),(37,_)]) ⟨J,J,J,J,tV⟩ fin)))))
 refine mv ?_
 apply cZ (t:=42) (pd:=50) rfl
 rotate_left
 ·intro hg1 fin
  have hg1':=hg1
  try simp at hg1'
  exact gy J J J hg1 (fP J T.bL (gy J J J hg1 (lP J J J T.bT (gy J J J hg1 (iF J J T.cO O gB (gy J J J hg1 (fF J T.cK (gy J J J hg1 (lF J J T.bD (gy J J J hg1 (bsE (enc:=nE) (xs:= [1]) (css:= [[int 1]]) T.bZ ⟨J,J,p1 (φ:=int 1) J,tV⟩ J J J J (gy J J J hg1 (bB (φs:= [sl 1 nE (ix aB.sT 0).aP,sl 1 nE [1]]) (φ:=bl (decide ((ix aB.sT 0).aP= [1]))) ⟨J,J,tV⟩ (ref01.GY _ _) T.XZ (pkT J hg1 J (drp (X:= [(49,_),(48,_),(47,_),(46,_),(45,_),(44,_),(43,_)]) ⟨J,J,J,J,J,J,J,tV⟩ fin)))))))))))))))
 ·intro hg1 fin
  exact gn J J J hg1 J J (gn J J J hg1 J J (gn J J J hg1 J J (gn J J J hg1 J J (gn J J J hg1 J J (gn J J J hg1 J J (gn J J J hg1 J J (pkF J hg1 J (drp (X:= [(49,_),(48,_),(47,_),(46,_),(45,_),(44,_),(43,_)]) ⟨J,J,J,J,J,J,J,tV⟩ fin))))))))
 refine mv ?_
 apply cZ (t:=51) (pd:=54) rfl
 rotate_left
 ·intro hg2 fin
  have hg2':=hg2
  try simp at hg2'
  exact gy J J J hg2 (mv (gy J J J hg2 (bi J J dZ (pkT J hg2 J (drp (X:= [(53,_),(52,_)]) ⟨J,J,tV⟩ fin)))))
 ·intro hg2 fin
  exact gn J J J hg2 J J (gn J J J hg2 J J (pkF J hg2 J (drp (X:= [(53,_),(52,_)]) ⟨J,J,tV⟩ fin)))
 refine mv ?_
 apply cZ (t:=55) (pd:=58) rfl
 rotate_left
 ·intro hg3 fin
  have hg3':=hg3
  try simp at hg3'
  exact gy J J J hg3 (mv (gy J J J hg3 (bi J J dZ (pkT J hg3 J (drp (X:= [(57,_),(56,_)]) ⟨J,J,tV⟩ fin)))))
 ·intro hg3 fin
  exact gn J J J hg3 J J (gn J J J hg3 J J (pkF J hg3 J (drp (X:= [(57,_),(56,_)]) ⟨J,J,tV⟩ fin)))
 refine mv ?_
 apply cZ (t:=59) (pd:=62) rfl
 rotate_left
 ·intro hg4 fin
  have hg4':=hg4
  try simp at hg4'
  exact gy J J J hg4 (mv (gy J J J hg4 (bi J J dZ (pkT J hg4 J (drp (X:= [(61,_),(60,_)]) ⟨J,J,tV⟩ fin)))))
 ·intro hg4 fin
  exact gn J J J hg4 J J (gn J J J hg4 J J (pkF J hg4 J (drp (X:= [(61,_),(60,_)]) ⟨J,J,tV⟩ fin)))
 refine mv ?_
 apply cZ (t:=63) (pd:=65) rfl
 rotate_left
 ·intro hg5 fin
  have hg5':=hg5
  try simp at hg5'
  exact gy J J J hg5 (mv (pkT J hg5 J (drp (X:= [(64,_)]) ⟨J,tV⟩ fin)))
 ·intro hg5 fin
  exact gn J J J hg5 J J (pkF J hg5 J (drp (X:= [(64,_)]) ⟨J,tV⟩ fin))
 refine ag (nl (th (rt ?_)))
 have hr0:(((((((decide (((gdS aR aB).2)=0))&&(decide (0<(aB.sT.length:Int))))&&(decide ((ix aB.sT 0).aP= [1])))&&(decide (((aM aR aB 1).2)=0)))&&(decide (((aM aR aB 2).2)=3)))&&(decide ((iE ((aM aR aB 1).1) aR aB 1)=0)))&&(lX ((aM aR aB 1).1) aR aB 1))=true:=by
  rw[q9,q1,q8,r1,r2];rfl
 exact rE () [.tmp 0] J [bl (((((((decide (((gdS aR aB).2)=0))&&(decide (0<(aB.sT.length:Int))))&&(decide ((ix aB.sT 0).aP= [1])))&&(decide (((aM aR aB 1).2)=0)))&&(decide (((aM aR aB 2).2)=3)))&&(decide ((iE ((aM aR aB 1).1) aR aB 1)=0)))&&(lX ((aM aR aB 1).1) aR aB 1))] ⟨.tmp J,tV⟩ (cA1 (fun x0=>rV [bl x0]) hr0) trivial eX
end mkv
end
section
open ref01 ref03 ref04 ref06 prog prog2 prog3 prog4 prog5 prog6 prog7 prog8 prog9 prog13 prog15 starts Part Rungs LeftM TrimM RoundM MergeM BisM BisM4 BisM5 Itoa Keys WalkM StepM WitM JudgM JudgM2 search refw judg wit refj sysw satj divr divs divd dive divg divw divv divp divt LevM LevM2 TrimI QuoM FailM DivM RefM FitM TogM ProdM prodw GenW CompM CompP CrossM KeepK GuardM MakeM LsysM LsysM2 MakeM2 KeepB AtM ClsM LstM MakeM3 GuaW LeadM FixM ValidM mkk mkp mkl mkc mkq mkg mkr mks mks2 mkv
namespace mkw
end mkw
end
section
namespace FixP
open ref01 ref03 ref04 ref06 Part Rungs LeftM TrimM RoundM MergeM BisM BisM3 BisM4 BisM5 BisM6 Keys WalkM WitM JudgM JudgM2 LevM divr divs divd dive divf divv judg refj sysw satj ChsM BisS TrimI ValidM WitSat WitVal QuoM FailM DivM RefM GenW CompM CrossM FitM TogM KeepK GuardM MakeM LsysM LsysM2 MakeM2 KeepB LstM MakeM3 GuaW LeadM FixM
theorem Uw {s:SS} (hs:oK s):size s≤8+10000+s.sT.length*264:=by
 have h8:=hs.n8
 have h1:=hs.few1
 have h0:part s 0≤8+10000:=by unfold part;simp;omega
 have key:∀k,k≤s.sT.length→part s k≤8+10000+k*264:=by
  intro k
  induction k with
  |zero=>intro _;omega
  |succ k ih=>
   intro hk
   have h2:=(hs.st k O).len
   have h3:=(hs.st k O).acl
   have h4:=ih O
   rw[tD O,Nat.add_mul]
   omega
 exact key _ (Nat.le_refl _)
theorem QC {s:SS} (hs:oK s):size s≤100000000:=by
 have h1:=Uw hs
 have h2:=hs.few1
 have h3:s.sT.length*264≤10000*264:=Nat.mul_le_mul_right _ h2
 omega
theorem QD {m:aA} {t D:SS} (ht:oK t) (hz:qM m t (D,true)):oK D:=by
 obtain⟨l,hn,hl⟩:=hz.yes rfl
 exact pK ht hn hl
theorem Jj {m:aA} {t D:SS} {u:Int} (hm:bA m) (ht:oK t) (hz:qM m t (D,true)) (hg:(bC m t).2=true):ix (hOl (aU u (bC m t).1)) 0=ix (hOl (aU u D)) 0:=by
 obtain⟨l,hn,hl⟩:=hz.yes rfl
 exact Gz hm ht hn hl hg u
def oM (f:Int) (ok h:Bool):Int:=if f=0∧(ok&&h)=true then 3 else f
theorem QE {m:aA} {t D:SS} {u:Int} {ok:Bool} (hz:dG m t u=0→qM m t (D,ok)) (h:(aM m t u).2≠0) {e:Int} (he:e=oM (dG m t u) ok (ix (hOl (aU u D)) 0)) {o:Bool} (ho:zF (m.sT.length*t.sT.length)=true→o=true):
 ((((decide ((aM m t u).2=e)||((decide (e=0)||decide (e=3))&&decide ((aM m t u).2=2)&&o))||(decide (e=0)&& !ok&&decide ((aM m t u).2=3)))&&mM (aM m t u).1)&&true)=true:=by
 by_cases hf:dG m t u=0
 ·obtain⟨hfs,hus⟩:=wR hf
  obtain⟨hmv,htv,hmt⟩:=lC hfs
  have hm:=eF hmv
  have ht:=iA htv
  have hR:=hz hf
  rcases tX hfs hus with⟨h1,h2⟩|⟨h1,h2,h3⟩|⟨_,_,h3,_⟩
  ·rw[h2,ho (Ms hm ht h1),he]
   unfold oM
   rw[hf]
   by_cases c:(ok&&ix (hOl (aU u D)) 0)=true
   ·rw[if_pos ⟨rfl,c⟩];simp[mM]
   ·rw[if_neg (fun g=>c g.2)];simp[mM]
  ·rw[h3,he]
   unfold oM
   rw[hf]
   cases ok with
   |true=>
    rw[Jj hm ht hR h1] at h2
    rw[h2];simp[mM]
   |false=>simp[mM]
  ·exact absurd h3 h
 ·rw[Ji hf,he]
  unfold oM
  rw[if_neg (fun g=>hf g.1)]
  simp[mM]
theorem QG {m:aA} {t D:SS} {u:Int} {ok:Bool} (hz:dG m t u=0→qM m t (D,ok)) (h:(aM m t u).2=0):dG m t u=0∧oM (dG m t u) ok (ix (hOl (aU u D)) 0)=0∧bN (aM m t u).1=true∧(aM m t u).1.aC=t.aC∧lT m (aM m t u).1 t∧mG (aM m t u).1 u∧(aM m t u).1.sT.length≤500:=by
 by_cases hf:dG m t u=0
 ·obtain⟨hfs,hus⟩:=wR hf
  obtain⟨hmv,htv,hmt⟩:=lC hfs
  have hm:=eF hmv
  have ht:=iA htv
  have hR:=hz hf
  rcases tX hfs hus with⟨_,h2⟩|⟨_,_,h3⟩|⟨h1,h2,_,h4,h5,h6,h7,h8,_⟩
  ·rw[h2] at h;cases h
  ·rw[h3] at h;cases h
  ·refine⟨hf,?_,h4,h5,h6,h7,h8⟩
   unfold oM
   rw[if_neg]
   ·exact hf
   ·rintro⟨_,g⟩
    rw[Bool.and_eq_true] at g
    obtain⟨g1,g2⟩:=g
    rw[g1] at hR
    rw[←Jj hm ht hR h1,h2] at g2
    cases g2
 ·rw[Ji hf] at h;exact absurd h hf
end FixP
end
section
open ref01 ref03 ref04 ref06 prog prog2 prog3 prog4 prog5 prog6 prog7 prog8 prog9 prog13 prog15 starts Part Rungs LeftM TrimM RoundM MergeM BisM BisM4 BisM5 Itoa Keys WalkM StepM WitM JudgM JudgM2 search refw judg wit refj sysw satj divr divs divd dive divg divw divv divp divt LevM LevM2 TrimI QuoM FailM DivM RefM FitM TogM ProdM prodw GenW CompM CompP CrossM KeepK GuardM MakeM LsysM LsysM2 MakeM2 KeepB AtM ClsM LstM MakeM3 GuaW LeadM FixM FixP ValidM mkk mkp mkl mkc mkq mkg mkr mks mks2 mkv mkw
theorem QH {a b:Nat}:zF (a*b)=true→tW ((a:Int)*(b:Int))=true:=Uv
theorem Ux {m x:aA} {t:SS} {u:Int} (hx:bA x) (hw:lT m x t) (hk:mG x u):(oF m x t&&dB x u)=true:=by
 rw[Ao.2 hw,(DY hx).2 hk];rfl
namespace T
theorem Ya:Ent Tryz.prog 11:=aN kR
theorem Yb:Ent Tryz.prog 12:=aN kR
theorem Kw:Ent Tryz.prog 13:=aN kR
theorem Yc:Ent Tryz.prog 14:=aN kR
theorem Yd:Ent Tryz.prog 15:=aN kR
theorem Ye:Ent Tryz.prog 24:=aN kR
theorem Yf:Ent Tryz.prog 23:=aN kR
theorem Yg:Ent Tryz.prog 17:=aN kR
theorem Yh:Ent Tryz.prog 19:=aN kR
theorem Yi:Ent Tryz.prog 26:=aN kR
theorem Yj:Ent Tryz.prog 29:=aN kR
end T
namespace mkw2
theorem Cn (m:aA) (t:SS) (hts:jH t) (u:Int):
 Fn0 Tryz.prog 4 [mC (sys m),spec t,int u] (bl true):=by
 refine fnI Tryz.func4 rfl rfl (fun w0 F0=> ?_)
 refine tbI 0 9999 rfl ?_
 refine CF (ψ:=tab) 9999 997 rfl ?_
 refine fcC (bW 0 J) (fun hS0=> ?_)
 obtain⟨hma0,hms0,hme0⟩:=bU hS0
 refine fcC (bW 1 J) (fun hS1=> ?_)
 obtain⟨hsa1,hss1,hse1⟩:=sLn hS1
 refine sq (rg (bx (key:=3) (cs:= [sl 1 rE_ m.aC,sl 1 gE m.sT]) J fun b3=>(bx (key:=4) (cs:= [sl 1 rE_ t.aC,sl 2 sE t.sT]) J fun b4=>(ag (nl (th (sq (sq (rg (lPA J J T.bE J (bB (φs:= [agg [sl 1 rE_ m.aC,sl 1 gE m.sT],int 6]) (φ:=bl (GV m 6)) ⟨J,J,tV⟩ (mkv.QA m 6) T.Ya (no J (mv ?_)))))))))))))
 apply gOr (t:=16) (pd:=20) rfl
 rotate_left
 ·intro hg0 fin
  have hg0':=hg0
  try simp at hg0'
  exact gy J J J hg0 (lPA J J T.bF J (gy J J J hg0 (bB (φs:= [agg [sl 1 rE_ t.aC,sl 2 sE t.sT],int 6]) (φ:=bl (yK t 6)) ⟨J,J,tV⟩ (mkv.Kv t 6) T.Yb (gy J J J hg0 (no J (pkF J hg0 J (drp (X:= [(19,_),(18,_),(17,_)]) ⟨J,J,J,tV⟩ fin)))))))
 ·intro hg0 fin
  exact gn J J J hg0 J J (gn J J J hg0 J J (gn J J J hg0 J J (pkT J hg0 J (drp (X:= [(19,_),(18,_),(17,_)]) ⟨J,J,J,tV⟩ fin))))
 refine nl (th ?_)
 refine cd J (fun hc0=> ?_) (fun hc0=> ?_)
 ·skip
  refine sq (rg (NG (ψ:=tab) (φs:= []) (φ:=bl true) trivial mkv.wT T.Kw 9999 J J (ag (nl (th (rt (rt_ ?_)))))))
  exact rE () [.tmp 6] J [bl true] ⟨.tmp J,tV⟩ J trivial eX
 ·skip
  obtain⟨h1,h2⟩:=WY hc0
  have hz1:=WX h1
  have hz2:=Qz h2
  have hmi:(m.sT.length:Int)*(t.sT.length:Int)≤6*6:=Int.mul_le_mul O O O O
  have hmn:0≤(m.sT.length:Int)*(t.sT.length:Int):=Int.mul_nonneg O O
  refine sk (th (sq (rg (lPA J J T.bE J (lPA J J T.bF J (mv (bB (φs:= [agg [sl 1 rE_ m.aC,sl 1 gE m.sT],agg [sl 1 rE_ t.aC,sl 2 sE t.sT],int u]) (φ:=int (dG m t u)) ⟨J,J,J,tV⟩ (mkv.QB m t u) T.Yc (ag (ag (nl (th (sq (rg (al (key:=9) T.z28 (eC (eC eZ)) fun b9=>(nl (th (sq (sq (rg (mv (bi J J dZ (nl (th ?_)))))))))))))))))))))))
  refine jn (κ:=Int × SS × Bool) (fun p=> [(2,int u),(3,ptr 3 b3 0),(4,ptr 4 b4 0),(6,bl false),(7,int p.1),(8,bl p.2.2),(9999,tab)]) (fun p=> [(3,cell b3 [sl 1 rE_ m.aC,sl 1 gE m.sT]),(4,cell b4 [sl 1 rE_ t.aC,sl 2 sE t.sT]),(9,cell b9 [sl 1 rE_ p.2.1.aC,sl 2 sE p.2.1.sT]),(997,eB tab)]) (fun p=>(dG m t u=0→qM m t (p.2.1,p.2.2))∧p.1=oM (dG m t u) p.2.2 (ix (hOl (aU u p.2.1)) 0)∧(dG m t u≠0→p.2.1=⟨[],[]⟩)) ?_ ?_
  ·
   refine cd J (fun hc1=> ?_) (fun hc1=> ?_)
   ·skip
    have hb0:dG m t u=0:=of_decide_eq_true hc1
    obtain⟨hfs,hus⟩:=wR hb0
    obtain⟨hmv,htv,hmt⟩:=lC hfs
    have hm:=eF hmv
    have ht:=iA htv
    obtain⟨hu0,hu1⟩:=wJ ht.n8 hus
    refine sq (rg (lPA J J T.bE J (lPA J J T.bF J (cl (mks2.HF m aS t aS) T.Yd trivial fun N31 i31=>(mv (xt J J (xt J J (sPA (cs':= [sl 1 rE_ i31.1.1.aC,sl 2 sE i31.1.1.sT]) J J J T.bF J J (ag (nl (th (sq (rg (mv (mv ?_)))))))))))))))
    apply cZ (t:=35) (pd:=40) rfl
    rotate_left
    ·intro hg1 fin
     have hg1':=hg1
     try simp at hg1'
     have hok:i31.1.2=true:=by simpa using hg1
     have hD:oK i31.1.1:=QD ht (by have:=i31.2;rw[show i31.1=(i31.1.1,i31.1.2) from rfl,hok] at this;exact this)
     have hDz:=QC hD
     have hDk:=gX hD u
     exact gy J J J hg1 (lPA J J T.bF J (gy J J J hg1 (mv (gy J J J hg1 (bB (φs:= [agg [sl 1 rE_ i31.1.1.aC,sl 2 sE i31.1.1.sT],int u]) (φ:=agg [sl 1 rE_ (aU u i31.1.1).aC,sl 2 sE (aU u i31.1.1).sT]) ⟨J,J,tV⟩ (mks2.Ep i31.1.1 aS O u O O) T.Ye (gy J J J hg1 (bB (φs:= [agg [sl 1 rE_ (aU u i31.1.1).aC,sl 2 sE (aU u i31.1.1).sT]]) (φ:=bl (ix (hOl (aU u i31.1.1)) 0)) ⟨J,tV⟩ (mks.Kr (aU u i31.1.1) aS) T.Yf (pkT J hg1 J (drp (X:= [(39,_),(38,_),(37,_),(36,_)]) ⟨J,J,J,J,tV⟩ fin)))))))))
    ·intro hg1 fin
     exact gn J J J hg1 J J (gn J J J hg1 J J (gn J J J hg1 J J (gn J J J hg1 J J (pkF J hg1 J (drp (X:= [(39,_),(38,_),(37,_),(36,_)]) ⟨J,J,J,J,tV⟩ fin)))))
    refine nl (th ?_)
    refine cd J (fun hc2=> ?_) (fun hc2=> ?_)
    ·skip
     refine rg (ag (nl ?_))
     have hN0:(dG m t u=0→qM m t (i31.1.1,i31.1.2))∧(3:Int)=oM (dG m t u) i31.1.2 (ix (hOl (aU u i31.1.1)) 0)∧(dG m t u≠0→i31.1.1=⟨[],[]⟩):=by
      exact⟨fun _=>i31.2,by unfold oM;rw[if_pos ⟨hb0,hc2⟩],fun h=>absurd hb0 h⟩
     exact jx ⟨(3:Int),i31.1.1,i31.1.2⟩ hN0 ⟨id,id,id,id,id,id,id,tV⟩ ⟨rI,rI,rI,rI,tV⟩
    ·skip
     refine sk ?_
     have hN0:(dG m t u=0→qM m t (i31.1.1,i31.1.2))∧(dG m t u)=oM (dG m t u) i31.1.2 (ix (hOl (aU u i31.1.1)) 0)∧(dG m t u≠0→i31.1.1=⟨[],[]⟩):=by
      exact⟨fun _=>i31.2,by unfold oM;rw[if_neg (fun g=>by rw[g.2] at hc2;cases hc2)],fun h=>absurd hb0 h⟩
     exact jx ⟨dG m t u,i31.1.1,i31.1.2⟩ hN0 ⟨id,id,id,id,id,id,id,tV⟩ ⟨rI,rI,rI,rI,tV⟩
   ·skip
    have hb0:dG m t u≠0:=of_decide_eq_false hc1
    refine jS 9 0 (sl 1 rE_ []) rfl rfl slnil (jS 9 1 (sl 2 sE []) rfl rfl slnil (sk ?_))
    have hN0:(dG m t u=0→qM m t ((⟨[],[]⟩:SS),false))∧(dG m t u)=oM (dG m t u) false (ix (hOl (aU u (⟨[],[]⟩:SS))) 0)∧(dG m t u≠0→(⟨[],[]⟩:SS)=⟨[],[]⟩):=by
     exact⟨fun h=>absurd h hb0,by unfold oM;rw[if_neg (fun g=>hb0 g.1)],fun _=>rfl⟩
    exact jx ⟨dG m t u,(⟨[],[]⟩:SS),false⟩ hN0 ⟨id,id,id,id,id,id,id,tV⟩ ⟨rI,rI,rI,rI,tV⟩
  ·intro⟨e,D,ok⟩ hG
   have hJ1:(dG m t u=0→qM m t (D,ok))∧e=oM (dG m t u) ok (ix (hOl (aU u D)) 0)∧(dG m t u≠0→D=⟨[],[]⟩):=hG
   skip
   show At _ _ _ [(2,int u),(3,ptr 3 b3 0),(4,ptr 4 b4 0),(6,bl false),(7,int e),(8,bl ok),(9999,tab)] [(3,cell b3 [sl 1 rE_ m.aC,sl 1 gE m.sT]),(4,cell b4 [sl 1 rE_ t.aC,sl 2 sE t.sT]),(9,cell b9 [sl 1 rE_ D.aC,sl 2 sE D.sT]),(997,eB tab)]
   refine th (sq ?_)
   refine drH (nh:=12) [0,1,0,7,0,31,63,127,127,0,767,2047] [(none,[3]),(none,[]),(none,[4]),(none,[]),(none,[]),(none,[997]),(none,[]),(none,[]),(none,[]),(some 10,[]),(some 10,[10]),(none,[])] T.mixed kR kR ?_
   refine stv (d:=42) (fun β0=>agg [sl 1 rE_ m.aC,sl 1 gE m.sT]) [3] J bH (fun β0 _ _ _ _ gq gh kq=>lPA (gq.1.trans J) (gh.1.trans J) T.bE J kq) ?_
   refine stv (d:=43) (fun β0=>agg [sl 1 rE_ m.aC,sl 1 gE m.sT]) [] J bH (fun β0 _ _ _ _ gq gh kq=>kK (φs:= [agg [sl 1 rE_ m.aC,sl 1 gE m.sT]]) (φ:=agg [sl 1 rE_ m.aC,sl 1 gE m.sT]) ⟨(gq.1.trans J),tV⟩ (sysw.Cr m O) T.Yg (fun N hN=>fun h=>jE (cs:= [fre N (sl 1 rE_ m.aC),fre N (sl 1 gE m.sT)]) (ds:= [sl 1 rE_ m.aC,sl 1 gE m.sT]) ⟨fun h=>iY h,fun h=>iY h,tV⟩ h) kq) ?_
   refine stv (d:=44) (fun β0=>agg [sl 1 rE_ t.aC,sl 2 sE t.sT]) [4] J bH (fun β0 _ _ _ _ gq gh kq=>lPA (gq.1.trans J) (gh.1.trans J) T.bF J kq) ?_
   refine stv (d:=45) (fun β0=>agg [sl 1 rE_ t.aC,sl 2 sE t.sT]) [] J bH (fun β0 _ _ _ _ gq gh kq=>kK (φs:= [agg [sl 1 rE_ t.aC,sl 2 sE t.sT]]) (φ:=agg [sl 1 rE_ t.aC,sl 2 sE t.sT]) ⟨(gq.1.trans J),tV⟩ (ref03.Cr t O) T.RA (fun N hN=>fun h=>jE (cs:= [fre N (sl 1 rE_ t.aC),fre N (sl 2 sE t.sT)]) (ds:= [sl 1 rE_ t.aC,sl 2 sE t.sT]) ⟨fun h=>iY h,fun h=>iY h,tV⟩ h) kq) ?_
   refine stv (d:=46) (fun β0=>int u) [] J bH (fun β0 _ _ _ _ gq gh kq=>mv' (gq.1.trans J) kq) ?_
   refine stv (d:=47) (fun β0=>tup [agg [sl 1 rE_ ((aM m t u).1).aC,sl 1 gE ((aM m t u).1).sT],int ((aM m t u).2)]) [997] J bH (fun β0 _ _ _ _ gq gh kq=>tbK (ψ:=tab) 43 997 (gq.1.trans J) (gh.1.trans J) (kK (φs:= [both (agg [sl 1 rE_ m.aC,sl 1 gE m.sT]) tab,agg [sl 1 rE_ t.aC,sl 2 sE t.sT],int u]) (φ:=tup [agg [sl 1 rE_ ((aM m t u).1).aC,sl 1 gE ((aM m t u).1).sT],int ((aM m t u).2)]) ⟨J,(gq.2.1.trans J),(gq.2.2.1.trans J),tV⟩ (mkr.wO m t aS u) T.Ku (fun N hN=>fun h=>rQ (cs:= [agg [fre N (sl 1 rE_ ((aM m t u).1).aC),fre N (sl 1 gE ((aM m t u).1).sT)],int ((aM m t u).2)]) (ds:= [agg [sl 1 rE_ ((aM m t u).1).aC,sl 1 gE ((aM m t u).1).sT],int ((aM m t u).2)]) ⟨fun h=>jE (cs:= [fre N (sl 1 rE_ ((aM m t u).1).aC),fre N (sl 1 gE ((aM m t u).1).sT)]) (ds:= [sl 1 rE_ ((aM m t u).1).aC,sl 1 gE ((aM m t u).1).sT]) ⟨fun h=>iY h,fun h=>iY h,tV⟩ h,fun h=>h,tV⟩ h) (tbX (gq.1.trans J) kq))) ?_
   refine stv (d:=41) (fun β0=>tup [agg [sl 1 rE_ ((aM m t u).1).aC,sl 1 gE ((aM m t u).1).sT],int ((aM m t u).2)]) [] J bH (fun β0 _ _ _ _ gq gh kq=>mv' (gq.1.trans J) kq) ?_
   refine stv (d:=48) (fun β0=>agg [sl 1 rE_ ((aM m t u).1).aC,sl 1 gE ((aM m t u).1).sT]) [] J bH (fun β0 _ _ _ _ gq gh kq=>xt (gq.1.trans J) J kq) ?_
   refine stv (d:=49) (fun β0=>int ((aM m t u).2)) [] J bH (fun β0 _ _ _ _ gq gh kq=>xt (gq.1.trans J) J kq) ?_
   refine sta 10 T.z25 (eC (eC eZ)) ?_
   refine stw 10 (fun β0=>cell (gbk (β0 9)) [sl 1 rE_ ((aM m t u).1).aC,sl 1 gE ((aM m t u).1).sT]) [10] J (fun β β' hb=>by first|rw[hb 9 J]|(dsimp only;rw[hb 9 J])) (fun β0 _ _ _ _ gq gh kq=>sPA (cs':= [sl 1 rE_ ((aM m t u).1).aC,sl 1 gE ((aM m t u).1).sT]) (gq.1.trans J) (gh.1.trans J) (gq.2.1.trans J) T.bE J J kq) ?_
   refine stv (d:=11) (fun β0=>int ((aM m t u).2)) [] J bH (fun β0 _ _ _ _ gq gh kq=>ag' (gq.1.trans J) kq) ?_
   refine pnH fun β0=>(nl (th (sq (sq (rg (mv (bi J J fI (nl (th ?_)))))))))
   refine cd J (fun hc3=> ?_) (fun hc3=> ?_)
   ·skip
    have hge:(aM m t u).2≠0:=of_decide_eq_true hc3
    have hres:=QE hJ1.1 hge hJ1.2.1 QH
    refine sq (rg (mv (bi J J dZ (mv ?_))))
    apply gOr (t:=54) (pd:=57) rfl
    rotate_left
    ·intro hg2 fin
     have hg2':=hg2
     try simp at hg2'
     exact gy J J J hg2 (mv (gy J J J hg2 (bi J J dZ (pkF J hg2 J (drp (X:= [(56,_),(55,_)]) ⟨J,J,tV⟩ fin)))))
    ·intro hg2 fin
     exact gn J J J hg2 J J (gn J J J hg2 J J (pkT J hg2 J (drp (X:= [(56,_),(55,_)]) ⟨J,J,tV⟩ fin)))
    refine mv ?_
    apply cZ (t:=58) (pd:=61) rfl
    rotate_left
    ·intro hg3 fin
     have hg3':=hg3
     try simp at hg3'
     exact gy J J J hg3 (mv (gy J J J hg3 (bi J J dZ (pkT J hg3 J (drp (X:= [(60,_),(59,_)]) ⟨J,J,tV⟩ fin)))))
    ·intro hg3 fin
     exact gn J J J hg3 J J (gn J J J hg3 J J (pkF J hg3 J (drp (X:= [(60,_),(59,_)]) ⟨J,J,tV⟩ fin)))
    refine mv ?_
    apply cZ (t:=62) (pd:=71) rfl
    rotate_left
    ·intro hg4 fin
     have hg4':=hg4
     try simp at hg4'
     exact gy J J J hg4 (fP J T.bO (gy J J J hg4 (lP J J J T.cF (gy J J J hg4 (fc (aV 64 J) fun hm64=>(lnF J T.dQ (gy J J J hg4 (fP J T.bL (gy J J J hg4 (lP J J J T.bT (gy J J J hg4 (fc (aV 67 J) fun hm67=>(lnF J T.cO (gy J J J hg4 (bi J J (yN i6) (gy J J J hg4 (bB (φs:= [int ((m.sT.length:Int)*(t.sT.length:Int))]) (φ:=bl (tW ((m.sT.length:Int)*(t.sT.length:Int)))) ⟨J,tV⟩ (mks.Uq ((m.sT.length:Int)*(t.sT.length:Int)) O) T.Yh (pkT J hg4 J (drp (X:= [(70,_),(69,_),(68,_),(67,_),(66,_),(65,_),(64,_),(63,_)]) ⟨J,J,J,J,J,J,J,J,tV⟩ fin)))))))))))))))))))
    ·intro hg4 fin
     exact gn J J J hg4 J J (gn J J J hg4 J J (gn J J J hg4 J J (gn J J J hg4 J J (gn J J J hg4 J J (gn J J J hg4 J J (gn J J J hg4 J J (gn J J J hg4 J J (pkF J hg4 J (drp (X:= [(70,_),(69,_),(68,_),(67,_),(66,_),(65,_),(64,_),(63,_)]) ⟨J,J,J,J,J,J,J,J,tV⟩ fin)))))))))
    refine ag (nl (th (sq (rg (mv (mv (bi rfl rfl dZ (mv ?_))))))))
    apply gOr (t:=75) (pd:=77) rfl
    rotate_left
    ·intro hg5 fin
     have hg5':=hg5
     try simp at hg5'
     exact gy J J J hg5 (mv (pkF J hg5 J (drp (X:= [(76,_)]) ⟨J,tV⟩ fin)))
    ·intro hg5 fin
     exact gn J J J hg5 J J (pkT J hg5 J (drp (X:= [(76,_)]) ⟨J,tV⟩ fin))
    refine mv ?_
    apply gOr (t:=78) (pd:=89) rfl
    rotate_left
    ·intro hg6 fin
     have hg6':=hg6
     try simp at hg6'
     refine gy rfl rfl rfl hg6 (mv (gy rfl rfl rfl hg6 (bi rfl rfl dZ (gy rfl rfl rfl hg6 (mv ?_)))))
     apply cZ (t:=81) (pd:=84) rfl
     rotate_left
     ·intro hg7 fin
      have hg7':=hg7
      try simp at hg7'
      exact gy J J J hg7 (mv (gy J J J hg7 (no J (gy J J J hg6 (pkT J hg7 J (drp (X:= [(83,_),(82,_)]) ⟨J,J,tV⟩ fin))))))
     ·intro hg7 fin
      exact gn J J J hg7 J J (gn J J J hg7 J J (gy J J J hg6 (pkF J hg7 J (drp (X:= [(83,_),(82,_)]) ⟨J,J,tV⟩ fin))))
     refine gy rfl rfl rfl hg6 (mv ?_)
     apply cZ (t:=85) (pd:=88) rfl
     rotate_left
     ·intro hg8 fin
      have hg8':=hg8
      try simp at hg8'
      exact gy J J J hg8 (mv (gy J J J hg8 (bi J J dZ (gy J J J hg6 (pkT J hg8 J (drp (X:= [(87,_),(86,_)]) ⟨J,J,tV⟩ fin))))))
     ·intro hg8 fin
      exact gn J J J hg8 J J (gn J J J hg8 J J (gy J J J hg6 (pkF J hg8 J (drp (X:= [(87,_),(86,_)]) ⟨J,J,tV⟩ fin))))
     exact pkF rfl hg6 rfl (drp (X:= [(88,_),(85,_),(84,_),(81,_),(80,_),(79,_)]) ⟨rfl,rfl,rfl,rfl,rfl,rfl,tV⟩ fin)
    ·intro hg6 fin
     exact gn J J J hg6 J J (gn J J J hg6 J J (gn J J J hg6 J J (gu J J J J J (gu J J J J J (gn J J J hg6 J J (gn J J J hg6 J J (gu J J J J J (gu J J J J J (gn J J J hg6 J J (pkT J hg6 J (drp (X:= [(88,_),(87,_),(86,_),(85,_),(84,_),(83,_),(82,_),(81,_),(80,_),(79,_)]) ⟨J,J,J,J,J,J,J,J,J,J,tV⟩ fin)))))))))))
    refine mv ?_
    apply cZ (t:=90) (pd:=93) rfl
    rotate_left
    ·intro hg9 fin
     have hg9':=hg9
     try simp at hg9'
     exact gy J J J hg9 (lPA J J T.bE J (gy J J J hg9 (bB (φs:= [agg [sl 1 rE_ ((aM m t u).1).aC,sl 1 gE ((aM m t u).1).sT]]) (φ:=bl (mM ((aM m t u).1))) ⟨J,tV⟩ (divs.OB ((aM m t u).1)) T.Yi (pkT J hg9 J (drp (X:= [(92,_),(91,_)]) ⟨J,J,tV⟩ fin)))))
    ·intro hg9 fin
     exact gn J J J hg9 J J (gn J J J hg9 J J (pkF J hg9 J (drp (X:= [(92,_),(91,_)]) ⟨J,J,tV⟩ fin)))
    refine mv ?_
    apply cZ (t:=94) (pd:=96) rfl
    rotate_left
    ·intro hg10 fin
     have hg10':=hg10
     try simp at hg10'
     exact gy J J J hg10 (NG (ψ:=tab) (φs:= []) (φ:=bl true) trivial mkv.wT T.Kw 9999 J J (pkT J hg10 J (drp (X:= [(95,_)]) ⟨J,tV⟩ fin)))
    ·intro hg10 fin
     exact gn J J J hg10 J J (pkF J hg10 J (drp (X:= [(95,_)]) ⟨J,tV⟩ fin))
    refine ag (nl (th (rt (rt_ ?_))))
    have hr0:(((((decide (((aM m t u).2)=e))||((((decide (e=0))||(decide (e=3)))&&(decide (((aM m t u).2)=2)))&&(tW ((m.sT.length:Int)*(t.sT.length:Int)))))||(((decide (e=0))&&(!ok))&&(decide (((aM m t u).2)=3))))&&(mM ((aM m t u).1)))&&true)=true:=by
     exact hres
    exact rE () [.tmp 6] J [bl (((((decide (((aM m t u).2)=e))||((((decide (e=0))||(decide (e=3)))&&(decide (((aM m t u).2)=2)))&&(tW ((m.sT.length:Int)*(t.sT.length:Int)))))||(((decide (e=0))&&(!ok))&&(decide (((aM m t u).2)=3))))&&(mM ((aM m t u).1)))&&true)] ⟨.tmp J,tV⟩ (cA1 (fun x0=>rV [bl x0]) hr0) trivial eX
   ·skip
    have hge:(aM m t u).2=0:=by simpa using hc3
    obtain⟨g0,g1,g2,g3,g4,g5,g6⟩:=QG hJ1.1 hge
    obtain⟨hfs,hus⟩:=wR g0
    obtain⟨hmv,htv,hmt⟩:=lC hfs
    have hm:=eF hmv
    have ht:=iA htv
    obtain⟨hu0,hu1⟩:=wJ ht.n8 hus
    have hx:=eF g2
    have hzz:m.sT.length*(aM m t u).1.sT.length≤6*500:=Nat.mul_le_mul O g6
    have hzT:m.sT.length*(aM m t u).1.sT.length*t.sT.length≤3000*6:=Nat.mul_le_mul O O
    have hz9:m.sT.length*(aM m t u).1.sT.length*t.sT.length≤1000000000:=by omega
    have hrc:=Ux hx g4 g5
    refine sk (th (sq (rg (mv (bi J J dZ (mv ?_))))))
    apply cZ (t:=99) (pd:=102) rfl
    rotate_left
    ·intro hg11 fin
     have hg11':=hg11
     try simp at hg11'
     exact gy J J J hg11 (lPA J J T.bE J (gy J J J hg11 (bB (φs:= [agg [sl 1 rE_ ((aM m t u).1).aC,sl 1 gE ((aM m t u).1).sT]]) (φ:=bl (bN ((aM m t u).1))) ⟨J,tV⟩ (divs.vR ((aM m t u).1)) T.RB (pkT J hg11 J (drp (X:= [(101,_),(100,_)]) ⟨J,J,tV⟩ fin)))))
    ·intro hg11 fin
     exact gn J J J hg11 J J (gn J J J hg11 J J (pkF J hg11 J (drp (X:= [(101,_),(100,_)]) ⟨J,J,tV⟩ fin)))
    refine mv ?_
    apply cZ (t:=103) (pd:=109) rfl
    rotate_left
    ·intro hg12 fin
     have hg12':=hg12
     try simp at hg12'
     exact gy J J J hg12 (fP J T.fB (gy J J J hg12 (lP J J J T.cM (gy J J J hg12 (fP J T.dH (gy J J J hg12 (lP J J J T.cM (gy J J J hg12 (bB (φs:= [sl 1 rE_ ((aM m t u).1).aC,sl 1 rE_ t.aC]) (φ:=bl (decide (((aM m t u).1).aC=t.aC))) ⟨J,J,tV⟩ (ref01.uT _ _) T.RD (pkT J hg12 J (drp (X:= [(108,_),(107,_),(106,_),(105,_),(104,_)]) ⟨J,J,J,J,J,tV⟩ fin)))))))))))
    ·intro hg12 fin
     exact gn J J J hg12 J J (gn J J J hg12 J J (gn J J J hg12 J J (gn J J J hg12 J J (gn J J J hg12 J J (pkF J hg12 J (drp (X:= [(108,_),(107,_),(106,_),(105,_),(104,_)]) ⟨J,J,J,J,J,tV⟩ fin))))))
    refine mv ?_
    apply cZ (t:=110) (pd:=116) rfl
    rotate_left
    ·intro hg13 fin
     have hg13':=hg13
     try simp at hg13'
     exact gy J J J hg13 (lPA J J T.bE J (gy J J J hg13 (lPA J J T.bE J (gy J J J hg13 (lPA J J T.bF J (gy J J J hg13 (mv (gy J J J hg13 (bB (φs:= [agg [sl 1 rE_ m.aC,sl 1 gE m.sT],agg [sl 1 rE_ ((aM m t u).1).aC,sl 1 gE ((aM m t u).1).sT],agg [sl 1 rE_ t.aC,sl 2 sE t.sT],int u]) (φ:=bl (oF m ((aM m t u).1) t&&dB ((aM m t u).1) u)) ⟨J,J,J,J,tV⟩ (mks.HE m ((aM m t u).1) t aS aS aS aS u O O) T.Yj (pkT J hg13 J (drp (X:= [(115,_),(114,_),(113,_),(112,_),(111,_)]) ⟨J,J,J,J,J,tV⟩ fin)))))))))))
    ·intro hg13 fin
     exact gn J J J hg13 J J (gn J J J hg13 J J (gn J J J hg13 J J (gn J J J hg13 J J (gn J J J hg13 J J (pkF J hg13 J (drp (X:= [(115,_),(114,_),(113,_),(112,_),(111,_)]) ⟨J,J,J,J,J,tV⟩ fin))))))
    refine mv ?_
    apply cZ (t:=117) (pd:=119) rfl
    rotate_left
    ·intro hg14 fin
     have hg14':=hg14
     try simp at hg14'
     exact gy J J J hg14 (NG (ψ:=tab) (φs:= []) (φ:=bl true) trivial mkv.wT T.Kw 9999 J J (pkT J hg14 J (drp (X:= [(118,_)]) ⟨J,tV⟩ fin)))
    ·intro hg14 fin
     exact gn J J J hg14 J J (pkF J hg14 J (drp (X:= [(118,_)]) ⟨J,tV⟩ fin))
    refine ag (nl (th (rt ?_)))
    have hr0:(((((decide (e=0))&&(bN ((aM m t u).1)))&&(decide (((aM m t u).1).aC=t.aC)))&&(oF m ((aM m t u).1) t&&dB ((aM m t u).1) u))&&true)=true:=by
     rw[hJ1.2.1,g1,g2,decide_eq_true g3,hrc];rfl
    exact rE () [.tmp 6] J [bl (((((decide (e=0))&&(bN ((aM m t u).1)))&&(decide (((aM m t u).1).aC=t.aC)))&&(oF m ((aM m t u).1) t&&dB ((aM m t u).1) u))&&true)] ⟨.tmp J,tV⟩ (cA1 (fun x0=>rV [bl x0]) hr0) trivial eX
end mkw2
end
end Go.Proofs.YtnlfjojfgghchaaGreatDoor
