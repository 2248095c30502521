/- The walks of the functions and the plain laws. Own texts of this claim, packed: Mkmks, Mkmks2, MkFixM, Mkmkv, Mkmkw. -/
import Derived.Test.YtnlfjojfgghchaaGreatDoorX31
import Derived.Test.YtnlfjojfgghchaaGreatDoorX24
import Derived.Test.YtnlfjojfgghchaaGreatDoorX07
import Derived.Test.YtnlfjojfgghchaaGreatDoorX32
import Derived.Test.YtnlfjojfgghchaaGreatDoorX25
import Derived.Test.YtnlfjojfgghchaaGreatDoorX15
set_option linter.all false
namespace Go.Proofs.YtnlfjojfgghchaaGreatDoor
open AL Go
set_option maxRecDepth 100000
section
open ref01 ref03 ref04 ref06 prog prog2 prog3 prog4 prog5 prog6 prog7 prog8 prog9 prog13 prog15 starts Part Rungs LeftM TrimM RoundM MergeM BisM BisM4 BisM5 Itoa Keys WalkM StepM WitM JudgM JudgM2 search refw judg wit refj sysw satj divr divs divd dive divg divw divv divp divt LevM LevM2 TrimI QuoM FailM DivM RefM FitM TogM ProdM prodw GenW CompM CompP CrossM KeepK GuardM MakeM LsysM LsysM2 MakeM2 KeepB AtM ClsM LstM MakeM3 GuaW LeadM ValidM mkk mkp mkl mkc mkq mkg mkr
def tW (n:Int):Bool:=decide (20<n)||decide ((500:Int)<((2^n.toNat:Nat):Int))
theorem Wr {p q:Int × Int} (h:(!decide ((p.1,p.2)=(q.1,q.2)))=false):p=q:=by simpa [Prod.ext_iff] using h
theorem Ws {p q:Int × Int} (h:(!decide ((p.1,p.2)=(q.1,q.2)))=true):p≠q:=fun e=>by subst e;simp at h
theorem Qj {l r:List (Int × Int)} (hl:l.length=r.length) (h:∀j,j<l.length→ix l j=ix r j):l=r:=by
 apply List.ext_getElem hl
 intro j h1 h2
 have:=h j h1
 rwa [aF h1,aF h2] at this
theorem Wt {m:aB} {t:SS} {l:List (Int × Int)} {u:Int} (h:∀j,j<l.length→cC u (bQ m (ix l j).1.toNat)∈acc t (ix l j).2.toNat):gT m t l u=true:=by
 unfold gT
 refine List.all_eq_true.2 fun p hp=> ?_
 obtain⟨j,hj,rfl⟩:=List.getElem_of_mem hp
 have:=h j hj
 rw[aF hj] at this
 exact decide_eq_true this
theorem Xu {m:aB} {t:SS} {l:List (Int × Int)} {u:Int} {k:Nat} (hk:k<l.length) (h:cC u (bQ m (ix l k).1.toNat)∉acc t (ix l k).2.toNat):gT m t l u=false:=by
 cases e:gT m t l u with
 |false=>rfl
 |true=>
  unfold gT at e
  exact absurd (of_decide_eq_true (List.all_eq_true.1 e _ (aX hk))) h
theorem TX {m:aB} {t:SS} {p:Int × Int} {u:Int} (h2:0≤p.2) (h:(!Ad t p.2 (((bQ m p.1.toNat).toNat&&&u.toNat:Nat):Int))=false):cC u (bQ m p.1.toNat)∈acc t p.2.toNat:=by
 rw[Bool.not_eq_false',Wq h2] at h
 have:=of_decide_eq_true h
 rw[FitM.tT];exact this
theorem Wu {m:aB} {t:SS} {p:Int × Int} {u:Int} (h2:0≤p.2) (h:(!Ad t p.2 (((bQ m p.1.toNat).toNat&&&u.toNat:Nat):Int))=true):cC u (bQ m p.1.toNat)∉acc t p.2.toNat:=by
 rw[Bool.not_eq_true',Wq h2] at h
 have:=of_decide_eq_false h
 rw[FitM.tT];exact this
namespace T
theorem Xv:Ent Tryz.prog 89:=aN kR
theorem Xw:Ent Tryz.prog 88:=aN kR
theorem Xx:Ent Tryz.prog 90:=aN kR
end T
namespace mks
theorem TY (n:Int) (h0:0≤n):
 Fn0 Tryz.prog 19 [int n] (bl (tW n)):=by
 refine fnI Tryz.func19 rfl rfl (fun w0 F0=> ?_)
 refine sq (rg (ag (nl (th (sq (rg (mv (bi J J fJ (mv ?_)))))))))
 apply gOr (t:=5) (pd:=9) rfl
 rotate_left
 ·intro hg0 fin
  have hg0':=hg0
  try simp at hg0'
  exact gy J J J hg0 (mv (gy J J J hg0 (bi J J (pX O O) (gy J J J hg0 (bi J J fJ (pkF J hg0 J (drp (X:= [(8,_),(7,_),(6,_)]) ⟨J,J,J,tV⟩ fin)))))))
 ·intro hg0 fin
  exact gn J J J hg0 J J (gn J J J hg0 J J (gn J J J hg0 J J (pkT J hg0 J (drp (X:= [(8,_),(7,_),(6,_)]) ⟨J,J,J,tV⟩ fin))))
 refine ag (nl (th (rt ?_)))
 have hr0:((decide (20<n))||(decide (500<((2^n.toNat:Nat):Int))))=(tW n):=by
  rfl
 exact rE () [.tmp 2] J [bl ((decide (20<n))||(decide (500<((2^n.toNat:Nat):Int))))] ⟨.tmp J,tV⟩ (cA1 (fun x0=>rV [bl x0]) hr0) trivial eX
theorem GY (l r:List (Int × Int)):
 Fn0 Tryz.prog 53 [sl 2 pE l,sl 2 pE r] (bl (decide (l=r))):=by
 refine fnI Tryz.func53 rfl rfl (fun w0 F0=> ?_)
 refine fcC (aT 0 J) (fun hm0=> ?_)
 refine fcC (aT 1 J) (fun hm1=> ?_)
 refine sq (rg (ag (nl (th (sq (sq (rg (mv (lnF J T.fA (mv (lnF J T.fA (bi J J fR (nl (th ?_))))))))))))))
 refine cd J (fun hc0=> ?_) (fun hc0=> ?_)
 ·try simp at hc0
  refine sq (rg (ag (nl (th (rt (rt_ ?_))))))
  have hr0:false=(decide (l=r)):=by
   rw[decide_eq_false (fun e=>by subst e;omega)]
  exact rE () [.tmp 4] J [bl false] ⟨.tmp J,tV⟩ (cA1 (fun x0=>rV [bl x0]) hr0) trivial eX
 ·try simp at hc0
  refine sk (th (sq (sq (rg (mv (lnF J T.fA (mv (nl (th (bk ?_))))))))))
  have hI0_0:0≤l.length:=by
   first|omega|simp
  have hI0_1:∀j,j<0→ix l j=ix r j:=by
   exact fun j hj=>absurd hj O
  refine lp (κ:=Nat) (fun p=> [(1,sl 2 pE r),(12,sl 2 pE l),(13,int (l.length:Int)),(14,int (p:Int))]) (fun p=> []) (fun p=>(p≤l.length)∧(∀j,j<p→ix l j=ix r j)) (fun p=>l.length- p) 0 ⟨hI0_0,hI0_1⟩ ⟨id,id,id,id,tV⟩ trivial ?_
  intro k hG0
  obtain⟨hk0,hI0⟩:(k≤l.length)∧(∀j,j<k→ix l j=ix r j):=hG0
  refine sq (rg (bi J J aO (nl (th (sq ?_)))))
  refine cd J (fun hc1=> ?_) (fun hc1=> ?_)
  ·try simp at hc1
   refine sk (th (sq (bk (sq (rg (mv (iF J J T.fA O gB (lFA J T.dG (Nat.le_of_ble_eq_true J) (al (key:=6) T.z80 (eC (eC eZ)) fun b6=>(ag (sPA (cs':= [int ((ix l k).1),int ((ix l k).2)]) J J J T.dG J J (nl (th (sq (dr (nh:=6) [0,0,0,6,14,31] T.mixed kR ?_)))))))))))))))
   refine st_ J (fun _ _ _ gq kq=>lPA (gq.1.trans J) J T.dG J kq) ?_
   refine st_ J (fun _ _ _ gq kq=>mv' (gq.1.trans J) kq) ?_
   refine st_ J (fun _ _ _ gq kq=>mv' (gq.1.trans J) kq) ?_
   refine st_ J (fun _ _ _ gq kq=>iF (gq.1.trans J) (gq.2.1.trans J) T.fA O gB kq) ?_
   refine st_ J (fun _ _ _ gq kq=>lFA (gq.1.trans J) T.dG (Nat.le_of_ble_eq_true J) kq) ?_
   refine st_ J (fun _ _ _ gq kq=>VS (gq.1.trans J) (gq.2.1.trans J) T.eU T.kd3 kR kR kq) ?_
   refine pn (nl (th ?_))
   refine cd J (fun hc2=> ?_) (fun hc2=> ?_)
   ·skip
    refine sq (rg (ag (nl (th (rt (rb (rt_ (rt_ (rb (rt_ ?_))))))))))
    have hr0:false=(decide (l=r)):=by
     rw[decide_eq_false (fun e=>Ws hc2 (by rw[e]))]
    exact rE () [.tmp 4] J [bl false] ⟨.tmp J,tV⟩ (cA1 (fun x0=>rV [bl x0]) hr0) trivial eX
   ·skip
    refine sk (eb (th (rg (bi J J (aG i6) (mv (nl ?_))))))
    have hN0:(k+1)≤l.length:=by
     first|omega|simp_all
    have hN1:∀j,j<(k+1)→ix l j=ix r j:=by
     intro j hj
     by_cases e:j=k
     ·subst e;exact Wr hc2
     ·exact hI0 j O
    exact ln (k+1) ⟨hN0,hN1⟩ dO ⟨id,id,id,id,tV⟩ trivial
  ·try simp at hc1
   refine ex (xt_ (xt_ (xb (th (sq (rg (ag (nl (th (rt ?_))))))))))
   have hr0:true=(decide (l=r)):=by
    rw[decide_eq_true (Qj O (fun j hj=>hI0 j O))]
   exact rE () [.tmp 4] J [bl true] ⟨.tmp J,tV⟩ (cA1 (fun x0=>rV [bl x0]) hr0) trivial eX
theorem Nj (m:aB) (hm:bE m) (t:SS) (ht:oK t) (l:List (Int × Int)) (hl:gOk m t l) (u:Int) (h0:0≤u) (h1:u<256):
 Fn0 Tryz.prog 50 [sys m,spec t,sl 2 pE l,int u] (bl (gT m t l u)):=by
 refine fnI Tryz.func50 rfl rfl (fun w0 F0=> ?_)
 have f1:=hm.few1;have f2:=ht.few1;have hn8:=ht.n8;have hm8:=hm.n8
 refine fcC (bV 0 J) (fun hS0=> ?_)
 obtain⟨hma0,hms0,hme0⟩:=cQ hS0
 refine fcC (bV 1 J) (fun hS1=> ?_)
 obtain⟨hsa1,hss1,hse1⟩:=sLn hS1
 refine fcC (aT 2 J) (fun hm2=> ?_)
 refine sq (rg (bx (key:=4) (cs:= [sl 1 rE_ m.aC,sl 1 gE m.sT]) J fun b4=>(bx (key:=5) (cs:= [sl 1 rE_ t.aC,sl 2 sE t.sT]) J fun b5=>(ag (nl (th (sq (sq (rg (mv (lnF J T.fA (mv (nl (th (bk ?_)))))))))))))))
 have hI0_0:0≤l.length:=by
  first|omega|simp
 have hI0_1:∀j,j<0→cC u (bQ m (ix l j).1.toNat)∈acc t (ix l j).2.toNat:=by
  exact fun j hj=>absurd hj O
 refine lp (κ:=Nat) (fun p=> [(3,int u),(4,ptr 4 b4 0),(5,ptr 5 b5 0),(11,sl 2 pE l),(12,int (l.length:Int)),(13,int (p:Int))]) (fun p=> [(4,cell b4 [sl 1 rE_ m.aC,sl 1 gE m.sT]),(5,cell b5 [sl 1 rE_ t.aC,sl 2 sE t.sT])]) (fun p=>(p≤l.length)∧(∀j,j<p→cC u (bQ m (ix l j).1.toNat)∈acc t (ix l j).2.toNat)) (fun p=>l.length- p) 0 ⟨hI0_0,hI0_1⟩ ⟨id,id,id,id,id,id,tV⟩ ⟨rI,rI,tV⟩ ?_
 intro k hG0
 obtain⟨hk0,hI0⟩:(k≤l.length)∧(∀j,j<k→cC u (bQ m (ix l j).1.toNat)∈acc t (ix l j).2.toNat):=hG0
 refine sq (rg (bi J J aO (nl (th (sq ?_)))))
 refine cd J (fun hc0=> ?_) (fun hc0=> ?_)
 ·try simp at hc0
  have hb:=jU hl (aX (l:=l) (i:=k) O)
  have hof:=Vh hm (x:=(ix l k).1.toNat) O
  have hob:0≤bQ m (ix l k).1.toNat∧bQ m (ix l k).1.toNat<256:=yV hm O
  refine sk (th (sq (bk (sq (rg (iF J J T.fA O gB (lFA J T.dG (Nat.le_of_ble_eq_true J) (al (key:=10) T.z80 (eC (eC eZ)) fun b10=>(sPA (cs':= [int ((ix l k).1),int ((ix l k).2)]) J J J T.dG J J (nl (th (sq (dr (nh:=11) [0,0,2,0,0,16,56,0,248,511,1023] T.mixed kR ?_)))))))))))))
  refine st_ J (fun _ _ _ gq kq=>lPA (gq.1.trans J) J T.aW J kq) ?_
  refine st_ J (fun _ _ _ gq kq=>iPA (gq.1.trans J) J T.eU T.aH J kq) ?_
  refine st_ J (fun _ _ _ gq kq=>lP (gq.1.trans J) J J T.aH kq) ?_
  refine st_ J (fun _ _ _ gq kq=>lPA (gq.1.trans J) J T.bK J kq) ?_
  refine st_ J (fun _ _ _ gq kq=>iPA (gq.1.trans J) J T.eU T.aH J kq) ?_
  refine st_ J (fun _ _ _ gq kq=>lP (gq.1.trans J) J J T.aH kq) ?_
  refine st_ J (fun _ _ _ gq kq=>aZ (φs:= [agg [sl 1 rE_ m.aC,sl 1 gE m.sT],int ((ix l k).1)]) (φ:=int (bQ m ((ix l k).1).toNat)) ⟨(gq.1.trans J),(gq.2.1.trans J),tV⟩ (divs.Ox m ((ix l k).1) aS O O) T.Xv kq) ?_
  refine st_ J (fun _ _ _ gq kq=>mv' (gq.1.trans J) kq) ?_
  refine st_ J (fun _ _ _ gq kq=>bi (gq.1.trans J) (gq.2.1.trans J) (AR O O O O) kq) ?_
  refine st_ J (fun _ _ _ gq kq=>aZ (φs:= [agg [sl 1 rE_ t.aC,sl 2 sE t.sT],int ((ix l k).2),int (((bQ m ((ix l k).1).toNat).toNat&&&u.toNat:Nat):Int)]) (φ:=bl (Ad t ((ix l k).2) (((bQ m ((ix l k).1).toNat).toNat&&&u.toNat:Nat):Int))) ⟨(gq.1.trans J),(gq.2.1.trans J),(gq.2.2.1.trans J),tV⟩ (divs.rD t ((ix l k).2) (((bQ m ((ix l k).1).toNat).toNat&&&u.toNat:Nat):Int) O) T.Xw kq) ?_
  refine st_ J (fun _ _ _ gq kq=>no (gq.1.trans J) kq) ?_
  refine pn (nl (th ?_))
  refine cd J (fun hc1=> ?_) (fun hc1=> ?_)
  ·skip
   refine sq (rg (ag (nl (th (rt (rb (rt_ (rt_ (rb (rt_ ?_))))))))))
   have hr0:false=(gT m t l u):=by
    exact(Xu O (Wu O hc1)).symm
   exact rE () [.tmp 8] J [bl false] ⟨.tmp J,tV⟩ (cA1 (fun x0=>rV [bl x0]) hr0) trivial eX
  ·skip
   refine sk (eb (th (rg (bi J J (aG i6) (mv (nl ?_))))))
   have hN0:(k+1)≤l.length:=by
    first|omega|simp_all
   have hN1:∀j,j<(k+1)→cC u (bQ m (ix l j).1.toNat)∈acc t (ix l j).2.toNat:=by
    intro j hj
    by_cases e:j=k
    ·subst e;exact TX O hc1
    ·exact hI0 j O
   exact ln (k+1) ⟨hN0,hN1⟩ dO ⟨id,id,id,id,id,id,tV⟩ ⟨rI,rI,tV⟩
 ·try simp at hc0
  refine ex (xt_ (xt_ (xb (th (sq (rg (ag (nl (th (rt ?_))))))))))
  have hr0:true=(gT m t l u):=by
   exact(Wt (fun j hj=>hI0 j O)).symm
  exact rE () [.tmp 8] J [bl true] ⟨.tmp J,tV⟩ (cA1 (fun x0=>rV [bl x0]) hr0) trivial eX
theorem Nk (m:aB) (hm:bE m) (l:List Int) (hl:∀x∈l,0≤x∧x<(m.sT.length:Int)) (hll:l.length≤1000000) (a:Int):
 Fn0 Tryz.prog 90 [sys m,ints l,int a] (ints (dB m l a)):=by
 refine fnI Tryz.func90 rfl rfl (fun w0 F0=> ?_)
 have f1:=hm.few1
 refine fcC (bV 0 J) (fun hS0=> ?_)
 obtain⟨hma0,hms0,hme0⟩:=cQ hS0
 refine fcC (aT 1 J) (fun hm1=> ?_)
 refine sq (rg (bx (key:=3) (cs:= [sl 1 rE_ m.aC,sl 1 gE m.sT]) J fun b3=>(ag (nl (th (sq (rg (fP J T.bX (lP J J J T.cV (fc (aT 16 J) fun hm16=>(lnF J T.eV (mk (key:=18) (m:=m.sT.length) (enc:=blE) (y:=false) J J T.vT (eC eZ) (by unfold aQ at*;omega) (by unfold aQ at*;omega) fun v18=>(ag (nl (th (sq (sq (rg (mv (lnF J T.aU (mv (nl (th (bk ?_))))))))))))))))))))))))
 have hI0_0:0≤l.length:=by
  first|omega|simp
 have hI0_1:NyS m l a 0 0 (List.replicate m.sT.length false):=by
  exact OV
 refine lp (κ:=Nat × (List Bool)) (fun p=> [(2,int a),(3,ptr 3 b3 0),(6,eqv (.slice none 0 0)),(7,osl 18 v18),(19,sl 1 nE l),(20,int (l.length:Int)),(21,int (p.1:Int))]) (fun p=> [(3,cell b3 [sl 1 rE_ m.aC,sl 1 gE m.sT]),(18,own v18 4 1 blE p.2)]) (fun p=>(p.1≤l.length)∧(NyS m l a p.1 0 p.2)) (fun p=>l.length- p.1) ⟨0,List.replicate m.sT.length false⟩ ⟨hI0_0,hI0_1⟩ ⟨id,id,id,id,id,id,id,tV⟩ ⟨rI,rI,tV⟩ ?_
 intro⟨k,inb⟩ hG0
 obtain⟨hk0,hI0⟩:(k≤l.length)∧(NyS m l a k 0 inb):=hG0
 show Ct _ _ _ _ [(2,int a),(3,ptr 3 b3 0),(6,eqv (.slice none 0 0)),(7,osl 18 v18),(19,sl 1 nE l),(20,int (l.length:Int)),(21,int (k:Int))] [(3,cell b3 [sl 1 rE_ m.aC,sl 1 gE m.sT]),(18,own v18 4 1 blE inb)] _
 have hbl:=hI0.len
 refine sq (rg (bi J J aO (nl (th (sq ?_)))))
 refine cd J (fun hc0=> ?_) (fun hc0=> ?_)
 ·try simp at hc0
  have hlk:=hl _ (aX hc0)
  have hes:=hm.ed (ix l k).toNat O
  have hmy:=hm.many (ix l k).toNat O
  refine sk (th (sq (bk (sq (rg (iF J J T.aU O gB (lF J J T.aH (ag (nl (th (sq (rg (fP J T.bX (lP J J J T.cV (mv (iF J J T.eV O gB (lF J J T.iG (fc (aT 29 J) fun hm29=>(lnF J T.dI (mv (nl (th (bk ?_)))))))))))))))))))))))
  have hI1_0:0≤(ix m.sT (ix l k).toNat).length:=by
   first|omega|simp
  have hI1_1:NyS m l a k 0 inb:=by
   exact hI0
  refine lp (κ:=Nat × (List Bool)) (fun p=> [(2,int a),(3,ptr 3 b3 0),(6,eqv (.slice none 0 0)),(7,osl 18 v18),(19,sl 1 nE l),(20,int (l.length:Int)),(21,int (k:Int)),(29,sl 2 pE (ix m.sT (ix l k).toNat)),(30,int ((ix m.sT (ix l k).toNat).length:Int)),(31,int (p.1:Int))]) (fun p=> [(3,cell b3 [sl 1 rE_ m.aC,sl 1 gE m.sT]),(18,own v18 4 1 blE p.2)]) (fun p=>(p.1≤(ix m.sT (ix l k).toNat).length)∧(NyS m l a k p.1 p.2)) (fun p=>(ix m.sT (ix l k).toNat).length- p.1) ⟨0,inb⟩ ⟨hI1_0,hI1_1⟩ ⟨id,id,id,id,id,id,id,id,id,id,tV⟩ ⟨rI,rI,tV⟩ ?_
  intro⟨k1,in2⟩ hG1
  obtain⟨hk1,hI1⟩:(k1≤(ix m.sT (ix l k).toNat).length)∧(NyS m l a k k1 in2):=hG1
  show Ct _ _ _ _ [(2,int a),(3,ptr 3 b3 0),(6,eqv (.slice none 0 0)),(7,osl 18 v18),(19,sl 1 nE l),(20,int (l.length:Int)),(21,int (k:Int)),(29,sl 2 pE (ix m.sT (ix l k).toNat)),(30,int ((ix m.sT (ix l k).toNat).length:Int)),(31,int (k1:Int))] [(3,cell b3 [sl 1 rE_ m.aC,sl 1 gE m.sT]),(18,own v18 4 1 blE in2)] _
  have hbl2:=hI1.len
  refine sq (rg (bi J J aO (nl (th (sq ?_)))))
  refine cd J (fun hc1=> ?_) (fun hc1=> ?_)
  ·try simp at hc1
   have hek:=hes _ (aX (l:=(ix m.sT (ix l k).toNat)) (i:=k1) O)
   refine sk (th (sq (bk (sq (rg (iF J J T.dI O gB (lFA J T.dA (Nat.le_of_ble_eq_true J) (al (key:=11) T.z94 (eC (eC eZ)) fun b11=>(sPA (cs':= [int ((ix (ix m.sT (ix l k).toNat) k1).1),int ((ix (ix m.sT (ix l k).toNat) k1).2)]) J J J T.dA J J (nl (th (sq (rg (fP J T.dJ (lP J J J T.aH (mv (bi J J eS (nl (th ?_)))))))))))))))))))
   refine cd J (fun hc2=> ?_) (fun hc2=> ?_)
   ·try simp at hc2
    refine rg (mv (fP J T.dY (lP J J J T.aH (iO J J J T.gJ O O (sO (φ:=bl true) J J J T.eP gB J (y':=true) J (nl (eb (th (rg (bi J J (aG i6) (mv (nl ?_))))))))))))
    have hN0:(k1+1)≤(ix m.sT (ix l k).toNat).length:=by
     first|omega|simp_all
    have hN1:NyS m l a k (k1+1) (in2.set ((ix (ix m.sT (ix l k).toNat) k1).2).toNat true):=by
     exact SL hI1 hc2 hek.2.2.1 hek.2.2.2
    exact ln (⟨k1+1,in2.set ((ix (ix m.sT (ix l k).toNat) k1).2).toNat true⟩:Nat × (List Bool)) ⟨hN0,hN1⟩ dO ⟨id,id,id,id,id,id,id,id,id,id,tV⟩ ⟨rI,rI,tV⟩
   ·try simp at hc2
    refine sk (eb (th (rg (bi J J (aG i6) (mv (nl ?_))))))
    have hN0:(k1+1)≤(ix m.sT (ix l k).toNat).length:=by
     first|omega|simp_all
    have hN1:NyS m l a k (k1+1) in2:=by
     exact OX hI1 hc2
    exact ln (⟨k1+1,in2⟩:Nat × (List Bool)) ⟨hN0,hN1⟩ dO ⟨id,id,id,id,id,id,id,id,id,id,tV⟩ ⟨rI,rI,tV⟩
  ·try simp at hc1
   refine ex (xt_ (xt_ (xb (eb (th (rg (bi J J (aG i6) (mv (nl ?_)))))))))
   have hN0:(k+1)≤l.length:=by
    first|omega|simp_all
   have hN1:NyS m l a (k+1) 0 in2:=by
    rw[show k1=(ix m.sT (ix l k).toNat).length by omega] at hI1
    exact OW hI1
   exact ln (⟨k+1,in2⟩:Nat × (List Bool)) ⟨hN0,hN1⟩ dO ⟨id,id,id,id,id,id,id,tV⟩ ⟨rI,rI,tV⟩
 ·try simp at hc0
  refine ex (xt_ (xt_ (xb (th (sq (rg (nw 12 3 1 nE (ag (rtg (key:=12) 12 J (nl (th (sq (sq (rg (mv (lnO J J T.gJ (mv (nl (th (bk ?_))))))))))))))))))))
  have hI2_0:0≤inb.length:=by
   first|omega|simp
  have hI2_1:([]:List Int)=((List.range 0).filter fun(x:Nat)=>ix inb x).map fun(x:Nat)=>(x:Int):=by
   rfl
  refine lp (κ:=Nat × Value × (List Int)) (fun p=> [(6,eqv (.slice none 0 0)),(12,osl 12 p.2.1),(45,osl 18 v18),(46,int (inb.length:Int)),(47,int (p.1:Int))]) (fun p=> [(3,cell b3 [sl 1 rE_ m.aC,sl 1 gE m.sT]),(12,own p.2.1 3 1 nE p.2.2),(18,own v18 4 1 blE inb)]) (fun p=>(p.1≤inb.length)∧(p.2.2=((List.range p.1).filter fun(x:Nat)=>ix inb x).map fun(x:Nat)=>(x:Int))) (fun p=>inb.length- p.1) ⟨0,(.slice none 0 0),([]:List Int)⟩ ⟨hI2_0,hI2_1⟩ ⟨id,id,id,id,id,tV⟩ ⟨rI,rI,rI,tV⟩ ?_
  intro⟨k2,v12x,out⟩ hG2
  obtain⟨hk2,hI2⟩:(k2≤inb.length)∧(out=((List.range k2).filter fun(x:Nat)=>ix inb x).map fun(x:Nat)=>(x:Int)):=hG2
  show Ct _ _ _ _ [(6,eqv (.slice none 0 0)),(12,osl 12 v12x),(45,osl 18 v18),(46,int (inb.length:Int)),(47,int (k2:Int))] [(3,cell b3 [sl 1 rE_ m.aC,sl 1 gE m.sT]),(12,own v12x 3 1 nE out),(18,own v18 4 1 blE inb)] _
  have hol:out.length≤k2:=by rw[hI2,List.length_map];exact Nat.le_trans (List.length_filter_le _ _) (by simp)
  refine sq (rg (bi J J aO (nl (th (sq ?_)))))
  refine cd J (fun hc3=> ?_) (fun hc3=> ?_)
  ·try simp at hc3
   refine sk (th (sq (bk (sq (rg (mv (iO J J J T.gJ O O (lO J J gB J T.eP (ag (ag (nl (th (sq (rg (mv (nl (th ?_)))))))))))))))))
   refine cd J (fun hc4=> ?_) (fun hc4=> ?_)
   ·try simp at hc4
    refine rg (mv (mv (bsE (enc:=nE) (xs:= [(k2:Int)]) (css:= [[int (k2:Int)]]) T.bS ⟨J,J,p1 (φ:=int (k2:Int)) J,tV⟩ J J J J (ap (key:=12) (zs:= [(k2:Int)]) bP J J J T.bS (by unfold aQ at*;simp;omega) (by unfold aQ at*;simp;omega) fun v56=>(ag (nl (eb (th (rg (bi J J (aG i6) (mv (nl ?_))))))))))))
    have hN0:(k2+1)≤inb.length:=by
     first|omega|simp_all
    have hN1:(out++ [(k2:Int)])=((List.range (k2+1)).filter fun(x:Nat)=>ix inb x).map fun(x:Nat)=>(x:Int):=by
     rw[List.range_succ,List.filter_append,List.map_append,←hI2]
     simp[hc4]
    exact ln (⟨k2+1,v56,out++ [(k2:Int)]⟩:Nat × Value × (List Int)) ⟨hN0,hN1⟩ dO ⟨id,id,id,id,id,tV⟩ ⟨rI,rI,rI,tV⟩
   ·try simp at hc4
    refine sk (eb (th (rg (bi J J (aG i6) (mv (nl ?_))))))
    have hN0:(k2+1)≤inb.length:=by
     first|omega|simp_all
    have hN1:out=((List.range (k2+1)).filter fun(x:Nat)=>ix inb x).map fun(x:Nat)=>(x:Int):=by
     rw[List.range_succ,List.filter_append,List.map_append,←hI2]
     simp[hc4]
    exact ln (⟨k2+1,v12x,out⟩:Nat × Value × (List Int)) ⟨hN0,hN1⟩ dO ⟨id,id,id,id,id,tV⟩ ⟨rI,rI,rI,tV⟩
  ·try simp at hc3
   refine ex (xt_ (xt_ (xb (th (sq (rg (mv (ag (nl (th (rt ?_)))))))))))
   refine fzA 12 6 rfl rfl ?_
   have hr0:out=(dB m l a):=by
    rw[show k=l.length by omega] at hI0
    rw[hI2,show k2=m.sT.length by have:=hI0.len;omega]
    exact OY hI0
   exact rE () [.tmp 6] J [sl 1 nE out] ⟨.tmp J,tV⟩ (cA1 (fun x0=>rV [sl 1 nE x0]) hr0) trivial eX
theorem TZ (m:aB) (hm:bE m) (t:SS) (ht:oK t) (l:List (Int × Int)) (hl:gOk m t l) (a:Nat) (hh:has (aV (gA m t l)) (a:Int)=true):
 Fn0 Tryz.prog 52 [sys m,spec t,sl 2 pE l,int (a:Int)] (sl 2 pE (GuardM.gN m t l a)):=by
 refine fnI Tryz.func52 rfl rfl (fun w0 F0=> ?_)
 have f1:=hm.few1;have f2:=ht.few1;have f3:=hm.few0;have f4:=ht.few0;have hn8:=ht.n8
 have hmn:m.sT.length*t.sT.length≤10000*10000:=Nat.mul_le_mul f1 f2
 refine fcC (bV 0 J) (fun hS0=> ?_)
 obtain⟨hma0,hms0,hme0⟩:=cQ hS0
 refine fcC (bV 1 J) (fun hS1=> ?_)
 obtain⟨hsa1,hss1,hse1⟩:=sLn hS1
 refine fcC (aT 2 J) (fun hm2=> ?_)
 refine sq (rg (bx (key:=4) (cs:= [sl 1 rE_ m.aC,sl 1 gE m.sT]) J fun b4=>(bx (key:=5) (cs:= [sl 1 rE_ t.aC,sl 2 sE t.sT]) J fun b5=>(ag (nl (th (sq (rg (fP J T.bX (lP J J J T.cV (fc (aT 20 J) fun hm20=>(lnF J T.eV (mk (key:=22) (m:=m.sT.length) (enc:=dE) (y:=(.slice none 0 0:Value)) J J T.Jy (eC eZ) mL mL fun v22=>(ag (nl (th (sq (sq (rg (nbB 231 m.sT.length 4 1 blE (mv (lnO J J T.lW (mv (nl (th (bk ?_))))))))))))))))))))))))))
 have hI0_0:0≤(List.replicate m.sT.length (.slice none 0 0:Value)).length:=by
  first|omega|simp
 have hI0_1:(List.replicate m.sT.length (.slice none 0 0:Value)).length=m.sT.length∧(List.replicate m.sT.length [])=List.replicate 0 (List.replicate t.sT.length false)++List.replicate (m.sT.length- 0) []:=by
  exact⟨by simp,by simp⟩
 refine lp (κ:=Nat × (List Value) × (List (List Bool))) (fun p=> [(2,sl 2 pE l),(3,int (a:Int)),(4,ptr 4 b4 0),(5,ptr 5 b5 0),(8,eqv (.slice none 0 0)),(9,osl 22 v22),(24,int ((List.replicate m.sT.length (.slice none 0 0:Value)).length:Int)),(25,int (p.1:Int))]) (fun p=> [(4,cell b4 [sl 1 rE_ m.aC,sl 1 gE m.sT]),(5,cell b5 [sl 1 rE_ t.aC,sl 2 sE t.sT]),(22,own v22 90 1 dE p.2.1),(231,bB p.2.1 4 1 blE p.2.2 none)]) (fun p=>(p.1≤(List.replicate m.sT.length (.slice none 0 0:Value)).length)∧(p.2.1.length=m.sT.length∧p.2.2=List.replicate p.1 (List.replicate t.sT.length false)++List.replicate (m.sT.length- p.1) [])) (fun p=>(List.replicate m.sT.length (.slice none 0 0:Value)).length- p.1) ⟨0,List.replicate m.sT.length (.slice none 0 0:Value),List.replicate m.sT.length []⟩ ⟨hI0_0,hI0_1⟩ ⟨id,id,id,id,id,id,id,id,tV⟩ ⟨rI,rI,rI,rI,tV⟩ ?_
 intro⟨k,us,mt⟩ hG0
 obtain⟨hk0,⟨hul,hmt⟩⟩:(k≤(List.replicate m.sT.length (.slice none 0 0:Value)).length)∧(us.length=m.sT.length∧mt=List.replicate k (List.replicate t.sT.length false)++List.replicate (m.sT.length- k) []):=hG0
 show Ct _ _ _ _ [(2,sl 2 pE l),(3,int (a:Int)),(4,ptr 4 b4 0),(5,ptr 5 b5 0),(8,eqv (.slice none 0 0)),(9,osl 22 v22),(24,int ((List.replicate m.sT.length (.slice none 0 0:Value)).length:Int)),(25,int (k:Int))] [(4,cell b4 [sl 1 rE_ m.aC,sl 1 gE m.sT]),(5,cell b5 [sl 1 rE_ t.aC,sl 2 sE t.sT]),(22,own v22 90 1 dE us),(231,bB us 4 1 blE mt none)] _
 have hml:mt.length=m.sT.length:=by rw[hmt];simp;omega
 refine sq (rg (bi J J aO (nl (th (sq ?_)))))
 refine cd J (fun hc0=> ?_) (fun hc0=> ?_)
 ·try simp at hc0
  refine sk (th (sq (bk (sq (rg (mv (ag (nl (th (EX 231 2399 k J J (by decide) (gK O) (gK O) (rg (mv (mv (fP J T.bA (lP J J J T.bM (fc (aT 31 J) fun hm31=>(lnF J T.cE (mk (key:=33) (m:=t.sT.length) (enc:=blE) (y:=false) J J T.vT (eC eZ) mL mL fun v33=>(iO J J J T.lW O O (sOO (k2:=33) J J eO J T.jF gB J (y':=v33) J (nl (eb (th (rg (gvB (us:=us) 231 33 k J J (by decide) O (bi J J (aG i6) (mv (nl ?_))))))))))))))))))))))))))))
  have hN0:(k+1)≤(List.replicate m.sT.length (.slice none 0 0:Value)).length:=by
   first|omega|simp_all
  have hN1:(us.set k v33).length=m.sT.length∧(mt.set k (List.replicate t.sT.length false))=List.replicate (k+1) (List.replicate t.sT.length false)++List.replicate (m.sT.length- (k+1)) []:=by
   refine⟨by simpa using hul,?_⟩
   rw[hmt];exact Il _ _ hc0
  exact ln (⟨k+1,us.set k v33,mt.set k (List.replicate t.sT.length false)⟩:Nat × (List Value) × (List (List Bool))) ⟨hN0,hN1⟩ dO ⟨id,id,id,id,id,id,id,id,tV⟩ ⟨rI,rI,rI,rI,tV⟩
 ·try simp at hc0
  have hmz:mt=mat m.sT.length t.sT.length (fI m t a (l.take 0)):=by rw[hmt,show k=m.sT.length by omega,Nat.sub_self];show _=mat _ _ [];rw[FI];simp
  refine ex (xt_ (xt_ (xb (th (sq (sq (rg (mv (lnF J T.fA (mv (nl (th (bk ?_)))))))))))))
  have hI1_0:0≤l.length:=by
   first|omega|simp
  have hI1_1:mt=mat m.sT.length t.sT.length (fI m t a (l.take 0)):=by
   exact hmz
  refine lp (κ:=Nat × (List (List Bool))) (fun p=> [(3,int (a:Int)),(4,ptr 4 b4 0),(5,ptr 5 b5 0),(8,eqv (.slice none 0 0)),(9,osl 22 v22),(36,sl 2 pE l),(37,int (l.length:Int)),(38,int (p.1:Int))]) (fun p=> [(4,cell b4 [sl 1 rE_ m.aC,sl 1 gE m.sT]),(5,cell b5 [sl 1 rE_ t.aC,sl 2 sE t.sT]),(22,own v22 90 1 dE us),(231,bB us 4 1 blE p.2 none)]) (fun p=>(p.1≤l.length)∧(p.2=mat m.sT.length t.sT.length (fI m t a (l.take p.1)))) (fun p=>l.length- p.1) ⟨0,mt⟩ ⟨hI1_0,hI1_1⟩ ⟨id,id,id,id,id,id,id,id,tV⟩ ⟨rI,rI,rI,rI,tV⟩ ?_
  intro⟨k1,mt1⟩ hG1
  obtain⟨hk1,hmt1⟩:(k1≤l.length)∧(mt1=mat m.sT.length t.sT.length (fI m t a (l.take k1))):=hG1
  show Ct _ _ _ _ [(3,int (a:Int)),(4,ptr 4 b4 0),(5,ptr 5 b5 0),(8,eqv (.slice none 0 0)),(9,osl 22 v22),(36,sl 2 pE l),(37,int (l.length:Int)),(38,int (k1:Int))] [(4,cell b4 [sl 1 rE_ m.aC,sl 1 gE m.sT]),(5,cell b5 [sl 1 rE_ t.aC,sl 2 sE t.sT]),(22,own v22 90 1 dE us),(231,bB us 4 1 blE mt1 none)] _
  have hml1:mt1.length=m.sT.length:=by rw[hmt1];exact uZ _ _ _
  refine sq (rg (bi J J aO (nl (th (sq ?_)))))
  refine cd J (fun hc1=> ?_) (fun hc1=> ?_)
  ·try simp at hc1
   have hb:=jU hl (aX (l:=l) (i:=k1) O)
   have hN1:∀x∈[(ix l k1).1],0≤x∧x<(m.sT.length:Int):=fun x hx=>by rw[List.mem_singleton.1 hx];exact⟨hb.1,hb.2.1⟩
   have hNl:=wH m [(ix l k1).1] (a:Int)
   refine sk (th (sq (bk (sq (rg (iF J J T.fA O gB (lFA J T.dG (Nat.le_of_ble_eq_true J) (al (key:=12) T.z80 (eC (eC eZ)) fun b12=>(sPA (cs':= [int ((ix l k1).1),int ((ix l k1).2)]) J J J T.dG J J (nl (th (sq (rg (lPA J J T.bK J (iPA J J T.eU T.aH J (lP J J J T.aH (bsE (enc:=nE) (xs:= [((ix l k1).1)]) (css:= [[int ((ix l k1).1)]]) T.bS ⟨J,J,p1 (φ:=int ((ix l k1).1)) J,tV⟩ J J J J (mv (aZ (φs:= [agg [sl 1 rE_ m.aC,sl 1 gE m.sT],sl 1 nE [((ix l k1).1)],int (a:Int)]) (φ:=sl 1 nE (dB m [((ix l k1).1)] (a:Int))) ⟨J,J,J,tV⟩ (mks.Nk m aS [((ix l k1).1)] aS (by simp) (a:Int)) T.Xx (fc (aT 47 J) fun hm47=>(lnF J T.aU (mv (nl (th (bk ?_)))))))))))))))))))))))))
   have hI2_0:0≤(dB m [((ix l k1).1)] (a:Int)).length:=by
    first|omega|simp
   have hI2_1:mt1=mat m.sT.length t.sT.length (fI m t a (l.take k1)++((dB m [(ix l k1).1] (a:Int)).take 0).map fun x=>((x,(ix (nxt t (ix l k1).2.toNat) a)):Int × Int)):=by
    rw[hmt1];simp
   refine lp (κ:=Nat × (List (List Bool))) (fun p=> [(3,int (a:Int)),(4,ptr 4 b4 0),(5,ptr 5 b5 0),(8,eqv (.slice none 0 0)),(9,osl 22 v22),(12,ptr 12 b12 0),(36,sl 2 pE l),(37,int (l.length:Int)),(38,int (k1:Int)),(47,sl 1 nE (dB m [((ix l k1).1)] (a:Int))),(48,int ((dB m [((ix l k1).1)] (a:Int)).length:Int)),(49,int (p.1:Int))]) (fun p=> [(4,cell b4 [sl 1 rE_ m.aC,sl 1 gE m.sT]),(5,cell b5 [sl 1 rE_ t.aC,sl 2 sE t.sT]),(12,cell b12 [int ((ix l k1).1),int ((ix l k1).2)]),(22,own v22 90 1 dE us),(231,bB us 4 1 blE p.2 none)]) (fun p=>(p.1≤(dB m [((ix l k1).1)] (a:Int)).length)∧(p.2=mat m.sT.length t.sT.length (fI m t a (l.take k1)++((dB m [(ix l k1).1] (a:Int)).take p.1).map fun x=>((x,(ix (nxt t (ix l k1).2.toNat) a)):Int × Int)))) (fun p=>(dB m [((ix l k1).1)] (a:Int)).length- p.1) ⟨0,mt1⟩ ⟨hI2_0,hI2_1⟩ ⟨id,id,id,id,id,id,id,id,id,id,id,id,tV⟩ ⟨rI,rI,rI,rI,rI,tV⟩ ?_
   intro⟨k2,mt2⟩ hG2
   obtain⟨hk2,hmt2⟩:(k2≤(dB m [((ix l k1).1)] (a:Int)).length)∧(mt2=mat m.sT.length t.sT.length (fI m t a (l.take k1)++((dB m [(ix l k1).1] (a:Int)).take k2).map fun x=>((x,(ix (nxt t (ix l k1).2.toNat) a)):Int × Int))):=hG2
   show Ct _ _ _ _ [(3,int (a:Int)),(4,ptr 4 b4 0),(5,ptr 5 b5 0),(8,eqv (.slice none 0 0)),(9,osl 22 v22),(12,ptr 12 b12 0),(36,sl 2 pE l),(37,int (l.length:Int)),(38,int (k1:Int)),(47,sl 1 nE (dB m [((ix l k1).1)] (a:Int))),(48,int ((dB m [((ix l k1).1)] (a:Int)).length:Int)),(49,int (k2:Int))] [(4,cell b4 [sl 1 rE_ m.aC,sl 1 gE m.sT]),(5,cell b5 [sl 1 rE_ t.aC,sl 2 sE t.sT]),(12,cell b12 [int ((ix l k1).1),int ((ix l k1).2)]),(22,own v22 90 1 dE us),(231,bB us 4 1 blE mt2 none)] _
   have hml2:mt2.length=m.sT.length:=by rw[hmt2];exact uZ _ _ _
   refine sq (rg (bi J J aO (nl (th (sq ?_)))))
   refine cd J (fun hc2=> ?_) (fun hc2=> ?_)
   ·try simp at hc2
    obtain⟨kx,hkx,hkm,y,hy,e,he,he1,he2⟩:=Ag.1 (aX (l:=(dB m [(ix l k1).1] (a:Int))) (i:=k2) O)
    rw[List.mem_singleton.1 hy] at he
    have hgo:=Wi ht hl hh (aX (l:=l) (i:=k1) O) he he1
    obtain⟨hgo1,hgo2,hgo3⟩:=hgo
    have hgo4:0≤ix (ix t.sT (ix l k1).2.toNat).next a∧ix (ix t.sT (ix l k1).2.toNat).next a<(t.sT.length:Int):=⟨hgo2,hgo3⟩
    have htst:=ht.st (ix l k1).2.toNat O
    have htnl:=htst.len
    have hk2b:0≤ix (dB m [(ix l k1).1] (a:Int)) k2∧ix (dB m [(ix l k1).1] (a:Int)) k2<(m.sT.length:Int):=by omega
    have hrl:(ix mt2 (ix (dB m [(ix l k1).1] (a:Int)) k2).toNat).length=t.sT.length:=by rw[hmt2];exact rG O
    refine sk (th (sq (bk (sq (rg (iF J J T.aU O gB (lF J J T.aH (ag (nl (th (EX 231 2310 (ix (dB m [(ix l k1).1] (a:Int)) k2).toNat J J (by decide) (gK O) (gK O) (dr (nh:=15) [0,0,3,7,0,16,0,64,240,496,1008,0,4080,8176,16383,32767] T.mixed kR ?_))))))))))))
    refine st_ J (fun _ _ _ gq kq=>mv' (gq.1.trans J) kq) ?_
    refine st_ J (fun _ _ _ gq kq=>mv' (gq.1.trans J) kq) ?_
    refine st_ J (fun _ _ _ gq kq=>iO (gq.1.trans J) J (gq.2.1.trans J) T.lW O O kq) ?_
    refine st_ J (fun _ _ _ gq kq=>lO (gq.1.trans J) J gB J T.jF kq) ?_
    refine st_ J (fun _ _ _ gq kq=>fP (gq.1.trans J) T.bA kq) ?_
    refine st_ J (fun _ _ _ gq kq=>lP (gq.1.trans J) J J T.bM kq) ?_
    refine st_ J (fun _ _ _ gq kq=>iPA (gq.1.trans J) J T.eU T.aH J kq) ?_
    refine st_ J (fun _ _ _ gq kq=>lP (gq.1.trans J) J J T.aH kq) ?_
    refine st_ J (fun _ _ _ gq kq=>iF (gq.1.trans J) (gq.2.1.trans J) T.cE O gB kq) ?_
    refine st_ J (fun _ _ _ gq kq=>fF (gq.1.trans J) T.bR kq) ?_
    refine st_ J (fun _ _ _ gq kq=>lF (gq.1.trans J) J T.aY kq) ?_
    refine st_ J (fun _ _ _ gq kq=>mv' (gq.1.trans J) kq) ?_
    refine st_ J (fun _ _ _ gq kq=>iF (gq.1.trans J) (gq.2.1.trans J) T.aU O gB kq) ?_
    refine st_ J (fun _ _ _ gq kq=>lF (gq.1.trans J) J T.aH kq) ?_
    refine st_ J (fun _ _ _ gq kq=>iO ((gq.1.trans J).trans (eO (key:=2310)).symm) J (gq.2.1.trans J) T.gJ O O kq) ?_
    refine pn (sO (φ:=bl true) J J J T.eP gB J (y':=true) J (nl (eb (th (rg (gvU 231 2310 (ix (dB m [(ix l k1).1] (a:Int)) k2).toNat J J (by decide) (gK O) (bi J J (aG i6) (mv (nl ?_)))))))))
    have hN0:(k2+1)≤(dB m [((ix l k1).1)] (a:Int)).length:=by
     first|omega|simp_all
    have hN1:(mt2.set (ix (dB m [(ix l k1).1] (a:Int)) k2).toNat ((ix mt2 (ix (dB m [(ix l k1).1] (a:Int)) k2).toNat).set (ix (ix t.sT ((ix l k1).2).toNat).next a).toNat true))=mat m.sT.length t.sT.length (fI m t a (l.take k1)++((dB m [(ix l k1).1] (a:Int)).take (k2+1)).map fun x=>((x,(ix (nxt t (ix l k1).2.toNat) a)):Int × Int)):=by
     rw[bJ O,List.map_append,←List.append_assoc,hmt2]
     have hms:=CH (n:=m.sT.length) (m:=t.sT.length) (vis:=fI m t a (l.take k1)++((dB m [(ix l k1).1] (a:Int)).take k2).map fun x=>((x,(ix (nxt t (ix l k1).2.toNat) a)):Int × Int)) (x:=(ix (dB m [(ix l k1).1] (a:Int)) k2).toNat) (y:=(ix (nxt t (ix l k1).2.toNat) a).toNat) O O
     rw[Int.toNat_of_nonneg O,Int.toNat_of_nonneg O] at hms
     exact hms
    exact ln (⟨k2+1,mt2.set (ix (dB m [(ix l k1).1] (a:Int)) k2).toNat ((ix mt2 (ix (dB m [(ix l k1).1] (a:Int)) k2).toNat).set (ix (ix t.sT ((ix l k1).2).toNat).next a).toNat true)⟩:Nat × (List (List Bool))) ⟨hN0,hN1⟩ dO ⟨id,id,id,id,id,id,id,id,id,id,id,id,tV⟩ ⟨rI,rI,rI,rI,rI,tV⟩
   ·try simp at hc2
    refine ex (xt_ (xt_ (xb (eb (th (rg (bi J J (aG i6) (mv (nl ?_)))))))))
    have hN0:(k1+1)≤l.length:=by
     first|omega|simp_all
    have hN1:mt2=mat m.sT.length t.sT.length (fI m t a (l.take (k1+1))):=by
     rw[hmt2,Ni O,List.take_of_length_le (l:=(dB m [(ix l k1).1] (a:Int))) O]
    exact ln (⟨k1+1,mt2⟩:Nat × (List (List Bool))) ⟨hN0,hN1⟩ dO ⟨id,id,id,id,id,id,id,id,tV⟩ ⟨rI,rI,rI,rI,tV⟩
  ·try simp at hc1
   have hvz:fI m t a (l.take k1)=fI m t a l:=by rw[List.take_of_length_le O]
   have hmt1e:mt1=mat m.sT.length t.sT.length (fI m t a l):=by rw[hmt1,hvz]
   refine ex (xt_ (xt_ (xb (th (sq (rg (nw 15 80 2 pE (ag (rtg (key:=15) 15 J (nl (th (sq (sq (rg (mv (lnO J J T.lW (mv (nl (th (bk ?_))))))))))))))))))))
   have hI3_0:0≤us.length:=by
    first|omega|simp
   have hI3_1:([]:List (Int × Int))=qR t.sT.length (fI m t a l) 0:=by
    rfl
   refine lp (κ:=Nat × Value × (List (Int × Int))) (fun p=> [(8,eqv (.slice none 0 0)),(9,osl 22 v22),(15,osl 15 p.2.1),(71,int (us.length:Int)),(72,int (p.1:Int))]) (fun p=> [(4,cell b4 [sl 1 rE_ m.aC,sl 1 gE m.sT]),(5,cell b5 [sl 1 rE_ t.aC,sl 2 sE t.sT]),(15,own p.2.1 80 2 pE p.2.2),(22,own v22 90 1 dE us),(231,bB us 4 1 blE mt1 none)]) (fun p=>(p.1≤us.length)∧(p.2.2=qR t.sT.length (fI m t a l) p.1)) (fun p=>us.length- p.1) ⟨0,(.slice none 0 0),([]:List (Int × Int))⟩ ⟨hI3_0,hI3_1⟩ ⟨id,id,id,id,id,tV⟩ ⟨rI,rI,rI,rI,rI,tV⟩ ?_
   intro⟨k3,w15,out⟩ hG3
   obtain⟨hk3,hout⟩:(k3≤us.length)∧(out=qR t.sT.length (fI m t a l) k3):=hG3
   show Ct _ _ _ _ [(8,eqv (.slice none 0 0)),(9,osl 22 v22),(15,osl 15 w15),(71,int (us.length:Int)),(72,int (k3:Int))] [(4,cell b4 [sl 1 rE_ m.aC,sl 1 gE m.sT]),(5,cell b5 [sl 1 rE_ t.aC,sl 2 sE t.sT]),(15,own w15 80 2 pE out),(22,own v22 90 1 dE us),(231,bB us 4 1 blE mt1 none)] _
   have hol:out.length≤10000*10000:=by rw[hout];exact Nat.le_trans GX (Nat.mul_le_mul O f2)
   refine sq (rg (bi J J aO (nl (th (sq ?_)))))
   refine cd J (fun hc3=> ?_) (fun hc3=> ?_)
   ·try simp at hc3
    have hrl3:(ix mt1 k3).length=t.sT.length:=by rw[hmt1e];exact rG O
    refine sk (th (sq (bk (sq (rg (mv (ag (nl (th (sq (rg (mv (mv (iO J J J T.lW O O (lO J J gB J T.jF (tkB 231 2320 k3 J J (by decide) (gK O) (gK O) (kn 78 (osl 2320 (ix us k3)) J cS (lnO J J T.gJ (mv (nl (th (bk ?_))))))))))))))))))))))
    have hI4_0:0≤(ix mt1 k3).length:=by
     first|omega|simp
    have hI4_1:out=out++mG t.sT.length (fI m t a l) k3 0:=by
     exact(List.append_nil _).symm
    refine lp (κ:=Nat × Value × (List (Int × Int))) (fun p=> [(8,eqv (.slice none 0 0)),(9,osl 22 v22),(15,osl 15 p.2.1),(16,int (k3:Int)),(71,int (us.length:Int)),(72,int (k3:Int)),(78,osl 2320 (ix us k3)),(79,int ((ix mt1 k3).length:Int)),(80,int (p.1:Int))]) (fun p=> [(4,cell b4 [sl 1 rE_ m.aC,sl 1 gE m.sT]),(5,cell b5 [sl 1 rE_ t.aC,sl 2 sE t.sT]),(15,own p.2.1 80 2 pE p.2.2),(22,own v22 90 1 dE us),(231,bB us 4 1 blE mt1 (some k3)),(2320,own (ix us k3) 4 1 blE (ix mt1 k3))]) (fun p=>(p.1≤(ix mt1 k3).length)∧(p.2.2=out++mG t.sT.length (fI m t a l) k3 p.1)) (fun p=>(ix mt1 k3).length- p.1) ⟨0,w15,out⟩ ⟨hI4_0,hI4_1⟩ ⟨id,id,id,id,id,id,id,id,id,tV⟩ ⟨rI,rI,rI,rI,rI,rI,tV⟩ ?_
    intro⟨k4,x15,ou4⟩ hG4
    obtain⟨hk4,hout4⟩:(k4≤(ix mt1 k3).length)∧(ou4=out++mG t.sT.length (fI m t a l) k3 k4):=hG4
    show Ct _ _ _ _ [(8,eqv (.slice none 0 0)),(9,osl 22 v22),(15,osl 15 x15),(16,int (k3:Int)),(71,int (us.length:Int)),(72,int (k3:Int)),(78,osl 2320 (ix us k3)),(79,int ((ix mt1 k3).length:Int)),(80,int (k4:Int))] [(4,cell b4 [sl 1 rE_ m.aC,sl 1 gE m.sT]),(5,cell b5 [sl 1 rE_ t.aC,sl 2 sE t.sT]),(15,own x15 80 2 pE ou4),(22,own v22 90 1 dE us),(231,bB us 4 1 blE mt1 (some k3)),(2320,own (ix us k3) 4 1 blE (ix mt1 k3))] _
    have hol4:ou4.length≤10000*10000+k4:=by rw[hout4,List.length_append];have:=GV (n:=t.sT.length) (vis:=fI m t a l) (x:=k3) (k:=k4);omega
    refine sq (rg (bi J J aO (nl (th (sq ?_)))))
    refine cd J (fun hc4=> ?_) (fun hc4=> ?_)
    ·try simp at hc4
     have hmi:ix (ix mt1 k3) k4=decide (((k3:Int),(k4:Int))∈fI m t a l):=by rw[hmt1e];exact LU O O
     refine sk (th (sq (bk (sq (rg (mv (iO J J J T.gJ O O (lO J J gB J T.eP (ag (ag (nl (th (sq (rg (mv (nl (th ?_)))))))))))))))))
     refine cd J (fun hc5=> ?_) (fun hc5=> ?_)
     ·skip
      have hin:((k3:Int),(k4:Int))∈fI m t a l:=by rw[hmi] at hc5;exact of_decide_eq_true hc5
      refine rg (mv (mv (mv (bd (css:= [(0,_),(1,_)]) T.qO (eC (eC eZ)) ⟨J,J,p1 (φ:=int (k3:Int)) J,⟨J,J,p1 (φ:=int (k4:Int)) J,tV⟩⟩ (bsE (enc:=pE) (xs:= [((k3:Int),(k4:Int))]) (css:= [[int (k3:Int),int (k4:Int)]]) T.lG ⟨J,J,pA (cs:= [int (k3:Int),int (k4:Int)]) J,tV⟩ J J J J (ap (key:=15) (zs:= [((k3:Int),(k4:Int))]) bP J J J T.lG (by unfold aQ at*;simp;omega) (by unfold aQ at*;simp;omega) fun v91=>(ag (nl (eb (th (rg (bi J J (aG i6) (mv (nl ?_))))))))))))))
      have hN0:(k4+1)≤(ix mt1 k3).length:=by
       first|omega|simp_all
      have hN1:(ou4++ [((k3:Int),(k4:Int))])=out++mG t.sT.length (fI m t a l) k3 (k4+1):=by
       rw[Qe hin,←List.append_assoc,←hout4]
      exact ln (⟨k4+1,v91,ou4++ [((k3:Int),(k4:Int))]⟩:Nat × Value × (List (Int × Int))) ⟨hN0,hN1⟩ dO ⟨id,id,id,id,id,id,id,id,id,tV⟩ ⟨rI,rI,rI,rI,rI,rI,tV⟩
     ·skip
      have hin:((k3:Int),(k4:Int))∉fI m t a l:=by rw[hmi] at hc5;exact of_decide_eq_false hc5
      refine sk (eb (th (rg (bi J J (aG i6) (mv (nl ?_))))))
      have hN0:(k4+1)≤(ix mt1 k3).length:=by
       first|omega|simp_all
      have hN1:ou4=out++mG t.sT.length (fI m t a l) k3 (k4+1):=by
       rw[TS hin,hout4]
      exact ln (⟨k4+1,x15,ou4⟩:Nat × Value × (List (Int × Int))) ⟨hN0,hN1⟩ dO ⟨id,id,id,id,id,id,id,id,id,tV⟩ ⟨rI,rI,rI,rI,rI,rI,tV⟩
    ·try simp at hc4
     refine ex (xt_ (xt_ (xb (eb (th (rg (gvS 231 2320 k3 J J (by decide) (gK O) (gK O) (bi J J (aG i6) (mv (nl ?_))))))))))
     have hN0:(k3+1)≤us.length:=by
      first|omega|simp_all
     have hN1:ou4=qR t.sT.length (fI m t a l) (k3+1):=by
      rw[Ee,←hout,hout4,show k4=t.sT.length by omega]
     exact ln (⟨k3+1,x15,ou4⟩:Nat × Value × (List (Int × Int))) ⟨hN0,hN1⟩ dO ⟨id,id,id,id,id,tV⟩ ⟨rI,rI,rI,rI,rI,tV⟩
   ·try simp at hc3
    refine ex (xt_ (xt_ (xb (th (sq (rg (mv (ag (nl (th (rt ?_)))))))))))
    refine fzA 15 8 rfl rfl ?_
    have hr0:out=(GuardM.gN m t l a):=by
     rw[hout,show k3=m.sT.length by omega];exact Qg hm hl
    exact rE () [.tmp 8] J [sl 2 pE out] ⟨.tmp J,tV⟩ (cA1 (fun x0=>rV [sl 2 pE x0]) hr0) trivial eX
end mks
end
section
open ref01 ref03 ref04 ref06 prog prog2 prog3 prog4 prog5 prog6 prog7 prog8 prog9 prog13 prog15 starts Part Rungs LeftM TrimM RoundM MergeM BisM BisM4 BisM5 Itoa Keys WalkM StepM WitM JudgM JudgM2 search refw judg wit refj sysw satj divr divs divd dive divg divw divv divp divt LevM LevM2 TrimI QuoM FailM DivM RefM FitM TogM ProdM prodw GenW CompM CompP CrossM KeepK GuardM MakeM LsysM LsysM2 MakeM2 KeepB AtM ClsM LstM MakeM3 GuaW LeadM ValidM mkk mkp mkl mkc mkq mkg mkr mks
theorem Wv {n k:Nat} (h:k<2^n):ix (cD n) k=(k:Int):=by
 unfold cD
 exact cB h
theorem Qk (n:Nat):(cD n).length=2^n:=by unfold cD;simp
theorem search_end {l:List (List (Int × Int))} {q:List (Int × Int)} {k:Nat} (hk:k≤l.length) (h:(decide ((k:Int)<(l.length:Int))&& !decide (ix l k=q))=false):k=l.length∨ix l k=q:=by
 rw[Bool.and_eq_false_iff,decide_eq_false_iff_not,Bool.not_eq_false',decide_eq_true_eq] at h
 rcases h with h|h
 ·left;omega
 ·exact .inr h
theorem zL {l:List (List (Int × Int))} {q:List (Int × Int)} {k:Nat} (h:(decide ((k:Int)<(l.length:Int))&& !decide (ix l k=q))=true):k<l.length∧ix l k≠q:=by
 rw[Bool.and_eq_true,decide_eq_true_eq,Bool.not_eq_true',decide_eq_false_iff_not] at h
 exact⟨O,h.2⟩
namespace T
theorem Xy:Ent Tryz.prog 50:=aN kR
theorem Xz:Ent Tryz.prog 52:=aN kR
theorem XA:Ent Tryz.prog 53:=aN kR
end T
namespace mks2
theorem HE (m:aB) (hm:bE m) (t:SS) (ht:oK t):
 AL.Fn Tryz.prog 15 [sys m,spec t,int 600] [] (ι:= { z:SS × Bool//yC m t z }) (fun _ i=>tup [spec i.1.1,bl i.1.2]) (fun _=> []):=by
 refine fnI Tryz.func15 rfl rfl (fun w0 F0=> ?_)
 have f1:=hm.few1;have f2:=ht.few1;have f3:=hm.few0;have f4:=ht.few0;have hn8:=ht.n8;have hm8:=hm.n8;have hG:=Ap (m:=m) ht;have hz:=BS hm ht
 obtain⟨N2,hN2⟩:∃N2,N2=2^t.aC.length:=⟨_,rfl⟩
 have hp8:N2≤256:=by rw[hN2];exact Nat.pow_le_pow_right O hn8
 have hsl:(cD t.aC.length).length=N2:=by rw[Qk,hN2]
 refine fcC (bV 0 J) (fun hS0=> ?_)
 obtain⟨hma0,hms0,hme0⟩:=cQ hS0
 refine fcC (bV 1 J) (fun hS1=> ?_)
 obtain⟨hsa1,hss1,hse1⟩:=sLn hS1
 refine sq (rg (bx (key:=3) (cs:= [sl 1 rE_ m.aC,sl 1 gE m.sT]) J fun b3=>(bx (key:=4) (cs:= [sl 1 rE_ t.aC,sl 2 sE t.sT]) J fun b4=>(al (key:=6) T.z28 (eC (eC eZ)) fun b6=>(ag (nl (th (sq (rg (fP J T.cP (lP J J J T.cK (yI (enc:=rE_) (ys:=t.aC) J J T.uB mL (bd (css:= [(0,_)]) T.nA (eC (eC eZ)) ⟨J,J,p1 (φ:=sl 1 rE_ t.aC) J,tV⟩ (al (key:=8) T.z28 (eC (eC eZ)) fun b8=>(sPA (cs':= [sl 1 rE_ t.aC,eqv (.slice none 0 0)]) J J J T.aW J J (nl (th (sq (rg (bd (css:= [(0,_),(1,_)]) T.qO (eC (eC eZ)) ⟨J,J,p1 (φ:=int 0) J,⟨J,J,p1 (φ:=int 0) J,tV⟩⟩ (bsE (enc:=pE) (xs:= [(0,0)]) (css:= [[int 0,int 0]]) T.lG ⟨J,J,pA (cs:= [int 0,int 0]) J,tV⟩ J J J J (bsO 23 (enc:=gE) (xs:= [[(0,0)]]) (css:= [[sl 2 pE [(0,0)]]]) T.zX ⟨J,J,p1 (φ:=sl 2 pE [(0,0)]) J,tV⟩ J J J J fun v23=>(ag (nl (th (sq (sq (rg (ag (nl (th (bk ?_))))))))))))))))))))))))))))))))
 refine nwC 100 79 2 sE (iJ 8 1 (osl 100 (.slice none 0 0)) rfl rfl cS ?_)
 have hI0_0:HW (gA m t) (GuardM.gN m t) (gOk m t) [(0,0)] t.aC.length 0 ([[(0,0)]]:List (List (Int × Int))) ([]:List SA)∧([[(0,0)]]:List (List (Int × Int))).length≤1+8*0∧0≤600:=by
  exact⟨SE hz,by simp,O⟩
 refine lp (κ:=Nat × Value × (List (List (Int × Int))) × Value × (List SA)) (fun p=> [(2,int 600),(3,ptr 3 b3 0),(4,ptr 4 b4 0),(6,ptr 6 b6 0),(8,ptr 8 b8 0),(9,osl 23 p.2.1),(10,int (p.1:Int))]) (fun p=> [(3,cell b3 [sl 1 rE_ m.aC,sl 1 gE m.sT]),(4,cell b4 [sl 1 rE_ t.aC,sl 2 sE t.sT]),(6,cell b6 [eqv (.slice none 0 0),eqv (.slice none 0 0)]),(8,cell b8 [sl 1 rE_ t.aC,osl 100 p.2.2.2.1]),(23,own p.2.1 65 1 gE p.2.2.1),(100,own p.2.2.2.1 79 2 sE p.2.2.2.2)]) (fun p=>HW (gA m t) (GuardM.gN m t) (gOk m t) [(0,0)] t.aC.length p.1 p.2.2.1 p.2.2.2.2∧p.2.2.1.length≤1+8*p.1∧p.1≤600) (fun p=>601- p.1) ⟨0,v23,([[(0,0)]]:List (List (Int × Int))),(.slice none 0 0),([]:List SA)⟩ hI0_0 ⟨id,id,id,id,id,id,id,tV⟩ ⟨rI,rI,rI,rI,rI,rI,tV⟩ ?_
 intro⟨i,v,ql,v8,aJ⟩ hG0
 obtain⟨hHW,hqlb,hi6⟩:HW (gA m t) (GuardM.gN m t) (gOk m t) [(0,0)] t.aC.length i ql aJ∧ql.length≤1+8*i∧i≤600:=hG0
 show Ct _ _ _ _ [(2,int 600),(3,ptr 3 b3 0),(4,ptr 4 b4 0),(6,ptr 6 b6 0),(8,ptr 8 b8 0),(9,osl 23 v),(10,int (i:Int))] [(3,cell b3 [sl 1 rE_ m.aC,sl 1 gE m.sT]),(4,cell b4 [sl 1 rE_ t.aC,sl 2 sE t.sT]),(6,cell b6 [eqv (.slice none 0 0),eqv (.slice none 0 0)]),(8,cell b8 [sl 1 rE_ t.aC,osl 100 v8]),(23,own v 65 1 gE ql),(100,own v8 79 2 sE aJ)] _
 have hil:=hHW.il
 have hol:aJ.length≤i:=by rw[hHW.out];simp;omega
 refine sq (sq (rg (mv (mv (lnO J J T.oW (bi J J aO (nl (th ?_))))))))
 refine cd J (fun hc0=> ?_) (fun hc0=> ?_)
 ·try simp at hc0
  have hPm:=aX hc0
  have hokP:=hHW.okl _ hPm
  refine sk (th (sq (bk (sq (sq (rg (mv (mv (bi J J fK (nl (th ?_)))))))))))
  refine cd J (fun hc1=> ?_) (fun hc1=> ?_)
  ·try simp at hc1
   refine sq (rg (bd (css:= []) T.nA (eC (eC eZ)) trivial (sPA (cs':= [eqv (.slice none 0 0),eqv (.slice none 0 0)]) J J J T.aW J J (ag (nl (th (rt (rt_ (rb (rt_ (rt_ (rb (rt_ ?_)))))))))))))
   refine gH 6 0 (sl 1 rE_ []) rfl rfl slnil ?_
   refine gH 6 1 (sl 2 sE []) rfl rfl slnil ?_
   exact rE ⟨(⟨[],[]⟩,false),TV m t⟩ [.cell 6 28,.tmp 7] J [agg [sl 1 rE_ [],sl 2 sE []],bl false] ⟨.agg J J T.aW J J,.tmp J,tV⟩ J trivial eX
  ·try simp at hc1
   refine sk (th (sq (rg (al (key:=11) T.z79 (eC (eC eZ)) fun b11=>(nl (th (sq (rg (ag (nl (th (sq (sq (rg (fP J T.cP (lP J J J T.cK (fc (aT 35 J) fun hm35=>(lnF J T.dW (bi J J (pX O O) (kn 37 (int (N2:Int)) J (by rw[hN2];exact fun h=>h) (mv (nl (th (bk ?_))))))))))))))))))))))))
   refine nwC 110 3 1 nE (iJ 11 0 (osl 110 (.slice none 0 0)) rfl rfl cS ?_)
   have hI1_0:0≤N2:=by
    first|omega|simp
   have hI1_1:([]:List Int)=gAH m t (ix ql i) 0∧(0:Int)=aV ([]:List Int)∧0≤(0:Int)∧(0:Int)<256:=by
    exact⟨rfl,rfl,O,O⟩
   refine lp (κ:=Nat × Value × (List Int) × Int) (fun p=> [(2,int 600),(3,ptr 3 b3 0),(4,ptr 4 b4 0),(6,ptr 6 b6 0),(8,ptr 8 b8 0),(9,osl 23 v),(10,int (i:Int)),(11,ptr 11 b11 0),(12,int p.2.2.2),(37,int (N2:Int)),(38,int (p.1:Int))]) (fun p=> [(3,cell b3 [sl 1 rE_ m.aC,sl 1 gE m.sT]),(4,cell b4 [sl 1 rE_ t.aC,sl 2 sE t.sT]),(6,cell b6 [eqv (.slice none 0 0),eqv (.slice none 0 0)]),(8,cell b8 [sl 1 rE_ t.aC,osl 100 v8]),(11,cell b11 [osl 110 p.2.1,eqv (.slice none 0 0)]),(23,own v 65 1 gE ql),(100,own v8 79 2 sE aJ),(110,own p.2.1 3 1 nE p.2.2.1)]) (fun p=>(p.1≤N2)∧(p.2.2.1=gAH m t (ix ql i) p.1∧p.2.2.2=aV p.2.2.1∧0≤p.2.2.2∧p.2.2.2<256)) (fun p=>N2- p.1) ⟨0,(.slice none 0 0),([]:List Int),(0:Int)⟩ ⟨hI1_0,hI1_1⟩ ⟨id,id,id,id,id,id,id,id,id,id,id,tV⟩ ⟨rI,rI,rI,rI,rI,rI,rI,rI,tV⟩ ?_
   intro⟨k1,u11,ac,cn⟩ hG1
   obtain⟨hk1,⟨hac,hcn,hcn0,hcn1⟩⟩:(k1≤N2)∧(ac=gAH m t (ix ql i) k1∧cn=aV ac∧0≤cn∧cn<256):=hG1
   show Ct _ _ _ _ [(2,int 600),(3,ptr 3 b3 0),(4,ptr 4 b4 0),(6,ptr 6 b6 0),(8,ptr 8 b8 0),(9,osl 23 v),(10,int (i:Int)),(11,ptr 11 b11 0),(12,int cn),(37,int (N2:Int)),(38,int (k1:Int))] [(3,cell b3 [sl 1 rE_ m.aC,sl 1 gE m.sT]),(4,cell b4 [sl 1 rE_ t.aC,sl 2 sE t.sT]),(6,cell b6 [eqv (.slice none 0 0),eqv (.slice none 0 0)]),(8,cell b8 [sl 1 rE_ t.aC,osl 100 v8]),(11,cell b11 [osl 110 u11,eqv (.slice none 0 0)]),(23,own v 65 1 gE ql),(100,own v8 79 2 sE aJ),(110,own u11 3 1 nE ac)] _
   have hacl:ac.length≤k1:=by rw[hac];exact IY
   refine sq (rg (bi J J aO (nl (th (sq ?_)))))
   refine cd J (fun hc2=> ?_) (fun hc2=> ?_)
   ·skip
    have hk1n:k1<N2:=by have:=of_decide_eq_true hc2;omega
    have hsk:ix (cD t.aC.length) k1=(k1:Int):=Wv (by rw[←hN2];exact hk1n)
    have hkb:((k1:Nat):Int)<256:=by omega
    refine sk (th (sq (bk (sq (rg (mv (ag (nl (th (sq (dr (nh:=8) [0,0,0,0,12,28,0,127] T.mixed kR ?_)))))))))))
    refine st_ J (fun _ _ _ gq kq=>lPA (gq.1.trans J) J T.bK J kq) ?_
    refine st_ J (fun _ _ _ gq kq=>lPA (gq.1.trans J) J T.aW J kq) ?_
    refine st_ J (fun _ _ _ gq kq=>mv' (gq.1.trans J) kq) ?_
    refine st_ J (fun _ _ _ gq kq=>mv' (gq.1.trans J) kq) ?_
    refine st_ J (fun _ _ _ gq kq=>iO (gq.1.trans J) J (gq.2.1.trans J) T.oW O O kq) ?_
    refine st_ J (fun _ _ _ gq kq=>lO (gq.1.trans J) J gB J T.lX kq) ?_
    refine st_ J (fun _ _ _ gq kq=>mv' (gq.1.trans J) kq) ?_
    refine st_ J (fun _ _ _ gq kq=>aZ (φs:= [agg [sl 1 rE_ m.aC,sl 1 gE m.sT],agg [sl 1 rE_ t.aC,sl 2 sE t.sT],sl 2 pE (ix ql i),int (k1:Int)]) (φ:=bl (gT m t (ix ql i) (k1:Int))) ⟨(gq.1.trans J),(gq.2.1.trans J),(gq.2.2.1.trans J),(gq.2.2.2.1.trans J),tV⟩ (mks.Nj m aS t aS (ix ql i) aS (k1:Int) O O) T.Xy kq) ?_
    refine pn (nl (th ?_))
    refine cd J (fun hc3=> ?_) (fun hc3=> ?_)
    ·skip
     have hgt:gT m t (ix ql i) (ix (cD t.aC.length) k1)=true:=by rw[hsk];exact hc3
     refine sq (rg (fP J T.cJ (lP J J J T.aY (mv (bsE (enc:=nE) (xs:= [(k1:Int)]) (css:= [[int (k1:Int)]]) T.bS ⟨J,J,p1 (φ:=int (k1:Int)) J,tV⟩ J J J J (ap (key:=110) (zs:= [(k1:Int)]) bP J J J T.bS (by unfold aQ at*;simp;omega) (by unfold aQ at*;simp;omega) fun v53=>(fP J T.cJ (bY J J J J T.aY J (nl (th (rg (mv (mv (bi J J (tA O O O O) (ag (nl (eb (th (rg (bi J J (aG i6) (mv (nl ?_))))))))))))))))))))))
     have hN0:(k1+1)≤N2:=by
      first|omega|simp_all
     have hN1:(ac++ [(k1:Int)])=gAH m t (ix ql i) (k1+1)∧((cn.toNat|||k1:Nat):Int)=aV (ac++ [(k1:Int)])∧0≤((cn.toNat|||k1:Nat):Int)∧((cn.toNat|||k1:Nat):Int)<256:=by
      exact⟨by rw[IW (by rw[hsl];exact hk1n) hgt,hac,hsk],by rw[gV,←hcn,Int.toNat_natCast],O,by have h:=jY (b:=(k1:Int)) hcn1 hkb;rw[Int.toNat_natCast] at h;exact h⟩
     exact ln (⟨k1+1,v53,ac++ [(k1:Int)],((cn.toNat|||k1:Nat):Int)⟩:Nat × Value × (List Int) × Int) ⟨hN0,hN1⟩ dO ⟨id,id,id,id,id,id,id,id,id,id,id,tV⟩ ⟨rI,rI,rI,rI,rI,rI,rI,rI,tV⟩
    ·skip
     have hgt:gT m t (ix ql i) (ix (cD t.aC.length) k1)=false:=by rw[hsk];exact hc3
     refine sk (eb (th (rg (bi J J (aG i6) (mv (nl ?_))))))
     have hN0:(k1+1)≤N2:=by
      first|omega|simp_all
     have hN1:ac=gAH m t (ix ql i) (k1+1)∧cn=aV ac∧0≤cn∧cn<256:=by
      exact⟨by rw[Na (by rw[hsl];exact hk1n) hgt,hac],hcn,hcn0,hcn1⟩
     exact ln (⟨k1+1,u11,ac,cn⟩:Nat × Value × (List Int) × Int) ⟨hN0,hN1⟩ dO ⟨id,id,id,id,id,id,id,id,id,id,id,tV⟩ ⟨rI,rI,rI,rI,rI,rI,rI,rI,tV⟩
   ·skip
    have hk1e:N2≤k1:=by have:=of_decide_eq_false hc2;omega
    have hac2:ac=(gA m t (ix ql i)):=by rw[hac];exact IX (by rw[hsl];exact hk1e)
    have hcn2:cn=aV (gA m t (ix ql i)):=by rw[hcn,hac2]
    refine ex (xt_ (xt_ (xb (th (sq (sq (rg (fP J T.cP (lP J J J T.cK (lnF J T.dW (mv (nl (th (bk ?_))))))))))))))
    refine nwC 111 3 1 nE (iJ 11 1 (osl 111 (.slice none 0 0)) rfl rfl cS ?_)
    have hI2_0:0≤t.aC.length:=by
     first|omega|simp
    have hI2_1:HN (gA m t) (GuardM.gN m t) (gOk m t) i ql 0 ql ([]:List Int)∧ql.length≤ql.length+0:=by
     exact⟨SF hHW,O⟩
    refine lp (κ:=Nat × Value × (List (List (Int × Int))) × Value × (List Int)) (fun p=> [(2,int 600),(3,ptr 3 b3 0),(4,ptr 4 b4 0),(6,ptr 6 b6 0),(8,ptr 8 b8 0),(9,osl 23 p.2.1),(10,int (i:Int)),(11,ptr 11 b11 0),(12,int cn),(61,int (t.aC.length:Int)),(62,int (p.1:Int))]) (fun p=> [(3,cell b3 [sl 1 rE_ m.aC,sl 1 gE m.sT]),(4,cell b4 [sl 1 rE_ t.aC,sl 2 sE t.sT]),(6,cell b6 [eqv (.slice none 0 0),eqv (.slice none 0 0)]),(8,cell b8 [sl 1 rE_ t.aC,osl 100 v8]),(11,cell b11 [osl 110 u11,osl 111 p.2.2.2.1]),(23,own p.2.1 65 1 gE p.2.2.1),(100,own v8 79 2 sE aJ),(110,own u11 3 1 nE ac),(111,own p.2.2.2.1 3 1 nE p.2.2.2.2)]) (fun p=>(p.1≤t.aC.length)∧(HN (gA m t) (GuardM.gN m t) (gOk m t) i ql p.1 p.2.2.1 p.2.2.2.2∧p.2.2.1.length≤ql.length+p.1)) (fun p=>t.aC.length- p.1) ⟨0,v,ql,(.slice none 0 0),([]:List Int)⟩ ⟨hI2_0,hI2_1⟩ ⟨id,id,id,id,id,id,id,id,id,id,id,tV⟩ ⟨rI,rI,rI,rI,rI,rI,rI,rI,rI,tV⟩ ?_
    intro⟨k2,v2,l2,u12,nx⟩ hG2
    obtain⟨hk2,⟨hHN,hl2b⟩⟩:(k2≤t.aC.length)∧(HN (gA m t) (GuardM.gN m t) (gOk m t) i ql k2 l2 nx∧l2.length≤ql.length+k2):=hG2
    show Ct _ _ _ _ [(2,int 600),(3,ptr 3 b3 0),(4,ptr 4 b4 0),(6,ptr 6 b6 0),(8,ptr 8 b8 0),(9,osl 23 v2),(10,int (i:Int)),(11,ptr 11 b11 0),(12,int cn),(61,int (t.aC.length:Int)),(62,int (k2:Int))] [(3,cell b3 [sl 1 rE_ m.aC,sl 1 gE m.sT]),(4,cell b4 [sl 1 rE_ t.aC,sl 2 sE t.sT]),(6,cell b6 [eqv (.slice none 0 0),eqv (.slice none 0 0)]),(8,cell b8 [sl 1 rE_ t.aC,osl 100 v8]),(11,cell b11 [osl 110 u11,osl 111 u12]),(23,own v2 65 1 gE l2),(100,own v8 79 2 sE aJ),(110,own u11 3 1 nE ac),(111,own u12 3 1 nE nx)] _
    have hnl:=Vs hHN
    have hpre:=hHN.pre
    have hixP:ix l2 i=(ix ql i):=lJ hpre hc0
    have hil2:i<l2.length:=Nat.lt_of_lt_of_le hc0 hpre.length_le
    refine sq (rg (bi J J aO (nl (th (sq ?_)))))
    refine cd J (fun hc4=> ?_) (fun hc4=> ?_)
    ·try simp at hc4
     refine sk (th (sq (bk (sq (rg (mv (ag (nl (th (sq (rg (ag (nl (th (sq (sq (rg (mv (mv (aZ (φs:= [int cn,int (k2:Int)]) (φ:=bl (has cn (k2:Int))) ⟨J,J,tV⟩ (ref01.Be _ _ O O O O) T.Er (nl (th ?_))))))))))))))))))))))
     refine cd J (fun hc5=> ?_) (fun hc5=> ?_)
     ·skip
      have hh3:has (aV (gA m t (ix ql i))) (k2:Int)=true:=by rw[←hcn2];exact hc5
      have hokN:=wL m t (ix ql i) k2
      refine sq (dr (nh:=9) [0,0,0,0,12,28,0,127,255] T.mixed kR ?_)
      refine st_ J (fun _ _ _ gq kq=>lPA (gq.1.trans J) J T.bK J kq) ?_
      refine st_ J (fun _ _ _ gq kq=>lPA (gq.1.trans J) J T.aW J kq) ?_
      refine st_ J (fun _ _ _ gq kq=>mv' (gq.1.trans J) kq) ?_
      refine st_ J (fun _ _ _ gq kq=>mv' (gq.1.trans J) kq) ?_
      refine st_ J (fun _ _ _ gq kq=>iO (gq.1.trans J) J (gq.2.1.trans J) T.oW O O kq) ?_
      refine st_ J (fun _ _ _ gq kq=>lO (gq.1.trans J) J gB J T.lX (kd (φ':=sl 2 pE (ix ql i)) (by rw[hixP];exact fun h=>h) kq)) ?_
      refine st_ J (fun _ _ _ gq kq=>mv' (gq.1.trans J) kq) ?_
      refine st_ J (fun _ _ _ gq kq=>aZ (φs:= [agg [sl 1 rE_ m.aC,sl 1 gE m.sT],agg [sl 1 rE_ t.aC,sl 2 sE t.sT],sl 2 pE (ix ql i),int (k2:Int)]) (φ:=sl 2 pE (GuardM.gN m t (ix ql i) k2)) ⟨(gq.1.trans J),(gq.2.1.trans J),(gq.2.2.1.trans J),(gq.2.2.2.1.trans J),tV⟩ (mks.TZ m aS t aS (ix ql i) aS k2 aS) T.Xz kq) ?_
      refine st_ J (fun _ _ _ gq kq=>ag' (gq.1.trans J) kq) ?_
      refine pn (nl (th (sq (rg (ag (nl (th (sq (bk ?_)))))))))
      have hI3_0:0≤l2.length∧∀j,j<0→ix l2 j≠(GuardM.gN m t (ix ql i) k2):=by
       exact⟨O,fun j hj=>absurd hj O⟩
      refine lp (κ:=Nat) (fun p=> [(2,int 600),(3,ptr 3 b3 0),(4,ptr 4 b4 0),(6,ptr 6 b6 0),(8,ptr 8 b8 0),(9,osl 23 v2),(10,int (i:Int)),(11,ptr 11 b11 0),(12,int cn),(15,int (p:Int)),(16,sl 2 pE (GuardM.gN m t (ix ql i) k2)),(61,int (t.aC.length:Int)),(62,int (k2:Int))]) (fun p=> [(3,cell b3 [sl 1 rE_ m.aC,sl 1 gE m.sT]),(4,cell b4 [sl 1 rE_ t.aC,sl 2 sE t.sT]),(6,cell b6 [eqv (.slice none 0 0),eqv (.slice none 0 0)]),(8,cell b8 [sl 1 rE_ t.aC,osl 100 v8]),(11,cell b11 [osl 110 u11,osl 111 u12]),(23,own v2 65 1 gE l2),(100,own v8 79 2 sE aJ),(110,own u11 3 1 nE ac),(111,own u12 3 1 nE nx)]) (fun p=>p≤l2.length∧∀j,j<p→ix l2 j≠(GuardM.gN m t (ix ql i) k2)) (fun p=>l2.length- p) 0 hI3_0 ⟨id,id,id,id,id,id,id,id,id,id,id,id,id,tV⟩ ⟨rI,rI,rI,rI,rI,rI,rI,rI,rI,tV⟩ ?_
      intro k3 hG3
      obtain⟨hkl,hne⟩:k3≤l2.length∧∀j,j<k3→ix l2 j≠(GuardM.gN m t (ix ql i) k2):=hG3
      refine sq (sq (rg (mv (mv (lnO J J T.oW (bi J J aO (mv ?_)))))))
      apply cZ (t:=80) (pd:=88) rfl
      rotate_left
      ·intro hg0 fin
       have hg0':=hg0
       try simp at hg0'
       exact gy J J J hg0 (mv (gy J J J hg0 (mv (gy J J J hg0 (iO J J J T.oW O O (gy J J J hg0 (lO J J gB J T.lX (gy J J J hg0 (mv (gy J J J hg0 (aZ (φs:= [sl 2 pE (ix l2 k3),sl 2 pE (GuardM.gN m t (ix ql i) k2)]) (φ:=bl (decide ((ix l2 k3)=(GuardM.gN m t (ix ql i) k2)))) ⟨J,J,tV⟩ (mks.GY (ix l2 k3) (GuardM.gN m t (ix ql i) k2)) T.XA (gy J J J hg0 (no J (pkT J hg0 J (drp (X:= [(87,_),(86,_),(85,_),(84,_),(83,_),(82,_),(81,_)]) ⟨J,J,J,J,J,J,J,tV⟩ fin)))))))))))))))
      ·intro hg0 fin
       exact gn J J J hg0 J J (gn J J J hg0 J J (gn J J J hg0 J J (gn J J J hg0 J J (gn J J J hg0 J J (gn J J J hg0 J J (gn J J J hg0 J J (pkF J hg0 J (drp (X:= [(87,_),(86,_),(85,_),(84,_),(83,_),(82,_),(81,_)]) ⟨J,J,J,J,J,J,J,tV⟩ fin))))))))
      refine nl (th ?_)
      refine cd J (fun hc6=> ?_) (fun hc6=> ?_)
      ·skip
       refine sk (th (bk (rg (mv (bi J J (aG i6) (ag (nl (eb ?_))))))))
       have hN0:(k3+1)≤l2.length∧∀j,j<(k3+1)→ix l2 j≠(GuardM.gN m t (ix ql i) k2):=by
        obtain⟨hs1,hs2⟩:=zL hc6
        refine⟨O,fun j hj=> ?_⟩
        by_cases e:j=k3
        ·subst e;exact hs2
        ·exact hne j O
       exact ln (k3+1) hN0 (by have:=(zL hc6).1;omega) ⟨id,id,id,id,id,id,id,id,id,id,id,id,id,tV⟩ ⟨rI,rI,rI,rI,rI,rI,rI,rI,rI,tV⟩
      ·skip
       have hst:k3=pxa l2 (GuardM.gN m t (ix ql i) k2):=Qh hkl (fun j hj=>hne j hj) (search_end hkl hc6)
       have hkc:(k3:Int)=(pxa l2 (GuardM.gN m t (ix ql i) k2):Int):=by rw[hst]
       refine ex (xt_ (xt_ (xb (th (sq (rg (mv (mv (lnO J J T.oW (bi J J eS (nl (th ?_))))))))))))
       refine cd J (fun hc7=> ?_) (fun hc7=> ?_)
       ·try simp at hc7
        have hpn:=TT (l:=l2) (q:=(GuardM.gN m t (ix ql i) k2)) O
        refine rg (mv (mv (bsE (enc:=gE) (xs:= [(GuardM.gN m t (ix ql i) k2)]) (css:= [[sl 2 pE (GuardM.gN m t (ix ql i) k2)]]) T.zX ⟨J,J,p1 (φ:=sl 2 pE (GuardM.gN m t (ix ql i) k2)) J,tV⟩ J J J J (ap (key:=23) (zs:= [(GuardM.gN m t (ix ql i) k2)]) bP J J J T.zX (by unfold aQ at*;simp;omega) (by unfold aQ at*;simp;omega) fun v98=>(ag (nl (th (rg (fP J T.bR (lP J J J T.aY (mv (bsE (enc:=nE) (xs:= [(k3:Int)]) (css:= [[int (k3:Int)]]) T.bS ⟨J,J,p1 (φ:=int (k3:Int)) J,tV⟩ J J J J (ap (key:=111) (zs:= [(k3:Int)]) bP J J J T.bS (by unfold aQ at*;simp;omega) (by unfold aQ at*;simp;omega) fun v103=>(fP J T.bR (bY J J J J T.aY J (nl (eb (th (rg (bi J J (aG i6) (mv (nl ?_))))))))))))))))))))))
        have hN0:(k2+1)≤t.aC.length:=by
         first|omega|simp_all
        have hN1:HN (gA m t) (GuardM.gN m t) (gOk m t) i ql (k2+1) (l2++ [(GuardM.gN m t (ix ql i) k2)]) (nx++ [(k3:Int)])∧(l2++ [(GuardM.gN m t (ix ql i) k2)]).length≤ql.length+(k2+1):=by
         refine⟨?_,by simp;omega⟩
         rw[←hpn,hkc]
         exact FT hHN hh3 hokN rfl
        exact ln (⟨k2+1,v98,l2++ [(GuardM.gN m t (ix ql i) k2)],v103,nx++ [(k3:Int)]⟩:Nat × Value × (List (List (Int × Int))) × Value × (List Int)) ⟨hN0,hN1⟩ dO ⟨id,id,id,id,id,id,id,id,id,id,id,tV⟩ ⟨rI,rI,rI,rI,rI,rI,rI,rI,rI,tV⟩
       ·try simp at hc7
        have hpo:=TU (l:=l2) (q:=(GuardM.gN m t (ix ql i) k2)) O
        refine sk (th (rg (fP J T.bR (lP J J J T.aY (mv (bsE (enc:=nE) (xs:= [(k3:Int)]) (css:= [[int (k3:Int)]]) T.bS ⟨J,J,p1 (φ:=int (k3:Int)) J,tV⟩ J J J J (ap (key:=111) (zs:= [(k3:Int)]) bP J J J T.bS (by unfold aQ at*;simp;omega) (by unfold aQ at*;simp;omega) fun v103=>(fP J T.bR (bY J J J J T.aY J (nl (eb (th (rg (bi J J (aG i6) (mv (nl ?_))))))))))))))))
        have hN0:(k2+1)≤t.aC.length:=by
         first|omega|simp_all
        have hN1:HN (gA m t) (GuardM.gN m t) (gOk m t) i ql (k2+1) l2 (nx++ [(k3:Int)])∧l2.length≤ql.length+(k2+1):=by
         refine⟨?_,O⟩
         have h:=FT hHN hh3 hokN rfl
         rw[hpo] at h
         rw[hkc]
         exact h
        exact ln (⟨k2+1,v2,l2,v103,nx++ [(k3:Int)]⟩:Nat × Value × (List (List (Int × Int))) × Value × (List Int)) ⟨hN0,hN1⟩ dO ⟨id,id,id,id,id,id,id,id,id,id,id,tV⟩ ⟨rI,rI,rI,rI,rI,rI,rI,rI,rI,tV⟩
     ·skip
      have hh3:has (aV (gA m t (ix ql i))) (k2:Int)=false:=by rw[←hcn2];exact hc5
      refine sk (th (rg (fP J T.bR (lP J J J T.aY (mv (bsE (enc:=nE) (xs:= [(-1)]) (css:= [[int (-1)]]) T.bS ⟨J,J,p1 (φ:=int (-1)) J,tV⟩ J J J J (ap (key:=111) (zs:= [(-1)]) bP J J J T.bS (by unfold aQ at*;simp;omega) (by unfold aQ at*;simp;omega) fun v103=>(fP J T.bR (bY J J J J T.aY J (nl (eb (th (rg (bi J J (aG i6) (mv (nl ?_))))))))))))))))
      have hN0:(k2+1)≤t.aC.length:=by
       first|omega|simp_all
      have hN1:HN (gA m t) (GuardM.gN m t) (gOk m t) i ql (k2+1) l2 (nx++ [(-1)])∧l2.length≤ql.length+(k2+1):=by
       exact⟨SG hHN hh3,O⟩
      exact ln (⟨k2+1,v2,l2,v103,nx++ [(-1)]⟩:Nat × Value × (List (List (Int × Int))) × Value × (List Int)) ⟨hN0,hN1⟩ dO ⟨id,id,id,id,id,id,id,id,id,id,id,tV⟩ ⟨rI,rI,rI,rI,rI,rI,rI,rI,rI,tV⟩
    ·try simp at hc4
     refine ex (xt_ (xt_ (xb (th (rg (fP J T.bA (lP J J J T.bM (fzc 11 110 0 J J J J (fzc 11 111 1 J J J J (lPA J J T.cR J (bsE (enc:=sE) (xs:= [(⟨ac,nx⟩)]) (css:= [[sl 1 nE ac,sl 1 nE nx]]) T.kS ⟨J,J,pA (cs:= [sl 1 nE ac,sl 1 nE nx]) J,tV⟩ J J J J (ap (key:=100) (zs:= [(⟨ac,nx⟩)]) bP J J J T.kS (by unfold aQ at*;simp;omega) (by unfold aQ at*;simp;omega) fun v110=>(fP J T.bA (bY J J J J T.bM J (nl (eb (th (rg (mv (bi J J (aG i6) (ag (nl ?_))))))))))))))))))))))
     have hN0:HW (gA m t) (GuardM.gN m t) (gOk m t) [(0,0)] t.aC.length (i+1) l2 (aJ++ [(⟨ac,nx⟩)])∧l2.length≤1+8*(i+1)∧(i+1)≤600:=by
      rw[show k2=t.aC.length by omega] at hHN
      rw[hac2]
      exact⟨SH hG hHW hHN hc0,O,O⟩
     exact ln (⟨i+1,v2,l2,v110,aJ++ [(⟨ac,nx⟩)]⟩:Nat × Value × (List (List (Int × Int))) × Value × (List SA)) hN0 O ⟨id,id,id,id,id,id,id,tV⟩ ⟨rI,rI,rI,rI,rI,rI,tV⟩
 ·try simp at hc0
  refine ex (xt_ (xt_ (xb (th (sq (rg (fzc 8 100 1 J J J J (lPA J J T.aW J (sPA (cs':= [sl 1 rE_ t.aC,sl 2 sE aJ]) J J J T.aW J J (ag (nl (th (rt ?_)))))))))))))
  exact rE ⟨(⟨t.aC,aJ⟩,true),Qi ht hHW O O⟩ [.cell 6 28,.tmp 7] J [agg [sl 1 rE_ t.aC,sl 2 sE aJ],bl true] ⟨.agg J J T.aW J J,.tmp J,tV⟩ J trivial eX
end mks2
end
section
namespace FixM
open CompP ref01 ref03 ref04 ref06 Part Rungs LeftM TrimM RoundM MergeM BisM BisM3 BisM4 BisM5 BisM6 Keys WalkM WitM JudgM JudgM2 LevM divr divs divd dive divf divv judg refj sysw satj ChsM BisS TrimI ValidM WitSat WitVal QuoM FailM DivM RefM GenW CompM CrossM FitM TogM KeepK GuardM MakeM LsysM LsysM2 MakeM2 KeepB LstM MakeM3 GuaW LeadM
section
variable {s:SS} (hs:oK s) {ch:SS→Nat→Int} (hc:∀y,y<s.sT.length→ch s y∈acc s y)
include hs hc
theorem Nl (hf:s.sT.length≤500):(iT ch s).sT.length≤500∧bU (iT ch s).sT≤4000:=by
 have hm:=vF hs hc
 obtain⟨g,hk,_⟩:=ED (qG hm)
 have ho:=Mv (qG hm) hk
 have e1:(mkM (ch s) s).sT.length=s.sT.length:=by simp[mkM]
 have e2:=rP hm
 have e3:=hk.few
 rw[lN] at e3
 have hl:=rR (aI (mkM (ch s) s)) (kY (aI (mkM (ch s) s))) (aK (aI (mkM (ch s) s)))
 have h5:(iT ch s).sT.length≤500:=by
  show(jV (aI (mkM (ch s) s)) (kY (aI (mkM (ch s) s))) (aK (aI (mkM (ch s) s)))).sT.length≤500
  omega
 refine⟨h5,Nat.le_trans (FL (K:=8) fun l hl2=> ?_) O⟩
 obtain⟨c,hc2,rfl⟩:=List.getElem_of_mem hl2
 have hc3:c<kY (aI (mkM (ch s) s)):=by
  have hc4:c<(jV (aI (mkM (ch s) s)) (kY (aI (mkM (ch s) s))) (aK (aI (mkM (ch s) s)))).sT.length:=hc2
  omega
 have:=GH hs hc hk hc3
 rw[←aF hc2]
 exact this
end
structure XB (x:aB) (g:SS) (u:Int):Prop where
 ok:bL x=true
 acts:x.aC=g.aC
 sat:iA x g
 keep:qF x u
 few:x.sT.length≤500
 sum:bU x.sT≤4000
theorem Nn {g:SS} {ok:Bool} {u:Int} (hg:ok=true→oK g∧g.sT.length≤500):
 (ok=false∧cW g ok u=(⟨[],[]⟩,2))∨(ok=true∧ix (hOl (bD u g)) 0=true∧cW g ok u=(⟨[],[]⟩,3))∨(ok=true∧ix (hOl (bD u g)) 0=false∧(cW g ok u).2=0∧XB (cW g ok u).1 g u):=by
 cases ok with
 |false=>exact .inl ⟨rfl,Ed⟩
 |true=>
  obtain⟨hk,hf⟩:=hg rfl
  right
  obtain⟨hT,hT5⟩:=Eb hk hf u
  have hh:=yB hk hf u
  cases e:ix (hOl (tR (bD u g)).1) 0 with
  |true=>exact .inl ⟨rfl,by rw[←hh];exact e,GU e⟩
  |false=>
   right
   rw[Jc e]
   have hfree:=Cg hk hf e
   have hc:=MY hfree
   have hv:=MZ hT (ch:=lgC) hc hT5
   have hsat:=(Mk hk (u:=u)).1 (TF hT (ch:=lgC) hc)
   have hsm:=Nl hT (ch:=lgC) hc hT5
   exact⟨rfl,by rw[←hh];exact e,rfl,hv,(PM hT (ch:=lgC) hc).trans (qD _),hsat.1,hsat.2,hsm.1,hsm.2⟩
theorem Eg {m:aB} {t:SS} {u:Int} (hf:bW m t=0) (hu:eG (t.aC.length:Int) u=true):
 ((bC m t).2=false∧bN m t u=(⟨[],[]⟩,2))∨((bC m t).2=true∧ix (hOl (bD u (bC m t).1)) 0=true∧bN m t u=(⟨[],[]⟩,3))∨
 ((bC m t).2=true∧ix (hOl (bD u (bC m t).1)) 0=false∧(bN m t u).2=0∧bL (bN m t u).1=true∧(bN m t u).1.aC=t.aC∧wG m (bN m t u).1 t∧qF (bN m t u).1 u∧(bN m t u).1.sT.length≤500∧bU (bN m t u).1.sT≤4000):=by
 obtain⟨hmv,htv,hmt⟩:=lK hf
 have hm:=eI hmv
 have ht:=fC htv
 have e:bN m t u=cW (bC m t).1 (bC m t).2 u:=by unfold bN;rw[if_pos hf,if_pos hu]
 rw[e]
 rcases Nn (u:=u) (fun h=>⟨(sX hm ht h).1,(sX hm ht h).2.1⟩:(bC m t).2=true→oK (bC m t).1∧(bC m t).1.sT.length≤500) with h|h|⟨h1,h2,h3,h4⟩
 ·exact .inl h
 ·exact .inr (.inl h)
 ·refine .inr (.inr ⟨h1,h2,h3,h4.ok,h4.acts.trans (sX hm ht h1).2.2,?_,h4.keep,h4.few,h4.sum⟩)
  exact(TB hm (eI h4.ok) ht (h4.acts.trans (sX hm ht h1).2.2) h1).1 h4.sat
def aR:aB:=⟨[⟨#[97]⟩,⟨#[98]⟩],[[(0,0),(1,0)]]⟩
def aD:SS:=⟨[⟨#[97]⟩,⟨#[98]⟩],[⟨[1],[0,-1]⟩]⟩
theorem zM:bL aR=true:=by decide+kernel
theorem sY:bT aD=true:=by decide+kernel
theorem rK:oK aD:=fC sY
theorem AE:bW aR aD=0:=by
 unfold bW
 rw[if_pos zM,if_pos sY,if_pos (show aR.aC=aD.aC from rfl)]
theorem Np:gL aR aD= [[(0,0)]]:=by unfold gL;decide+kernel
theorem Ww:gD aR aD=aD:=by unfold gD;rw[Np];decide+kernel
theorem Kk:ix (hOl aD) 0=false:=CompP.CN (by decide) (by decide)
theorem HF:(tR aD).1=aD:=by
 have hs:=rK
 have hn:=Kk
 have ho:aM aD= [0]:=by
  have h1:(aM aD).length≤1:=oJ hs
  have h2:=nC aD
  have h3:=BisM2.sB aD
  match hq:aM aD,h1,h2,h3 with
  | [y],_,_,h3=>rw[show y=0 from h3]
 have hk:keep aD 0= [1]:=OK hs (by decide) (by decide)
 rw[dV hn]
 show(⟨aD.aC,(aM aD).map (eY aD)⟩:SS)=aD
 rw[ho]
 show(⟨aD.aC,[eY aD 0]⟩:SS)=aD
 unfold eY iV
 rw[show(0:Int).toNat=0 from rfl,hk,ho]
 decide
theorem vL:bC aR aD=(aD,true):=by
 unfold bC
 rw[Np,if_pos (by decide),Ww,HF]
theorem Ua:gdS aR aD=(aD,0):=by
 unfold gdS
 rw[if_pos AE,vL,if_pos rfl]
theorem CZ (u:Int) (h:u=1∨u=2):eG (aD.aC.length:Int) u=true:=by
 rcases h with rfl|rfl<;>decide
theorem Ub:ix (hOl (bD 2 aD)) 0=true:=by
 cases e:ix (hOl (bD 2 aD)) 0 with
 |true=>rfl
 |false=>
  obtain⟨x,R,hR,h0⟩:=(Cf (jP rK 2)).1 e
  have:=hR.acc h0
  have:=(tU (s:=aD) (k:=0) (by decide)).1 this
  have h1:bQ x 0=1:=List.mem_singleton.1 this.1
  rw[h1] at this
  exact absurd this.2 (by decide)
theorem Ql:bN aR aD 2=(⟨[],[]⟩,3):=by
 rcases Eg AE (CZ 2 (.inr rfl)) with⟨h,_⟩|⟨_,_,h⟩|⟨_,h,_⟩
 ·rw[vL] at h;cases h
 ·exact h
 ·rw[vL] at h
  rw[show((aD,true):SS × Bool).1=aD from rfl,Ub] at h;cases h
theorem Uc:iA ⟨[⟨#[97]⟩,⟨#[98]⟩],[[(0,0)]]⟩ (bD 1 aD):=by
 refine DN.2 ⟨⟨fun x y=>x=0∧y=0,⟨fun {x y} h=>by rw[h.2];decide,fun {x y} h=>by rw[h.1,h.2];decide,fun {x y} h e he=> ?_,fun {x y} h e he=> ?_⟩,rfl,rfl⟩,fun x hx=> ?_⟩
 ·rw[h.1] at he
  rw[h.2]
  have:e=(0,0):=by
   obtain⟨d,hd,rfl⟩:=List.mem_map.1 he
   rw[List.mem_singleton.1 (show d∈[((0,0):PP)] from hd)];rfl
  rw[this];decide
 ·rw[h.1] at he
  rw[h.2]
  have:e=(0,0):=by
   obtain⟨d,hd,rfl⟩:=List.mem_map.1 he
   rw[List.mem_singleton.1 (show d∈[((0,0):PP)] from hd)];rfl
  rw[this];exact⟨by decide,by decide,by decide⟩
 ·have:x=0:=by
   induction hx with
   |zero=>rfl
   |step h1 h2 ih=>
    rw[ih] at h2
    have:=List.mem_singleton.1 h2
    rw[this];rfl
  rw[this];decide
theorem GZ:(bN aR aD 1).2=0∧bL (bN aR aD 1).1=true∧(bN aR aD 1).1.aC=aD.aC∧wG aR (bN aR aD 1).1 aD∧qF (bN aR aD 1).1 1∧(bN aR aD 1).1.sT.length≤500∧bU (bN aR aD 1).1.sT≤4000:=by
 rcases Eg AE (CZ 1 (.inl rfl)) with⟨h,_⟩|⟨_,h,_⟩|⟨_,_,h⟩
 ·rw[vL] at h;cases h
 ·rw[vL] at h
  have:ix (hOl (bD 1 aD)) 0=false:=(Cf (jP rK 1)).2 ⟨_,Uc⟩
  rw[show((aD,true):SS × Bool).1=aD from rfl,this] at h;cases h
 ·exact h
theorem Qm {x m:aB} {t:SS} {u:Int} (hx:bL x=true) (hm:bL m=true) (ht:bT t=true) (h1:x.aC=m.aC) (h2:x.aC=t.aC) (hu:eG (t.aC.length:Int) u=true):iD x m t u=0:=by
 unfold iD
 rw[if_pos ⟨hx,hm⟩,if_pos ht,if_pos ⟨h1,h2⟩,if_pos hu]
theorem Qn {x m:aB} {t:SS} {u:Int} (hE:iD x m t u=0) (hx:bE x) (hw:wG m x t) (hk:qF x u):mF x m t u=true:=by
 unfold mF
 rw[hE,decide_eq_true rfl,Bool.true_and,(Mz hx).2 hk,Bool.and_true]
 simp[hw]
theorem Nq:iD (bN aR aD 1).1 aR aD 1=0∧mF (bN aR aD 1).1 aR aD 1=true:=by
 obtain⟨_,h1,h2,h3,h4,_⟩:=GZ
 have e:=Qm h1 zM sY (h2.trans rfl) h2 (CZ 1 (.inl rfl))
 exact⟨e,Qn e (eI h1) h3 h4⟩
noncomputable def iY (m:aB) (t:SS) (u:Int):Int:=if bL m=true then(if bT t=true then(if m.aC=t.aC then(if eG (t.aC.length:Int) u=true then 0 else 1) else 10) else 30) else 20
theorem Ud (m:aB) (t:SS):iY m t 0=bW m t:=by
 have:eG (t.aC.length:Int) 0=true:=by
  unfold eG
  rw[Bool.and_eq_true,decide_eq_true_eq,decide_eq_true_eq,Int.toNat_natCast]
  refine⟨by decide,?_⟩
  have:=Nat.two_pow_pos t.aC.length
  omega
 unfold iY bW
 rw[if_pos this]
end FixM
end
section
open ref01 ref03 ref04 ref06 prog prog2 prog3 prog4 prog5 prog6 prog7 prog8 prog9 prog13 prog15 starts Part Rungs LeftM TrimM RoundM MergeM BisM BisM4 BisM5 Itoa Keys WalkM StepM WitM JudgM JudgM2 search refw judg wit refj sysw satj divr divs divd dive divg divw divv divp divt LevM LevM2 TrimI QuoM FailM DivM RefM FitM TogM ProdM prodw GenW CompM CompP CrossM KeepK GuardM MakeM LsysM LsysM2 MakeM2 KeepB AtM ClsM LstM MakeM3 GuaW LeadM FixM ValidM mkk mkp mkl mkc mkq mkg mkr mks mks2
def Ha (m:aB) (n:Int):Bool:=decide ((m.sT.length:Int)≤n)&&xR m 300
def yD (s:SS) (n:Int):Bool:=decide ((s.sT.length:Int)≤n)&&few s 400
theorem Wx {m:aB} {n:Int} (h:Ha m n=true):(m.sT.length:Int)≤n∧BI m≤300:=by
 unfold Ha xR at h
 rw[Bool.and_eq_true,decide_eq_true_eq,decide_eq_true_eq] at h
 exact⟨h.1,O⟩
theorem Qo {s:SS} {n:Int} (h:yD s n=true):(s.sT.length:Int)≤n∧(size s:Int)≤400:=by
 unfold yD few at h
 rw[Bool.and_eq_true,decide_eq_true_eq,decide_eq_true_eq] at h
 exact h
theorem Wy {a b:Bool} (h:(!a|| !b)=false):a=true∧b=true:=by
 cases a<;>cases b<;>simp_all
theorem Ue {a b:Nat} (h:EC (a*b)=true):tW ((a:Int)*(b:Int))=true:=by
 unfold EC at h
 unfold tW
 rw[←Int.natCast_mul,Int.toNat_natCast]
 rw[Bool.or_eq_true,decide_eq_true_eq,decide_eq_true_eq] at h ⊢
 rcases h with h|h
 ·left;exact Int.ofNat_lt.2 h
 ·right;exact Int.ofNat_lt.2 h
namespace T
theorem XC:Ent Tryz.prog 45:=aN kR
theorem XD:Ent Tryz.prog 46:=aN kR
theorem XE:Ent Tryz.prog 27:=aN kR
theorem EE:Ent Tryz.prog 47:=aN kR
theorem EF:Ent Tryz.prog 48:=aN kR
theorem Rj:Ent Tryz.prog 16:=aN kR
theorem Rk:Ent Tryz.prog 25:=aN kR
theorem XF:Ent Tryz.prog 30:=aN kR
end T
namespace mkv
theorem Qp (m:aB) (n:Int):
 Fn0 Tryz.prog 11 [sys m,int n] (bl (Ha m n)):=by
 refine fnI Tryz.func11 rfl rfl (fun w0 F0=> ?_)
 refine fcC (bV 0 J) (fun hS0=> ?_)
 obtain⟨hma0,hms0,hme0⟩:=cQ hS0
 refine sq (rg (bx (key:=2) (cs:= [sl 1 rE_ m.aC,sl 1 gE m.sT]) J fun b2=>(ag (nl (th (sq (rg (fP J T.bX (lP J J J T.cV (fc (aT 6 J) fun hm6=>(lnF J T.eV (mv (bi J J nV (mv ?_))))))))))))))
 apply cZ (t:=10) (pd:=13) rfl
 rotate_left
 ·intro hg0 fin
  have hg0':=hg0
  try simp at hg0'
  exact gy J J J hg0 (lPA J J T.bK J (gy J J J hg0 (aZ (φs:= [agg [sl 1 rE_ m.aC,sl 1 gE m.sT],int 300]) (φ:=bl (xR m 300)) ⟨J,J,tV⟩ (sysw.Ff m 300 O) T.XC (pkT J hg0 J (drp (X:= [(12,_),(11,_)]) ⟨J,J,tV⟩ fin)))))
 ·intro hg0 fin
  exact gn J J J hg0 J J (gn J J J hg0 J J (pkF J hg0 J (drp (X:= [(12,_),(11,_)]) ⟨J,J,tV⟩ fin)))
 refine ag (nl (th (rt ?_)))
 have hr0:((decide ((m.sT.length:Int)≤n))&&(xR m 300))=(Ha m n):=by
  rfl
 exact rE () [.tmp 4] J [bl ((decide ((m.sT.length:Int)≤n))&&(xR m 300))] ⟨.tmp J,tV⟩ (cA1 (fun x0=>rV [bl x0]) hr0) trivial eX
theorem Kl (s:SS) (n:Int):
 Fn0 Tryz.prog 12 [spec s,int n] (bl (yD s n)):=by
 refine fnI Tryz.func12 rfl rfl (fun w0 F0=> ?_)
 refine fcC (bV 0 J) (fun hS0=> ?_)
 obtain⟨hsa0,hss0,hse0⟩:=sLn hS0
 refine sq (rg (bx (key:=2) (cs:= [sl 1 rE_ s.aC,sl 2 sE s.sT]) J fun b2=>(ag (nl (th (sq (rg (fP J T.bA (lP J J J T.bM (fc (aT 6 J) fun hm6=>(lnF J T.cE (mv (bi J J nV (mv ?_))))))))))))))
 apply cZ (t:=10) (pd:=13) rfl
 rotate_left
 ·intro hg0 fin
  have hg0':=hg0
  try simp at hg0'
  exact gy J J J hg0 (lPA J J T.aW J (gy J J J hg0 (aZ (φs:= [agg [sl 1 rE_ s.aC,sl 2 sE s.sT],int 400]) (φ:=bl (few s 400)) ⟨J,J,tV⟩ (ref03.Ff s _ O) T.XD (pkT J hg0 J (drp (X:= [(12,_),(11,_)]) ⟨J,J,tV⟩ fin)))))
 ·intro hg0 fin
  exact gn J J J hg0 J J (gn J J J hg0 J J (pkF J hg0 J (drp (X:= [(12,_),(11,_)]) ⟨J,J,tV⟩ fin)))
 refine ag (nl (th (rt ?_)))
 have hr0:((decide ((s.sT.length:Int)≤n))&&(few s 400))=(yD s n):=by
  rfl
 exact rE () [.tmp 4] J [bl ((decide ((s.sT.length:Int)≤n))&&(few s 400))] ⟨.tmp J,tV⟩ (cA1 (fun x0=>rV [bl x0]) hr0) trivial eX
theorem wP:
 Fn0 Tryz.prog 47 [] (sys aR):=by
 refine fnI Tryz.func47 rfl rfl (fun w0 F0=> ?_)
 refine sq (rg (al (key:=0) T.z25 (eC (eC eZ)) fun b0=>(nl (th (sq (rg (bsE (enc:=rE_) (xs:= [({ data:= #[97] }),({ data:= #[98] })]) (css:= [[str ({ data:= #[97] })],[str ({ data:= #[98] })]]) T.uB ⟨J,J,p1 (φ:=str ({ data:= #[97] })) J,⟨J,J,p1 (φ:=str ({ data:= #[98] })) J,tV⟩⟩ J J J J (bd (css:= []) T.Au (eC (eC eZ)) trivial (bd (css:= [(0,_)]) T.Au (eC (eC eZ)) ⟨J,J,p1 (φ:=int 1) J,tV⟩ (bsE (enc:=pE) (xs:= [(0,0),(1,0)]) (css:= [[int 0,int 0],[int 1,int 0]]) T.pG ⟨J,J,pA (cs:= [int 0,int 0]) J,⟨J,J,pA (cs:= [int 1,int 0]) J,tV⟩⟩ J J J J (bsE (enc:=gE) (xs:= [[(0,0),(1,0)]]) (css:= [[sl 2 pE [(0,0),(1,0)]]]) T.sK ⟨J,J,p1 (φ:=sl 2 pE [(0,0),(1,0)]) J,tV⟩ J J J J (bd (css:= [(0,_),(1,_)]) T.oM (eC (eC eZ)) ⟨J,J,p1 (φ:=sl 1 rE_ [({ data:= #[97] }),({ data:= #[98] })]) J,⟨J,J,p1 (φ:=sl 1 gE [[(0,0),(1,0)]]) J,tV⟩⟩ (sPA (cs':= [sl 1 rE_ [({ data:= #[97] }),({ data:= #[98] })],sl 1 gE [[(0,0),(1,0)]]]) J J J T.bK J J (nl (th (rt ?_))))))))))))))))
 have hr0: [({ data:= #[97] }),({ data:= #[98] })]=aR.aC:=by
  first|rfl|simp_all|omega
 have hr1: [[(0,0),(1,0)]]=aR.sT:=by
  first|rfl|simp_all|omega
 exact rE () [.cell 0 25] J [agg [sl 1 rE_ [({ data:= #[97] }),({ data:= #[98] })],sl 1 gE [[(0,0),(1,0)]]]] ⟨.agg J J T.bK J J,tV⟩ (cA2 (fun x0 x1=>rV [agg [sl 1 rE_ x0,sl 1 gE x1]]) hr0 hr1) trivial eX
theorem tX:
 Fn0 Tryz.prog 48 [] (spec aD):=by
 refine fnI Tryz.func48 rfl rfl (fun w0 F0=> ?_)
 refine sq (rg (al (key:=0) T.z28 (eC (eC eZ)) fun b0=>(nl (th (sq (rg (bsE (enc:=rE_) (xs:= [({ data:= #[97] }),({ data:= #[98] })]) (css:= [[str ({ data:= #[97] })],[str ({ data:= #[98] })]]) T.uB ⟨J,J,p1 (φ:=str ({ data:= #[97] })) J,⟨J,J,p1 (φ:=str ({ data:= #[98] })) J,tV⟩⟩ J J J J (bsE (enc:=nE) (xs:= [1]) (css:= [[int 1]]) T.bS ⟨J,J,p1 (φ:=int 1) J,tV⟩ J J J J (bsE (enc:=nE) (xs:= [0,(-1)]) (css:= [[int 0],[int (-1)]]) T.bS ⟨J,J,p1 (φ:=int 0) J,⟨J,J,p1 (φ:=int (-1)) J,tV⟩⟩ J J J J (bd (css:= [(0,_),(1,_)]) T.vR (eC (eC eZ)) ⟨J,J,p1 (φ:=sl 1 nE [1]) J,⟨J,J,p1 (φ:=sl 1 nE [0,(-1)]) J,tV⟩⟩ (bsE (enc:=sE) (xs:= [(⟨[1],[0,(-1)]⟩)]) (css:= [[sl 1 nE [1],sl 1 nE [0,(-1)]]]) T.kS ⟨J,J,pA (cs:= [sl 1 nE [1],sl 1 nE [0,(-1)]]) J,tV⟩ J J J J (bd (css:= [(0,_),(1,_)]) T.nA (eC (eC eZ)) ⟨J,J,p1 (φ:=sl 1 rE_ [({ data:= #[97] }),({ data:= #[98] })]) J,⟨J,J,p1 (φ:=sl 2 sE [(⟨[1],[0,(-1)]⟩)]) J,tV⟩⟩ (sPA (cs':= [sl 1 rE_ [({ data:= #[97] }),({ data:= #[98] })],sl 2 sE [(⟨[1],[0,(-1)]⟩)]]) J J J T.aW J J (nl (th (rt ?_))))))))))))))))
 have hr0: [({ data:= #[97] }),({ data:= #[98] })]=aD.aC:=by
  first|rfl|simp_all|omega
 have hr1: [(⟨[1],[0,(-1)]⟩)]=aD.sT:=by
  first|rfl|simp_all|omega
 exact rE () [.cell 0 28] J [agg [sl 1 rE_ [({ data:= #[97] }),({ data:= #[98] })],sl 2 sE [(⟨[1],[0,(-1)]⟩)]]] ⟨.agg J J T.aW J J,tV⟩ (cA2 (fun x0 x1=>rV [agg [sl 1 rE_ x0,sl 2 sE x1]]) hr0 hr1) trivial eX
theorem Qq (m:aB) (t:SS) (u:Int):
 Fn0 Tryz.prog 14 [sys m,spec t,int u] (int (iY m t u)):=by
 refine fnI Tryz.func14 rfl rfl (fun w0 F0=> ?_)
 refine fcC (bV 0 J) (fun hS0=> ?_)
 obtain⟨hma0,hms0,hme0⟩:=cQ hS0
 refine fcC (bV 1 J) (fun hS1=> ?_)
 obtain⟨hsa1,hss1,hse1⟩:=sLn hS1
 refine sq (rg (bx (key:=3) (cs:= [sl 1 rE_ m.aC,sl 1 gE m.sT]) J fun b3=>(bx (key:=4) (cs:= [sl 1 rE_ t.aC,sl 2 sE t.sT]) J fun b4=>(ag (nl (th (sq (bk (sq (rg (lPA J J T.bK J (aZ (φs:= [agg [sl 1 rE_ m.aC,sl 1 gE m.sT]]) (φ:=bl (bL m)) ⟨J,tV⟩ (divs.tF m) T.XE (no J (ag (nl (th ?_))))))))))))))))
 refine cd J (fun hc0=> ?_) (fun hc0=> ?_)
 ·try simp at hc0
  refine sq (rg (ag (nl (th (rt (rb (rt_ ?_)))))))
  have hr0:(20:Int)=(iY m t u):=by
   unfold iY;rw[if_neg (by simpa using hc0)]
  exact rE () [.tmp 6] J [int 20] ⟨.tmp J,tV⟩ (cA1 (fun x0=>rV [int x0]) hr0) trivial eX
 ·try simp at hc0
  refine sq (rg (lPA J J T.aW J (aZ (φs:= [agg [sl 1 rE_ t.aC,sl 2 sE t.sT]]) (φ:=bl (bT t)) ⟨J,tV⟩ (ref03.tF t) T.JN (no J (ag (nl (th ?_)))))))
  refine cd J (fun hc1=> ?_) (fun hc1=> ?_)
  ·try simp at hc1
   refine sq (rg (ag (nl (th (rt (rb (rt_ ?_)))))))
   have hr0:(30:Int)=(iY m t u):=by
    unfold iY;rw[if_pos (by simpa using hc0),if_neg (by simpa using hc1)]
   exact rE () [.tmp 6] J [int 30] ⟨.tmp J,tV⟩ (cA1 (fun x0=>rV [int x0]) hr0) trivial eX
  ·try simp at hc1
   have htv:bT t=true:=by simpa using hc1
   have hn8:=(fC htv).n8
   refine sq (rg (fP J T.gC (lP J J J T.cK (fP J T.cP (lP J J J T.cK (aZ (φs:= [sl 1 rE_ m.aC,sl 1 rE_ t.aC]) (φ:=bl (decide (m.aC=t.aC))) ⟨J,J,tV⟩ (ref01.oT _ _) T.Jo (no J (ag (nl (th ?_))))))))))
   refine cd J (fun hc2=> ?_) (fun hc2=> ?_)
   ·try simp at hc2
    refine sq (rg (ag (nl (th (rt (rb (rt_ ?_)))))))
    have hr0:(10:Int)=(iY m t u):=by
     unfold iY;rw[if_pos (by simpa using hc0),if_pos htv,if_neg (by simpa using hc2)]
    exact rE () [.tmp 6] J [int 10] ⟨.tmp J,tV⟩ (cA1 (fun x0=>rV [int x0]) hr0) trivial eX
   ·try simp at hc2
    refine sq (rg (fP J T.cP (lP J J J T.cK (fc (aT 24 J) fun hm24=>(lnF J T.dW (mv (aZ (φs:= [int (t.aC.length:Int),int u]) (φ:=bl (eG (t.aC.length:Int) u)) ⟨J,J,tV⟩ (ref01.KH _ _ O O) T.QA (no J (ag (nl (th ?_)))))))))))
    refine cd J (fun hc3=> ?_) (fun hc3=> ?_)
    ·try simp at hc3
     refine sq (rg (ag (nl (th (rt (rb (rt_ ?_)))))))
     have hr0:(1:Int)=(iY m t u):=by
      unfold iY;rw[if_pos (by simpa using hc0),if_pos htv,if_pos (by simpa using hc2),if_neg (by simpa using hc3)]
     exact rE () [.tmp 6] J [int 1] ⟨.tmp J,tV⟩ (cA1 (fun x0=>rV [int x0]) hr0) trivial eX
    ·try simp at hc3
     refine sk (eb (th (sq (rg (ag (nl (th (rt ?_))))))))
     have hr0:(0:Int)=(iY m t u):=by
      unfold iY;rw[if_pos (by simpa using hc0),if_pos htv,if_pos (by simpa using hc2),if_pos (by simpa using hc3)]
     exact rE () [.tmp 6] J [int 0] ⟨.tmp J,tV⟩ (cA1 (fun x0=>rV [int x0]) hr0) trivial eX
theorem wQ:
 AL.Fn Tryz.prog 13 [] [(998,dZ tab)] (ι:=Unit) (fun _ _=>bl true) (fun _=> []):=by
 refine fnI Tryz.func13 rfl rfl (fun w0 F0=> ?_)
 have hsm:jE aD:=rK.small
 obtain⟨q1,q2,q3,q4,q5,q6,q7⟩:=GZ
 obtain⟨r1,r2⟩:=Nq
 have q8:=Ql
 have q9:=Ua
 have hz:aR.sT.length*(bN aR aD 1).1.sT.length<5000:=by show 1*_<5000;omega
 have hz2:bU aR.sT*bU (bN aR aD 1).1.sT≤400000:=by show 2*_≤400000;omega
 refine tbH 9999 998 rfl ?_
 refine sq (rg (ag (nl (th (sq (rg (aZ (φs:= []) (φ:=agg [sl 1 rE_ aR.aC,sl 1 gE aR.sT]) trivial mkv.wP T.EE (aZ (φs:= []) (φ:=agg [sl 1 rE_ aD.aC,sl 2 sE aD.sT]) trivial mkv.tX T.EF (tbU (ψ:=tab) 10 9999 J J (aZ (φs:= [both (agg [sl 1 rE_ aR.aC,sl 1 gE aR.sT]) tab,agg [sl 1 rE_ aD.aC,sl 2 sE aD.sT]]) (φ:=tup [agg [sl 1 rE_ ((gdS aR aD).1).aC,sl 2 sE ((gdS aR aD).1).sT],int ((gdS aR aD).2)]) ⟨J,J,tV⟩ (mkg.GQ aR aD aS) T.Rj (mv (xt J J (kn 13 (spec aD) J (by rw[q9];exact fun h=>h) (xt J J (al (key:=1) T.z28 (eC (eC eZ)) fun b1=>(sPA (cs':= [sl 1 rE_ aD.aC,sl 2 sE aD.sT]) J J J T.aW J J (ag (nl (th (sq (rg (aZ (φs:= []) (φ:=agg [sl 1 rE_ aR.aC,sl 1 gE aR.sT]) trivial mkv.wP T.EE (aZ (φs:= []) (φ:=agg [sl 1 rE_ aD.aC,sl 2 sE aD.sT]) trivial mkv.tX T.EF (tbU (ψ:=tab) 16 9999 J J (lB (φs:= [both (agg [sl 1 rE_ aR.aC,sl 1 gE aR.sT]) tab,agg [sl 1 rE_ aD.aC,sl 2 sE aD.sT],int 1]) (φ:=tup [agg [sl 1 rE_ ((bN aR aD 1).1).aC,sl 1 gE ((bN aR aD 1).1).sT],int ((bN aR aD 1).2)]) ⟨J,J,J,tV⟩ (mkr.Cj aR aD aS 1) T.Rk (fun N hN=>fun h=>uR (cs:= [agg [fre N (sl 1 rE_ ((bN aR aD 1).1).aC),fre N (sl 1 gE ((bN aR aD 1).1).sT)],int ((bN aR aD 1).2)]) (ds:= [agg [sl 1 rE_ ((bN aR aD 1).1).aC,sl 1 gE ((bN aR aD 1).1).sT],int ((bN aR aD 1).2)]) ⟨fun h=>jR (cs:= [fre N (sl 1 rE_ ((bN aR aD 1).1).aC),fre N (sl 1 gE ((bN aR aD 1).1).sT)]) (ds:= [sl 1 rE_ ((bN aR aD 1).1).aC,sl 1 gE ((bN aR aD 1).1).sT]) ⟨fun h=>jQ h,fun h=>jQ h,tV⟩ h,fun h=>h,tV⟩ h) (mv (xt J J (xt J J (al (key:=3) T.z25 (eC (eC eZ)) fun b3=>(sPA (cs':= [sl 1 rE_ ((bN aR aD 1).1).aC,sl 1 gE ((bN aR aD 1).1).sT]) J J J T.bK J J (ag (nl (th (sq (rg (aZ (φs:= []) (φ:=agg [sl 1 rE_ aR.aC,sl 1 gE aR.sT]) trivial mkv.wP T.EE (aZ (φs:= []) (φ:=agg [sl 1 rE_ aD.aC,sl 2 sE aD.sT]) trivial mkv.tX T.EF (tbU (ψ:=tab) 22 9999 J J (lB (φs:= [both (agg [sl 1 rE_ aR.aC,sl 1 gE aR.sT]) tab,agg [sl 1 rE_ aD.aC,sl 2 sE aD.sT],int 2]) (φ:=tup [agg [sl 1 rE_ ((bN aR aD 2).1).aC,sl 1 gE ((bN aR aD 2).1).sT],int ((bN aR aD 2).2)]) ⟨J,J,J,tV⟩ (mkr.Cj aR aD aS 2) T.Rk (fun N hN=>fun h=>uR (cs:= [agg [fre N (sl 1 rE_ ((bN aR aD 2).1).aC),fre N (sl 1 gE ((bN aR aD 2).1).sT)],int ((bN aR aD 2).2)]) (ds:= [agg [sl 1 rE_ ((bN aR aD 2).1).aC,sl 1 gE ((bN aR aD 2).1).sT],int ((bN aR aD 2).2)]) ⟨fun h=>jR (cs:= [fre N (sl 1 rE_ ((bN aR aD 2).1).aC),fre N (sl 1 gE ((bN aR aD 2).1).sT)]) (ds:= [sl 1 rE_ ((bN aR aD 2).1).aC,sl 1 gE ((bN aR aD 2).1).sT]) ⟨fun h=>jQ h,fun h=>jQ h,tV⟩ h,fun h=>h,tV⟩ h) (mv (xt J J (xt J J (al (key:=5) T.z25 (eC (eC eZ)) fun b5=>(sPA (cs':= [sl 1 rE_ ((bN aR aD 2).1).aC,sl 1 gE ((bN aR aD 2).1).sT]) J J J T.bK J J (ag (nl (th (sq (dr (nh:=9) [0,0,2,7,15,31,31,63,255] T.mixed kR ?_)))))))))))))))))))))))))))))))))))))))))))))))))
 refine st_ J (fun _ _ _ gq kq=>lPA (gq.1.trans J) J T.bK J kq) ?_
 refine st_ J (fun _ _ _ gq kq=>aZ (φs:= []) (φ:=agg [sl 1 rE_ aR.aC,sl 1 gE aR.sT]) trivial mkv.wP T.EE kq) ?_
 refine st_ J (fun _ _ _ gq kq=>aZ (φs:= []) (φ:=agg [sl 1 rE_ aD.aC,sl 2 sE aD.sT]) trivial mkv.tX T.EF kq) ?_
 refine st_ J (fun _ _ _ gq kq=>aZ (φs:= [agg [sl 1 rE_ ((bN aR aD 1).1).aC,sl 1 gE ((bN aR aD 1).1).sT],agg [sl 1 rE_ aR.aC,sl 1 gE aR.sT],agg [sl 1 rE_ aD.aC,sl 2 sE aD.sT],int 1]) (φ:=tup [bl (mF ((bN aR aD 1).1) aR aD 1),int (iD ((bN aR aD 1).1) aR aD 1)]) ⟨(gq.1.trans J),(gq.2.1.trans J),(gq.2.2.1.trans J),J,tV⟩ (mkr.Qc ((bN aR aD 1).1) aR aD aS 1 aS aS) T.XF kq) ?_
 refine st_ J (fun _ _ _ gq kq=>mv' (gq.1.trans J) kq) ?_
 refine st_ J (fun _ _ _ gq kq=>xt (gq.1.trans J) J kq) ?_
 refine st_ J (fun _ _ _ gq kq=>xt (gq.1.trans J) J kq) ?_
 refine st_ J (fun _ _ _ gq kq=>ag' (gq.1.trans J) kq) ?_
 refine st_ J (fun _ _ _ gq kq=>ag' (gq.1.trans J) kq) ?_
 refine pn (nl (th (sq (rg (mv (bi J J eS (mv ?_)))))))
 apply cZ (t:=36) (pd:=41) rfl
 rotate_left
 ·intro hg0 fin
  have hg0':=hg0
  try simp at hg0'
  exact gy J J J hg0 (fP J T.bA (gy J J J hg0 (lP J J J T.bM (gy J J J hg0 (fc (aT 38 J) fun hm38=>(lnF J T.cE (gy J J J hg0 (bi J J fJ (pkT J hg0 J (drp (X:= [(40,_),(39,_),(38,_),(37,_)]) ⟨J,J,J,J,tV⟩ fin))))))))))
 ·intro hg0 fin
  exact gn J J J hg0 J J (gn J J J hg0 J J (gn J J J hg0 J J (gn J J J hg0 J J (pkF J hg0 J (drp (X:= [(40,_),(39,_),(38,_),(37,_)]) ⟨J,J,J,J,tV⟩ fin)))))
 refine mv ?_
 apply cZ (t:=42) (pd:=50) rfl
 rotate_left
 ·intro hg1 fin
  have hg1':=hg1
  try simp at hg1'
  exact gy J J J hg1 (fP J T.bA (gy J J J hg1 (lP J J J T.bM (gy J J J hg1 (iF J J T.cE O gB (gy J J J hg1 (fF J T.cJ (gy J J J hg1 (lF J J T.aY (gy J J J hg1 (bsE (enc:=nE) (xs:= [1]) (css:= [[int 1]]) T.bS ⟨J,J,p1 (φ:=int 1) J,tV⟩ J J J J (gy J J J hg1 (aZ (φs:= [sl 1 nE (ix aD.sT 0).aP,sl 1 nE [1]]) (φ:=bl (decide ((ix aD.sT 0).aP= [1]))) ⟨J,J,tV⟩ (ref01.uA _ _) T.Jp (pkT J hg1 J (drp (X:= [(49,_),(48,_),(47,_),(46,_),(45,_),(44,_),(43,_)]) ⟨J,J,J,J,J,J,J,tV⟩ fin)))))))))))))))
 ·intro hg1 fin
  exact gn J J J hg1 J J (gn J J J hg1 J J (gn J J J hg1 J J (gn J J J hg1 J J (gn J J J hg1 J J (gn J J J hg1 J J (gn J J J hg1 J J (pkF J hg1 J (drp (X:= [(49,_),(48,_),(47,_),(46,_),(45,_),(44,_),(43,_)]) ⟨J,J,J,J,J,J,J,tV⟩ fin))))))))
 refine mv ?_
 apply cZ (t:=51) (pd:=54) rfl
 rotate_left
 ·intro hg2 fin
  have hg2':=hg2
  try simp at hg2'
  exact gy J J J hg2 (mv (gy J J J hg2 (bi J J eS (pkT J hg2 J (drp (X:= [(53,_),(52,_)]) ⟨J,J,tV⟩ fin)))))
 ·intro hg2 fin
  exact gn J J J hg2 J J (gn J J J hg2 J J (pkF J hg2 J (drp (X:= [(53,_),(52,_)]) ⟨J,J,tV⟩ fin)))
 refine mv ?_
 apply cZ (t:=55) (pd:=58) rfl
 rotate_left
 ·intro hg3 fin
  have hg3':=hg3
  try simp at hg3'
  exact gy J J J hg3 (mv (gy J J J hg3 (bi J J eS (pkT J hg3 J (drp (X:= [(57,_),(56,_)]) ⟨J,J,tV⟩ fin)))))
 ·intro hg3 fin
  exact gn J J J hg3 J J (gn J J J hg3 J J (pkF J hg3 J (drp (X:= [(57,_),(56,_)]) ⟨J,J,tV⟩ fin)))
 refine mv ?_
 apply cZ (t:=59) (pd:=62) rfl
 rotate_left
 ·intro hg4 fin
  have hg4':=hg4
  try simp at hg4'
  exact gy J J J hg4 (mv (gy J J J hg4 (bi J J eS (pkT J hg4 J (drp (X:= [(61,_),(60,_)]) ⟨J,J,tV⟩ fin)))))
 ·intro hg4 fin
  exact gn J J J hg4 J J (gn J J J hg4 J J (pkF J hg4 J (drp (X:= [(61,_),(60,_)]) ⟨J,J,tV⟩ fin)))
 refine mv ?_
 apply cZ (t:=63) (pd:=65) rfl
 rotate_left
 ·intro hg5 fin
  have hg5':=hg5
  try simp at hg5'
  exact gy J J J hg5 (mv (pkT J hg5 J (drp (X:= [(64,_)]) ⟨J,tV⟩ fin)))
 ·intro hg5 fin
  exact gn J J J hg5 J J (pkF J hg5 J (drp (X:= [(64,_)]) ⟨J,tV⟩ fin))
 refine ag (nl (th (rt ?_)))
 have hr0:(((((((decide (((gdS aR aD).2)=0))&&(decide (0<(aD.sT.length:Int))))&&(decide ((ix aD.sT 0).aP= [1])))&&(decide (((bN aR aD 1).2)=0)))&&(decide (((bN aR aD 2).2)=3)))&&(decide ((iD ((bN aR aD 1).1) aR aD 1)=0)))&&(mF ((bN aR aD 1).1) aR aD 1))=true:=by
  rw[q9,q1,q8,r1,r2];rfl
 exact rE () [.tmp 0] J [bl (((((((decide (((gdS aR aD).2)=0))&&(decide (0<(aD.sT.length:Int))))&&(decide ((ix aD.sT 0).aP= [1])))&&(decide (((bN aR aD 1).2)=0)))&&(decide (((bN aR aD 2).2)=3)))&&(decide ((iD ((bN aR aD 1).1) aR aD 1)=0)))&&(mF ((bN aR aD 1).1) aR aD 1))] ⟨.tmp J,tV⟩ (cA1 (fun x0=>rV [bl x0]) hr0) trivial eX
end mkv
end
section
open ref01 ref03 ref04 ref06 prog prog2 prog3 prog4 prog5 prog6 prog7 prog8 prog9 prog13 prog15 starts Part Rungs LeftM TrimM RoundM MergeM BisM BisM4 BisM5 Itoa Keys WalkM StepM WitM JudgM JudgM2 search refw judg wit refj sysw satj divr divs divd dive divg divw divv divp divt LevM LevM2 TrimI QuoM FailM DivM RefM FitM TogM ProdM prodw GenW CompM CompP CrossM KeepK GuardM MakeM LsysM LsysM2 MakeM2 KeepB AtM ClsM LstM MakeM3 GuaW LeadM FixM ValidM mkk mkp mkl mkc mkq mkg mkr mks mks2 mkv
theorem Uf {m:aB} {t:SS} (h:(gdS m t).2≠0) (a b:Nat) (ha:a=m.sT.length) (hb:b=t.sT.length):(((decide ((gdS m t).2=bW m t)||(decide (bW m t=0)&&decide ((gdS m t).2=2)&&tW ((a:Int)*(b:Int))))&&isNone (gdS m t).1)&&true)=true:=by
 subst ha;subst hb
 by_cases e:bW m t=0
 ·obtain⟨hm,ht,_⟩:=lK e
  by_cases g:(bC m t).2=true
  ·unfold gdS at h
   rw[if_pos e,if_pos g] at h
   exact absurd rfl h
  ·have hd:gdS m t=(⟨[],[]⟩,2):=by unfold gdS;rw[if_pos e,if_neg g]
   have ho:=Ue (Mq (eI hm) (fC ht) (by simpa using g))
   rw[hd,e,ho];rfl
 ·have hd:gdS m t=(⟨[],[]⟩,bW m t):=by unfold gdS;rw[if_neg e]
  rw[hd,decide_eq_true (rfl:bW m t=bW m t)];rfl
theorem Nr {m:aB} {t:SS} (h:(gdS m t).2=0):bW m t=0∧(bC m t).2=true∧(gdS m t).1=(bC m t).1∧bT (gdS m t).1=true:=by
 unfold gdS at h ⊢
 split at h
 ·next e=>
  obtain⟨hm,ht,_⟩:=lK e
  split at h
  ·next g=>
   rw[if_pos e,if_pos g]
   have hk:=sX (eI hm) (fC ht) g
   exact⟨e,g,rfl,DG hk.1 hk.2.1⟩
  ·cases h
 ·next e=>exact absurd h e
theorem Qr {m:aB} {t D:SS} (h:(gdS m t).2=0) (hz:yC m t (D,true)):oK D∧rH (gdS m t).1 D=true:=by
 obtain⟨e,g,h1,_⟩:=Nr h
 obtain⟨hm,ht,_⟩:=lK e
 obtain⟨l,hn,hl⟩:=hz.yes rfl
 have hS:=Pi (eI hm) (fC ht) hn hl g
 rw[h1]
 exact⟨rO (fC ht) hn hl,Ma hS⟩
namespace T
theorem XG:Ent Tryz.prog 11:=aN kR
theorem XH:Ent Tryz.prog 12:=aN kR
theorem Km:Ent Tryz.prog 13:=aN kR
theorem XI:Ent Tryz.prog 14:=aN kR
theorem XJ:Ent Tryz.prog 17:=aN kR
theorem XK:Ent Tryz.prog 18:=aN kR
theorem XL:Ent Tryz.prog 20:=aN kR
theorem XM:Ent Tryz.prog 22:=aN kR
theorem XN:Ent Tryz.prog 15:=aN kR
theorem XO:Ent Tryz.prog 19:=aN kR
end T
namespace mkw
theorem Eo (m:aB) (t:SS) (hts:jE t):
 Fn0 Tryz.prog 3 [mN (sys m),spec t] (bl true):=by
 refine fnI Tryz.func3 rfl rfl (fun w0 F0=> ?_)
 refine tbI 0 9999 rfl ?_
 refine CC (ψ:=tab) 9999 997 rfl ?_
 refine fcC (bV 0 J) (fun hS0=> ?_)
 obtain⟨hma0,hms0,hme0⟩:=cQ hS0
 refine fcC (bV 1 J) (fun hS1=> ?_)
 obtain⟨hsa1,hss1,hse1⟩:=sLn hS1
 refine sq (rg (bx (key:=2) (cs:= [sl 1 rE_ m.aC,sl 1 gE m.sT]) J fun b2=>(bx (key:=3) (cs:= [sl 1 rE_ t.aC,sl 2 sE t.sT]) J fun b3=>(ag (nl (th (sq (sq (rg (lPA J J T.bK J (aZ (φs:= [agg [sl 1 rE_ m.aC,sl 1 gE m.sT],int 6]) (φ:=bl (Ha m 6)) ⟨J,J,tV⟩ (mkv.Qp m 6) T.XG (no J (mv ?_)))))))))))))
 apply gOr (t:=13) (pd:=17) rfl
 rotate_left
 ·intro hg0 fin
  have hg0':=hg0
  try simp at hg0'
  exact gy J J J hg0 (lPA J J T.aW J (gy J J J hg0 (aZ (φs:= [agg [sl 1 rE_ t.aC,sl 2 sE t.sT],int 6]) (φ:=bl (yD t 6)) ⟨J,J,tV⟩ (mkv.Kl t 6) T.XH (gy J J J hg0 (no J (pkF J hg0 J (drp (X:= [(16,_),(15,_),(14,_)]) ⟨J,J,J,tV⟩ fin)))))))
 ·intro hg0 fin
  exact gn J J J hg0 J J (gn J J J hg0 J J (gn J J J hg0 J J (pkT J hg0 J (drp (X:= [(16,_),(15,_),(14,_)]) ⟨J,J,J,tV⟩ fin))))
 refine nl (th ?_)
 refine cd J (fun hc0=> ?_) (fun hc0=> ?_)
 ·skip
  refine sq (rg (NC (ψ:=tab) (φs:= []) (φ:=bl true) trivial mkv.wQ T.Km 9999 J J (ag (nl (th (rt (rt_ ?_)))))))
  exact rE () [.tmp 4] J [bl true] ⟨.tmp J,tV⟩ J trivial eX
 ·skip
  obtain⟨h1,h2⟩:=Wy hc0
  have hz1:=Wx h1
  have hz2:=Qo h2
  have hmi:(m.sT.length:Int)*(t.sT.length:Int)≤6*6:=Int.mul_le_mul O O O O
  have hmn:0≤(m.sT.length:Int)*(t.sT.length:Int):=Int.mul_nonneg O O
  have hfz:=Ud m t
  refine sk (th (sq (rg (lPA J J T.bK J (lPA J J T.aW J (aZ (φs:= [agg [sl 1 rE_ m.aC,sl 1 gE m.sT],agg [sl 1 rE_ t.aC,sl 2 sE t.sT],int 0]) (φ:=int (iY m t 0)) ⟨J,J,J,tV⟩ (mkv.Qq m t 0) T.XI (ag (ag (nl (th (sq (rg (al (key:=7) T.z28 (eC (eC eZ)) fun b7=>(nl (th (sq (sq (rg (mv (bi J J eS (nl (th ?_))))))))))))))))))))))
  refine jn (κ:=SS × Bool) (fun p=> [(2,ptr 2 b2 0),(3,ptr 3 b3 0),(4,bl false),(5,int (iY m t 0)),(6,bl p.2),(7,ptr 7 b7 0),(9999,tab)]) (fun p=> [(2,cell b2 [sl 1 rE_ m.aC,sl 1 gE m.sT]),(3,cell b3 [sl 1 rE_ t.aC,sl 2 sE t.sT]),(7,cell b7 [sl 1 rE_ p.1.aC,sl 2 sE p.1.sT]),(997,dZ tab)]) (fun p=>(bW m t=0→yC m t (p.1,p.2))∧(bW m t≠0→p.1=⟨[],[]⟩)) ?_ ?_
  ·
   refine cd J (fun hc1=> ?_) (fun hc1=> ?_)
   ·skip
    have hb0:bW m t=0:=by rw[←hfz];exact of_decide_eq_true hc1
    obtain⟨hmv,htv,hmt⟩:=lK hb0
    have hm:=eI hmv
    have ht:=fC htv
    refine rg (lPA J J T.bK J (lPA J J T.aW J (cl (mks2.HE m aS t aS) T.XN trivial fun N27 i27=>(mv (xt J J (xt J J (sPA (cs':= [sl 1 rE_ i27.1.1.aC,sl 2 sE i27.1.1.sT]) J J J T.aW J J (ag (nl ?_)))))))))
    have hN0:(bW m t=0→yC m t (i27.1.1,i27.1.2))∧(bW m t≠0→i27.1.1=⟨[],[]⟩):=by
     exact⟨fun _=>i27.2,fun h=>absurd hb0 h⟩
    exact jx ⟨i27.1.1,i27.1.2⟩ hN0 ⟨id,id,id,id,id,id,id,tV⟩ ⟨rI,rI,rI,rI,tV⟩
   ·skip
    have hb0:bW m t≠0:=by rw[←hfz];exact of_decide_eq_false hc1
    refine iJ 7 0 (sl 1 rE_ []) rfl rfl slnil (iJ 7 1 (sl 2 sE []) rfl rfl slnil (sk ?_))
    have hN0:(bW m t=0→yC m t ((⟨[],[]⟩:SS),false))∧(bW m t≠0→(⟨[],[]⟩:SS)=⟨[],[]⟩):=by
     exact⟨fun h=>absurd h hb0,fun _=>rfl⟩
    exact jx ⟨(⟨[],[]⟩:SS),false⟩ hN0 ⟨id,id,id,id,id,id,id,tV⟩ ⟨rI,rI,rI,rI,tV⟩
  ·intro⟨D,ok⟩ hG
   have hJ1:(bW m t=0→yC m t (D,ok))∧(bW m t≠0→D=⟨[],[]⟩):=hG
   skip
   show At _ _ _ [(2,ptr 2 b2 0),(3,ptr 3 b3 0),(4,bl false),(5,int (iY m t 0)),(6,bl ok),(7,ptr 7 b7 0),(9999,tab)] [(2,cell b2 [sl 1 rE_ m.aC,sl 1 gE m.sT]),(3,cell b3 [sl 1 rE_ t.aC,sl 2 sE t.sT]),(7,cell b7 [sl 1 rE_ D.aC,sl 2 sE D.sT]),(997,dZ tab)]
   refine th (sq ?_)
   refine drH (nh:=11) [0,1,0,7,15,31,63,63,0,383,1023] [(none,[2]),(none,[]),(none,[3]),(none,[]),(none,[997]),(none,[]),(none,[]),(none,[]),(some 8,[]),(some 8,[8]),(none,[])] T.mixed kR kR ?_
   refine stv (d:=31) (fun β0=>agg [sl 1 rE_ m.aC,sl 1 gE m.sT]) [2] J bH (fun β0 _ _ _ _ gq gh kq=>lPA (gq.1.trans J) (gh.1.trans J) T.bK J kq) ?_
   refine stv (d:=32) (fun β0=>agg [sl 1 rE_ m.aC,sl 1 gE m.sT]) [] J bH (fun β0 _ _ _ _ gq gh kq=>lB (φs:= [agg [sl 1 rE_ m.aC,sl 1 gE m.sT]]) (φ:=agg [sl 1 rE_ m.aC,sl 1 gE m.sT]) ⟨(gq.1.trans J),tV⟩ (sysw.Co m O) T.XJ (fun N hN=>fun h=>jR (cs:= [fre N (sl 1 rE_ m.aC),fre N (sl 1 gE m.sT)]) (ds:= [sl 1 rE_ m.aC,sl 1 gE m.sT]) ⟨fun h=>jQ h,fun h=>jQ h,tV⟩ h) kq) ?_
   refine stv (d:=33) (fun β0=>agg [sl 1 rE_ t.aC,sl 2 sE t.sT]) [3] J bH (fun β0 _ _ _ _ gq gh kq=>lPA (gq.1.trans J) (gh.1.trans J) T.aW J kq) ?_
   refine stv (d:=34) (fun β0=>agg [sl 1 rE_ t.aC,sl 2 sE t.sT]) [] J bH (fun β0 _ _ _ _ gq gh kq=>lB (φs:= [agg [sl 1 rE_ t.aC,sl 2 sE t.sT]]) (φ:=agg [sl 1 rE_ t.aC,sl 2 sE t.sT]) ⟨(gq.1.trans J),tV⟩ (ref03.Co t O) T.XK (fun N hN=>fun h=>jR (cs:= [fre N (sl 1 rE_ t.aC),fre N (sl 2 sE t.sT)]) (ds:= [sl 1 rE_ t.aC,sl 2 sE t.sT]) ⟨fun h=>jQ h,fun h=>jQ h,tV⟩ h) kq) ?_
   refine stv (d:=35) (fun β0=>tup [agg [sl 1 rE_ ((gdS m t).1).aC,sl 2 sE ((gdS m t).1).sT],int ((gdS m t).2)]) [997] J bH (fun β0 _ _ _ _ gq gh kq=>tbK (ψ:=tab) 32 997 (gq.1.trans J) (gh.1.trans J) (aZ (φs:= [both (agg [sl 1 rE_ m.aC,sl 1 gE m.sT]) tab,agg [sl 1 rE_ t.aC,sl 2 sE t.sT]]) (φ:=tup [agg [sl 1 rE_ ((gdS m t).1).aC,sl 2 sE ((gdS m t).1).sT],int ((gdS m t).2)]) ⟨J,(gq.2.1.trans J),tV⟩ (mkg.GQ m t aS) T.Rj (tbX (gq.1.trans J) kq))) ?_
   refine stv (d:=30) (fun β0=>tup [agg [sl 1 rE_ ((gdS m t).1).aC,sl 2 sE ((gdS m t).1).sT],int ((gdS m t).2)]) [] J bH (fun β0 _ _ _ _ gq gh kq=>mv' (gq.1.trans J) kq) ?_
   refine stv (d:=36) (fun β0=>agg [sl 1 rE_ ((gdS m t).1).aC,sl 2 sE ((gdS m t).1).sT]) [] J bH (fun β0 _ _ _ _ gq gh kq=>xt (gq.1.trans J) J kq) ?_
   refine stv (d:=37) (fun β0=>int ((gdS m t).2)) [] J bH (fun β0 _ _ _ _ gq gh kq=>xt (gq.1.trans J) J kq) ?_
   refine sta 8 T.z28 (eC (eC eZ)) ?_
   refine stw 8 (fun β0=>cell (gbk (β0 8)) [sl 1 rE_ ((gdS m t).1).aC,sl 2 sE ((gdS m t).1).sT]) [8] J (fun β β' hb=>by first|rw[hb 8 J]|(dsimp only;rw[hb 8 J])) (fun β0 _ _ _ _ gq gh kq=>sPA (cs':= [sl 1 rE_ ((gdS m t).1).aC,sl 2 sE ((gdS m t).1).sT]) (gq.1.trans J) (gh.1.trans J) (gq.2.1.trans J) T.aW J J kq) ?_
   refine stv (d:=9) (fun β0=>int ((gdS m t).2)) [] J bH (fun β0 _ _ _ _ gq gh kq=>ag' (gq.1.trans J) kq) ?_
   refine pnH fun β0=>(nl (th (sq (sq (rg (mv (bi J J fR (nl (th ?_)))))))))
   refine cd J (fun hc2=> ?_) (fun hc2=> ?_)
   ·skip
    have hge:(gdS m t).2≠0:=by simpa using hc2
    have hres:=Uf hge m.sT.length t.sT.length rfl rfl
    refine sq (rg (mv (mv (bi J J eS (mv ?_)))))
    apply gOr (t:=43) (pd:=60) rfl
    rotate_left
    ·intro hg1 fin
     have hg1':=hg1
     try simp at hg1'
     refine gy rfl rfl rfl hg1 (mv (gy rfl rfl rfl hg1 (bi rfl rfl eS (gy rfl rfl rfl hg1 (mv ?_)))))
     apply cZ (t:=46) (pd:=49) rfl
     rotate_left
     ·intro hg2 fin
      have hg2':=hg2
      try simp at hg2'
      exact gy J J J hg2 (mv (gy J J J hg2 (bi J J eS (gy J J J hg1 (pkT J hg2 J (drp (X:= [(48,_),(47,_)]) ⟨J,J,tV⟩ fin))))))
     ·intro hg2 fin
      exact gn J J J hg2 J J (gn J J J hg2 J J (gy J J J hg1 (pkF J hg2 J (drp (X:= [(48,_),(47,_)]) ⟨J,J,tV⟩ fin))))
     refine gy rfl rfl rfl hg1 (mv ?_)
     apply cZ (t:=50) (pd:=59) rfl
     rotate_left
     ·intro hg3 fin
      have hg3':=hg3
      try simp at hg3'
      exact gy J J J hg3 (fP J T.bX (gy J J J hg3 (lP J J J T.cV (gy J J J hg3 (fc (aT 52 J) fun hm52=>(lnF J T.eV (gy J J J hg3 (fP J T.bA (gy J J J hg3 (lP J J J T.bM (gy J J J hg3 (fc (aT 55 J) fun hm55=>(lnF J T.cE (gy J J J hg3 (bi J J (Qs i6) (gy J J J hg3 (aZ (φs:= [int ((m.sT.length:Int)*(t.sT.length:Int))]) (φ:=bl (tW ((m.sT.length:Int)*(t.sT.length:Int)))) ⟨J,tV⟩ (mks.TY ((m.sT.length:Int)*(t.sT.length:Int)) O) T.XO (gy J J J hg1 (pkT J hg3 J (drp (X:= [(58,_),(57,_),(56,_),(55,_),(54,_),(53,_),(52,_),(51,_)]) ⟨J,J,J,J,J,J,J,J,tV⟩ fin))))))))))))))))))))
     ·intro hg3 fin
      exact gn J J J hg3 J J (gn J J J hg3 J J (gn J J J hg3 J J (gn J J J hg3 J J (gn J J J hg3 J J (gn J J J hg3 J J (gn J J J hg3 J J (gn J J J hg3 J J (gy J J J hg1 (pkF J hg3 J (drp (X:= [(58,_),(57,_),(56,_),(55,_),(54,_),(53,_),(52,_),(51,_)]) ⟨J,J,J,J,J,J,J,J,tV⟩ fin))))))))))
     exact pkF rfl hg1 rfl (drp (X:= [(59,_),(50,_),(49,_),(46,_),(45,_),(44,_)]) ⟨rfl,rfl,rfl,rfl,rfl,rfl,tV⟩ fin)
    ·intro hg1 fin
     exact gn J J J hg1 J J (gn J J J hg1 J J (gn J J J hg1 J J (gu J J J J J (gu J J J J J (gn J J J hg1 J J (gn J J J hg1 J J (gu J J J J J (gu J J J J J (gu J J J J J (gu J J J J J (gu J J J J J (gu J J J J J (gu J J J J J (gu J J J J J (gn J J J hg1 J J (pkT J hg1 J (drp (X:= [(59,_),(58,_),(57,_),(56,_),(55,_),(54,_),(53,_),(52,_),(51,_),(50,_),(49,_),(48,_),(47,_),(46,_),(45,_),(44,_)]) ⟨J,J,J,J,J,J,J,J,J,J,J,J,J,J,J,J,tV⟩ fin)))))))))))))))))
    refine mv ?_
    apply cZ (t:=61) (pd:=64) rfl
    rotate_left
    ·intro hg4 fin
     have hg4':=hg4
     try simp at hg4'
     exact gy J J J hg4 (lPA J J T.aW J (gy J J J hg4 (aZ (φs:= [agg [sl 1 rE_ ((gdS m t).1).aC,sl 2 sE ((gdS m t).1).sT]]) (φ:=bl (isNone ((gdS m t).1))) ⟨J,tV⟩ (ref03.Rs ((gdS m t).1)) T.XL (pkT J hg4 J (drp (X:= [(63,_),(62,_)]) ⟨J,J,tV⟩ fin)))))
    ·intro hg4 fin
     exact gn J J J hg4 J J (gn J J J hg4 J J (pkF J hg4 J (drp (X:= [(63,_),(62,_)]) ⟨J,J,tV⟩ fin)))
    refine mv ?_
    apply cZ (t:=65) (pd:=67) rfl
    rotate_left
    ·intro hg5 fin
     have hg5':=hg5
     try simp at hg5'
     exact gy J J J hg5 (NC (ψ:=tab) (φs:= []) (φ:=bl true) trivial mkv.wQ T.Km 9999 J J (pkT J hg5 J (drp (X:= [(66,_)]) ⟨J,tV⟩ fin)))
    ·intro hg5 fin
     exact gn J J J hg5 J J (pkF J hg5 J (drp (X:= [(66,_)]) ⟨J,tV⟩ fin))
    refine ag (nl (th (rt (rt_ ?_))))
    have hr0:((((decide (((gdS m t).2)=(iY m t 0)))||(((decide ((iY m t 0)=0))&&(decide (((gdS m t).2)=2)))&&(tW ((m.sT.length:Int)*(t.sT.length:Int)))))&&(isNone ((gdS m t).1)))&&true)=true:=by
     rw[hfz];exact hres
    exact rE () [.tmp 4] J [bl ((((decide (((gdS m t).2)=(iY m t 0)))||(((decide ((iY m t 0)=0))&&(decide (((gdS m t).2)=2)))&&(tW ((m.sT.length:Int)*(t.sT.length:Int)))))&&(isNone ((gdS m t).1)))&&true)] ⟨.tmp J,tV⟩ (cA1 (fun x0=>rV [bl x0]) hr0) trivial eX
   ·skip
    have hge:(gdS m t).2=0:=by simpa using hc2
    obtain⟨hb0,hg2,hg1,hgv⟩:=Nr hge
    have hgf:ok=true→oK D∧rH (gdS m t).1 D=true:=fun h=>Qr hge (by have:=hJ1.1 hb0;rw[h] at this;exact this)
    refine sk (th (sq (rg (mv (bi J J eS (mv ?_))))))
    apply cZ (t:=70) (pd:=73) rfl
    rotate_left
    ·intro hg6 fin
     have hg6':=hg6
     try simp at hg6'
     exact gy J J J hg6 (lPA J J T.aW J (gy J J J hg6 (aZ (φs:= [agg [sl 1 rE_ ((gdS m t).1).aC,sl 2 sE ((gdS m t).1).sT]]) (φ:=bl (bT ((gdS m t).1))) ⟨J,tV⟩ (ref03.tF ((gdS m t).1)) T.JN (pkT J hg6 J (drp (X:= [(72,_),(71,_)]) ⟨J,J,tV⟩ fin)))))
    ·intro hg6 fin
     exact gn J J J hg6 J J (gn J J J hg6 J J (pkF J hg6 J (drp (X:= [(72,_),(71,_)]) ⟨J,J,tV⟩ fin)))
    refine mv ?_
    apply cZ (t:=74) (pd:=82) rfl
    rotate_left
    ·intro hg7 fin
     have hg7':=hg7
     try simp at hg7'
     refine gy rfl rfl rfl hg7 (mv (gy rfl rfl rfl hg7 (no rfl (gy rfl rfl rfl hg7 (mv ?_)))))
     apply gOr (t:=77) (pd:=81) rfl
     rotate_left
     ·intro hg8 fin
      have hg8':=hg8
      try simp at hg8'
      have hok:ok=true:=by simpa using hg8
      obtain⟨hDk,hfin⟩:=hgf hok
      exact gy J J J hg8 (lPA J J T.aW J (gy J J J hg8 (lPA J J T.aW J (gy J J J hg8 (aZ (φs:= [agg [sl 1 rE_ ((gdS m t).1).aC,sl 2 sE ((gdS m t).1).sT],agg [sl 1 rE_ D.aC,sl 2 sE D.sT]]) (φ:=bl (rH ((gdS m t).1) D)) ⟨J,J,tV⟩ (dive.yT ((gdS m t).1) D aS) T.XM (gy J J J hg7 (pkF J hg8 J (drp (X:= [(80,_),(79,_),(78,_)]) ⟨J,J,J,tV⟩ fin))))))))
     ·intro hg8 fin
      exact gn J J J hg8 J J (gn J J J hg8 J J (gn J J J hg8 J J (gy J J J hg7 (pkT J hg8 J (drp (X:= [(80,_),(79,_),(78,_)]) ⟨J,J,J,tV⟩ fin)))))
     exact pkT rfl hg7 rfl (drp (X:= [(81,_),(77,_),(76,_),(75,_)]) ⟨rfl,rfl,rfl,rfl,tV⟩ fin)
    ·intro hg7 fin
     exact gn J J J hg7 J J (gn J J J hg7 J J (gn J J J hg7 J J (gu J J J J J (gu J J J J J (gu J J J J J (gn J J J hg7 J J (pkF J hg7 J (drp (X:= [(81,_),(80,_),(79,_),(78,_),(77,_),(76,_),(75,_)]) ⟨J,J,J,J,J,J,J,tV⟩ fin))))))))
    refine mv ?_
    apply cZ (t:=83) (pd:=85) rfl
    rotate_left
    ·intro hg9 fin
     have hg9':=hg9
     try simp at hg9'
     exact gy J J J hg9 (NC (ψ:=tab) (φs:= []) (φ:=bl true) trivial mkv.wQ T.Km 9999 J J (pkT J hg9 J (drp (X:= [(84,_)]) ⟨J,tV⟩ fin)))
    ·intro hg9 fin
     exact gn J J J hg9 J J (pkF J hg9 J (drp (X:= [(84,_)]) ⟨J,tV⟩ fin))
    refine ag (nl (th (rt ?_)))
    have hr0:((((decide ((iY m t 0)=0))&&(bT ((gdS m t).1)))&&((!ok)||(rH ((gdS m t).1) D)))&&true)=true:=by
     rw[hfz,hb0,hgv];cases hok:ok with
      |false=>rfl
      |true=>rw[(hgf hok).2];rfl
    exact rE () [.tmp 4] J [bl ((((decide ((iY m t 0)=0))&&(bT ((gdS m t).1)))&&((!ok)||(rH ((gdS m t).1) D)))&&true)] ⟨.tmp J,tV⟩ (cA1 (fun x0=>rV [bl x0]) hr0) trivial eX
end mkw
end
end Go.Proofs.YtnlfjojfgghchaaGreatDoor
