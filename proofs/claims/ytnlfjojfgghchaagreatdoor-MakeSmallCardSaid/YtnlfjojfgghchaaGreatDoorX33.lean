/- The walks of the functions and the plain laws. Own texts of this claim, packed: Mkmkn, Mkmkw3. -/
import Derived.Test.YtnlfjojfgghchaaGreatDoorX31
import Derived.Test.YtnlfjojfgghchaaGreatDoorX32
import Derived.Test.YtnlfjojfgghchaaGreatDoorX22
set_option linter.all false
namespace Go.Proofs.YtnlfjojfgghchaaGreatDoor
open AL Go
set_option maxRecDepth 100000
section
set_option maxHeartbeats 2000000
open ref01 ref03 ref04 ref06 prog prog2 prog3 prog4 prog5 prog6 prog7 prog8 prog9 prog13 prog15 starts Part Rungs LeftM TrimM RoundM MergeM BisM BisM4 BisM5 Itoa Keys WalkM StepM WitM JudgM JudgM2 search refw judg wit refj sysw satj divr divs divd dive divg divw divv divp divt LevM LevM2 TrimI QuoM FailM DivM RefM FitM TogM ProdM prodw GenW CompM CompP CrossM KeepK GuardM MakeM LsysM LsysM2 MakeM2 KeepB AtM ClsM LstM MakeM3 GuaW LeadM ValidM RelM mkk mkp mkl mkc mkq mkg mkr mks
theorem Np {t:Tab} {n j k:Nat} {r:List Bool} (h:∀i,i<j→(ix t i).length=n) (hk:k<t.length) (hr:r.length=n):∀i,i<j→(ix (t.set k r) i).length=n:=fun i hi=>by
 by_cases c:k=i
 ·subst c;rw[pX hk];exact hr
 ·rw[yL c];exact h i hi
theorem Qq {t:Tab} {n k:Nat} {r:List Bool} (h:∀i,i<k→(ix t i).length=n) (hk:k<t.length) (hr:r.length=n):∀i,i<k+1→(ix (t.set k r) i).length=n:=fun i hi=>by
 by_cases c:k=i
 ·subst c;rw[pX hk];exact hr
 ·rw[yL c];exact h i O
theorem Xk {a b:Bool} {x y:Nat} (ha:a=true) (h:b=true→y<x):(bif b then y+1 else 0)<(bif a then x+1 else 0):=by
 subst ha
 cases b with
 |false=>simp
 |true=>have:=h rfl;simp;omega
theorem Xl {m:aA} {t:Tab} {k j:Nat} (h:(ix (ix t k) j&&(!lH m t false k j|| !lH m t true j k))=true):ix (ix t k) j=true:=by
 cases e:ix (ix t k) j with
 |true=>rfl
 |false=>rw[e] at h;cases h
theorem Xm {m:aA} {t:Tab} {k j:Nat} (h:(ix (ix t k) j&&(!lH m t false k j|| !lH m t true j k))=false):ix (ix t k) j=true→lH m t false k j=true∧lH m t true j k=true:=fun e=>by
 rw[e,Bool.true_and,Bool.or_eq_false_iff,Bool.not_eq_false',Bool.not_eq_false'] at h
 exact h
theorem Nq {l:List (Int × Int)} {e:Int × Int} {k:Nat} (h:(decide (((k:Nat):Int)<(l.length:Int))&&ltP ((ix l k).1,(ix l k).2) (e.1,e.2))=true):k<l.length∧ltP (ix l k) e=true:=by
 rw[Bool.and_eq_true,decide_eq_true_eq] at h
 exact⟨O,h.2⟩
theorem Nr {l:List (Int × Int)} {e:Int × Int} {k:Nat} (hk:k<l.length) (h:(decide (((k:Nat):Int)<(l.length:Int))&&ltP ((ix l k).1,(ix l k).2) (e.1,e.2))=false):ltP (ix l k) e=false:=by
 rw[decide_eq_true O,Bool.true_and] at h
 exact h
theorem Qr {l:List (Int × Int)} {e:Int × Int} {k:Nat} (h:(decide (((k:Nat):Int)<(l.length:Int))&&decide (((ix l k).1,(ix l k).2)=(e.1,e.2)))=true):k<l.length∧ix l k=e:=by
 rw[Bool.and_eq_true,decide_eq_true_eq,decide_eq_true_eq] at h
 exact⟨O,h.2⟩
theorem TV {l:List (Int × Int)} {e:Int × Int} {k:Nat} (h:(decide (((k:Nat):Int)<(l.length:Int))&&decide (((ix l k).1,(ix l k).2)=(e.1,e.2)))=false):¬(k<l.length∧ix l k=e):=fun⟨h1,h2⟩=>by
 rw[decide_eq_true O,Bool.true_and,decide_eq_false_iff_not] at h
 exact h h2
theorem TX {l:List Int} (h:l.Nodup) {k:Nat} (hk:k<l.length):ix l k∉l.take k:=fun hm=>by
 obtain⟨j,hj,g⟩:=List.getElem_of_mem hm
 rw[List.length_take] at hj
 rw[List.getElem_take] at g
 have:=AW h (i:=j) (j:=k) O hk (by rw[aH O];exact g)
 omega
namespace T
theorem Nt:Ent Tryz.prog 153:=aO kR
theorem Wh:Ent Tryz.prog 123:=aO kR
theorem Wi:Ent Tryz.prog 112:=aO kR
theorem Wj:Ent Tryz.prog 124:=aO kR
theorem Xn:Ent Tryz.prog 77:=aO kR
end T
namespace mkn
theorem yN (m:aA) (hm:aY m) (tb:Tab) (htb:mT m.sT.length tb) (tr:Bool) (x y:Nat) (hx:x<m.sT.length) (hy:y<m.sT.length):
 Fn0 Tryz.prog 153 [sys m,sys m,int (x:Int),int (y:Int),sl 1 nN tb,bl tr] (bl (lH m tb tr x y)):=by
 refine fnI Tryz.func153 rfl rfl (fun w0 F0=> ?_)
 have f1:=hm.few1
 obtain⟨htl,htr⟩:=htb
 refine fcC (cE 0 J) (fun hS0=> ?_)
 obtain⟨hma0,hms0,hme0⟩:=cG hS0
 refine fcC (cE 1 J) (fun hS1=> ?_)
 obtain⟨hma1,hms1,hme1⟩:=cG hS1
 refine fcC (aW 4 J) (fun hm4=> ?_)
 refine sq (rg (bx (key:=6) (cs:= [sl 1 rE_ m.aC,sl 1 gE m.sT]) J fun b6=>(bx (key:=7) (cs:= [sl 1 rE_ m.aC,sl 1 gE m.sT]) J fun b7=>(ag (nl (th (sq (sq (rg (fP J T.bN (lP J J J T.cH (mv (iF J J T.eB O gB (lF J J T.fB (fc (aW 22 J) fun hm22=>(lnF J T.cC (mv (nl (th (bk ?_))))))))))))))))))))
 have hI0_0:0≤(ix m.sT x).length:=by
  first|omega|simp
 have hI0_1:∀j,j<0→((ix m.sT y).any fun e=>oT tb tr (ix (ix m.sT x) j) e)=true:=by
  exact fun j hj=>absurd hj O
 refine lp (κ:=Nat) (fun p=> [(3,int (y:Int)),(4,sl 1 nN tb),(5,bl tr),(7,ptr 7 b7 0),(22,sl 2 pE (ix m.sT x)),(23,int ((ix m.sT x).length:Int)),(24,int (p:Int))]) (fun p=> [(6,cell b6 [sl 1 rE_ m.aC,sl 1 gE m.sT]),(7,cell b7 [sl 1 rE_ m.aC,sl 1 gE m.sT])]) (fun p=>(p≤(ix m.sT x).length)∧(∀j,j<p→((ix m.sT y).any fun e=>oT tb tr (ix (ix m.sT x) j) e)=true)) (fun p=>(ix m.sT x).length- p) 0 ⟨hI0_0,hI0_1⟩ ⟨id,id,id,id,id,id,id,tV⟩ ⟨rI,rI,tV⟩ ?_
 intro k hG0
 obtain⟨hk0,hI0⟩:(k≤(ix m.sT x).length)∧(∀j,j<k→((ix m.sT y).any fun e=>oT tb tr (ix (ix m.sT x) j) e)=true):=hG0
 refine sq (rg (bi J J aN (nl (th (sq ?_)))))
 refine cd J (fun hc0=> ?_) (fun hc0=> ?_)
 ·try simp at hc0
  have hed:=hm.ed x hx _ (aR (l:=ix m.sT x) (i:=k) O)
  have hed2:0≤(ix (ix m.sT x) k).2∧(ix (ix m.sT x) k).2<(m.sT.length:Int):=hed.2.2
  have hr1:=htr (ix (ix m.sT x) k).2.toNat O
  refine sk (th (sq (bk (sq (rg (iF J J T.cC O gB (lFA J T.bY (Nat.le_of_ble_eq_true J) (al (key:=14) T.z94 (eC (eC eZ)) fun b14=>(sPA (cs':= [int ((ix (ix m.sT x) k).1),int ((ix (ix m.sT x) k).2)]) J J J T.bY J J (nl (th (sq (rg (ag (nl (th (sq (sq (rg (fP J T.bN (lP J J J T.cH (mv (iF J J T.eB O gB (lF J J T.fB (fc (aW 32 J) fun hm32=>(lnF J T.cC (mv (nl (th (bk ?_))))))))))))))))))))))))))))))
  have hI1_0:0≤(ix m.sT y).length:=by
   first|omega|simp
  have hI1_1:false=((ix m.sT y).take 0).any (fun e=>oT tb tr (ix (ix m.sT x) k) e):=by
   rfl
  refine lp (κ:=Nat × Bool) (fun p=> [(3,int (y:Int)),(4,sl 1 nN tb),(5,bl tr),(7,ptr 7 b7 0),(14,ptr 14 b14 0),(15,bl p.2),(22,sl 2 pE (ix m.sT x)),(23,int ((ix m.sT x).length:Int)),(24,int (k:Int)),(32,sl 2 pE (ix m.sT y)),(33,int ((ix m.sT y).length:Int)),(34,int (p.1:Int))]) (fun p=> [(6,cell b6 [sl 1 rE_ m.aC,sl 1 gE m.sT]),(7,cell b7 [sl 1 rE_ m.aC,sl 1 gE m.sT]),(14,cell b14 [int ((ix (ix m.sT x) k).1),int ((ix (ix m.sT x) k).2)])]) (fun p=>(p.1≤(ix m.sT y).length)∧(p.2=((ix m.sT y).take p.1).any (fun e=>oT tb tr (ix (ix m.sT x) k) e))) (fun p=>(ix m.sT y).length- p.1) ⟨0,false⟩ ⟨hI1_0,hI1_1⟩ ⟨id,id,id,id,id,id,id,id,id,id,id,id,tV⟩ ⟨rI,rI,rI,tV⟩ ?_
  intro⟨k1,ok1⟩ hG1
  obtain⟨hk1,hok⟩:(k1≤(ix m.sT y).length)∧(ok1=((ix m.sT y).take k1).any (fun e=>oT tb tr (ix (ix m.sT x) k) e)):=hG1
  show Ct _ _ _ _ [(3,int (y:Int)),(4,sl 1 nN tb),(5,bl tr),(7,ptr 7 b7 0),(14,ptr 14 b14 0),(15,bl ok1),(22,sl 2 pE (ix m.sT x)),(23,int ((ix m.sT x).length:Int)),(24,int (k:Int)),(32,sl 2 pE (ix m.sT y)),(33,int ((ix m.sT y).length:Int)),(34,int (k1:Int))] [(6,cell b6 [sl 1 rE_ m.aC,sl 1 gE m.sT]),(7,cell b7 [sl 1 rE_ m.aC,sl 1 gE m.sT]),(14,cell b14 [int ((ix (ix m.sT x) k).1),int ((ix (ix m.sT x) k).2)])] _
  refine sq (rg (bi J J aN (nl (th (sq ?_)))))
  refine cd J (fun hc1=> ?_) (fun hc1=> ?_)
  ·try simp at hc1
   have hee:=hm.ed y hy _ (aR (l:=ix m.sT y) (i:=k1) O)
   have hee2:0≤(ix (ix m.sT y) k1).2∧(ix (ix m.sT y) k1).2<(m.sT.length:Int):=hee.2.2
   have hr2:=htr (ix (ix m.sT y) k1).2.toNat O
   refine sk (th (sq (bk (sq (rg (iF J J T.cC O gB (lFA J T.bY (Nat.le_of_ble_eq_true J) (al (key:=17) T.z94 (eC (eC eZ)) fun b17=>(sPA (cs':= [int ((ix (ix m.sT y) k1).1),int ((ix (ix m.sT y) k1).2)]) J J J T.bY J J (nl (th (dr (nh:=38) [0,1,3,7,3,19,63,127,255,511,1023,2047,2047,6143,16383,32767,2047,67583,262143,524287,1048575,2097151,4194303,8388607,16777215,16777215,50331647,134217727,268435455,16777215,553648127,2147483647,4294967295,8589934591,17179869183,34359738367,68719476735,137438953471] T.mixed kR ?_))))))))))))
   refine st_ J (fun _ _ _ gq kq=>mv' (gq.1.trans J) kq) ?_
   refine st_ J (fun _ _ _ gq kq=>mv' (gq.1.trans J) kq) ?_
   refine sg_ (φ:=ptr 14 b14 0) J J J J (List.mem_of_elem_eq_true J) (fun hgd=> ?_) ?_
   ·have hgd':=hgd
    try simp at hgd'
    exact fun _ _ _ gq kq=>fP (gq.1.trans J) T.cR kq
   refine sg_ (φ:=int ((ix (ix m.sT x) k).1)) J J J J (List.mem_of_elem_eq_true J) (fun hgd=> ?_) ?_
   ·have hgd':=hgd
    try simp at hgd'
    exact fun _ _ _ gq kq=>lP (gq.1.trans (bR hgd)) J J T.aD kq
   refine sg_ (φ:=ptr 17 b17 0) J J J J (List.mem_of_elem_eq_true J) (fun hgd=> ?_) ?_
   ·have hgd':=hgd
    try simp at hgd'
    exact fun _ _ _ gq kq=>fP (gq.1.trans J) T.cR kq
   refine sg_ (φ:=int ((ix (ix m.sT y) k1).1)) J J J J (List.mem_of_elem_eq_true J) (fun hgd=> ?_) ?_
   ·have hgd':=hgd
    try simp at hgd'
    exact fun _ _ _ gq kq=>lP (gq.1.trans (bR hgd)) J J T.aD kq
   refine sg_ (φ:=bl (decide (((ix (ix m.sT x) k).1)=((ix (ix m.sT y) k1).1)))) J J J J (List.mem_of_elem_eq_true J) (fun hgd=> ?_) ?_
   ·have hgd':=hgd
    try simp at hgd'
    exact fun _ _ _ gq kq=>bi (gq.1.trans (bR hgd)) (gq.2.1.trans (bR hgd)) fJ kq
   refine sg_ (φ:=bl (decide (((ix (ix m.sT x) k).1)=((ix (ix m.sT y) k1).1)))) J J J J (List.mem_of_elem_eq_true J) (fun hgd=> ?_) ?_
   ·have hgd':=hgd
    try simp at hgd'
    exact fun _ _ _ gq kq=>mv' (gq.1.trans (bR hgd)) kq
   refine jJ (φ:=bl tr) rfl rfl rfl rfl (List.mem_of_elem_eq_true rfl) (fun hgd hgd2=> ?_) ?_
   ·have hgd':=hgd
    try simp at hgd'
    have hgd2':=hgd2
    try simp at hgd2'
    exact fun _ _ _ gq kq=>mv' (gq.1.trans J) kq
   refine jJ (φ:=bl (!tr)) rfl rfl rfl rfl (List.mem_of_elem_eq_true rfl) (fun hgd hgd2=> ?_) ?_
   ·have hgd':=hgd
    try simp at hgd'
    have hgd2':=hgd2
    try simp at hgd2'
    exact fun _ _ _ gq kq=>no (gq.1.trans (fE hgd hgd2)) kq
   refine jJ (φ:=bl (!tr)) rfl rfl rfl rfl (List.mem_of_elem_eq_true rfl) (fun hgd hgd2=> ?_) ?_
   ·have hgd':=hgd
    try simp at hgd'
    have hgd2':=hgd2
    try simp at hgd2'
    exact fun _ _ _ gq kq=>mv' (gq.1.trans (fE hgd hgd2)) kq
   refine kB (φ:=sl 1 nN tb) rfl rfl rfl rfl (List.mem_of_elem_eq_true rfl) (fun hgp hgd=> ?_) ?_
   ·have hq3:=gR hgp hgd
    have hq2:=bO hq3
    have hg2:=dC hq2
    try simp at hg2
    have hq1:=bO hq2
    have hg1:=fI hq1
    try simp at hg1
    have hgd':=hgd
    try simp at hgd'
    exact fun _ _ _ gq kq=>mv' (gq.1.trans J) kq
   refine kB (φ:=ptr 14 b14 1) rfl rfl rfl rfl (List.mem_of_elem_eq_true rfl) (fun hgp hgd=> ?_) ?_
   ·have hq3:=gR hgp hgd
    have hq2:=bO hq3
    have hg2:=dC hq2
    try simp at hg2
    have hq1:=bO hq2
    have hg1:=fI hq1
    try simp at hg1
    have hgd':=hgd
    try simp at hgd'
    exact fun _ _ _ gq kq=>fP (gq.1.trans J) T.cS kq
   refine kB (φ:=int ((ix (ix m.sT x) k).2)) rfl rfl rfl rfl (List.mem_of_elem_eq_true rfl) (fun hgp hgd=> ?_) ?_
   ·have hq3:=gR hgp hgd
    have hq2:=bO hq3
    have hg2:=dC hq2
    try simp at hg2
    have hq1:=bO hq2
    have hg1:=fI hq1
    try simp at hg1
    have hgd':=hgd
    try simp at hgd'
    exact fun _ _ _ gq kq=>lP (gq.1.trans (gQ hq3)) J J T.aD kq
   refine kB (φ:=fp [sl 1 blE (ix tb ((ix (ix m.sT x) k).2).toNat)]) rfl rfl rfl rfl (List.mem_of_elem_eq_true rfl) (fun hgp hgd=> ?_) ?_
   ·have hq3:=gR hgp hgd
    have hq2:=bO hq3
    have hg2:=dC hq2
    try simp at hg2
    have hq1:=bO hq2
    have hg1:=fI hq1
    try simp at hg1
    have hgd':=hgd
    try simp at hgd'
    exact fun _ _ _ gq kq=>iF (gq.1.trans (gQ hq3)) (gq.2.1.trans (gQ hq3)) T.iH O gB kq
   refine kB (φ:=sl 1 blE (ix tb ((ix (ix m.sT x) k).2).toNat)) rfl rfl rfl rfl (List.mem_of_elem_eq_true rfl) (fun hgp hgd=> ?_) ?_
   ·have hq3:=gR hgp hgd
    have hq2:=bO hq3
    have hg2:=dC hq2
    try simp at hg2
    have hq1:=bO hq2
    have hg1:=fI hq1
    try simp at hg1
    have hgd':=hgd
    try simp at hgd'
    exact fun _ _ _ gq kq=>lF (gq.1.trans (gQ hq3)) J T.fV kq
   refine kB (φ:=ptr 17 b17 1) rfl rfl rfl rfl (List.mem_of_elem_eq_true rfl) (fun hgp hgd=> ?_) ?_
   ·have hq3:=gR hgp hgd
    have hq2:=bO hq3
    have hg2:=dC hq2
    try simp at hg2
    have hq1:=bO hq2
    have hg1:=fI hq1
    try simp at hg1
    have hgd':=hgd
    try simp at hgd'
    exact fun _ _ _ gq kq=>fP (gq.1.trans J) T.cS kq
   refine kB (φ:=int ((ix (ix m.sT y) k1).2)) rfl rfl rfl rfl (List.mem_of_elem_eq_true rfl) (fun hgp hgd=> ?_) ?_
   ·have hq3:=gR hgp hgd
    have hq2:=bO hq3
    have hg2:=dC hq2
    try simp at hg2
    have hq1:=bO hq2
    have hg1:=fI hq1
    try simp at hg1
    have hgd':=hgd
    try simp at hgd'
    exact fun _ _ _ gq kq=>lP (gq.1.trans (gQ hq3)) J J T.aD kq
   refine kB (φ:=fp [bl (ix (ix tb ((ix (ix m.sT x) k).2).toNat) ((ix (ix m.sT y) k1).2).toNat)]) rfl rfl rfl rfl (List.mem_of_elem_eq_true rfl) (fun hgp hgd=> ?_) ?_
   ·have hq3:=gR hgp hgd
    have hq2:=bO hq3
    have hg2:=dC hq2
    try simp at hg2
    have hq1:=bO hq2
    have hg1:=fI hq1
    try simp at hg1
    have hgd':=hgd
    try simp at hgd'
    exact fun _ _ _ gq kq=>iF (gq.1.trans (gQ hq3)) (gq.2.1.trans (gQ hq3)) T.fQ O gB kq
   refine kB (φ:=bl (ix (ix tb ((ix (ix m.sT x) k).2).toNat) ((ix (ix m.sT y) k1).2).toNat)) rfl rfl rfl rfl (List.mem_of_elem_eq_true rfl) (fun hgp hgd=> ?_) ?_
   ·have hq3:=gR hgp hgd
    have hq2:=bO hq3
    have hg2:=dC hq2
    try simp at hg2
    have hq1:=bO hq2
    have hg1:=fI hq1
    try simp at hg1
    have hgd':=hgd
    try simp at hgd'
    exact fun _ _ _ gq kq=>lF (gq.1.trans (gQ hq3)) J T.eH kq
   refine jJ (φ:=bl ((!tr)&&(ix (ix tb ((ix (ix m.sT x) k).2).toNat) ((ix (ix m.sT y) k1).2).toNat))) rfl rfl rfl rfl (List.mem_of_elem_eq_true rfl) (fun hgd hgd2=> ?_) ?_
   ·have hgd':=hgd
    try simp at hgd'
    have hgd2':=hgd2
    try simp at hgd2'
    exact fun _ _ _ gq kq=>pk (gq.1.trans (fE hgd hgd2)) (pZ (x:= .tmp 48) (gq.1.trans (fE hgd hgd2)) (gq.2.1.trans (GP (gR (Nn hgd) hgd2))) J) kq
   refine jJ (φ:=bl ((!tr)&&(ix (ix tb ((ix (ix m.sT x) k).2).toNat) ((ix (ix m.sT y) k1).2).toNat))) rfl rfl rfl rfl (List.mem_of_elem_eq_true rfl) (fun hgd hgd2=> ?_) ?_
   ·have hgd':=hgd
    try simp at hgd'
    have hgd2':=hgd2
    try simp at hgd2'
    exact fun _ _ _ gq kq=>mv' (gq.1.trans (fE hgd hgd2)) kq
   refine kB (φ:=bl tr) rfl rfl rfl rfl (List.mem_of_elem_eq_true rfl) (fun hgp hgd=> ?_) ?_
   ·have hq3:=gR hgp hgd
    have hq2:=bO hq3
    have hg2:=dC hq2
    try simp at hg2
    have hq1:=bO hq2
    have hg1:=fI hq1
    try simp at hg1
    have hgd':=hgd
    try simp at hgd'
    exact fun _ _ _ gq kq=>mv' (gq.1.trans J) kq
   refine kB (φ:=bl tr) rfl rfl rfl rfl (List.mem_of_elem_eq_true rfl) (fun hgp hgd=> ?_) ?_
   ·have hq3:=gR hgp hgd
    have hq2:=bO hq3
    have hg2:=dC hq2
    try simp at hg2
    have hq1:=bO hq2
    have hg1:=fI hq1
    try simp at hg1
    have hgd':=hgd
    try simp at hgd'
    exact fun _ _ _ gq kq=>mv' (gq.1.trans (gQ hq3)) kq
   refine kB (φ:=sl 1 nN tb) rfl rfl rfl rfl (List.mem_of_elem_eq_true rfl) (fun hgp hgd=> ?_) ?_
   ·have hq4:=gR hgp hgd
    have hq3:=bO hq4
    have hg3:=dC hq3
    try simp at hg3
    have hq2:=bO hq3
    have hg2:=dC hq2
    try simp at hg2
    have hq1:=bO hq2
    have hg1:=fI hq1
    try simp at hg1
    have hgd':=hgd
    try simp at hgd'
    exact fun _ _ _ gq kq=>mv' (gq.1.trans J) kq
   refine kB (φ:=ptr 17 b17 1) rfl rfl rfl rfl (List.mem_of_elem_eq_true rfl) (fun hgp hgd=> ?_) ?_
   ·have hq4:=gR hgp hgd
    have hq3:=bO hq4
    have hg3:=dC hq3
    try simp at hg3
    have hq2:=bO hq3
    have hg2:=dC hq2
    try simp at hg2
    have hq1:=bO hq2
    have hg1:=fI hq1
    try simp at hg1
    have hgd':=hgd
    try simp at hgd'
    exact fun _ _ _ gq kq=>fP (gq.1.trans J) T.cS kq
   refine kB (φ:=int ((ix (ix m.sT y) k1).2)) rfl rfl rfl rfl (List.mem_of_elem_eq_true rfl) (fun hgp hgd=> ?_) ?_
   ·have hq4:=gR hgp hgd
    have hq3:=bO hq4
    have hg3:=dC hq3
    try simp at hg3
    have hq2:=bO hq3
    have hg2:=dC hq2
    try simp at hg2
    have hq1:=bO hq2
    have hg1:=fI hq1
    try simp at hg1
    have hgd':=hgd
    try simp at hgd'
    exact fun _ _ _ gq kq=>lP (gq.1.trans (gQ hq4)) J J T.aD kq
   refine kB (φ:=fp [sl 1 blE (ix tb ((ix (ix m.sT y) k1).2).toNat)]) rfl rfl rfl rfl (List.mem_of_elem_eq_true rfl) (fun hgp hgd=> ?_) ?_
   ·have hq4:=gR hgp hgd
    have hq3:=bO hq4
    have hg3:=dC hq3
    try simp at hg3
    have hq2:=bO hq3
    have hg2:=dC hq2
    try simp at hg2
    have hq1:=bO hq2
    have hg1:=fI hq1
    try simp at hg1
    have hgd':=hgd
    try simp at hgd'
    exact fun _ _ _ gq kq=>iF (gq.1.trans (gQ hq4)) (gq.2.1.trans (gQ hq4)) T.iH O gB kq
   refine kB (φ:=sl 1 blE (ix tb ((ix (ix m.sT y) k1).2).toNat)) rfl rfl rfl rfl (List.mem_of_elem_eq_true rfl) (fun hgp hgd=> ?_) ?_
   ·have hq4:=gR hgp hgd
    have hq3:=bO hq4
    have hg3:=dC hq3
    try simp at hg3
    have hq2:=bO hq3
    have hg2:=dC hq2
    try simp at hg2
    have hq1:=bO hq2
    have hg1:=fI hq1
    try simp at hg1
    have hgd':=hgd
    try simp at hgd'
    exact fun _ _ _ gq kq=>lF (gq.1.trans (gQ hq4)) J T.fV kq
   refine kB (φ:=ptr 14 b14 1) rfl rfl rfl rfl (List.mem_of_elem_eq_true rfl) (fun hgp hgd=> ?_) ?_
   ·have hq4:=gR hgp hgd
    have hq3:=bO hq4
    have hg3:=dC hq3
    try simp at hg3
    have hq2:=bO hq3
    have hg2:=dC hq2
    try simp at hg2
    have hq1:=bO hq2
    have hg1:=fI hq1
    try simp at hg1
    have hgd':=hgd
    try simp at hgd'
    exact fun _ _ _ gq kq=>fP (gq.1.trans J) T.cS kq
   refine kB (φ:=int ((ix (ix m.sT x) k).2)) rfl rfl rfl rfl (List.mem_of_elem_eq_true rfl) (fun hgp hgd=> ?_) ?_
   ·have hq4:=gR hgp hgd
    have hq3:=bO hq4
    have hg3:=dC hq3
    try simp at hg3
    have hq2:=bO hq3
    have hg2:=dC hq2
    try simp at hg2
    have hq1:=bO hq2
    have hg1:=fI hq1
    try simp at hg1
    have hgd':=hgd
    try simp at hgd'
    exact fun _ _ _ gq kq=>lP (gq.1.trans (gQ hq4)) J J T.aD kq
   refine kB (φ:=fp [bl (ix (ix tb ((ix (ix m.sT y) k1).2).toNat) ((ix (ix m.sT x) k).2).toNat)]) rfl rfl rfl rfl (List.mem_of_elem_eq_true rfl) (fun hgp hgd=> ?_) ?_
   ·have hq4:=gR hgp hgd
    have hq3:=bO hq4
    have hg3:=dC hq3
    try simp at hg3
    have hq2:=bO hq3
    have hg2:=dC hq2
    try simp at hg2
    have hq1:=bO hq2
    have hg1:=fI hq1
    try simp at hg1
    have hgd':=hgd
    try simp at hgd'
    exact fun _ _ _ gq kq=>iF (gq.1.trans (gQ hq4)) (gq.2.1.trans (gQ hq4)) T.fQ O gB kq
   refine kB (φ:=bl (ix (ix tb ((ix (ix m.sT y) k1).2).toNat) ((ix (ix m.sT x) k).2).toNat)) rfl rfl rfl rfl (List.mem_of_elem_eq_true rfl) (fun hgp hgd=> ?_) ?_
   ·have hq4:=gR hgp hgd
    have hq3:=bO hq4
    have hg3:=dC hq3
    try simp at hg3
    have hq2:=bO hq3
    have hg2:=dC hq2
    try simp at hg2
    have hq1:=bO hq2
    have hg1:=fI hq1
    try simp at hg1
    have hgd':=hgd
    try simp at hgd'
    exact fun _ _ _ gq kq=>lF (gq.1.trans (gQ hq4)) J T.eH kq
   refine kB (φ:=bl (tr&&(ix (ix tb ((ix (ix m.sT y) k1).2).toNat) ((ix (ix m.sT x) k).2).toNat))) rfl rfl rfl rfl (List.mem_of_elem_eq_true rfl) (fun hgp hgd=> ?_) ?_
   ·have hq3:=gR hgp hgd
    have hq2:=bO hq3
    have hg2:=dC hq2
    try simp at hg2
    have hq1:=bO hq2
    have hg1:=fI hq1
    try simp at hg1
    have hgd':=hgd
    try simp at hgd'
    exact fun _ _ _ gq kq=>pk (gq.1.trans (gQ hq3)) (pZ (x:= .tmp 61) (gq.1.trans (gQ hq3)) (gq.2.1.trans (GP hq3)) J) kq
   refine jJ (φ:=bl (((!tr)&&(ix (ix tb ((ix (ix m.sT x) k).2).toNat) ((ix (ix m.sT y) k1).2).toNat))||(tr&&(ix (ix tb ((ix (ix m.sT y) k1).2).toNat) ((ix (ix m.sT x) k).2).toNat)))) rfl rfl rfl rfl (List.mem_of_elem_eq_true rfl) (fun hgd hgd2=> ?_) ?_
   ·have hgd':=hgd
    try simp at hgd'
    have hgd2':=hgd2
    try simp at hgd2'
    exact fun _ _ _ gq kq=>pk (gq.1.trans (fE hgd hgd2)) (pS (x:= .tmp 59) (gq.1.trans (fE hgd hgd2)) (gq.2.1.trans (GP (gR (Nn hgd) hgd2))) J) kq
   refine sg_ (φ:=bl ((decide (((ix (ix m.sT x) k).1)=((ix (ix m.sT y) k1).1)))&&(((!tr)&&(ix (ix tb ((ix (ix m.sT x) k).2).toNat) ((ix (ix m.sT y) k1).2).toNat))||(tr&&(ix (ix tb ((ix (ix m.sT y) k1).2).toNat) ((ix (ix m.sT x) k).2).toNat))))) J J J J (List.mem_of_elem_eq_true J) (fun hgd=> ?_) ?_
   ·have hgd':=hgd
    try simp at hgd'
    exact fun _ _ _ gq kq=>pk (gq.1.trans (bR hgd)) (pZ (x:= .tmp 45) (gq.1.trans (bR hgd)) (gq.2.1.trans (Cs hgd)) J) kq
   refine st_ J (fun _ _ _ gq kq=>pk (gq.1.trans J) (pS (x:= .tmp 39) (gq.1.trans J) (gq.2.1.trans J) J) kq) ?_
   refine st_ J (fun _ _ _ gq kq=>ag' (gq.1.trans J) kq) ?_
   refine pn (nl (eb (th (rg (bi J J (aK i6) (mv (nl ?_)))))))
   have hN0:(k1+1)≤(ix m.sT y).length:=by
    first|omega|simp_all
   have hN1:(ok1||((decide (((ix (ix m.sT x) k).1)=((ix (ix m.sT y) k1).1)))&&(((!tr)&&(ix (ix tb ((ix (ix m.sT x) k).2).toNat) ((ix (ix m.sT y) k1).2).toNat))||(tr&&(ix (ix tb ((ix (ix m.sT y) k1).2).toNat) ((ix (ix m.sT x) k).2).toNat)))))=((ix m.sT y).take (k1+1)).any (fun e=>oT tb tr (ix (ix m.sT x) k) e):=by
    rw[Qj O,←hok];rfl
   exact ln (⟨k1+1,ok1||((decide (((ix (ix m.sT x) k).1)=((ix (ix m.sT y) k1).1)))&&(((!tr)&&(ix (ix tb ((ix (ix m.sT x) k).2).toNat) ((ix (ix m.sT y) k1).2).toNat))||(tr&&(ix (ix tb ((ix (ix m.sT y) k1).2).toNat) ((ix (ix m.sT x) k).2).toNat))))⟩:Nat × Bool) ⟨hN0,hN1⟩ dO ⟨id,id,id,id,id,id,id,id,id,id,id,id,tV⟩ ⟨rI,rI,rI,tV⟩
  ·try simp at hc1
   have hall:ok1=((ix m.sT y).any fun e=>oT tb tr (ix (ix m.sT x) k) e):=by rw[hok,List.take_of_length_le O]
   refine ex (xt_ (xt_ (xb (th (sq (rg (mv (no J (nl (th ?_))))))))))
   refine cd J (fun hc2=> ?_) (fun hc2=> ?_)
   ·skip
    refine sq (rg (ag (nl (th (rt (rb (rt_ (rt_ (rb (rt_ ?_))))))))))
    have hr0:false=(lH m tb tr x y):=by
     exact(Wd O (by rw[←hall];simpa using hc2)).symm
    exact rE () [.tmp 12] J [bl false] ⟨.tmp J,tV⟩ (cA1 (fun x0=>rV [bl x0]) hr0) trivial eX
   ·skip
    refine sk (eb (th (rg (bi J J (aK i6) (mv (nl ?_))))))
    have hN0:(k+1)≤(ix m.sT x).length:=by
     first|omega|simp_all
    have hN1:∀j,j<(k+1)→((ix m.sT y).any fun e=>oT tb tr (ix (ix m.sT x) j) e)=true:=by
     intro j hj
     by_cases e:j=k
     ·subst e;rw[←hall];simpa using hc2
     ·exact hI0 j O
    exact ln (k+1) ⟨hN0,hN1⟩ dO ⟨id,id,id,id,id,id,id,tV⟩ ⟨rI,rI,tV⟩
 ·try simp at hc0
  refine ex (xt_ (xt_ (xb (th (sq (rg (ag (nl (th (rt ?_))))))))))
  have hr0:true=(lH m tb tr x y):=by
   exact(TR (fun j hj=>hI0 j O)).symm
  exact rE () [.tmp 12] J [bl true] ⟨.tmp J,tV⟩ (cA1 (fun x0=>rV [bl x0]) hr0) trivial eX
theorem Kq (m:aA) (hm:aY m):
 AL.Fn Tryz.prog 123 [sys m,sys m] [] (ι:= { tb:Tab//mT m.sT.length tb∧yM m tb }) (fun _ i=>sl 1 nN i.1) (fun _=> []):=by
 refine fnI Tryz.func123 rfl rfl (fun w0 F0=> ?_)
 have f1:=hm.few1;have f0:=hm.few0
 refine fcC (cE 0 J) (fun hS0=> ?_)
 obtain⟨hma0,hms0,hme0⟩:=cG hS0
 refine fcC (cE 1 J) (fun hS1=> ?_)
 obtain⟨hma1,hms1,hme1⟩:=cG hS1
 refine sq (rg (bx (key:=2) (cs:= [sl 1 rE_ m.aC,sl 1 gE m.sT]) J fun b2=>(bx (key:=3) (cs:= [sl 1 rE_ m.aC,sl 1 gE m.sT]) J fun b3=>(ag (nl (th (sq (rg (fP J T.bN (lP J J J T.cH (fc (aW 12 J) fun hm12=>(lnF J T.eB (mk (key:=14) (m:=m.sT.length) (enc:=cQ) (y:=(.slice none 0 0:Value)) J J T.Jt (eC eZ) mL mL fun v14=>(ag (nl (th (sq (sq (rg (nbB 231 m.sT.length 4 1 blE (mv (lnO J J T.iH (mv (nl (th (bk ?_))))))))))))))))))))))))))
 have hI0_0:0≤(List.replicate m.sT.length (.slice none 0 0:Value)).length:=by
  first|omega|simp
 have hI0_1:(List.replicate m.sT.length (.slice none 0 0:Value)).length=m.sT.length∧(List.replicate m.sT.length ([]:List Bool)).length=m.sT.length∧∀i,i<0→(ix (List.replicate m.sT.length ([]:List Bool)) i).length=m.sT.length:=by
  exact⟨by simp,by simp,fun i hi=>absurd hi O⟩
 refine lp (κ:=Nat × (List Value) × Tab) (fun p=> [(2,ptr 2 b2 0),(3,ptr 3 b3 0),(4,eqv (.slice none 0 0)),(5,osl 14 v14),(16,int ((List.replicate m.sT.length (.slice none 0 0:Value)).length:Int)),(17,int (p.1:Int))]) (fun p=> [(2,cell b2 [sl 1 rE_ m.aC,sl 1 gE m.sT]),(3,cell b3 [sl 1 rE_ m.aC,sl 1 gE m.sT]),(14,own v14 90 1 cQ p.2.1),(231,aX p.2.1 4 1 blE p.2.2 none)]) (fun p=>(p.1≤(List.replicate m.sT.length (.slice none 0 0:Value)).length)∧(p.2.1.length=m.sT.length∧p.2.2.length=m.sT.length∧∀i,i<p.1→(ix p.2.2 i).length=m.sT.length)) (fun p=>(List.replicate m.sT.length (.slice none 0 0:Value)).length- p.1) ⟨0,List.replicate m.sT.length (.slice none 0 0:Value),(List.replicate m.sT.length ([]:List Bool))⟩ ⟨hI0_0,hI0_1⟩ ⟨id,id,id,id,id,id,tV⟩ ⟨rI,rI,rI,rI,tV⟩ ?_
 intro⟨k,us,mt⟩ hG0
 obtain⟨hk0,⟨hul,hml,hmr⟩⟩:(k≤(List.replicate m.sT.length (.slice none 0 0:Value)).length)∧(us.length=m.sT.length∧mt.length=m.sT.length∧∀i,i<k→(ix mt i).length=m.sT.length):=hG0
 show Ct _ _ _ _ [(2,ptr 2 b2 0),(3,ptr 3 b3 0),(4,eqv (.slice none 0 0)),(5,osl 14 v14),(16,int ((List.replicate m.sT.length (.slice none 0 0:Value)).length:Int)),(17,int (k:Int))] [(2,cell b2 [sl 1 rE_ m.aC,sl 1 gE m.sT]),(3,cell b3 [sl 1 rE_ m.aC,sl 1 gE m.sT]),(14,own v14 90 1 cQ us),(231,aX us 4 1 blE mt none)] _
 refine sq (rg (bi J J aN (nl (th (sq ?_)))))
 refine cd J (fun hc0=> ?_) (fun hc0=> ?_)
 ·try simp at hc0
  refine sk (th (sq (bk (sq (rg (mv (ag (nl (th (sq (Ac 231 2399 k J J (by decide) (gK O) (gK O) (rg (mv (mv (fP J T.bN (lP J J J T.cH (lnF J T.eB (mk (key:=25) (m:=m.sT.length) (enc:=blE) (y:=false) J J T.xC (eC eZ) mL mL fun v25=>(iO J J J T.iH O O (sOO (k2:=25) J J eD J T.fV gB J (y':=v25) J (nl (th (sq (rg (gvB (us:=us) 231 25 k J J (by decide) O ?_)))))))))))))))))))))))))
  have hs1:(us.set k v25).length=m.sT.length:=by rw[List.length_set];exact hul
  have hs1b:(us.set ((k:Nat):Int).toNat v25).length=m.sT.length:=by rw[List.length_set];exact hul
  have hs2:(mt.set k (List.replicate m.sT.length false)).length=m.sT.length:=by rw[List.length_set];exact hml
  have hs3:(ix (mt.set k (List.replicate m.sT.length false)) k).length=m.sT.length:=by rw[pX O];simp
  refine mv (mv (iO rfl rfl rfl T.iH O O (lO rfl rfl gB rfl T.fV (tkB 231 2320 k rfl rfl (by decide) (gK O) (gK O) (kn 30 (osl 2320 (ix (us.set k v25) k)) rfl dH (lnO rfl rfl T.fQ (gvS 231 2320 k rfl rfl (by decide) (gK O) (gK O) (mv (nl (th (bk ?_)))))))))))
  have hI1_0:0≤(ix (mt.set k (List.replicate m.sT.length false)) k).length:=by
   first|omega|simp
  have hI1_1:(us.set k v25).length=m.sT.length∧(mt.set k (List.replicate m.sT.length false)).length=m.sT.length∧∀i,i<k+1→(ix (mt.set k (List.replicate m.sT.length false)) i).length=m.sT.length:=by
   exact⟨by simpa using hul,by simpa using hml,Qq hmr O (by simp)⟩
  refine lp (κ:=Nat × (List Value) × Tab) (fun p=> [(2,ptr 2 b2 0),(3,ptr 3 b3 0),(4,eqv (.slice none 0 0)),(5,osl 14 v14),(6,int (k:Int)),(16,int ((List.replicate m.sT.length (.slice none 0 0:Value)).length:Int)),(17,int (k:Int)),(31,int ((ix (mt.set k (List.replicate m.sT.length false)) k).length:Int)),(32,int (p.1:Int))]) (fun p=> [(2,cell b2 [sl 1 rE_ m.aC,sl 1 gE m.sT]),(3,cell b3 [sl 1 rE_ m.aC,sl 1 gE m.sT]),(14,own v14 90 1 cQ p.2.1),(231,aX p.2.1 4 1 blE p.2.2 none),(2399,own (ix us k) 4 1 blE (ix mt k))]) (fun p=>(p.1≤(ix (mt.set k (List.replicate m.sT.length false)) k).length)∧(p.2.1.length=m.sT.length∧p.2.2.length=m.sT.length∧∀i,i<k+1→(ix p.2.2 i).length=m.sT.length)) (fun p=>(ix (mt.set k (List.replicate m.sT.length false)) k).length- p.1) ⟨0,us.set k v25,mt.set k (List.replicate m.sT.length false)⟩ ⟨hI1_0,hI1_1⟩ ⟨id,id,id,id,id,id,id,id,id,tV⟩ ⟨rI,rI,rI,rI,rI,tV⟩ ?_
  intro⟨k1,us1,mt1⟩ hG1
  obtain⟨hk1,⟨hul1,hml1,hmr1⟩⟩:(k1≤(ix (mt.set k (List.replicate m.sT.length false)) k).length)∧(us1.length=m.sT.length∧mt1.length=m.sT.length∧∀i,i<k+1→(ix mt1 i).length=m.sT.length):=hG1
  show Ct _ _ _ _ [(2,ptr 2 b2 0),(3,ptr 3 b3 0),(4,eqv (.slice none 0 0)),(5,osl 14 v14),(6,int (k:Int)),(16,int ((List.replicate m.sT.length (.slice none 0 0:Value)).length:Int)),(17,int (k:Int)),(31,int ((ix (mt.set k (List.replicate m.sT.length false)) k).length:Int)),(32,int (k1:Int))] [(2,cell b2 [sl 1 rE_ m.aC,sl 1 gE m.sT]),(3,cell b3 [sl 1 rE_ m.aC,sl 1 gE m.sT]),(14,own v14 90 1 cQ us1),(231,aX us1 4 1 blE mt1 none),(2399,own (ix us k) 4 1 blE (ix mt k))] _
  have hrk1:=hmr1 k O
  refine sq (rg (bi J J aN (nl (th (sq ?_)))))
  refine cd J (fun hc1=> ?_) (fun hc1=> ?_)
  ·try simp at hc1
   refine sk (th (sq (bk (sq (rg (mv (ag (nl (th (Ac 231 2310 k J J (by decide) (gK O) (gK O) (rg (mv (mv (iO J J J T.iH O O (lO J J gB J T.fV (mv (iO (eD (key:=2310)).symm J J T.fQ O O (sO (φ:=bl true) J J J T.eH gB J (y':=true) J (nl (eb (th (rg (gvU 231 2310 k J J (by decide) (gK O) (bi J J (aK i6) (mv (nl ?_))))))))))))))))))))))))))
   have hN0:(k1+1)≤(ix (mt.set k (List.replicate m.sT.length false)) k).length:=by
    first|omega|simp_all
   have hN1:us1.length=m.sT.length∧(mt1.set k ((ix mt1 k).set k1 true)).length=m.sT.length∧∀i,i<k+1→(ix (mt1.set k ((ix mt1 k).set k1 true)) i).length=m.sT.length:=by
    exact⟨hul1,by simpa using hml1,Np hmr1 O (by rw[List.length_set];exact hmr1 k O)⟩
   exact ln (⟨k1+1,us1,mt1.set k ((ix mt1 k).set k1 true)⟩:Nat × (List Value) × Tab) ⟨hN0,hN1⟩ dO ⟨id,id,id,id,id,id,id,id,id,tV⟩ ⟨rI,rI,rI,rI,rI,tV⟩
  ·try simp at hc1
   refine ex (xt_ (xt_ (xb (eb (th (rg (bi J J (aK i6) (mv (nl ?_)))))))))
   have hN0:(k+1)≤(List.replicate m.sT.length (.slice none 0 0:Value)).length:=by
    first|omega|simp_all
   have hN1:us1.length=m.sT.length∧mt1.length=m.sT.length∧∀i,i<(k+1)→(ix mt1 i).length=m.sT.length:=by
    exact⟨hul1,hml1,hmr1⟩
   exact ln (⟨k+1,us1,mt1⟩:Nat × (List Value) × Tab) ⟨hN0,hN1⟩ dO ⟨id,id,id,id,id,id,tV⟩ ⟨rI,rI,rI,rI,tV⟩
 ·try simp at hc0
  have hro:mT m.sT.length mt:=⟨hml,fun i hi=>hmr i O⟩
  refine ex (xt_ (xt_ (xb (th (sq (sq (rg (ag (nl (th (bk ?_)))))))))))
  have hI2_0:mT m.sT.length mt∧(true=false→yM m mt):=by
   exact⟨hro,fun h=>by cases h⟩
  refine lp (κ:=Bool × Tab) (fun p=> [(2,ptr 2 b2 0),(3,ptr 3 b3 0),(4,eqv (.slice none 0 0)),(5,osl 14 v14),(8,bl p.1)]) (fun p=> [(2,cell b2 [sl 1 rE_ m.aC,sl 1 gE m.sT]),(3,cell b3 [sl 1 rE_ m.aC,sl 1 gE m.sT]),(14,own v14 90 1 cQ us),(231,aX us 4 1 blE p.2 none)]) (fun p=>mT m.sT.length p.2∧(p.1=false→yM m p.2)) (fun p=>(bif p.1 then tH p.2+1 else 0)) ⟨true,mt⟩ hI2_0 ⟨id,id,id,id,id,tV⟩ ⟨rI,rI,rI,rI,tV⟩ ?_
  intro⟨agn,mt2⟩ hG2
  have hI2_:mT m.sT.length mt2∧(agn=false→yM m mt2):=hG2
  show Ct _ _ _ _ [(2,ptr 2 b2 0),(3,ptr 3 b3 0),(4,eqv (.slice none 0 0)),(5,osl 14 v14),(8,bl agn)] [(2,cell b2 [sl 1 rE_ m.aC,sl 1 gE m.sT]),(3,cell b3 [sl 1 rE_ m.aC,sl 1 gE m.sT]),(14,own v14 90 1 cQ us),(231,aX us 4 1 blE mt2 none)] _
  refine sq (sq (rg (mv (nl (th ?_)))))
  refine cd J (fun hc2=> ?_) (fun hc2=> ?_)
  ·try simp at hc2
   have hag:agn=true:=by simpa using hc2
   obtain⟨hrow2,hfix⟩:=hI2_
   obtain⟨hrl2,hrr2⟩:=hrow2
   refine sk (th (bk (sq (rg (ag (nl (th (sq (rg (mv (lnO J J T.iH (mv (nl (th (bk ?_)))))))))))))))
   have hI3_0:0≤us.length:=by
    first|omega|simp
   have hI3_1:mA m mt2 0 0 mt2 false:=by
    exact Nh ⟨hrl2,hrr2⟩
   refine lp (κ:=Nat × Bool × Tab) (fun p=> [(2,ptr 2 b2 0),(3,ptr 3 b3 0),(4,eqv (.slice none 0 0)),(5,osl 14 v14),(8,bl p.2.1),(45,int (us.length:Int)),(46,int (p.1:Int))]) (fun p=> [(2,cell b2 [sl 1 rE_ m.aC,sl 1 gE m.sT]),(3,cell b3 [sl 1 rE_ m.aC,sl 1 gE m.sT]),(14,own v14 90 1 cQ us),(231,aX us 4 1 blE p.2.2 none)]) (fun p=>(p.1≤us.length)∧(mA m mt2 p.1 0 p.2.2 p.2.1)) (fun p=>us.length- p.1) ⟨0,false,mt2⟩ ⟨hI3_0,hI3_1⟩ ⟨id,id,id,id,id,id,id,tV⟩ ⟨rI,rI,rI,rI,tV⟩ ?_
   intro⟨k3,ag3,mt3⟩ hG3
   obtain⟨hk3,hP3⟩:(k3≤us.length)∧(mA m mt2 k3 0 mt3 ag3):=hG3
   show Ct _ _ _ _ [(2,ptr 2 b2 0),(3,ptr 3 b3 0),(4,eqv (.slice none 0 0)),(5,osl 14 v14),(8,bl ag3),(45,int (us.length:Int)),(46,int (k3:Int))] [(2,cell b2 [sl 1 rE_ m.aC,sl 1 gE m.sT]),(3,cell b3 [sl 1 rE_ m.aC,sl 1 gE m.sT]),(14,own v14 90 1 cQ us),(231,aX us 4 1 blE mt3 none)] _
   refine sq (rg (bi J J aN (nl (th (sq ?_)))))
   refine cd J (fun hc3=> ?_) (fun hc3=> ?_)
   ·try simp at hc3
    obtain⟨hrl3,hrr3⟩:=hP3.1
    have hrk3:=hrr3 k3 O
    refine sk (th (sq (bk (sq (rg (mv (ag (nl (th (sq (rg (mv (mv (iO J J J T.iH O O (lO J J gB J T.fV (tkB 231 2350 k3 J J (by decide) (gK O) (gK O) (kn 52 (osl 2350 (ix us k3)) J dH (lnO J J T.fQ (gvS 231 2350 k3 J J (by decide) (gK O) (gK O) (mv (nl (th (bk ?_)))))))))))))))))))))))
    have hI4_0:0≤(ix mt3 k3).length:=by
     first|omega|simp
    have hI4_1:mA m mt2 k3 0 mt3 ag3:=by
     exact hP3
    refine lp (κ:=Nat × Bool × Tab) (fun p=> [(2,ptr 2 b2 0),(3,ptr 3 b3 0),(4,eqv (.slice none 0 0)),(5,osl 14 v14),(8,bl p.2.1),(9,int (k3:Int)),(45,int (us.length:Int)),(46,int (k3:Int)),(53,int ((ix mt3 k3).length:Int)),(54,int (p.1:Int))]) (fun p=> [(2,cell b2 [sl 1 rE_ m.aC,sl 1 gE m.sT]),(3,cell b3 [sl 1 rE_ m.aC,sl 1 gE m.sT]),(14,own v14 90 1 cQ us),(231,aX us 4 1 blE p.2.2 none)]) (fun p=>(p.1≤(ix mt3 k3).length)∧(mA m mt2 k3 p.1 p.2.2 p.2.1)) (fun p=>(ix mt3 k3).length- p.1) ⟨0,ag3,mt3⟩ ⟨hI4_0,hI4_1⟩ ⟨id,id,id,id,id,id,id,id,id,id,tV⟩ ⟨rI,rI,rI,rI,tV⟩ ?_
    intro⟨k4,ag4,mt4⟩ hG4
    obtain⟨hk4,hP4⟩:(k4≤(ix mt3 k3).length)∧(mA m mt2 k3 k4 mt4 ag4):=hG4
    show Ct _ _ _ _ [(2,ptr 2 b2 0),(3,ptr 3 b3 0),(4,eqv (.slice none 0 0)),(5,osl 14 v14),(8,bl ag4),(9,int (k3:Int)),(45,int (us.length:Int)),(46,int (k3:Int)),(53,int ((ix mt3 k3).length:Int)),(54,int (k4:Int))] [(2,cell b2 [sl 1 rE_ m.aC,sl 1 gE m.sT]),(3,cell b3 [sl 1 rE_ m.aC,sl 1 gE m.sT]),(14,own v14 90 1 cQ us),(231,aX us 4 1 blE mt4 none)] _
    refine sq (rg (bi J J aN (nl (th (sq ?_)))))
    refine cd J (fun hc4=> ?_) (fun hc4=> ?_)
    ·try simp at hc4
     have hro4:=hP4.1
     obtain⟨hrl4,hrr4⟩:=hP4.1
     have hrk4:=hrr4 k3 O
     refine sk (th (sq (bk (sq (rg (mv (ag (nl (th (sq (Ac 231 2330 k3 J J (by decide) (gK O) (gK O) (rg (mv (mv (iO J J J T.iH O O (lO J J gB J T.fV (mv (iO (eD (key:=2330)).symm J J T.fQ O O (lO J J gB J T.eH (gvS 231 2330 k3 J J (by decide) (gK O) (gK O) (mv ?_)))))))))))))))))))))
     apply dX (t:=64) (pd:=81) rfl
     rotate_left
     ·intro hg0 fin
      have hg0':=hg0
      try simp at hg0'
      refine gy rfl rfl rfl hg0 (lPA rfl rfl T.aZ rfl (gy rfl rfl rfl hg0 (lPA rfl rfl T.aZ rfl (gy rfl rfl rfl hg0 (mv (gy rfl rfl rfl hg0 (mv (gy rfl rfl rfl hg0 (mv (gy rfl rfl rfl hg0 (Rj (φs:= [agg [sl 1 rE_ m.aC,sl 1 gE m.sT],agg [sl 1 rE_ m.aC,sl 1 gE m.sT],int (k3:Int),int (k4:Int),sl 1 nN mt4,bl false]) ⟨.here rfl,.here rfl,.here rfl,.here rfl,.tab 14 231 rfl rfl rfl rfl,.here rfl,tV⟩ (mkn.yN m aS mt4 aS false k3 k4 O O) T.Nt (gy rfl rfl rfl hg0 (no rfl (gy rfl rfl rfl hg0 (mv ?_)))))))))))))))
      apply gOr (t:=72) (pd:=80) rfl
      rotate_left
      ·intro hg1 fin
       have hg1':=hg1
       try simp at hg1'
       exact gy J J J hg1 (lPA J J T.aZ J (gy J J J hg1 (lPA J J T.aZ J (gy J J J hg1 (mv (gy J J J hg1 (mv (gy J J J hg1 (mv (gy J J J hg1 (Rj (φs:= [agg [sl 1 rE_ m.aC,sl 1 gE m.sT],agg [sl 1 rE_ m.aC,sl 1 gE m.sT],int (k4:Int),int (k3:Int),sl 1 nN mt4,bl true]) ⟨.here J,.here J,.here J,.here J,.tab 14 231 J J J J,.here J,tV⟩ (mkn.yN m aS mt4 aS true k4 k3 O O) T.Nt (gy J J J hg1 (no J (gy J J J hg0 (pkF J hg1 J (drp (X:= [(79,_),(78,_),(77,_),(76,_),(75,_),(74,_),(73,_)]) ⟨J,J,J,J,J,J,J,tV⟩ fin))))))))))))))))
      ·intro hg1 fin
       exact gn J J J hg1 J J (gn J J J hg1 J J (gn J J J hg1 J J (gn J J J hg1 J J (gn J J J hg1 J J (gn J J J hg1 J J (gn J J J hg1 J J (gy J J J hg0 (pkT J hg1 J (drp (X:= [(79,_),(78,_),(77,_),(76,_),(75,_),(74,_),(73,_)]) ⟨J,J,J,J,J,J,J,tV⟩ fin)))))))))
      exact pkT rfl hg0 rfl (drp (X:= [(80,_),(72,_),(71,_),(70,_),(69,_),(68,_),(67,_),(66,_),(65,_)]) ⟨rfl,rfl,rfl,rfl,rfl,rfl,rfl,rfl,rfl,tV⟩ fin)
     ·intro hg0 fin
      exact gn J J J hg0 J J (gn J J J hg0 J J (gn J J J hg0 J J (gn J J J hg0 J J (gn J J J hg0 J J (gn J J J hg0 J J (gn J J J hg0 J J (gn J J J hg0 J J (gu J J J J J (gu J J J J J (gu J J J J J (gu J J J J J (gu J J J J J (gu J J J J J (gu J J J J J (gn J J J hg0 J J (pkF J hg0 J (drp (X:= [(80,_),(79,_),(78,_),(77,_),(76,_),(75,_),(74,_),(73,_),(72,_),(71,_),(70,_),(69,_),(68,_),(67,_),(66,_),(65,_)]) ⟨J,J,J,J,J,J,J,J,J,J,J,J,J,J,J,J,tV⟩ fin)))))))))))))))))
     refine nl (th ?_)
     refine cd J (fun hc5=> ?_) (fun hc5=> ?_)
     ·skip
      have hcut:=Qk hP4 O O (Xl hc5)
      refine Ac 231 2340 k3 rfl rfl (by decide) (gK O) (gK O) (rg (mv (mv (iO rfl rfl rfl T.iH O O (lO rfl rfl gB rfl T.fV (mv (iO (eD (key:=2340)).symm rfl rfl T.fQ O O (sO (φ:=bl false) rfl rfl rfl T.eH gB rfl (y':=false) rfl (ag (nl (eb (th (rg (gvU 231 2340 k3 rfl rfl (by decide) (gK O) (bi rfl rfl (aK i6) (mv (nl ?_)))))))))))))))))
      have hN0:(k4+1)≤(ix mt3 k3).length:=by
       first|omega|simp_all
      have hN1:mA m mt2 k3 (k4+1) (mt4.set k3 ((ix mt4 k3).set k4 false)) true:=by
       exact hcut
      exact ln (⟨k4+1,true,mt4.set k3 ((ix mt4 k3).set k4 false)⟩:Nat × Bool × Tab) ⟨hN0,hN1⟩ dO ⟨id,id,id,id,id,id,id,id,id,id,tV⟩ ⟨rI,rI,rI,rI,tV⟩
     ·skip
      have hcut:=Ni hP4 (Xm hc5)
      refine sk (eb (th (rg (bi J J (aK i6) (mv (nl ?_))))))
      have hN0:(k4+1)≤(ix mt3 k3).length:=by
       first|omega|simp_all
      have hN1:mA m mt2 k3 (k4+1) mt4 ag4:=by
       exact hcut
      exact ln (⟨k4+1,ag4,mt4⟩:Nat × Bool × Tab) ⟨hN0,hN1⟩ dO ⟨id,id,id,id,id,id,id,id,id,id,tV⟩ ⟨rI,rI,rI,rI,tV⟩
    ·try simp at hc4
     have hprow:=Ql hP4 O
     refine ex (xt_ (xt_ (xb (eb (th (rg (bi J J (aK i6) (mv (nl ?_)))))))))
     have hN0:(k3+1)≤us.length:=by
      first|omega|simp_all
     have hN1:mA m mt2 (k3+1) 0 mt4 ag4:=by
      exact hprow
     exact ln (⟨k3+1,ag4,mt4⟩:Nat × Bool × Tab) ⟨hN0,hN1⟩ dO ⟨id,id,id,id,id,id,id,tV⟩ ⟨rI,rI,rI,rI,tV⟩
   ·try simp at hc3
    have hpe:=Qm hP3 O
    refine ex (xt_ (xt_ (xb (eb ?_))))
    have hN0:mT m.sT.length mt3∧(ag3=false→yM m mt3):=by
     exact⟨hpe.1,hpe.2.1⟩
    exact ln (⟨ag3,mt3⟩:Bool × Tab) hN0 (by exact Xk hag hpe.2.2) ⟨id,id,id,id,id,tV⟩ ⟨rI,rI,rI,rI,tV⟩
  ·try simp at hc2
   have hag:agn=false:=by simpa using hc2
   obtain⟨hrow2,hfix⟩:=hI2_
   have hfx:=hfix hag
   refine ex (xt_ (xt_ (xb (th (sq (rg (fzB 231 14 J J (by decide) (mv (ag (nl (th (rt ?_))))))))))))
   refine fzA 14 4 rfl rfl ?_
   exact rE ⟨mt2,hrow2,hfx⟩ [.tmp 4] J [sl 1 nN mt2] ⟨.tmp J,tV⟩ J trivial eX
theorem TY (l:List (Int × Int)) (hl:l.length≤1000000) (e:Int × Int):
 Fn0 Tryz.prog 124 [sl 2 pE l,agg [int e.1,int e.2]] (sl 2 pE (lN l e)):=by
 refine fnI Tryz.func124 rfl rfl (fun w0 F0=> ?_)
 refine fcC (aW 0 J) (fun hm0=> ?_)
 refine sq (rg (bx (key:=3) (cs:= [int e.1,int e.2]) J fun b3=>(ag (nl (th (sq (rg (ag (nl (th (sq (bk ?_))))))))))))
 have hI0_0:0≤l.length∧∀j,j<0→ltP (ix l j) e=true:=by
  exact⟨O,fun j hj=>absurd hj O⟩
 refine lp (κ:=Nat) (fun p=> [(0,sl 2 pE l),(3,ptr 3 b3 0),(4,eqv (.slice none 0 0)),(5,int (p:Int))]) (fun p=> [(3,cell b3 [int e.1,int e.2])]) (fun p=>p≤l.length∧∀j,j<p→ltP (ix l j) e=true) (fun p=>l.length- p) 0 hI0_0 ⟨id,id,id,id,tV⟩ ⟨rI,tV⟩ ?_
 intro k hG0
 obtain⟨hkl,hne⟩:k≤l.length∧∀j,j<k→ltP (ix l j) e=true:=hG0
 refine sq (sq (dr (nh:=12) [0,0,2,7,15,31,31,127,255,31,1023,2047] T.mixed kR ?_))
 refine st_ J (fun _ _ _ gq kq=>mv' (gq.1.trans J) kq) ?_
 refine st_ J (fun _ _ _ gq kq=>mv' (gq.1.trans J) kq) ?_
 refine st_ J (fun _ _ _ gq kq=>lnF (gq.1.trans J) T.cC kq) ?_
 refine st_ J (fun _ _ _ gq kq=>bi (gq.1.trans J) (gq.2.1.trans J) aN kq) ?_
 refine st_ J (fun _ _ _ gq kq=>mv' (gq.1.trans J) kq) ?_
 refine sg_ (φ:=sl 2 pE l) J J J J (List.mem_of_elem_eq_true J) (fun hgd=> ?_) ?_
 ·have hgd':=hgd
  try simp at hgd'
  exact fun _ _ _ gq kq=>mv' (gq.1.trans J) kq
 refine sg_ (φ:=int (k:Int)) J J J J (List.mem_of_elem_eq_true J) (fun hgd=> ?_) ?_
 ·have hgd':=hgd
  try simp at hgd'
  exact fun _ _ _ gq kq=>mv' (gq.1.trans J) kq
 refine sg_ (φ:=fp [int ((ix l k).1),int ((ix l k).2)]) J J J J (List.mem_of_elem_eq_true J) (fun hgd=> ?_) ?_
 ·have hgd':=hgd
  try simp at hgd'
  exact fun _ _ _ gq kq=>iF (gq.1.trans (bR hgd)) (gq.2.1.trans (bR hgd)) T.cC O gB kq
 refine sg_ (φ:=agg [int ((ix l k).1),int ((ix l k).2)]) J J J J (List.mem_of_elem_eq_true J) (fun hgd=> ?_) ?_
 ·have hgd':=hgd
  try simp at hgd'
  exact fun _ _ _ gq kq=>lFA (gq.1.trans (bR hgd)) T.bY (Nat.le_of_ble_eq_true J) kq
 refine sg_ (φ:=agg [int e.1,int e.2]) J J J J (List.mem_of_elem_eq_true J) (fun hgd=> ?_) ?_
 ·have hgd':=hgd
  try simp at hgd'
  exact fun _ _ _ gq kq=>lPA (gq.1.trans J) J T.bY J kq
 refine sg_ (φ:=bl (ltP ((ix l k).1,(ix l k).2) (e.1,e.2))) J J J J (List.mem_of_elem_eq_true J) (fun hgd=> ?_) ?_
 ·have hgd':=hgd
  try simp at hgd'
  exact fun _ _ _ gq kq=>bE (φs:= [agg [int ((ix l k).1),int ((ix l k).2)],agg [int e.1,int e.2]]) (φ:=bl (ltP ((ix l k).1,(ix l k).2) (e.1,e.2))) ⟨(gq.1.trans (bR hgd)),(gq.2.1.trans (bR hgd)),tV⟩ (divs.DG ((ix l k).1,(ix l k).2) (e.1,e.2)) T.QL kq
 refine st_ J (fun _ _ _ gq kq=>pk (gq.1.trans J) (pZ (x:= .tmp 10) (gq.1.trans J) (gq.2.1.trans J) J) kq) ?_
 refine pn (nl (th ?_))
 refine cd J (fun hc0=> ?_) (fun hc0=> ?_)
 ·skip
  obtain⟨hk,hb⟩:=Nq hc0
  refine sk (th (bk (rg (mv (bi J J (aK i6) (ag (nl (eb ?_))))))))
  have hN0:(k+1)≤l.length∧∀j,j<(k+1)→ltP (ix l j) e=true:=by
   refine⟨O,fun j hj=> ?_⟩
   by_cases e:j=k
   ·subst e;exact hb
   ·exact hne j O
  exact ln (k+1) hN0 O ⟨id,id,id,id,tV⟩ ⟨rI,tV⟩
 ·skip
  have hpos:k=qU l e:=IY hkl (fun j hj=>hne j hj) (fun hk=>Nr hk hc0)
  refine ex (xt_ (xt_ (xb (th (sq (sq (dr (nh:=12) [0,0,2,7,15,31,31,127,255,31,1023,2047] T.mixed kR ?_)))))))
  refine st_ J (fun _ _ _ gq kq=>mv' (gq.1.trans J) kq) ?_
  refine st_ J (fun _ _ _ gq kq=>mv' (gq.1.trans J) kq) ?_
  refine st_ J (fun _ _ _ gq kq=>lnF (gq.1.trans J) T.cC kq) ?_
  refine st_ J (fun _ _ _ gq kq=>bi (gq.1.trans J) (gq.2.1.trans J) aN kq) ?_
  refine st_ J (fun _ _ _ gq kq=>mv' (gq.1.trans J) kq) ?_
  refine sg_ (φ:=sl 2 pE l) J J J J (List.mem_of_elem_eq_true J) (fun hgd=> ?_) ?_
  ·have hgd':=hgd
   try simp at hgd'
   exact fun _ _ _ gq kq=>mv' (gq.1.trans J) kq
  refine sg_ (φ:=int (k:Int)) J J J J (List.mem_of_elem_eq_true J) (fun hgd=> ?_) ?_
  ·have hgd':=hgd
   try simp at hgd'
   exact fun _ _ _ gq kq=>mv' (gq.1.trans J) kq
  refine sg_ (φ:=fp [int ((ix l k).1),int ((ix l k).2)]) J J J J (List.mem_of_elem_eq_true J) (fun hgd=> ?_) ?_
  ·have hgd':=hgd
   try simp at hgd'
   exact fun _ _ _ gq kq=>iF (gq.1.trans (bR hgd)) (gq.2.1.trans (bR hgd)) T.cC O gB kq
  refine sg_ (φ:=agg [int ((ix l k).1),int ((ix l k).2)]) J J J J (List.mem_of_elem_eq_true J) (fun hgd=> ?_) ?_
  ·have hgd':=hgd
   try simp at hgd'
   exact fun _ _ _ gq kq=>lFA (gq.1.trans (bR hgd)) T.bY (Nat.le_of_ble_eq_true J) kq
  refine sg_ (φ:=agg [int e.1,int e.2]) J J J J (List.mem_of_elem_eq_true J) (fun hgd=> ?_) ?_
  ·have hgd':=hgd
   try simp at hgd'
   exact fun _ _ _ gq kq=>lPA (gq.1.trans J) J T.bY J kq
  refine sg_ (φ:=bl (decide (((ix l k).1,(ix l k).2)=(e.1,e.2)))) J J J J (List.mem_of_elem_eq_true J) (fun hgd=> ?_) ?_
  ·have hgd':=hgd
   try simp at hgd'
   exact fun _ _ _ gq kq=>biE (gq.1.trans (bR hgd)) (gq.2.1.trans (bR hgd)) T.Ke kq
  refine st_ J (fun _ _ _ gq kq=>pk (gq.1.trans J) (pZ (x:= .tmp 24) (gq.1.trans J) (gq.2.1.trans J) J) kq) ?_
  refine pn (nl (th ?_))
  refine cd J (fun hc1=> ?_) (fun hc1=> ?_)
  ·skip
   obtain⟨hk1,he1⟩:=Qr hc1
   refine sq (rg (mv (ag (nl (th (rt (rt_ ?_)))))))
   have hr0:l=(lN l e):=by
    exact(Kn hpos hk1 he1).symm
   exact rE () [.tmp 4] J [sl 2 pE l] ⟨.tmp J,tV⟩ (cA1 (fun x0=>rV [sl 2 pE x0]) hr0) trivial eX
  ·skip
   have hno:=TV hc1
   have htk:(l.take k).length≤1000000:=by rw[List.length_take];omega
   refine sk (th (sq ?_))
   refine drH (nh:=12) [0,0,3,7,0,16,63,0,0,384,1023,2047] [(none,[]),(none,[]),(none,[]),(some 360,[]),(none,[3]),(none,[]),(some 360,[360]),(none,[]),(none,[]),(none,[]),(some 360,[360]),(none,[])] T.mixed kR kR ?_
   refine stv (d:=33) (fun β0=>sl 2 pE l) [] J bH (fun β0 _ _ _ _ gq gh kq=>mv' (gq.1.trans J) kq) ?_
   refine stv (d:=34) (fun β0=>int (k:Int)) [] J bH (fun β0 _ _ _ _ gq gh kq=>mv' (gq.1.trans J) kq) ?_
   refine stv (d:=35) (fun β0=>sl 2 pE (l.take k)) [] J bH (fun β0 _ _ _ _ gq gh kq=>ES (l:=0) (m:=k) (gq.1.trans J) T.cC J (gq.2.1.trans J) O O kq) ?_
   refine stc (d:=36) (e:=94) (n:=2) (enc:=pE) (xs:=l.take k) 360 [] rfl (fun β0 _ _ _ _ gq gh kq=>apO 360 (gq.1.trans rfl) rfl T.lG (by unfold aT at*;omega) (by unfold aT at*;omega) fun v=>kq v) ?_
   refine stv (d:=37) (fun β0=>agg [int e.1,int e.2]) [3] J bH (fun β0 _ _ _ _ gq gh kq=>lPA (gq.1.trans J) (gh.1.trans J) T.bY J kq) ?_
   refine stv (d:=38) (fun β0=>sl 2 pE [(e.1,e.2)]) [] J bH (fun β0 _ _ _ _ gq gh kq=>bsE (enc:=pE) (xs:= [(e.1,e.2)]) (css:= [[int e.1,int e.2]]) T.lG ⟨J,J,pA (cs:= [int e.1,int e.2]) (by exact(gq.1.trans J)),tV⟩ J J J J kq) ?_
   refine stc (d:=39) (e:=94) (n:=2) (enc:=pE) (xs:=(l.take k)++ [(e.1,e.2)]) 360 [360] rfl (fun β0 _ _ _ _ gq gh kq=>ap (key:=360) (zs:= [(e.1,e.2)]) (fun h=>LG (gq.1.trans rfl) h) (gh.1.trans rfl) (gq.2.1.trans rfl) rfl T.lG (by unfold aT at*;simp;omega) (by unfold aT at*;simp;omega) fun v=>kq v) ?_
   refine stv (d:=40) (fun β0=>sl 2 pE l) [] J bH (fun β0 _ _ _ _ gq gh kq=>mv' (gq.1.trans J) kq) ?_
   refine stv (d:=41) (fun β0=>int (k:Int)) [] J bH (fun β0 _ _ _ _ gq gh kq=>mv' (gq.1.trans J) kq) ?_
   refine stv (d:=42) (fun β0=>sl 2 pE ((l.take l.length).drop k)) [] J bH (fun β0 _ _ _ _ gq gh kq=>ES (l:=k) (m:=l.length) (gq.1.trans J) T.cC (gq.2.1.trans J) J O O kq) ?_
   refine stc (d:=43) (e:=94) (n:=2) (enc:=pE) (xs:=((l.take k)++ [(e.1,e.2)])++((l.take l.length).drop k)) 360 [360] rfl (fun β0 _ _ _ _ gq gh kq=>ap (key:=360) (zs:=(l.take l.length).drop k) (fun h=>LG (gq.1.trans rfl) h) (gh.1.trans rfl) (gq.2.1.trans rfl) rfl T.lG (by unfold aT at*;simp;omega) (by unfold aT at*;simp;omega) fun v=>kq v) ?_
   refine stv (d:=4) (fun β0=>osl 360 (sv (β0 10))) [] J (fun β β' hb=>by first|rw[hb 10 J]|(dsimp only;rw[hb 10 J])) (fun β0 _ _ _ _ gq gh kq=>ag' (gq.1.trans J) kq) ?_
   refine pnH fun β0=>(nl (th (rt ?_)))
   refine fzA 360 4 rfl rfl ?_
   have hr0:(((l.take k)++ [(e.1,e.2)])++((l.take l.length).drop k))=(lN l e):=by
    rw[Nl hpos hno,List.take_length]
   exact rE () [.tmp 4] J [sl 2 pE (((l.take k)++ [(e.1,e.2)])++((l.take l.length).drop k))] ⟨.tmp J,tV⟩ (cA1 (fun x0=>rV [sl 2 pE x0]) hr0) trivial eX
theorem Nu (m:aA) (hm:aY m) (hN:Co m):
 Fn0 Tryz.prog 77 [sys m] (tup [agg [strs m.aC,sl 1 gE ((aG m).map fun x=>kF (eJ m.sT.length (aG m)) (ix m.sT x.toNat))],ints (eJ m.sT.length (aG m))]):=by
 refine fnI Tryz.func77 rfl rfl (fun w0 F0=> ?_)
 have f1:=hm.few1;have f0:=hm.few0;have hle:=mH hm;have hq:=jD hm;have hn8:=hm.n8
 have hrpl:(List.replicate m.sT.length (0:Int)).length=m.sT.length:=List.length_replicate ..
 refine fcC (cE 0 J) (fun hS0=> ?_)
 obtain⟨hma0,hms0,hme0⟩:=cG hS0
 refine sq (rg (bx (key:=1) (cs:= [sl 1 rE_ m.aC,sl 1 gE m.sT]) J fun b1=>(al (key:=2) T.z25 (eC (eC eZ)) fun b2=>(ag (nl (th (sq (rg (lPA J J T.aZ J (lPA J J T.aZ J (cl (mkn.Kq m aS) T.Wh trivial fun N20 i20=>(ag (nl (th (sq (rg (fP J T.bN (lP J J J T.cH (fc (aW 22 J) fun hm22=>(lnF J T.eB (mk (key:=24) (m:=m.sT.length) (enc:=nE) (y:=(0:Int)) J J T.cT (eC eZ) mL mL fun v24=>(ag (nl (th (sq (sq (rg (mv (lnO J J T.aU (mv (nl (th (bk ?_)))))))))))))))))))))))))))))))))
 have hI0_0:0≤(List.replicate m.sT.length (0:Int)).length:=by
  first|omega|simp
 have hI0_1:(List.replicate m.sT.length (0:Int))=List.replicate 0 (-1)++List.replicate (m.sT.length- 0) 0:=by
  rfl
 refine lp (κ:=Nat × (List Int)) (fun p=> [(1,ptr 1 b1 0),(2,ptr 2 b2 0),(3,eqv (.slice none 0 0)),(4,sl 1 nN i20.1),(5,osl 24 v24),(26,int ((List.replicate m.sT.length (0:Int)).length:Int)),(27,int (p.1:Int))]) (fun p=> [(1,cell b1 [sl 1 rE_ m.aC,sl 1 gE m.sT]),(2,cell b2 [eqv (.slice none 0 0),eqv (.slice none 0 0)]),(24,own v24 3 1 nE p.2)]) (fun p=>(p.1≤(List.replicate m.sT.length (0:Int)).length)∧(p.2=List.replicate p.1 (-1)++List.replicate (m.sT.length- p.1) 0)) (fun p=>(List.replicate m.sT.length (0:Int)).length- p.1) ⟨0,List.replicate m.sT.length (0:Int)⟩ ⟨hI0_0,hI0_1⟩ ⟨id,id,id,id,id,id,id,tV⟩ ⟨rI,rI,rI,tV⟩ ?_
 intro⟨k,cl⟩ hG0
 obtain⟨hk0,hcl⟩:(k≤(List.replicate m.sT.length (0:Int)).length)∧(cl=List.replicate k (-1)++List.replicate (m.sT.length- k) 0):=hG0
 show Ct _ _ _ _ [(1,ptr 1 b1 0),(2,ptr 2 b2 0),(3,eqv (.slice none 0 0)),(4,sl 1 nN i20.1),(5,osl 24 v24),(26,int ((List.replicate m.sT.length (0:Int)).length:Int)),(27,int (k:Int))] [(1,cell b1 [sl 1 rE_ m.aC,sl 1 gE m.sT]),(2,cell b2 [eqv (.slice none 0 0),eqv (.slice none 0 0)]),(24,own v24 3 1 nE cl)] _
 have hcll:cl.length=m.sT.length:=by rw[hcl,List.length_append,List.length_replicate,List.length_replicate];omega
 refine sq (rg (bi J J aN (nl (th (sq ?_)))))
 refine cd J (fun hc0=> ?_) (fun hc0=> ?_)
 ·try simp at hc0
  refine sk (th (sq (bk (sq (rg (mv (ag (nl (th (rg (mv (mv (iO J J J T.aU O O (sO (φ:=int (-1)) J J J T.aD gB J (y':=(-1)) J (nl (eb (th (rg (bi J J (aK i6) (mv (nl ?_)))))))))))))))))))))
  have hN0:(k+1)≤(List.replicate m.sT.length (0:Int)).length:=by
   first|omega|simp_all
  have hN1:(cl.set k (-1))=List.replicate (k+1) (-1)++List.replicate (m.sT.length- (k+1)) 0:=by
   rw[hcl];exact Ib _ _ hc0
  exact ln (⟨k+1,cl.set k (-1)⟩:Nat × (List Int)) ⟨hN0,hN1⟩ dO ⟨id,id,id,id,id,id,id,tV⟩ ⟨rI,rI,rI,tV⟩
 ·try simp at hc0
  have hcz:cl=eJ m.sT.length []:=by rw[hcl,Nj,show k=m.sT.length by omega,Nat.sub_self,List.replicate_zero,List.append_nil]
  refine ex (xt_ (xt_ (xb (th (sq (rg (nw 7 3 1 nE (ag (rtg (key:=7) 7 J (nl (th (sq (sq (rg (lPA J J T.aZ J (bE (φs:= [agg [sl 1 rE_ m.aC,sl 1 gE m.sT],int 0]) (φ:=sl 1 nE (aG m)) ⟨J,J,tV⟩ (mks.Qa m aS) T.Wi (fc (aW 35 J) fun hm35=>(lnF J T.aU (mv (nl (th (bk ?_))))))))))))))))))))))
  have hI1_0:0≤(aG m).length:=by
   first|omega|simp
  have hI1_1:cl=eJ m.sT.length ((aG m).take 0)∧([]:List Int)=(aG m).take 0:=by
   exact⟨hcz,rfl⟩
  refine lp (κ:=Nat × (List Int) × Value × (List Int)) (fun p=> [(1,ptr 1 b1 0),(2,ptr 2 b2 0),(3,eqv (.slice none 0 0)),(4,sl 1 nN i20.1),(5,osl 24 v24),(7,osl 7 p.2.2.1),(35,sl 1 nE (aG m)),(36,int ((aG m).length:Int)),(37,int (p.1:Int))]) (fun p=> [(1,cell b1 [sl 1 rE_ m.aC,sl 1 gE m.sT]),(2,cell b2 [eqv (.slice none 0 0),eqv (.slice none 0 0)]),(7,own p.2.2.1 3 1 nE p.2.2.2),(24,own v24 3 1 nE p.2.1)]) (fun p=>(p.1≤(aG m).length)∧(p.2.1=eJ m.sT.length ((aG m).take p.1)∧p.2.2.2=(aG m).take p.1)) (fun p=>(aG m).length- p.1) ⟨0,cl,(.slice none 0 0),([]:List Int)⟩ ⟨hI1_0,hI1_1⟩ ⟨id,id,id,id,id,id,id,id,id,tV⟩ ⟨rI,rI,rI,rI,tV⟩ ?_
  intro⟨k1,cl1,w7,fi⟩ hG1
  obtain⟨hk1,⟨hcl1,hfi⟩⟩:(k1≤(aG m).length)∧(cl1=eJ m.sT.length ((aG m).take k1)∧fi=(aG m).take k1):=hG1
  show Ct _ _ _ _ [(1,ptr 1 b1 0),(2,ptr 2 b2 0),(3,eqv (.slice none 0 0)),(4,sl 1 nN i20.1),(5,osl 24 v24),(7,osl 7 w7),(35,sl 1 nE (aG m)),(36,int ((aG m).length:Int)),(37,int (k1:Int))] [(1,cell b1 [sl 1 rE_ m.aC,sl 1 gE m.sT]),(2,cell b2 [eqv (.slice none 0 0),eqv (.slice none 0 0)]),(7,own w7 3 1 nE fi),(24,own v24 3 1 nE cl1)] _
  have hc1l:cl1.length=m.sT.length:=by rw[hcl1];exact Qn _ _
  have hfil:fi.length≤k1:=by rw[hfi];simp;omega
  refine sq (rg (bi J J aN (nl (th (sq ?_)))))
  refine cd J (fun hc1=> ?_) (fun hc1=> ?_)
  ·try simp at hc1
   have hxb:=hq.bd _ (aR (l:=aG m) (i:=k1) O)
   have hxn:ix (aG m) k1∉(aG m).take k1:=TX hq.nd O
   have hcb:=TU (n:=m.sT.length) (q:=(aG m).take k1) (x:=(ix (aG m) k1).toNat) O
   have hcx:ix cl1 (ix (aG m) k1).toNat= -1:=by rw[hcl1,IX O,Int.toNat_of_nonneg hxb.1,if_neg hxn]
   refine sk (th (sq (bk (sq (rg (iF J J T.aU O gB (lF J J T.aD (ag (nl (th (sq (sq (rg (mv (lnO J J T.aU (mv (nl (th (bk ?_)))))))))))))))))))
   have hI2_0:0≤fi.length:=by
    first|omega|simp
   have hI2_1:0≤0:=by
    exact Nat.le_refl _
   refine lp (κ:=Nat) (fun p=> [(1,ptr 1 b1 0),(2,ptr 2 b2 0),(3,eqv (.slice none 0 0)),(4,sl 1 nN i20.1),(5,osl 24 v24),(7,osl 7 w7),(9,int (ix (aG m) k1)),(35,sl 1 nE (aG m)),(36,int ((aG m).length:Int)),(37,int (k1:Int)),(41,osl 7 w7),(42,int (fi.length:Int)),(43,int (p:Int))]) (fun p=> [(1,cell b1 [sl 1 rE_ m.aC,sl 1 gE m.sT]),(2,cell b2 [eqv (.slice none 0 0),eqv (.slice none 0 0)]),(7,own w7 3 1 nE fi),(24,own v24 3 1 nE cl1)]) (fun p=>(p≤fi.length)∧(p≤p)) (fun p=>fi.length- p) 0 ⟨hI2_0,hI2_1⟩ ⟨id,id,id,id,id,id,id,id,id,id,id,id,id,tV⟩ ⟨rI,rI,rI,rI,tV⟩ ?_
   intro k2 hG2
   obtain⟨hk2,hI2⟩:(k2≤fi.length)∧(k2≤k2):=hG2
   refine sq (rg (bi J J aN (nl (th (sq ?_)))))
   refine cd J (fun hc2=> ?_) (fun hc2=> ?_)
   ·try simp at hc2
    have hfk:ix fi k2=ix ((aG m).take k1) k2:=by rw[hfi]
    have hyb:=hq.bd _ (List.mem_of_mem_take (aR (l:=(aG m).take k1) (i:=k2) (by rw[←hfi];omega)))
    have hoff:=TT hm hN i20.2.2 (x:=(ix (aG m) k1).toNat) (y:=(ix ((aG m).take k1) k2).toNat) O O (fun e=>hxn (by rw[show ix (aG m) k1=ix ((aG m).take k1) k2 by omega];exact aR (by rw[←hfi];omega)))
    have hrl:=i20.2.1.1
    have hrr:=i20.2.1.2 (ix (aG m) k1).toNat O
    refine sk (th (sq (bk (sq (rg (mv (iO J J J T.aU O O (lO J J gB J T.aD (ag (ag (nl (th (sq (rg (mv (mv (iF J J T.iH O gB (lF J J T.fV (mv (iF J J T.fQ O gB (lF J J T.eH (nl (th ?_)))))))))))))))))))))))
    refine cd J (fun hc3=> ?_) (fun hc3=> ?_)
    ·skip
     exact absurd hc3 (by rw[hfi,hoff];decide)
    ·skip
     refine sk (eb (th (rg (bi J J (aK i6) (mv (nl ?_))))))
     have hN0:(k2+1)≤fi.length:=by
      first|omega|simp_all
     have hN1:(k2+1)≤(k2+1):=by
      exact Nat.le_refl _
     exact ln (k2+1) ⟨hN0,hN1⟩ dO ⟨id,id,id,id,id,id,id,id,id,id,id,id,id,tV⟩ ⟨rI,rI,rI,rI,tV⟩
   ·try simp at hc2
    refine ex (xt_ (xt_ (xb (th (sq (rg (mv (mv (iO J J J T.aU O O (lO J J gB J T.aD (bi J J aN (nl (th ?_)))))))))))))
    refine cd J (fun hc4=> ?_) (fun hc4=> ?_)
    ·skip
     refine sq (rg (mv (mv (mv (lnO J J T.aU (iO J J J T.aU O O (sO (φ:=int (fi.length:Int)) J J J T.aD gB J (y':=(fi.length:Int)) J (nl (th (rg (mv (mv (bsE (enc:=nE) (xs:= [(ix (aG m) k1)]) (css:= [[int (ix (aG m) k1)]]) T.cT ⟨J,J,p1 (φ:=int (ix (aG m) k1)) J,tV⟩ J J J J (ap (key:=7) (zs:= [(ix (aG m) k1)]) cD J J J T.cT (by unfold aT at*;simp;omega) (by unfold aT at*;simp;omega) fun v73=>(ag (nl (eb (th (rg (bi J J (aK i6) (mv (nl ?_))))))))))))))))))))))
     have hN0:(k1+1)≤(aG m).length:=by
      first|omega|simp_all
     have hN1:(cl1.set (ix (aG m) k1).toNat (fi.length:Int))=eJ m.sT.length ((aG m).take (k1+1))∧(fi++ [(ix (aG m) k1)])=(aG m).take (k1+1):=by
      refine⟨?_,?_⟩
      ·rw[bJ O,←Qo hxb.1 hxb.2 hxn,hcl1,hfi]
      ·rw[bJ O,hfi]
     exact ln (⟨k1+1,cl1.set (ix (aG m) k1).toNat (fi.length:Int),v73,fi++ [(ix (aG m) k1)]⟩:Nat × (List Int) × Value × (List Int)) ⟨hN0,hN1⟩ dO ⟨id,id,id,id,id,id,id,id,id,tV⟩ ⟨rI,rI,rI,rI,tV⟩
    ·skip
     exact absurd hc4 (by rw[hcx];decide)
  ·try simp at hc1
   have hfa:fi=(aG m):=by rw[hfi,List.take_of_length_le O]
   have hca:cl1=eJ m.sT.length (aG m):=by rw[hcl1,List.take_of_length_le O]
   refine ex (xt_ (xt_ (xb (th (sq (rg (fP J T.gS (lP J J J T.dE (Rn (enc:=rE_) (ys:=m.aC) J J T.Cx mL (bd (css:= [(0,_)]) T.lY (eC (eC eZ)) ⟨J,J,p1 (φ:=sl 1 rE_ m.aC) J,tV⟩ (al (key:=12) T.z25 (eC (eC eZ)) fun b12=>(sPA (cs':= [sl 1 rE_ m.aC,eqv (.slice none 0 0)]) J J J T.aZ J J (nl (th (sq (sq (rg (mv (lnO J J T.aU (mv (nl (th (bk ?_)))))))))))))))))))))))
   refine nwC 112 87 1 gE (nB 12 1 (osl 112 (.slice none 0 0)) rfl rfl dH ?_)
   have hI3_0:0≤fi.length:=by
    first|omega|simp
   have hI3_1:([]:List (List (Int × Int)))=(fi.take 0).map fun x=>kF (eJ m.sT.length (aG m)) (ix m.sT x.toNat):=by
    rfl
   refine lp (κ:=Nat × Value × (List (List (Int × Int)))) (fun p=> [(1,ptr 1 b1 0),(2,ptr 2 b2 0),(3,eqv (.slice none 0 0)),(5,osl 24 v24),(12,ptr 12 b12 0),(79,osl 7 w7),(80,int (fi.length:Int)),(81,int (p.1:Int))]) (fun p=> [(1,cell b1 [sl 1 rE_ m.aC,sl 1 gE m.sT]),(2,cell b2 [eqv (.slice none 0 0),eqv (.slice none 0 0)]),(7,own w7 3 1 nE fi),(12,cell b12 [sl 1 rE_ m.aC,osl 112 p.2.1]),(24,own v24 3 1 nE cl1),(112,own p.2.1 87 1 gE p.2.2)]) (fun p=>(p.1≤fi.length)∧(p.2.2=(fi.take p.1).map fun x=>kF (eJ m.sT.length (aG m)) (ix m.sT x.toNat))) (fun p=>fi.length- p.1) ⟨0,(.slice none 0 0),([]:List (List (Int × Int)))⟩ ⟨hI3_0,hI3_1⟩ ⟨id,id,id,id,id,id,id,id,tV⟩ ⟨rI,rI,rI,rI,rI,rI,tV⟩ ?_
   intro⟨k3,u12,aL⟩ hG3
   obtain⟨hk3,houts⟩:(k3≤fi.length)∧(aL=(fi.take k3).map fun x=>kF (eJ m.sT.length (aG m)) (ix m.sT x.toNat)):=hG3
   show Ct _ _ _ _ [(1,ptr 1 b1 0),(2,ptr 2 b2 0),(3,eqv (.slice none 0 0)),(5,osl 24 v24),(12,ptr 12 b12 0),(79,osl 7 w7),(80,int (fi.length:Int)),(81,int (k3:Int))] [(1,cell b1 [sl 1 rE_ m.aC,sl 1 gE m.sT]),(2,cell b2 [eqv (.slice none 0 0),eqv (.slice none 0 0)]),(7,own w7 3 1 nE fi),(12,cell b12 [sl 1 rE_ m.aC,osl 112 u12]),(24,own v24 3 1 nE cl1),(112,own u12 87 1 gE aL)] _
   have hol:aL.length≤k3:=by rw[houts];simp;omega
   refine sq (rg (bi J J aN (nl (th (sq ?_)))))
   refine cd J (fun hc5=> ?_) (fun hc5=> ?_)
   ·try simp at hc5
    have hxb5:=hq.bd (ix fi k3) (by rw[hfa];exact aR (by rw[←hfa];omega))
    have hmn5:=hm.many (ix fi k3).toNat O
    have hmn6:(ix m.sT (ix fi k3).toNat).length≤400000:=hmn5
    refine sk (th (sq (bk (sq (rg (iO J J J T.aU O O (lO J J gB J T.aD (ag (nl (th (sq (rg (ag (kn 15 (sl 2 pE []) J slnil (nl (th (sq (sq (rg (fP J T.bN (lP J J J T.cH (mv (iF J J T.eB O gB (lF J J T.fB (fc (aW 89 J) fun hm89=>(lnF J T.cC (mv (nl (th (bk ?_))))))))))))))))))))))))))))))
    have hI4_0:0≤(ix m.sT (ix fi k3).toNat).length:=by
     first|omega|simp
    have hI4_1:([]:List (Int × Int))=kF (eJ m.sT.length (aG m)) ((ix m.sT (ix fi k3).toNat).take 0):=by
     rfl
    refine lp (κ:=Nat × (List (Int × Int))) (fun p=> [(1,ptr 1 b1 0),(2,ptr 2 b2 0),(3,eqv (.slice none 0 0)),(5,osl 24 v24),(12,ptr 12 b12 0),(15,sl 2 pE p.2),(79,osl 7 w7),(80,int (fi.length:Int)),(81,int (k3:Int)),(89,sl 2 pE (ix m.sT (ix fi k3).toNat)),(90,int ((ix m.sT (ix fi k3).toNat).length:Int)),(91,int (p.1:Int))]) (fun p=> [(1,cell b1 [sl 1 rE_ m.aC,sl 1 gE m.sT]),(2,cell b2 [eqv (.slice none 0 0),eqv (.slice none 0 0)]),(7,own w7 3 1 nE fi),(12,cell b12 [sl 1 rE_ m.aC,osl 112 u12]),(24,own v24 3 1 nE cl1),(112,own u12 87 1 gE aL)]) (fun p=>(p.1≤(ix m.sT (ix fi k3).toNat).length)∧(p.2=kF (eJ m.sT.length (aG m)) ((ix m.sT (ix fi k3).toNat).take p.1))) (fun p=>(ix m.sT (ix fi k3).toNat).length- p.1) ⟨0,([]:List (Int × Int))⟩ ⟨hI4_0,hI4_1⟩ ⟨id,id,id,id,id,id,id,id,id,id,id,id,tV⟩ ⟨rI,rI,rI,rI,rI,rI,tV⟩ ?_
    intro⟨k4,es⟩ hG4
    obtain⟨hk4,hes⟩:(k4≤(ix m.sT (ix fi k3).toNat).length)∧(es=kF (eJ m.sT.length (aG m)) ((ix m.sT (ix fi k3).toNat).take k4)):=hG4
    show Ct _ _ _ _ [(1,ptr 1 b1 0),(2,ptr 2 b2 0),(3,eqv (.slice none 0 0)),(5,osl 24 v24),(12,ptr 12 b12 0),(15,sl 2 pE es),(79,osl 7 w7),(80,int (fi.length:Int)),(81,int (k3:Int)),(89,sl 2 pE (ix m.sT (ix fi k3).toNat)),(90,int ((ix m.sT (ix fi k3).toNat).length:Int)),(91,int (k4:Int))] [(1,cell b1 [sl 1 rE_ m.aC,sl 1 gE m.sT]),(2,cell b2 [eqv (.slice none 0 0),eqv (.slice none 0 0)]),(7,own w7 3 1 nE fi),(12,cell b12 [sl 1 rE_ m.aC,osl 112 u12]),(24,own v24 3 1 nE cl1),(112,own u12 87 1 gE aL)] _
    have hesl:es.length≤400000:=by rw[hes];have:=Qp (eJ m.sT.length (aG m)) (ix m.sT (ix fi k3).toNat) k4;omega
    refine sq (rg (bi J J aN (nl (th (sq ?_)))))
    refine cd J (fun hc6=> ?_) (fun hc6=> ?_)
    ·try simp at hc6
     have hed:=hm.ed (ix fi k3).toNat O _ (aR (l:=ix m.sT (ix fi k3).toNat) (i:=k4) O)
     have hed2:0≤(ix (ix m.sT (ix fi k3).toNat) k4).2∧(ix (ix m.sT (ix fi k3).toNat) k4).2<(m.sT.length:Int):=hed.2.2
     refine sk (th (sq (bk (sq (rg (iF J J T.cC O gB (lFA J T.bY (Nat.le_of_ble_eq_true J) (al (key:=17) T.z94 (eC (eC eZ)) fun b17=>(sPA (cs':= [int ((ix (ix m.sT (ix fi k3).toNat) k4).1),int ((ix (ix m.sT (ix fi k3).toNat) k4).2)]) J J J T.bY J J (nl (th (dr (nh:=11) [0,0,2,0,0,16,56,120,254,511,1023] T.mixed kR ?_))))))))))))
     refine st_ J (fun _ _ _ gq kq=>mv' (gq.1.trans J) kq) ?_
     refine st_ J (fun _ _ _ gq kq=>fP (gq.1.trans J) T.cR kq) ?_
     refine st_ J (fun _ _ _ gq kq=>lP (gq.1.trans J) J J T.aD kq) ?_
     refine st_ J (fun _ _ _ gq kq=>mv' (gq.1.trans J) kq) ?_
     refine st_ J (fun _ _ _ gq kq=>fP (gq.1.trans J) T.cS kq) ?_
     refine st_ J (fun _ _ _ gq kq=>lP (gq.1.trans J) J J T.aD kq) ?_
     refine st_ J (fun _ _ _ gq kq=>iO (gq.1.trans J) J (gq.2.1.trans J) T.aU O O kq) ?_
     refine st_ J (fun _ _ _ gq kq=>lO (gq.1.trans J) J gB J T.aD kq) ?_
     refine st_ J (fun _ _ _ gq kq=>bd (css:= [(0,_),(1,_)]) T.wJ (eC (eC eZ)) ⟨J,J,p1 (φ:=int ((ix (ix m.sT (ix fi k3).toNat) k4).1)) (by exact(gq.1.trans J)),⟨J,J,p1 (φ:=int (ix cl1 ((ix (ix m.sT (ix fi k3).toNat) k4).2).toNat)) (by exact(gq.2.1.trans J)),tV⟩⟩ kq) ?_
     refine st_ J (fun _ _ _ gq kq=>bE (φs:= [sl 2 pE es,agg [int ((ix (ix m.sT (ix fi k3).toNat) k4).1),int (ix cl1 ((ix (ix m.sT (ix fi k3).toNat) k4).2).toNat)]]) (φ:=sl 2 pE (lN es ((ix (ix m.sT (ix fi k3).toNat) k4).1,ix cl1 ((ix (ix m.sT (ix fi k3).toNat) k4).2).toNat))) ⟨(gq.1.trans J),(gq.2.1.trans J),tV⟩ (mkn.TY es O ((ix (ix m.sT (ix fi k3).toNat) k4).1,ix cl1 ((ix (ix m.sT (ix fi k3).toNat) k4).2).toNat)) T.Wj kq) ?_
     refine st_ J (fun _ _ _ gq kq=>ag' (gq.1.trans J) kq) ?_
     refine pn (nl (eb (th (rg (bi J J (aK i6) (mv (nl ?_)))))))
     have hN0:(k4+1)≤(ix m.sT (ix fi k3).toNat).length:=by
      first|omega|simp_all
     have hN1:(lN es ((ix (ix m.sT (ix fi k3).toNat) k4).1,ix cl1 ((ix (ix m.sT (ix fi k3).toNat) k4).2).toNat))=kF (eJ m.sT.length (aG m)) ((ix m.sT (ix fi k3).toNat).take (k4+1)):=by
      rw[Ee O,←hes,hca]
     exact ln (⟨k4+1,lN es ((ix (ix m.sT (ix fi k3).toNat) k4).1,ix cl1 ((ix (ix m.sT (ix fi k3).toNat) k4).2).toNat)⟩:Nat × (List (Int × Int))) ⟨hN0,hN1⟩ dO ⟨id,id,id,id,id,id,id,id,id,id,id,id,tV⟩ ⟨rI,rI,rI,rI,rI,rI,tV⟩
    ·try simp at hc6
     refine ex (xt_ (xt_ (xb (th (rg (fP J T.bN (lP J J J T.cH (mv (bsE (enc:=gE) (xs:= [es]) (css:= [[sl 2 pE es]]) T.pP ⟨J,J,p1 (φ:=sl 2 pE es) J,tV⟩ J J J J (ap (key:=112) (zs:= [es]) cD J J J T.pP (by unfold aT at*;simp;omega) (by unfold aT at*;simp;omega) fun v110=>(fP J T.bN (cU J J J J T.cH J (nl (eb (th (rg (bi J J (aK i6) (mv (nl ?_)))))))))))))))))))
     have hN0:(k3+1)≤fi.length:=by
      first|omega|simp_all
     have hN1:(aL++ [es])=(fi.take (k3+1)).map fun x=>kF (eJ m.sT.length (aG m)) (ix m.sT x.toNat):=by
      rw[bJ O,List.map_append,←houts,hes,List.take_of_length_le O];rfl
     exact ln (⟨k3+1,v110,aL++ [es]⟩:Nat × Value × (List (List (Int × Int)))) ⟨hN0,hN1⟩ dO ⟨id,id,id,id,id,id,id,id,tV⟩ ⟨rI,rI,rI,rI,rI,rI,tV⟩
   ·try simp at hc5
    refine ex (xt_ (xt_ (xb (th (sq (rg (fzc 12 112 1 J J J J (lPA J J T.aZ J (mv (sPA (cs':= [sl 1 rE_ m.aC,sl 1 gE aL]) J J J T.aZ J J (ag (nl (th (rt ?_))))))))))))))
    refine fzA 24 3 rfl rfl ?_
    have hr0:aL=((aG m).map fun x=>kF (eJ m.sT.length (aG m)) (ix m.sT x.toNat)):=by
     rw[houts,List.take_of_length_le O,hfa]
    have hr1:cl1=(eJ m.sT.length (aG m)):=by
     exact hca
    exact rE () [.cell 2 25,.tmp 3] J [agg [sl 1 rE_ m.aC,sl 1 gE aL],sl 1 nE cl1] ⟨.agg J J T.aZ J J,.tmp J,tV⟩ (cA2 (fun x0 x1=>rV [agg [sl 1 rE_ m.aC,sl 1 gE x0],sl 1 nE x1]) hr0 hr1) trivial eX
theorem TZ (m:aA) (hm:aY m) (hN:Co m):
 Fn0 Tryz.prog 35 [sys m] (bl true):=by
 refine fnI Tryz.func35 rfl rfl (fun w0 F0=> ?_)
 have f1:=hm.few1;have hall:=hN.all
 refine fcC (cE 0 J) (fun hS0=> ?_)
 obtain⟨hma0,hms0,hme0⟩:=cG hS0
 refine sq (rg (bx (key:=1) (cs:= [sl 1 rE_ m.aC,sl 1 gE m.sT]) J fun b1=>(ag (nl (th (sq (sq (rg (fP J T.bN (lP J J J T.cH (fc (aW 9 J) fun hm9=>(lnF J T.eB (mv (nl (th (bk ?_))))))))))))))))
 have hI0_0:0≤m.sT.length:=by
  first|omega|simp
 have hI0_1:0≤0:=by
  exact Nat.le_refl _
 refine lp (κ:=Nat) (fun p=> [(1,ptr 1 b1 0),(9,sl 1 gE m.sT),(10,int (m.sT.length:Int)),(11,int (p:Int))]) (fun p=> [(1,cell b1 [sl 1 rE_ m.aC,sl 1 gE m.sT])]) (fun p=>(p≤m.sT.length)∧(p≤p)) (fun p=>m.sT.length- p) 0 ⟨hI0_0,hI0_1⟩ ⟨id,id,id,id,tV⟩ ⟨rI,tV⟩ ?_
 intro k hG0
 obtain⟨hk0,hI0⟩:(k≤m.sT.length)∧(k≤k):=hG0
 refine sq (rg (bi J J aN (nl (th (sq ?_)))))
 refine cd J (fun hc0=> ?_) (fun hc0=> ?_)
 ·try simp at hc0
  have hmny:=hm.many k O
  have hmn2:(ix m.sT k).length≤400000:=hmny
  refine sk (th (sq (bk (sq (rg (iF J J T.eB O gB (lF J J T.fB (ag (nl (th (sq (rg (ag (nl (th (bk ?_))))))))))))))))
  have hI1_0:1≤1∧1≤400001:=by
   exact⟨O,O⟩
  refine lp (κ:=Nat) (fun p=> [(1,ptr 1 b1 0),(4,sl 2 pE (ix m.sT k)),(5,int (p:Int)),(9,sl 1 gE m.sT),(10,int (m.sT.length:Int)),(11,int (k:Int))]) (fun p=> [(1,cell b1 [sl 1 rE_ m.aC,sl 1 gE m.sT])]) (fun p=>1≤p∧p≤400001) (fun p=>400001- p) 1 hI1_0 ⟨id,id,id,id,id,id,tV⟩ ⟨rI,tV⟩ ?_
  intro i hG1
  obtain⟨hi1,hi2⟩:1≤i∧i≤400001:=hG1
  refine sq (sq (rg (mv (mv (fc (aW 16 J) fun hm16=>(lnF J T.cC (bi J J aN (nl (th ?_)))))))))
  refine cd J (fun hc1=> ?_) (fun hc1=> ?_)
  ·try simp at hc1
   have hdt:=hN.det k O (i- 1) O
   rw[show i- 1+1=i by omega] at hdt
   refine sk (th (sq (bk (sq (dr (nh:=12) [0,0,2,7,15,31,0,0,192,448,960,2047] T.mixed kR ?_)))))
   refine st_ J (fun _ _ _ gq kq=>mv' (gq.1.trans J) kq) ?_
   refine st_ J (fun _ _ _ gq kq=>mv' (gq.1.trans J) kq) ?_
   refine st_ J (fun _ _ _ gq kq=>bi (gq.1.trans J) J (kI i6) kq) ?_
   refine st_ J (fun _ _ _ gq kq=>iF (gq.1.trans J) (gq.2.1.trans J) T.cC O gB kq) ?_
   refine st_ J (fun _ _ _ gq kq=>fF (gq.1.trans J) T.cR kq) ?_
   refine st_ J (fun _ _ _ gq kq=>lF (gq.1.trans J) J T.aD kq) ?_
   refine st_ J (fun _ _ _ gq kq=>mv' (gq.1.trans J) kq) ?_
   refine st_ J (fun _ _ _ gq kq=>mv' (gq.1.trans J) kq) ?_
   refine st_ J (fun _ _ _ gq kq=>iF (gq.1.trans J) (gq.2.1.trans J) T.cC O gB kq) ?_
   refine st_ J (fun _ _ _ gq kq=>fF (gq.1.trans J) T.cR kq) ?_
   refine st_ J (fun _ _ _ gq kq=>lF (gq.1.trans J) J T.aD kq) ?_
   refine st_ J (fun _ _ _ gq kq=>bi (gq.1.trans J) (gq.2.1.trans J) fJ kq) ?_
   refine pn (nl (th ?_))
   refine cd J (fun hc2=> ?_) (fun hc2=> ?_)
   ·skip
    exact absurd hc2 (by simpa using hdt)
   ·skip
    refine sk (eb (th (rg (mv (bi J J (aK i6) (ag (nl ?_)))))))
    have hN0:1≤(i+1)∧(i+1)≤400001:=by
     exact⟨O,O⟩
    exact ln (i+1) hN0 O ⟨id,id,id,id,id,id,tV⟩ ⟨rI,tV⟩
  ·try simp at hc1
   refine ex (xt_ (xt_ (xb (eb (th (rg (bi J J (aK i6) (mv (nl ?_)))))))))
   have hN0:(k+1)≤m.sT.length:=by
    first|omega|simp_all
   have hN1:(k+1)≤(k+1):=by
    exact Nat.le_refl _
   exact ln (k+1) ⟨hN0,hN1⟩ dO ⟨id,id,id,id,tV⟩ ⟨rI,tV⟩
 ·try simp at hc0
  refine ex (xt_ (xt_ (xb (th (sq (rg (lPA J J T.aZ J (bE (φs:= [agg [sl 1 rE_ m.aC,sl 1 gE m.sT]]) (φ:=tup [agg [sl 1 rE_ m.aC,sl 1 gE ((aG m).map fun x=>kF (eJ m.sT.length (aG m)) (ix m.sT x.toNat))],sl 1 nE (eJ m.sT.length (aG m))]) ⟨J,tV⟩ (mkn.Nu m aS aS) T.Xn (mv (xt J J (xt J J (al (key:=6) T.z25 (eC (eC eZ)) fun b6=>(sPA (cs':= [sl 1 rE_ m.aC,sl 1 gE ((aG m).map fun x=>kF (eJ m.sT.length (aG m)) (ix m.sT x.toNat))]) J J J T.aZ J J (ag (nl (th (sq (rg (fP J T.bN (lP J J J T.cH (fc (aW 40 J) fun hm40=>(lnF J T.eB (fP J T.bN (lP J J J T.cH (lnF J T.eB (bi J J fJ (ag (nl (th (rt ?_))))))))))))))))))))))))))))))
  have hr0:(decide ((((aG m).map fun x=>kF (eJ m.sT.length (aG m)) (ix m.sT x.toNat)).length:Int)=(m.sT.length:Int)))=true:=by
   simp[hall]
  exact rE () [.tmp 2] J [bl (decide ((((aG m).map fun x=>kF (eJ m.sT.length (aG m)) (ix m.sT x.toNat)).length:Int)=(m.sT.length:Int)))] ⟨.tmp J,tV⟩ (cA1 (fun x0=>rV [bl x0]) hr0) trivial eX
end mkn
end
section
open ref01 ref03 ref04 ref06 prog prog2 prog3 prog4 prog5 prog6 prog7 prog8 prog9 prog13 prog15 starts Part Rungs LeftM TrimM RoundM MergeM BisM BisM4 BisM5 Itoa Keys WalkM StepM WitM JudgM JudgM2 search refw judg wit refj sysw satj divr divs divd dive divg divw divv divp divt LevM LevM2 TrimI QuoM FailM DivM RefM FitM TogM ProdM prodw GenW CompM CompP CrossM KeepK GuardM MakeM LsysM LsysM2 MakeM2 KeepB AtM ClsM LstM MakeM3 GuaW LeadM FixM ValidM RelM mkk mkp mkl mkc mkq mkg mkr mks mks2 mkv mkw mkn
noncomputable def lI (s:SS):Int:=if bU s=true then(if ix (hOl s) 0=true then 3 else 0) else 30
theorem zN (s:SS):(bT s).2=lI s:=by
 unfold bT lI
 by_cases h:bU s=true
 ·rw[if_pos h,if_pos h]
  by_cases g:ix (hOl s) 0=true
  ·rw[if_pos g,if_pos (zM.2 g)]
  ·rw[if_neg g,if_neg (fun k=>g (zM.1 k))]
 ·rw[if_neg h,if_neg h]
theorem Qs {s:SS} (h:lI s≠0):vZ (bT s).1=true:=by
 rw[←zN] at h
 unfold bT at h ⊢
 by_cases a:bU s=true
 ·rw[if_pos a] at h ⊢
  by_cases g:(tR s).2.length=0
  ·rw[if_pos g];rfl
  ·rw[if_neg g] at h;exact absurd rfl h
 ·rw[if_neg a];rfl
theorem Qt {s:SS} (h:lI s=0):bU s=true∧bI (bT s).1=true∧(bT s).1.aC=s.aC∧xU (bT s).1 s=true∧Co (bT s).1:=by
 unfold lI at h
 by_cases a:bU s=true
 ·rw[if_pos a] at h
  by_cases g:ix (hOl s) 0=true
  ·rw[if_pos g] at h;cases h
  ·have g':ix (hOl s) 0=false:=by simpa using g
   have h0:¬(tR s).2.length=0:=fun k=>g (zM.1 k)
   have hs:=iY a
   have hs5:=wB a
   have hTk:=nX hs
   have hTl:=wC hs
   have hfree:=OrdM.tZ hs g'
   have hc:=yI hfree
   have hd:bT s=(dB bV (tR s).1,0):=by unfold bT;rw[if_pos a,if_neg h0]
   rw[hd]
   refine⟨a,Ea hTk hc O,?_,?_,Qi hTk hc⟩
   ·show(dB bV (tR s).1).aC=_
    exact qI s
   ·rw[Fy]
    exact(yH hs).1 (IP hTk hc)
 ·rw[if_neg a] at h;cases h
namespace T
theorem Xo:Ent Tryz.prog 12:=aO kR
theorem Kr:Ent Tryz.prog 13:=aO kR
theorem Xp:Ent Tryz.prog 21:=aO kR
theorem Xq:Ent Tryz.prog 23:=aO kR
theorem Xr:Ent Tryz.prog 18:=aO kR
theorem Xs:Ent Tryz.prog 33:=aO kR
theorem Xt:Ent Tryz.prog 26:=aO kR
theorem Xu:Ent Tryz.prog 27:=aO kR
theorem Xv:Ent Tryz.prog 28:=aO kR
theorem Xw:Ent Tryz.prog 34:=aO kR
theorem Xx:Ent Tryz.prog 35:=aO kR
end T
namespace mkw3
theorem GQ (s:SS) (hss:iZ s):
 Fn0 Tryz.prog 7 [kS (spec s)] (bl true):=by
 refine fnI Tryz.func7 rfl rfl (fun w0 F0=> ?_)
 refine tbI 0 9999 rfl ?_
 refine xQ (ψ:=tab) 9999 997 rfl ?_
 refine fcC (cE 0 J) (fun hS0=> ?_)
 obtain⟨hsa0,hss0,hse0⟩:=sLn hS0
 refine sq (rg (bx (key:=1) (cs:= [sl 1 rE_ s.aC,sl 2 sE s.sT]) J fun b1=>(ag (nl (th (sq (sq (rg (lPA J J T.bK J (bE (φs:= [agg [sl 1 rE_ s.aC,sl 2 sE s.sT],int 40]) (φ:=bl (yK s 40)) ⟨J,J,tV⟩ (mkv.Km s 40) T.Xo (no J (nl (th ?_)))))))))))))
 refine cd J (fun hc0=> ?_) (fun hc0=> ?_)
 ·try simp at hc0
  refine sq (rg (NF (ψ:=tab) (φs:= []) (φ:=bl true) trivial mkv.wO T.Kr 9999 J J (ag (nl (th (rt (rt_ ?_)))))))
  exact rE () [.tmp 2] J [bl true] ⟨.tmp J,tV⟩ J trivial eX
 ·try simp at hc0
  obtain⟨hz1,hz2⟩:=Qe (s:=s) (n:=40) (by simpa using hc0)
  have hz3:size s≤100000000:=by omega
  refine sk (th (sq (rg (ag (nl (th (sq (sq (rg (lPA J J T.bK J (bE (φs:= [agg [sl 1 rE_ s.aC,sl 2 sE s.sT]]) (φ:=bl (bU s)) ⟨J,tV⟩ (ref03.yX s) T.Xp (no J (nl (th ?_))))))))))))))
  refine jn (κ:=Int) (fun p=> [(1,ptr 1 b1 0),(2,bl false),(3,int p),(9999,tab)]) (fun p=> [(1,cell b1 [sl 1 rE_ s.aC,sl 2 sE s.sT]),(997,dJ tab)]) (fun p=>p=lI s) ?_ ?_
  ·
   refine cd J (fun hc1=> ?_) (fun hc1=> ?_)
   ·try simp at hc1
    have hE:lI s=30:=by unfold lI;rw[if_neg (by simpa using hc1)]
    refine rg (ag (nl ?_))
    have hN0:(30:Int)=lI s:=by
     exact hE.symm
    exact jx (30:Int) hN0 ⟨id,id,id,id,tV⟩ ⟨rI,rI,tV⟩
   ·try simp at hc1
    have hsv:bU s=true:=by simpa using hc1
    have hs:=iY hsv
    refine sq (rg (lPA J J T.bK J (bE (φs:= [agg [sl 1 rE_ s.aC,sl 2 sE s.sT]]) (φ:=bl (ix (hOl s) 0)) ⟨J,tV⟩ (mks.Kk s aS) T.Xq (nl (th ?_)))))
    refine cd J (fun hc2=> ?_) (fun hc2=> ?_)
    ·try simp at hc2
     have hE:lI s=3:=by unfold lI;rw[if_pos hsv,if_pos (by simpa using hc2)]
     refine rg (ag (nl ?_))
     have hN0:(3:Int)=lI s:=by
      exact hE.symm
     exact jx (3:Int) hN0 ⟨id,id,id,id,tV⟩ ⟨rI,rI,tV⟩
    ·try simp at hc2
     have hE:lI s=0:=by unfold lI;rw[if_pos hsv,if_neg (by simpa using hc2)]
     refine sk ?_
     have hN0:(0:Int)=lI s:=by
      exact hE.symm
     exact jx (0:Int) hN0 ⟨id,id,id,id,tV⟩ ⟨rI,rI,tV⟩
  ·intro e hG
   have hJ1:e=lI s:=hG
   skip
   show At _ _ _ [(1,ptr 1 b1 0),(2,bl false),(3,int e),(9999,tab)] [(1,cell b1 [sl 1 rE_ s.aC,sl 2 sE s.sT]),(997,dJ tab)]
   refine th (sq (rg (lPA rfl rfl T.bK rfl (kC (φs:= [agg [sl 1 rE_ s.aC,sl 2 sE s.sT]]) (φ:=agg [sl 1 rE_ s.aC,sl 2 sE s.sT]) ⟨rfl,tV⟩ (ref03.Rs s O) T.Xr (fun N hN=>fun h=>iV (cs:= [fre N (sl 1 rE_ s.aC),fre N (sl 2 sE s.sT)]) (ds:= [sl 1 rE_ s.aC,sl 2 sE s.sT]) ⟨fun h=>jG h,fun h=>jG h,tV⟩ h) (tbU (ψ:=tab) 17 9999 rfl rfl (kC (φs:= [both (agg [sl 1 rE_ s.aC,sl 2 sE s.sT]) tab]) (φ:=tup [agg [sl 1 rE_ ((bT s).1).aC,sl 1 gE ((bT s).1).sT],int ((bT s).2)]) ⟨rfl,tV⟩ (mkr.PW s aS) T.Xs (fun N hN=>fun h=>oI (cs:= [agg [fre N (sl 1 rE_ ((bT s).1).aC),fre N (sl 1 gE ((bT s).1).sT)],int ((bT s).2)]) (ds:= [agg [sl 1 rE_ ((bT s).1).aC,sl 1 gE ((bT s).1).sT],int ((bT s).2)]) ⟨fun h=>iV (cs:= [fre N (sl 1 rE_ ((bT s).1).aC),fre N (sl 1 gE ((bT s).1).sT)]) (ds:= [sl 1 rE_ ((bT s).1).aC,sl 1 gE ((bT s).1).sT]) ⟨fun h=>jG h,fun h=>jG h,tV⟩ h,fun h=>h,tV⟩ h) (mv (xt rfl rfl (xt rfl rfl (al (key:=4) T.z25 (eC (eC eZ)) fun b4=>(sPA (cs':= [sl 1 rE_ ((bT s).1).aC,sl 1 gE ((bT s).1).sT]) rfl rfl rfl T.aZ rfl rfl (ag (nl (th (sq (sq (rg (mv (mv (bi rfl rfl gG (mv ?_)))))))))))))))))))))
   apply gOr (t:=24) (pd:=27) rfl
   rotate_left
   ·intro hg0 fin
    have hg0':=hg0
    try simp at hg0'
    exact gy J J J hg0 (mv (gy J J J hg0 (bi J J gG (pkF J hg0 J (drp (X:= [(26,_),(25,_)]) ⟨J,J,tV⟩ fin)))))
   ·intro hg0 fin
    exact gn J J J hg0 J J (gn J J J hg0 J J (pkT J hg0 J (drp (X:= [(26,_),(25,_)]) ⟨J,J,tV⟩ fin)))
   refine nl (th ?_)
   refine cd J (fun hc3=> ?_) (fun hc3=> ?_)
   ·skip
    have hne:lI s≠0:=fun g=>by rw[hJ1,zN,g] at hc3;simp at hc3
    have hno:=Qs hne
    refine sq (rg (mv (mv (bi J J fJ (mv ?_)))))
    apply dX (t:=31) (pd:=34) rfl
    rotate_left
    ·intro hg1 fin
     have hg1':=hg1
     try simp at hg1'
     exact gy J J J hg1 (lPA J J T.aZ J (gy J J J hg1 (bE (φs:= [agg [sl 1 rE_ ((bT s).1).aC,sl 1 gE ((bT s).1).sT]]) (φ:=bl (vZ ((bT s).1))) ⟨J,tV⟩ (divs.OB ((bT s).1)) T.Xt (pkT J hg1 J (drp (X:= [(33,_),(32,_)]) ⟨J,J,tV⟩ fin)))))
    ·intro hg1 fin
     exact gn J J J hg1 J J (gn J J J hg1 J J (pkF J hg1 J (drp (X:= [(33,_),(32,_)]) ⟨J,J,tV⟩ fin)))
    refine mv ?_
    apply dX (t:=35) (pd:=37) rfl
    rotate_left
    ·intro hg2 fin
     have hg2':=hg2
     try simp at hg2'
     exact gy J J J hg2 (NF (ψ:=tab) (φs:= []) (φ:=bl true) trivial mkv.wO T.Kr 9999 J J (pkT J hg2 J (drp (X:= [(36,_)]) ⟨J,tV⟩ fin)))
    ·intro hg2 fin
     exact gn J J J hg2 J J (pkF J hg2 J (drp (X:= [(36,_)]) ⟨J,tV⟩ fin))
    refine ag (nl (th (rt (rt_ ?_))))
    have hr0:(((decide (((bT s).2)=e))&&(vZ ((bT s).1)))&&true)=true:=by
     rw[hno,hJ1,zN,decide_eq_true rfl];rfl
    exact rE () [.tmp 2] J [bl (((decide (((bT s).2)=e))&&(vZ ((bT s).1)))&&true)] ⟨.tmp J,tV⟩ (cA1 (fun x0=>rV [bl x0]) hr0) trivial eX
   ·skip
    have hez:lI s=0:=by
     rw[hJ1,zN] at hc3
     simpa using hc3
    obtain⟨hsv,hxv,hxa,hxs,hxn⟩:=Qt hez
    have hs:=iY hsv
    have hx:=fR hxv
    refine sk (th (sq (rg (lPA J J T.aZ J (bE (φs:= [agg [sl 1 rE_ ((bT s).1).aC,sl 1 gE ((bT s).1).sT]]) (φ:=bl (bI ((bT s).1))) ⟨J,tV⟩ (divs.yX ((bT s).1)) T.Xu (mv ?_))))))
    apply dX (t:=40) (pd:=46) rfl
    rotate_left
    ·intro hg3 fin
     have hg3':=hg3
     try simp at hg3'
     exact gy J J J hg3 (fP J T.gS (gy J J J hg3 (lP J J J T.dE (gy J J J hg3 (fP J T.eR (gy J J J hg3 (lP J J J T.dE (gy J J J hg3 (bE (φs:= [sl 1 rE_ ((bT s).1).aC,sl 1 rE_ s.aC]) (φ:=bl (decide (((bT s).1).aC=s.aC))) ⟨J,J,tV⟩ (ref01.Cw _ _) T.Xv (pkT J hg3 J (drp (X:= [(45,_),(44,_),(43,_),(42,_),(41,_)]) ⟨J,J,J,J,J,tV⟩ fin)))))))))))
    ·intro hg3 fin
     exact gn J J J hg3 J J (gn J J J hg3 J J (gn J J J hg3 J J (gn J J J hg3 J J (gn J J J hg3 J J (pkF J hg3 J (drp (X:= [(45,_),(44,_),(43,_),(42,_),(41,_)]) ⟨J,J,J,J,J,tV⟩ fin))))))
    refine mv ?_
    apply dX (t:=47) (pd:=51) rfl
    rotate_left
    ·intro hg4 fin
     have hg4':=hg4
     try simp at hg4'
     exact gy J J J hg4 (lPA J J T.aZ J (gy J J J hg4 (lPA J J T.bK J (gy J J J hg4 (bE (φs:= [agg [sl 1 rE_ ((bT s).1).aC,sl 1 gE ((bT s).1).sT],agg [sl 1 rE_ s.aC,sl 2 sE s.sT]]) (φ:=bl (xU ((bT s).1) s)) ⟨J,J,tV⟩ (divg.FB ((bT s).1) s aS aS) T.Xw (pkT J hg4 J (drp (X:= [(50,_),(49,_),(48,_)]) ⟨J,J,J,tV⟩ fin)))))))
    ·intro hg4 fin
     exact gn J J J hg4 J J (gn J J J hg4 J J (gn J J J hg4 J J (pkF J hg4 J (drp (X:= [(50,_),(49,_),(48,_)]) ⟨J,J,J,tV⟩ fin))))
    refine mv ?_
    apply dX (t:=52) (pd:=55) rfl
    rotate_left
    ·intro hg5 fin
     have hg5':=hg5
     try simp at hg5'
     exact gy J J J hg5 (lPA J J T.aZ J (gy J J J hg5 (bE (φs:= [agg [sl 1 rE_ ((bT s).1).aC,sl 1 gE ((bT s).1).sT]]) (φ:=bl true) ⟨J,tV⟩ (mkn.TZ ((bT s).1) aS aS) T.Xx (pkT J hg5 J (drp (X:= [(54,_),(53,_)]) ⟨J,J,tV⟩ fin)))))
    ·intro hg5 fin
     exact gn J J J hg5 J J (gn J J J hg5 J J (pkF J hg5 J (drp (X:= [(54,_),(53,_)]) ⟨J,J,tV⟩ fin)))
    refine mv ?_
    apply dX (t:=56) (pd:=58) rfl
    rotate_left
    ·intro hg6 fin
     have hg6':=hg6
     try simp at hg6'
     exact gy J J J hg6 (NF (ψ:=tab) (φs:= []) (φ:=bl true) trivial mkv.wO T.Kr 9999 J J (pkT J hg6 J (drp (X:= [(57,_)]) ⟨J,tV⟩ fin)))
    ·intro hg6 fin
     exact gn J J J hg6 J J (pkF J hg6 J (drp (X:= [(57,_)]) ⟨J,tV⟩ fin))
    refine ag (nl (th (rt ?_)))
    have hr0:(((((bI ((bT s).1))&&(decide (((bT s).1).aC=s.aC)))&&(xU ((bT s).1) s))&&true)&&true)=true:=by
     rw[hxv,decide_eq_true hxa,hxs];rfl
    exact rE () [.tmp 2] J [bl (((((bI ((bT s).1))&&(decide (((bT s).1).aC=s.aC)))&&(xU ((bT s).1) s))&&true)&&true)] ⟨.tmp J,tV⟩ (cA1 (fun x0=>rV [bl x0]) hr0) trivial eX
end mkw3
end
end Go.Proofs.YtnlfjojfgghchaaGreatDoor
