/- The walks of the functions and the plain laws. Own texts of this claim, packed: Mkcomp2, Mkmkl, MkClsM. -/
import Derived.Test.YtnlfjojfgghchaaGreatDoorX22
import Derived.Test.YtnlfjojfgghchaaGreatDoorX25
import Derived.Test.YtnlfjojfgghchaaGreatDoorX17
import Derived.Test.YtnlfjojfgghchaaGreatDoorX24
set_option linter.all false
namespace Go.Proofs.YtnlfjojfgghchaaGreatDoor
open AL Go
set_option maxRecDepth 100000
section
open ref01 Part LsysM
abbrev PQ:=Int × Int
theorem RJ {p q:PQ} (h:(!decide ((p.1,p.2)=(q.1,q.2)))=true):p≠q:=fun e=>by subst e;simp at h
theorem RL {p q:PQ} (h:(!decide ((p.1,p.2)=(q.1,q.2)))=false):p=q:=by simpa [Prod.ext_iff] using h
def CI (xs dk:List PQ) (m k:Nat):Prop:=Lib.CompInv xs.toArray m k dk.toArray
def kpT (xs:List PQ) (k:Nat):Prop:=∀j,j<k→Lib.keeps xs.toArray j=true
theorem CK (xs:List PQ):kpT xs 1:=Lib.keeps_lt_one _
theorem JI {xs:List PQ} {k:Nat} (h:kpT xs k) (hk:k<xs.length) (h0:0<k) (hne:ix xs k≠ix xs (k- 1)):kpT xs (k+1):=fun j hj=>by
 by_cases e:j=k
 ·subst e;exact Lib.keeps_pos (by rw[iA hk,iA O];exact hne)
 ·exact h j O
theorem CL {xs:List PQ} {k:Nat} (h:kpT xs k) (hk:xs.length≤k):Lib.compact xs=xs:=Lib.compact_all xs fun j hj=>h j O
theorem Hr {xs:List PQ} {k:Nat} (h:kpT xs k) (hk:k<xs.length) (h0:0<k) (he:ix xs k=ix xs (k- 1)):CI xs xs (k+1) k:=Lib.CompInv.start h (Lib.keeps_neg h0 (by rw[iA hk,iA O];exact he))
theorem CM {xs dk:List PQ} {m k:Nat} (h:CI xs dk m k):dk.length=xs.length∧k<m:=⟨by have:=h.size;simpa using this,h.lt⟩
theorem zZ {xs dk:List PQ} {m k j:Nat} (h:CI xs dk m k) (hj:k≤j) (hl:j<xs.length):ix dk j=ix xs j:=by
 have:=h.high j hj
 rwa [iA (by rw[(CM h).1];exact hl),iA hl] at this
theorem JJ {xs dk:List PQ} {m k:Nat} (h:CI xs dk m k) (hm:m<xs.length) (hne:ix xs m≠ix xs (m- 1)):CI xs (dk.set k (ix xs m)) (m+1) (k+1):=by
 have h2:=Lib.CompInv.keep h (by simpa using hm) (Lib.keeps_pos (by rw[iA hm,iA O];exact hne))
 rw[iA hm,List.setIfInBounds_toArray] at h2
 exact h2
theorem JK {xs dk:List PQ} {m k:Nat} (h:CI xs dk m k) (hm:m<xs.length) (he:ix xs m=ix xs (m- 1)):CI xs dk (m+1) k:=
 Lib.CompInv.skip h (Lib.keeps_neg (by have:=h.lt;omega) (by rw[iA hm,iA O];exact he))
theorem NG {xs dk:List PQ} {m k:Nat} (h:CI xs dk m k) (hm:m=xs.length):Lib.compact xs=dk.take k:=by
 subst hm
 have hl:=h.len
 have hk:=CM h
 unfold Lib.compact
 apply List.ext_getElem?
 intro j
 by_cases c:j<k
 ·rw[h.low j c,iA O,List.getElem?_take,if_pos c,List.getElem?_eq_getElem O,aG O]
 ·rw[List.getElem?_eq_none O,List.getElem?_eq_none (by simp;omega)]
namespace T
theorem RO:zY Tryz.prog 94 3:=⟨by kernel_rfl,by kernel_rfl,by kernel_rfl,by kernel_rfl,by kernel_rfl⟩
end T
namespace comp2
theorem Qu (v:Value) (xs:List (Int × Int)) (hl:xs.length≤4000000000000):
 AL.Fn Tryz.prog 152 [osl 55 v] [(55,own v 94 2 pE xs)] (ι:=Value) (fun _ v2=>osl 55 v2) (fun v2=> [(55,own v2 94 2 pE (Lib.compact xs))]):=by
 refine fnI Tryz.func152 rfl rfl (fun w0 F0=> ?_)
 refine sq (rg (ag (nl (th (sq (sq (rg (mv (lnO J J T.dU (bi J J aZ (nl (th ?_))))))))))))
 refine cd J (fun hc0=> ?_) (fun hc0=> ?_)
 ·try simp at hc0
  have hput:Lib.compact xs=xs:=CL (CK xs) O
  refine sq (rg (mv (ag (nl (th (rt (rt_ ?_)))))))
  exact rE v [.tmp 2] J [osl 55 v] ⟨.tmp J,tV⟩ J (by rw[hput];exact⟨rI,tV⟩) eX
 ·try simp at hc0
  have hl2:2≤xs.length:=by omega
  refine sk (th (sq (sq (rg (ag (nl (th (bk ?_))))))))
  have hI0_0:1≤1∧1≤xs.length∧kpT xs 1:=by
   exact⟨O,O,CK xs⟩
  refine lp (κ:=Nat) (fun p=> [(0,osl 55 v),(3,int (p:Int))]) (fun p=> [(55,own v 94 2 pE xs)]) (fun p=>1≤p∧p≤xs.length∧kpT xs p) (fun p=>xs.length- p) 1 hI0_0 ⟨id,id,tV⟩ ⟨rI,tV⟩ ?_
  intro i hG0
  obtain⟨hi1,hil,hkp⟩:1≤i∧i≤xs.length∧kpT xs i:=hG0
  refine sq (sq (rg (mv (mv (lnO J J T.dU (bi J J aZ (nl (th ?_))))))))
  refine cd J (fun hc1=> ?_) (fun hc1=> ?_)
  ·try simp at hc1
   refine sk (th (sq (bk (sq (dr (nh:=10) [0,0,3,7,0,0,32,112,240,511] T.mixed kR ?_)))))
   refine st_ J (fun _ _ _ gq kq=>mv' (gq.1.trans J) kq) ?_
   refine st_ J (fun _ _ _ gq kq=>mv' (gq.1.trans J) kq) ?_
   refine st_ J (fun _ _ _ gq kq=>iO (gq.1.trans J) J (gq.2.1.trans J) T.dU O O kq) ?_
   refine st_ J (fun _ _ _ gq kq=>lOA (gq.1.trans J) J gB T.dP (by decide) kq) ?_
   refine st_ J (fun _ _ _ gq kq=>mv' (gq.1.trans J) kq) ?_
   refine st_ J (fun _ _ _ gq kq=>mv' (gq.1.trans J) kq) ?_
   refine st_ J (fun _ _ _ gq kq=>bi (gq.1.trans J) J (mI i6) kq) ?_
   refine st_ J (fun _ _ _ gq kq=>iO (gq.1.trans J) J (gq.2.1.trans J) T.dU O O kq) ?_
   refine st_ J (fun _ _ _ gq kq=>lOA (gq.1.trans J) J gB T.dP (by decide) kq) ?_
   refine st_ J (fun _ _ _ gq kq=>biE (gq.1.trans J) (gq.2.1.trans J) T.RO kq) ?_
   refine pn (nl (th ?_))
   refine cd J (fun hc2=> ?_) (fun hc2=> ?_)
   ·skip
    have hdup:ix xs i=ix xs (i- 1):=by
     have h:=of_decide_eq_true hc2
     rw[show((i:Int)- 1).toNat=i- 1 by omega] at h
     exact h
    refine fcC (Wt 55 J O) fun hof55=> ?_
    obtain⟨b5,c5,hof55,hcap55⟩:=hof55
    subst hof55
    refine sq (rg (mv (mv (vO (l:=i) (m:=xs.length) J T.dU J J O O O O (ag (nl (th (sq (sq (rg (ag (nl (th (bk ?_))))))))))))))
    have hI1_0:1≤1∧i+1≤xs.length∧i≤i∧CI xs xs (i+1) i:=by
     exact⟨O,O,O,Hr hkp O O hdup⟩
    refine lp (κ:=Nat × Nat × (List (Int × Int))) (fun p=> [(0,osl 55 (.slice (some ⟨b5,0,none⟩) xs.length c5)),(3,int (p.1:Int)),(4,eqv (.slice (some ⟨b5,i*2,none⟩) (xs.length- i) (c5- i))),(5,int (p.2.1:Int))]) (fun p=> [(55,own (.slice (some ⟨b5,0,none⟩) xs.length c5) 94 2 pE p.2.2)]) (fun p=>1≤p.2.1∧i+p.2.1≤xs.length∧i≤p.1∧CI xs p.2.2 (i+p.2.1) p.1) (fun p=>xs.length- (i+p.2.1)) ⟨i,1,xs⟩ hI1_0 ⟨id,id,id,id,tV⟩ ⟨rI,tV⟩ ?_
    intro⟨c3,i2,dk⟩ hG1
    obtain⟨h21,h2l,hc3i,hci⟩:1≤i2∧i+i2≤xs.length∧i≤c3∧CI xs dk (i+i2) c3:=hG1
    show Ct _ _ _ _ [(0,osl 55 (.slice (some ⟨b5,0,none⟩) xs.length c5)),(3,int (c3:Int)),(4,eqv (.slice (some ⟨b5,i*2,none⟩) (xs.length- i) (c5- i))),(5,int (i2:Int))] [(55,own (.slice (some ⟨b5,0,none⟩) xs.length c5) 94 2 pE dk)] _
    have hdl:=CM hci
    refine sq (sq (rg (mv (mv (lnV J T.dU (bi J J aZ (nl (th ?_))))))))
    refine cd J (fun hc3=> ?_) (fun hc3=> ?_)
    ·try simp at hc3
     have e1:i+((i2:Int)- 1).toNat=i+i2- 1:=by omega
     have e2:=zZ hci (j:=i+i2) O O
     have e3:=zZ hci (j:=i+i2- 1) O O
     refine sk (th (sq (bk (sq (dr (nh:=10) [0,0,3,7,0,0,32,112,240,511] T.mixed kR ?_)))))
     refine st_ J (fun _ _ _ gq kq=>mv' (gq.1.trans J) kq) ?_
     refine st_ J (fun _ _ _ gq kq=>mv' (gq.1.trans J) kq) ?_
     refine st_ J (fun _ _ _ gq kq=>iOo (key:=55) (gq.1.trans J) J (gq.2.1.trans J) T.dU O O kq) ?_
     refine st_ J (fun _ _ _ gq kq=>lOA (gq.1.trans J) J gB T.dP (by decide) kq) ?_
     refine st_ J (fun _ _ _ gq kq=>mv' (gq.1.trans J) kq) ?_
     refine st_ J (fun _ _ _ gq kq=>mv' (gq.1.trans J) kq) ?_
     refine st_ J (fun _ _ _ gq kq=>bi (gq.1.trans J) J (mI i6) kq) ?_
     refine st_ J (fun _ _ _ gq kq=>iOo (key:=55) (gq.1.trans J) J (gq.2.1.trans J) T.dU O O kq) ?_
     refine st_ J (fun _ _ _ gq kq=>lOA (gq.1.trans J) J gB T.dP (by decide) kq) ?_
     refine st_ J (fun _ _ _ gq kq=>biN (gq.1.trans J) (gq.2.1.trans J) T.RO kq) ?_
     refine pn (nl (th ?_))
     refine cd J (fun hc4=> ?_) (fun hc4=> ?_)
     ·skip
      have hne:ix xs (i+i2)≠ix xs (i+i2- 1):=by
       have h:=RJ hc4
       rw[e1] at h
       have h:ix dk (i+i2)≠ix dk (i+i2- 1):=h
       rw[e2,e3] at h
       exact h
      refine sq (rg (mv (mv (mv (mv (iOo (key:=55) J J J T.dU O O (lOA J J gB T.dP (by decide) (iO J J J T.dU O O (sOA (cs':= [int ((ix dk (i+i2)).1),int ((ix dk (i+i2)).2)]) J J J T.dP J gB J (y':=((ix dk (i+i2)).1,(ix dk (i+i2)).2)) J (nl (th (rg (mv (bi J J (aM i6) (ag (nl (eb (th (rg (mv (bi J J (aM i6) (ag (nl ?_)))))))))))))))))))))))
      have hN0:1≤(i2+1)∧i+(i2+1)≤xs.length∧i≤(c3+1)∧CI xs (dk.set c3 ((ix dk (i+i2)).1,(ix dk (i+i2)).2)) (i+(i2+1)) (c3+1):=by
       exact⟨O,O,O,by have:=JJ hci O hne;rw[e2];exact this⟩
      exact ln (⟨c3+1,i2+1,dk.set c3 ((ix dk (i+i2)).1,(ix dk (i+i2)).2)⟩:Nat × Nat × (List (Int × Int))) hN0 dO ⟨id,id,id,id,tV⟩ ⟨rI,tV⟩
     ·skip
      have heq:ix xs (i+i2)=ix xs (i+i2- 1):=by
       have h:=RL hc4
       rw[e1] at h
       have h:ix dk (i+i2)=ix dk (i+i2- 1):=h
       rw[e2,e3] at h
       exact h
      refine sk (eb (th (rg (mv (bi J J (aM i6) (ag (nl ?_)))))))
      have hN0:1≤(i2+1)∧i+(i2+1)≤xs.length∧i≤c3∧CI xs dk (i+(i2+1)) c3:=by
       exact⟨O,O,O,JK (m:=i+i2) hci O heq⟩
      exact ln (⟨c3,i2+1,dk⟩:Nat × Nat × (List (Int × Int))) hN0 dO ⟨id,id,id,id,tV⟩ ⟨rI,tV⟩
    ·try simp at hc3
     have hput:Lib.compact xs=dk.take c3:=NG hci (show i+i2=xs.length by omega)
     refine ex (xt_ (xt_ (xb (th (sq (rg (mv (mv (vO (l:=c3) (m:=xs.length) J T.dU J J O O O O (Wu (key:=55) J J T.kW (by decide) O O (nl (th (sq (rg (mv (mv (vO (l:=0) (m:=c3) J T.dU J J O O O O (kn 59 (osl 55 (.slice (some ⟨b5,0,none⟩) c3 c5)) J dR (ag (nl (th (rt (rb (rt_ (rt_ (rb (rt_ ?_)))))))))))))))))))))))))))
     exact rE (.slice (some ⟨b5,0,none⟩) c3 c5) [.tmp 2] J [osl 55 (.slice (some ⟨b5,0,none⟩) c3 c5)] ⟨.tmp J,tV⟩ J (by rw[hput];exact⟨rI,tV⟩) eX
   ·skip
    have hdif:ix xs i≠ix xs (i- 1):=fun e=>by
     have h:=of_decide_eq_false hc2
     rw[show((i:Int)- 1).toNat=i- 1 by omega] at h
     exact h (by rw[e])
    refine sk (eb (th (rg (mv (bi J J (aM i6) (ag (nl ?_)))))))
    have hN0:1≤(i+1)∧(i+1)≤xs.length∧kpT xs (i+1):=by
     exact⟨O,O,JI hkp O O hdif⟩
    exact ln (i+1) hN0 dO ⟨id,id,tV⟩ ⟨rI,tV⟩
  ·try simp at hc1
   have hput:Lib.compact xs=xs:=CL hkp O
   refine ex (xt_ (xt_ (xb (th (sq (rg (mv (ag (nl (th (rt ?_)))))))))))
   exact rE v [.tmp 2] J [osl 55 v] ⟨.tmp J,tV⟩ J (by rw[hput];exact⟨rI,tV⟩) eX
theorem NH (kk:Nat) (v:Value) (xs:List (Int × Int)) (hl:xs.length≤4000000000000):AL.Fn Tryz.prog 152 [osl kk v] [(55,own v 94 2 pE xs)] (ι:=Value) (fun _ v2=>osl kk v2) (fun v2=> [(55,own v2 94 2 pE (Lib.compact xs))]):=by
 have e:∀x,osl kk x=osl 55 x:=fun x=>dV.trans dV.symm
 simp only [e]
 exact Qu v xs hl
theorem Qv (v:Value) (xs:List (Int × Int)) (hl:xs.length≤4000000000000):
 AL.Fn Tryz.prog 103 [osl 55 v] [(55,own v 80 2 pE xs)] (ι:=Value) (fun _ v2=>osl 55 v2) (fun v2=> [(55,own v2 80 2 pE (Lib.compact xs))]):=by
 refine fnI Tryz.func103 rfl rfl (fun w0 F0=> ?_)
 refine sq (rg (ag (nl (th (sq (sq (rg (mv (lnO J J T.jE (bi J J aZ (nl (th ?_))))))))))))
 refine cd J (fun hc0=> ?_) (fun hc0=> ?_)
 ·try simp at hc0
  have hput:Lib.compact xs=xs:=CL (CK xs) O
  refine sq (rg (mv (ag (nl (th (rt (rt_ ?_)))))))
  exact rE v [.tmp 2] J [osl 55 v] ⟨.tmp J,tV⟩ J (by rw[hput];exact⟨rI,tV⟩) eX
 ·try simp at hc0
  have hl2:2≤xs.length:=by omega
  refine sk (th (sq (sq (rg (ag (nl (th (bk ?_))))))))
  have hI0_0:1≤1∧1≤xs.length∧kpT xs 1:=by
   exact⟨O,O,CK xs⟩
  refine lp (κ:=Nat) (fun p=> [(0,osl 55 v),(3,int (p:Int))]) (fun p=> [(55,own v 80 2 pE xs)]) (fun p=>1≤p∧p≤xs.length∧kpT xs p) (fun p=>xs.length- p) 1 hI0_0 ⟨id,id,tV⟩ ⟨rI,tV⟩ ?_
  intro i hG0
  obtain⟨hi1,hil,hkp⟩:1≤i∧i≤xs.length∧kpT xs i:=hG0
  refine sq (sq (rg (mv (mv (lnO J J T.jE (bi J J aZ (nl (th ?_))))))))
  refine cd J (fun hc1=> ?_) (fun hc1=> ?_)
  ·try simp at hc1
   refine sk (th (sq (bk (sq (dr (nh:=10) [0,0,3,7,0,0,32,112,240,511] T.mixed kR ?_)))))
   refine st_ J (fun _ _ _ gq kq=>mv' (gq.1.trans J) kq) ?_
   refine st_ J (fun _ _ _ gq kq=>mv' (gq.1.trans J) kq) ?_
   refine st_ J (fun _ _ _ gq kq=>iO (gq.1.trans J) J (gq.2.1.trans J) T.jE O O kq) ?_
   refine st_ J (fun _ _ _ gq kq=>lOA (gq.1.trans J) J gB T.fS (by decide) kq) ?_
   refine st_ J (fun _ _ _ gq kq=>mv' (gq.1.trans J) kq) ?_
   refine st_ J (fun _ _ _ gq kq=>mv' (gq.1.trans J) kq) ?_
   refine st_ J (fun _ _ _ gq kq=>bi (gq.1.trans J) J (mI i6) kq) ?_
   refine st_ J (fun _ _ _ gq kq=>iO (gq.1.trans J) J (gq.2.1.trans J) T.jE O O kq) ?_
   refine st_ J (fun _ _ _ gq kq=>lOA (gq.1.trans J) J gB T.fS (by decide) kq) ?_
   refine st_ J (fun _ _ _ gq kq=>biA (gq.1.trans J) (gq.2.1.trans J) T.kL T.kd3 kR kR kq) ?_
   refine pn (nl (th ?_))
   refine cd J (fun hc2=> ?_) (fun hc2=> ?_)
   ·skip
    have hdup:ix xs i=ix xs (i- 1):=by
     have h:=of_decide_eq_true hc2
     rw[show((i:Int)- 1).toNat=i- 1 by omega] at h
     exact h
    refine fcC (Wt 55 J O) fun hof55=> ?_
    obtain⟨b5,c5,hof55,hcap55⟩:=hof55
    subst hof55
    refine sq (rg (mv (mv (vO (l:=i) (m:=xs.length) J T.jE J J O O O O (ag (nl (th (sq (sq (rg (ag (nl (th (bk ?_))))))))))))))
    have hI1_0:1≤1∧i+1≤xs.length∧i≤i∧CI xs xs (i+1) i:=by
     exact⟨O,O,O,Hr hkp O O hdup⟩
    refine lp (κ:=Nat × Nat × (List (Int × Int))) (fun p=> [(0,osl 55 (.slice (some ⟨b5,0,none⟩) xs.length c5)),(3,int (p.1:Int)),(4,eqv (.slice (some ⟨b5,i*2,none⟩) (xs.length- i) (c5- i))),(5,int (p.2.1:Int))]) (fun p=> [(55,own (.slice (some ⟨b5,0,none⟩) xs.length c5) 80 2 pE p.2.2)]) (fun p=>1≤p.2.1∧i+p.2.1≤xs.length∧i≤p.1∧CI xs p.2.2 (i+p.2.1) p.1) (fun p=>xs.length- (i+p.2.1)) ⟨i,1,xs⟩ hI1_0 ⟨id,id,id,id,tV⟩ ⟨rI,tV⟩ ?_
    intro⟨c3,i2,dk⟩ hG1
    obtain⟨h21,h2l,hc3i,hci⟩:1≤i2∧i+i2≤xs.length∧i≤c3∧CI xs dk (i+i2) c3:=hG1
    show Ct _ _ _ _ [(0,osl 55 (.slice (some ⟨b5,0,none⟩) xs.length c5)),(3,int (c3:Int)),(4,eqv (.slice (some ⟨b5,i*2,none⟩) (xs.length- i) (c5- i))),(5,int (i2:Int))] [(55,own (.slice (some ⟨b5,0,none⟩) xs.length c5) 80 2 pE dk)] _
    have hdl:=CM hci
    refine sq (sq (rg (mv (mv (lnV J T.jE (bi J J aZ (nl (th ?_))))))))
    refine cd J (fun hc3=> ?_) (fun hc3=> ?_)
    ·try simp at hc3
     have e1:i+((i2:Int)- 1).toNat=i+i2- 1:=by omega
     have e2:=zZ hci (j:=i+i2) O O
     have e3:=zZ hci (j:=i+i2- 1) O O
     refine sk (th (sq (bk (sq (dr (nh:=10) [0,0,3,7,0,0,32,112,240,511] T.mixed kR ?_)))))
     refine st_ J (fun _ _ _ gq kq=>mv' (gq.1.trans J) kq) ?_
     refine st_ J (fun _ _ _ gq kq=>mv' (gq.1.trans J) kq) ?_
     refine st_ J (fun _ _ _ gq kq=>iOo (key:=55) (gq.1.trans J) J (gq.2.1.trans J) T.jE O O kq) ?_
     refine st_ J (fun _ _ _ gq kq=>lOA (gq.1.trans J) J gB T.fS (by decide) kq) ?_
     refine st_ J (fun _ _ _ gq kq=>mv' (gq.1.trans J) kq) ?_
     refine st_ J (fun _ _ _ gq kq=>mv' (gq.1.trans J) kq) ?_
     refine st_ J (fun _ _ _ gq kq=>bi (gq.1.trans J) J (mI i6) kq) ?_
     refine st_ J (fun _ _ _ gq kq=>iOo (key:=55) (gq.1.trans J) J (gq.2.1.trans J) T.jE O O kq) ?_
     refine st_ J (fun _ _ _ gq kq=>lOA (gq.1.trans J) J gB T.fS (by decide) kq) ?_
     refine st_ J (fun _ _ _ gq kq=>Yn (gq.1.trans J) (gq.2.1.trans J) T.kL T.kd3 kR kR kq) ?_
     refine pn (nl (th ?_))
     refine cd J (fun hc4=> ?_) (fun hc4=> ?_)
     ·skip
      have hne:ix xs (i+i2)≠ix xs (i+i2- 1):=by
       have h:=RJ hc4
       rw[e1] at h
       have h:ix dk (i+i2)≠ix dk (i+i2- 1):=h
       rw[e2,e3] at h
       exact h
      refine sq (rg (mv (mv (mv (mv (iOo (key:=55) J J J T.jE O O (lOA J J gB T.fS (by decide) (iO J J J T.jE O O (sOA (cs':= [int ((ix dk (i+i2)).1),int ((ix dk (i+i2)).2)]) J J J T.fS J gB J (y':=((ix dk (i+i2)).1,(ix dk (i+i2)).2)) J (nl (th (rg (mv (bi J J (aM i6) (ag (nl (eb (th (rg (mv (bi J J (aM i6) (ag (nl ?_)))))))))))))))))))))))
      have hN0:1≤(i2+1)∧i+(i2+1)≤xs.length∧i≤(c3+1)∧CI xs (dk.set c3 ((ix dk (i+i2)).1,(ix dk (i+i2)).2)) (i+(i2+1)) (c3+1):=by
       exact⟨O,O,O,by have:=JJ hci O hne;rw[e2];exact this⟩
      exact ln (⟨c3+1,i2+1,dk.set c3 ((ix dk (i+i2)).1,(ix dk (i+i2)).2)⟩:Nat × Nat × (List (Int × Int))) hN0 dO ⟨id,id,id,id,tV⟩ ⟨rI,tV⟩
     ·skip
      have heq:ix xs (i+i2)=ix xs (i+i2- 1):=by
       have h:=RL hc4
       rw[e1] at h
       have h:ix dk (i+i2)=ix dk (i+i2- 1):=h
       rw[e2,e3] at h
       exact h
      refine sk (eb (th (rg (mv (bi J J (aM i6) (ag (nl ?_)))))))
      have hN0:1≤(i2+1)∧i+(i2+1)≤xs.length∧i≤c3∧CI xs dk (i+(i2+1)) c3:=by
       exact⟨O,O,O,JK (m:=i+i2) hci O heq⟩
      exact ln (⟨c3,i2+1,dk⟩:Nat × Nat × (List (Int × Int))) hN0 dO ⟨id,id,id,id,tV⟩ ⟨rI,tV⟩
    ·try simp at hc3
     have hput:Lib.compact xs=dk.take c3:=NG hci (show i+i2=xs.length by omega)
     refine ex (xt_ (xt_ (xb (th (sq (rg (mv (mv (vO (l:=c3) (m:=xs.length) J T.jE J J O O O O (Wu (key:=55) J J T.rT (by decide) O O (nl (th (sq (rg (mv (mv (vO (l:=0) (m:=c3) J T.jE J J O O O O (kn 59 (osl 55 (.slice (some ⟨b5,0,none⟩) c3 c5)) J dR (ag (nl (th (rt (rb (rt_ (rt_ (rb (rt_ ?_)))))))))))))))))))))))))))
     exact rE (.slice (some ⟨b5,0,none⟩) c3 c5) [.tmp 2] J [osl 55 (.slice (some ⟨b5,0,none⟩) c3 c5)] ⟨.tmp J,tV⟩ J (by rw[hput];exact⟨rI,tV⟩) eX
   ·skip
    have hdif:ix xs i≠ix xs (i- 1):=fun e=>by
     have h:=of_decide_eq_false hc2
     rw[show((i:Int)- 1).toNat=i- 1 by omega] at h
     exact h (by rw[e])
    refine sk (eb (th (rg (mv (bi J J (aM i6) (ag (nl ?_)))))))
    have hN0:1≤(i+1)∧(i+1)≤xs.length∧kpT xs (i+1):=by
     exact⟨O,O,JI hkp O O hdif⟩
    exact ln (i+1) hN0 dO ⟨id,id,tV⟩ ⟨rI,tV⟩
  ·try simp at hc1
   have hput:Lib.compact xs=xs:=CL hkp O
   refine ex (xt_ (xt_ (xb (th (sq (rg (mv (ag (nl (th (rt ?_)))))))))))
   exact rE v [.tmp 2] J [osl 55 v] ⟨.tmp J,tV⟩ J (by rw[hput];exact⟨rI,tV⟩) eX
theorem NI (kk:Nat) (v:Value) (xs:List (Int × Int)) (hl:xs.length≤4000000000000):AL.Fn Tryz.prog 103 [osl kk v] [(55,own v 80 2 pE xs)] (ι:=Value) (fun _ v2=>osl kk v2) (fun v2=> [(55,own v2 80 2 pE (Lib.compact xs))]):=by
 have e:∀x,osl kk x=osl 55 x:=fun x=>dV.trans dV.symm
 simp only [e]
 exact Qv v xs hl
end comp2
end
section
open ref01 ref03 ref04 ref06 prog prog2 prog3 prog4 prog5 prog6 prog7 prog8 prog9 Part Rungs LeftM TrimM RoundM MergeM BisM BisM4 BisM5 WalkM StepM WitM JudgM JudgM2 refw judg wit refj sysw satj divr divs divd dive TrimI QuoM FailM DivM KeepK GuardM MakeM LsysM LsysM2 KeepB AtM mkk mkp
namespace mkl
theorem TX (m:aA) (hm:bC m):
 Fn0 Tryz.prog 150 [sys m,int 0] (tup [agg [strs m.aC,sl 1 gE (aF m).sT],ints (bD m)]):=by
 refine fnI Tryz.func150 rfl rfl (fun w0 F0=> ?_)
 have f0:=hm.few0;have f1:=hm.few1;have hn8:=hm.n8;have hle:=rJ hm
 refine fcC (bW 0 J) (fun hS0=> ?_)
 obtain⟨hma0,hms0,hme0⟩:=cJ hS0
 refine sq (rg (bx (key:=2) (cs:= [sl 1 rE_ m.aC,sl 1 gE m.sT]) J fun b2=>(al (key:=4) T.z25 (eC (eC eZ)) fun b4=>(ag (nl (th (sq (rg (fP J T.bY (lP J J J T.dA (fc (bL 18 J) fun hm18=>(lnF J T.gY (mk (key:=20) (m:=m.sT.length) (enc:=nE) (y:=(0:Int)) J J T.cQ (eC eZ) mL mL fun v20=>(ag (nl (th (sq (rg (mv (bsO 22 (enc:=nE) (xs:= [0]) (css:= [[int 0]]) T.cQ ⟨J,J,p1 (φ:=int 0) J,tV⟩ J J J J fun v22=>(ag (nl (th (sq (rg (mv (mv (iO J J J T.aT O (by simp;omega) (sO (φ:=int 1) J J J T.aH (gN (by simp;omega)) J (y':=1) J (nl (th (sq (sq (rg (ag (nl (th (bk ?_))))))))))))))))))))))))))))))))))))))
 have hI0_0:([0]:List Int)=bqY m 0∧((List.replicate m.sT.length (0:Int)).set 0 1)=atY m.sT.length ([0]:List Int)∧0≤([0]:List Int).length:=by
  exact⟨rfl,Qp f0,by simp⟩
 refine lp (κ:=Nat × Value × (List Int) × (List Int)) (fun p=> [(2,ptr 2 b2 0),(4,ptr 4 b4 0),(5,eqv (.slice none 0 0)),(6,osl 20 v20),(7,osl 22 p.2.1),(8,int (p.1:Int))]) (fun p=> [(2,cell b2 [sl 1 rE_ m.aC,sl 1 gE m.sT]),(4,cell b4 [eqv (.slice none 0 0),eqv (.slice none 0 0)]),(20,own v20 3 1 nE p.2.2.2),(22,own p.2.1 3 1 nE p.2.2.1)]) (fun p=>p.2.2.1=bqY m p.1∧p.2.2.2=atY m.sT.length p.2.2.1∧p.1≤p.2.2.1.length) (fun p=>m.sT.length- p.1) ⟨0,v22,([0]:List Int),(List.replicate m.sT.length (0:Int)).set 0 1⟩ hI0_0 ⟨id,id,id,id,id,id,tV⟩ ⟨rI,rI,rI,rI,tV⟩ ?_
 intro⟨i,v,q,at_⟩ hG0
 obtain⟨hqe,hate,hiq⟩:q=bqY m i∧at_=atY m.sT.length q∧i≤q.length:=hG0
 show Ct _ _ _ _ [(2,ptr 2 b2 0),(4,ptr 4 b4 0),(5,eqv (.slice none 0 0)),(6,osl 20 v20),(7,osl 22 v),(8,int (i:Int))] [(2,cell b2 [sl 1 rE_ m.aC,sl 1 gE m.sT]),(4,cell b4 [eqv (.slice none 0 0),eqv (.slice none 0 0)]),(20,own v20 3 1 nE at_),(22,own v 3 1 nE q)] _
 have hqlen:q.length≤m.sT.length:=by rw[hqe];exact Hd hm i
 have hal:at_.length=m.sT.length:=by rw[hate];exact zX _ _
 refine sq (sq (rg (mv (mv (lnO J J T.aT (bi J J aZ (nl (th ?_))))))))
 refine cd J (fun hc0=> ?_) (fun hc0=> ?_)
 ·try simp at hc0
  have hqb:=(vK hm i).bd _ (by rw[←hqe];exact aO hc0)
  have hi5:i≤m.sT.length:=by omega
  refine sk (th (sq (bk (sq (dr (nh:=10) [0,1,0,0,12,28,63,127,255,0] T.mixed kR ?_)))))
  refine st_ J (fun _ _ _ gq kq=>fP (gq.1.trans J) T.bY kq) ?_
  refine st_ J (fun _ _ _ gq kq=>lP (gq.1.trans J) J J T.dA kq) ?_
  refine st_ J (fun _ _ _ gq kq=>mv' (gq.1.trans J) kq) ?_
  refine st_ J (fun _ _ _ gq kq=>mv' (gq.1.trans J) kq) ?_
  refine st_ J (fun _ _ _ gq kq=>iO (gq.1.trans J) J (gq.2.1.trans J) T.aT O O kq) ?_
  refine st_ J (fun _ _ _ gq kq=>lO (gq.1.trans J) J gB J T.aH kq) ?_
  refine st_ J (fun _ _ _ gq kq=>iF (gq.1.trans J) (gq.2.1.trans J) T.gY O gB kq) ?_
  refine st_ J (fun _ _ _ gq kq=>lF (gq.1.trans J) J T.fK kq) ?_
  refine st_ J (fun _ _ _ gq kq=>lnF (gq.1.trans J) T.dU kq) ?_
  refine st_ J (fun _ _ _ gq kq=>mv kq) ?_
  refine pn (nl (th (bk ?_)))
  have hI1_0:0≤(ix m.sT (ix q i).toNat).length:=by
   first|omega|simp
  have hI1_1:q=visit q ((iI m (ix q i)).take 0)∧at_=atY m.sT.length q∧q.length≤10000+0:=by
   exact⟨by rw[List.take_zero];rfl,hate,O⟩
  refine lp (κ:=Nat × Value × (List Int) × (List Int)) (fun p=> [(2,ptr 2 b2 0),(4,ptr 4 b4 0),(5,eqv (.slice none 0 0)),(6,osl 20 v20),(7,osl 22 p.2.1),(8,int (i:Int)),(39,sl 2 pE (ix m.sT (ix q i).toNat)),(40,int ((ix m.sT (ix q i).toNat).length:Int)),(41,int (p.1:Int))]) (fun p=> [(2,cell b2 [sl 1 rE_ m.aC,sl 1 gE m.sT]),(4,cell b4 [eqv (.slice none 0 0),eqv (.slice none 0 0)]),(20,own v20 3 1 nE p.2.2.2),(22,own p.2.1 3 1 nE p.2.2.1)]) (fun p=>(p.1≤(ix m.sT (ix q i).toNat).length)∧(p.2.2.1=visit q ((iI m (ix q i)).take p.1)∧p.2.2.2=atY m.sT.length p.2.2.1∧p.2.2.1.length≤10000+p.1)) (fun p=>(ix m.sT (ix q i).toNat).length- p.1) ⟨0,v,q,at_⟩ ⟨hI1_0,hI1_1⟩ ⟨id,id,id,id,id,id,id,id,id,tV⟩ ⟨rI,rI,rI,rI,tV⟩ ?_
  intro⟨k1,v2,q2,at2⟩ hG1
  obtain⟨hk1,⟨hq2,hat2,hq2l⟩⟩:(k1≤(ix m.sT (ix q i).toNat).length)∧(q2=visit q ((iI m (ix q i)).take k1)∧at2=atY m.sT.length q2∧q2.length≤10000+k1):=hG1
  show Ct _ _ _ _ [(2,ptr 2 b2 0),(4,ptr 4 b4 0),(5,eqv (.slice none 0 0)),(6,osl 20 v20),(7,osl 22 v2),(8,int (i:Int)),(39,sl 2 pE (ix m.sT (ix q i).toNat)),(40,int ((ix m.sT (ix q i).toNat).length:Int)),(41,int (k1:Int))] [(2,cell b2 [sl 1 rE_ m.aC,sl 1 gE m.sT]),(4,cell b4 [eqv (.slice none 0 0),eqv (.slice none 0 0)]),(20,own v20 3 1 nE at2),(22,own v2 3 1 nE q2)] _
  have hmany:(ix m.sT (ix q i).toNat).length≤400000:=hm.many (ix q i).toNat O
  have hal2:at2.length=m.sT.length:=by rw[hat2];exact zX _ _
  refine sq (rg (bi J J aZ (nl (th (sq ?_)))))
  refine cd J (fun hc1=> ?_) (fun hc1=> ?_)
  ·try simp at hc1
   have hek:=hm.ed (ix q i).toNat O _ (aO hc1)
   have hek2:0≤(ix (ix m.sT (ix q i).toNat) k1).2∧(ix (ix m.sT (ix q i).toNat) k1).2<(m.sT.length:Int):=hek.2.2
   refine sk (th (sq (bk (sq (rg (iF J J T.dU O gB (lFA J T.dP (Nat.le_of_ble_eq_true J) (al (key:=10) T.z94 (eC (eC eZ)) fun b10=>(sPA (cs':= [int ((ix (ix m.sT (ix q i).toNat) k1).1),int ((ix (ix m.sT (ix q i).toNat) k1).2)]) J J J T.dP J J (nl (th (sq (rg (mv (fP J T.eY (lP J J J T.aH (iO J J J T.aT O O (lO J J gB J T.aH (bi J J gF (nl (th ?_)))))))))))))))))))))
   refine cd J (fun hc2=> ?_) (fun hc2=> ?_)
   ·try simp at hc2
    have hnin:(ix (ix m.sT (ix q i).toNat) k1).2∉q2:=Wr hek2.1 hek2.2 (by rw[←hat2];simpa using hc2)
    refine sq (rg (mv (fP J T.eY (lP J J J T.aH (bsE (enc:=nE) (xs:= [((ix (ix m.sT (ix q i).toNat) k1).2)]) (css:= [[int ((ix (ix m.sT (ix q i).toNat) k1).2)]]) T.cQ ⟨J,J,p1 (φ:=int ((ix (ix m.sT (ix q i).toNat) k1).2)) J,tV⟩ J J J J (ap (key:=22) (zs:= [((ix (ix m.sT (ix q i).toNat) k1).2)]) cB J J J T.cQ (by unfold aN at*;simp;omega) (by unfold aN at*;simp;omega) fun v55=>(ag (nl (th (rg (mv (fP J T.eY (lP J J J T.aH (mv (lnO J J T.aT (iO J J J T.aT O O (sO (φ:=int ((q2++ [((ix (ix m.sT (ix q i).toNat) k1).2)]).length:Int)) J J J T.aH gB J (y':=((q2++ [((ix (ix m.sT (ix q i).toNat) k1).2)]).length:Int)) J (nl (eb (th (rg (bi J J (aM i6) (mv (nl ?_))))))))))))))))))))))))
    have hN0:(k1+1)≤(ix m.sT (ix q i).toNat).length:=by
     first|omega|simp_all
    have hN1:(q2++ [((ix (ix m.sT (ix q i).toNat) k1).2)])=visit q ((iI m (ix q i)).take (k1+1))∧(at2.set ((ix (ix m.sT (ix q i).toNat) k1).2).toNat ((q2++ [((ix (ix m.sT (ix q i).toNat) k1).2)]).length:Int))=atY m.sT.length (q2++ [((ix (ix m.sT (ix q i).toNat) k1).2)])∧(q2++ [((ix (ix m.sT (ix q i).toNat) k1).2)]).length≤10000+(k1+1):=by
     refine⟨?_,?_,by simp;omega⟩
     ·rw[CJ (m:=m) (x:=(ix q i)) hc1,EG hek2.1 (by rw[←hq2];exact hnin),←hq2]
     ·rw[hat2];exact JG hek2.1 hek2.2 hnin
    exact ln (⟨k1+1,v55,q2++ [((ix (ix m.sT (ix q i).toNat) k1).2)],at2.set ((ix (ix m.sT (ix q i).toNat) k1).2).toNat ((q2++ [((ix (ix m.sT (ix q i).toNat) k1).2)]).length:Int)⟩:Nat × Value × (List Int) × (List Int)) ⟨hN0,hN1⟩ dO ⟨id,id,id,id,id,id,id,id,id,tV⟩ ⟨rI,rI,rI,rI,tV⟩
   ·try simp at hc2
    have hin:(ix (ix m.sT (ix q i).toNat) k1).2∈q2:=TV hek2.1 hek2.2 (by rw[←hat2];simpa using hc2)
    refine sk (eb (th (rg (bi J J (aM i6) (mv (nl ?_))))))
    have hN0:(k1+1)≤(ix m.sT (ix q i).toNat).length:=by
     first|omega|simp_all
    have hN1:q2=visit q ((iI m (ix q i)).take (k1+1))∧at2=atY m.sT.length q2∧q2.length≤10000+(k1+1):=by
     refine⟨?_,hat2,O⟩
     rw[CJ (m:=m) (x:=(ix q i)) hc1];exact hq2.trans (EH (by rw[←hq2];exact hin)).symm
    exact ln (⟨k1+1,v2,q2,at2⟩:Nat × Value × (List Int) × (List Int)) ⟨hN0,hN1⟩ dO ⟨id,id,id,id,id,id,id,id,id,tV⟩ ⟨rI,rI,rI,rI,tV⟩
  ·try simp at hc1
   refine ex (xt_ (xt_ (xb (eb (th (rg (mv (bi J J (aM i6) (ag (nl ?_))))))))))
   have hN0:q2=bqY m (i+1)∧at2=atY m.sT.length q2∧(i+1)≤q2.length:=by
    have he:q2=bqY m (i+1):=by
     rw[He (by rw[←hqe];exact hc0),←hqe,hq2,show k1=(ix m.sT (ix q i).toNat).length by omega]
     congr 1
     exact List.take_of_length_le (by unfold iI;rw[List.length_map];exact Nat.le_refl _)
    have hpre:q<+:q2:=by rw[hq2];exact gV _ _
    have hle2:=hpre.length_le
    exact⟨he,hat2,O⟩
   exact ln (⟨i+1,v2,q2,at2⟩:Nat × Value × (List Int) × (List Int)) hN0 (by show m.sT.length- (i+1)<m.sT.length- i;omega) ⟨id,id,id,id,id,id,tV⟩ ⟨rI,rI,rI,rI,tV⟩
 ·try simp at hc0
  have hqo:q=bD m:=by rw[hqe];exact JE hm O (by rw[←hqe];omega)
  refine ex (xt_ (xt_ (xb (th (sq (rg (fP J T.hU (lP J J J T.dE (eI (φs:= [sl 1 rE_ m.aC]) (φ:=sl 1 rE_ m.aC) ⟨J,tV⟩ (prog.fI _ O) T.rA (fun N hN=>fun h=>bV h) (bd (css:= [(0,_)]) T.mW (eC (eC eZ)) ⟨J,J,p1 (φ:=sl 1 rE_ m.aC) J,tV⟩ (al (key:=11) T.z25 (eC (eC eZ)) fun b11=>(sPA (cs':= [sl 1 rE_ m.aC,eqv (.slice none 0 0)]) J J J T.aU J J (nl (th (sq (sq (rg (mv (lnO J J T.aT (mv (nl (th (bk ?_)))))))))))))))))))))))
  refine nwC 110 87 1 gE (nS 11 1 (osl 110 (.slice none 0 0)) rfl rfl dR ?_)
  have hI2_0:0≤q.length:=by
   first|omega|simp
  have hI2_1:([]:List (List (Int × Int)))=sY m 0:=by
   rfl
  refine lp (κ:=Nat × Value × (List (List (Int × Int)))) (fun p=> [(2,ptr 2 b2 0),(4,ptr 4 b4 0),(5,eqv (.slice none 0 0)),(6,osl 20 v20),(7,osl 22 v),(11,ptr 11 b11 0),(67,osl 22 v),(68,int (q.length:Int)),(69,int (p.1:Int))]) (fun p=> [(2,cell b2 [sl 1 rE_ m.aC,sl 1 gE m.sT]),(4,cell b4 [eqv (.slice none 0 0),eqv (.slice none 0 0)]),(11,cell b11 [sl 1 rE_ m.aC,osl 110 p.2.1]),(20,own v20 3 1 nE at_),(22,own v 3 1 nE q),(110,own p.2.1 87 1 gE p.2.2)]) (fun p=>(p.1≤q.length)∧(p.2.2=sY m p.1)) (fun p=>q.length- p.1) ⟨0,(.slice none 0 0),([]:List (List (Int × Int)))⟩ ⟨hI2_0,hI2_1⟩ ⟨id,id,id,id,id,id,id,id,id,tV⟩ ⟨rI,rI,rI,rI,rI,rI,tV⟩ ?_
  intro⟨k2,uo,aD⟩ hG2
  obtain⟨hk2,hout⟩:(k2≤q.length)∧(aD=sY m k2):=hG2
  show Ct _ _ _ _ [(2,ptr 2 b2 0),(4,ptr 4 b4 0),(5,eqv (.slice none 0 0)),(6,osl 20 v20),(7,osl 22 v),(11,ptr 11 b11 0),(67,osl 22 v),(68,int (q.length:Int)),(69,int (k2:Int))] [(2,cell b2 [sl 1 rE_ m.aC,sl 1 gE m.sT]),(4,cell b4 [eqv (.slice none 0 0),eqv (.slice none 0 0)]),(11,cell b11 [sl 1 rE_ m.aC,osl 110 uo]),(20,own v20 3 1 nE at_),(22,own v 3 1 nE q),(110,own uo 87 1 gE aD)] _
  have hol:aD.length≤k2:=by rw[hout];exact Qt m k2
  refine sq (rg (bi J J aZ (nl (th (sq ?_)))))
  refine cd J (fun hc3=> ?_) (fun hc3=> ?_)
  ·try simp at hc3
   have hk2:k2<(bD m).length:=by rw[←hqo];omega
   have hxb:=(lD hm).bd _ (aO hk2)
   have hmx:=hm.many (ix (bD m) k2).toNat O
   have hmx2:(ix m.sT (ix (bD m) k2).toNat).length≤400000:=hmx
   have hqk:ix q k2=(ix (bD m) k2):=by rw[hqo]
   refine sk (th (sq (bk (sq (rg (iO J J J T.aT O O (lO J J gB J T.aH (kd (φ':=int (ix (bD m) k2)) (by rw[hqk];exact fun h=>h) (ag (nl (th (sq (rg (nw 14 94 2 pE (ag (rtg (key:=14) 14 J (nl (th (sq (sq (rg (fP J T.bY (lP J J J T.dA (mv (iF J J T.gY O gB (lF J J T.fK (fc (bL 77 J) fun hm77=>(lnF J T.dU (mv (nl (th (bk ?_))))))))))))))))))))))))))))))))
   have hI3_0:0≤(ix m.sT (ix (bD m) k2).toNat).length:=by
    first|omega|simp
   have hI3_1:([]:List (Int × Int))=sX (bD m) (ix m.sT (ix (bD m) k2).toNat) 0:=by
    rfl
   refine lp (κ:=Nat × Value × (List (Int × Int))) (fun p=> [(2,ptr 2 b2 0),(4,ptr 4 b4 0),(5,eqv (.slice none 0 0)),(6,osl 20 v20),(7,osl 22 v),(11,ptr 11 b11 0),(14,osl 14 p.2.1),(67,osl 22 v),(68,int (q.length:Int)),(69,int (k2:Int)),(77,sl 2 pE (ix m.sT (ix (bD m) k2).toNat)),(78,int ((ix m.sT (ix (bD m) k2).toNat).length:Int)),(79,int (p.1:Int))]) (fun p=> [(2,cell b2 [sl 1 rE_ m.aC,sl 1 gE m.sT]),(4,cell b4 [eqv (.slice none 0 0),eqv (.slice none 0 0)]),(11,cell b11 [sl 1 rE_ m.aC,osl 110 uo]),(14,own p.2.1 94 2 pE p.2.2),(20,own v20 3 1 nE at_),(22,own v 3 1 nE q),(110,own uo 87 1 gE aD)]) (fun p=>(p.1≤(ix m.sT (ix (bD m) k2).toNat).length)∧(p.2.2=sX (bD m) (ix m.sT (ix (bD m) k2).toNat) p.1)) (fun p=>(ix m.sT (ix (bD m) k2).toNat).length- p.1) ⟨0,(.slice none 0 0),([]:List (Int × Int))⟩ ⟨hI3_0,hI3_1⟩ ⟨id,id,id,id,id,id,id,id,id,id,id,id,id,tV⟩ ⟨rI,rI,rI,rI,rI,rI,rI,tV⟩ ?_
   intro⟨k3,w1,l1⟩ hG3
   obtain⟨hk3,hl1⟩:(k3≤(ix m.sT (ix (bD m) k2).toNat).length)∧(l1=sX (bD m) (ix m.sT (ix (bD m) k2).toNat) k3):=hG3
   show Ct _ _ _ _ [(2,ptr 2 b2 0),(4,ptr 4 b4 0),(5,eqv (.slice none 0 0)),(6,osl 20 v20),(7,osl 22 v),(11,ptr 11 b11 0),(14,osl 14 w1),(67,osl 22 v),(68,int (q.length:Int)),(69,int (k2:Int)),(77,sl 2 pE (ix m.sT (ix (bD m) k2).toNat)),(78,int ((ix m.sT (ix (bD m) k2).toNat).length:Int)),(79,int (k3:Int))] [(2,cell b2 [sl 1 rE_ m.aC,sl 1 gE m.sT]),(4,cell b4 [eqv (.slice none 0 0),eqv (.slice none 0 0)]),(11,cell b11 [sl 1 rE_ m.aC,osl 110 uo]),(14,own w1 94 2 pE l1),(20,own v20 3 1 nE at_),(22,own v 3 1 nE q),(110,own uo 87 1 gE aD)] _
   have hll:l1.length≤k3:=by rw[hl1];exact Qr
   refine sq (rg (bi J J aZ (nl (th (sq ?_)))))
   refine cd J (fun hc4=> ?_) (fun hc4=> ?_)
   ·try simp at hc4
    have hed:=hm.ed (ix (bD m) k2).toNat O _ (aO (l:=(ix m.sT (ix (bD m) k2).toNat)) O)
    have hed2:0≤(ix (ix m.sT (ix (bD m) k2).toNat) k3).1∧(ix (ix m.sT (ix (bD m) k2).toNat) k3).1<(m.aC.length:Int)∧0≤(ix (ix m.sT (ix (bD m) k2).toNat) k3).2∧(ix (ix m.sT (ix (bD m) k2).toNat) k3).2<(m.sT.length:Int):=hed
    have hcl:(ix (ix m.sT (ix (bD m) k2).toNat) k3).2∈bD m:=mH hm hk2 (aO (l:=(ix m.sT (ix (bD m) k2).toNat)) O)
    have hix:=Ws hed2.2.2.1 hed2.2.2.2 hcl
    rw[←hqo,←hate] at hix
    have hpb:=fZ (bD m) (ix (ix m.sT (ix (bD m) k2).toNat) k3).2
    have hpl:=kD hcl
    have hql5:q.length≤10000:=by omega
    rw[hqo] at hix
    refine sk (th (sq (bk (sq (rg (iF J J T.dU O gB (lFA J T.dP (Nat.le_of_ble_eq_true J) (al (key:=16) T.z94 (eC (eC eZ)) fun b16=>(sPA (cs':= [int ((ix (ix m.sT (ix (bD m) k2).toNat) k3).1),int ((ix (ix m.sT (ix (bD m) k2).toNat) k3).2)]) J J J T.dP J J (nl (th (dr (nh:=11) [0,0,2,0,0,16,56,120,248,510,1022,2047,4095] T.mixed kR ?_))))))))))))
    refine st_ J (fun _ _ _ gq kq=>mv' (gq.1.trans J) kq) ?_
    refine st_ J (fun _ _ _ gq kq=>fP (gq.1.trans J) T.eE kq) ?_
    refine st_ J (fun _ _ _ gq kq=>lP (gq.1.trans J) J J T.aH kq) ?_
    refine st_ J (fun _ _ _ gq kq=>mv' (gq.1.trans J) kq) ?_
    refine st_ J (fun _ _ _ gq kq=>fP (gq.1.trans J) T.eY kq) ?_
    refine st_ J (fun _ _ _ gq kq=>lP (gq.1.trans J) J J T.aH kq) ?_
    refine st_ J (fun _ _ _ gq kq=>iO (gq.1.trans J) J (gq.2.1.trans J) T.aT O O kq) ?_
    refine st_ J (fun _ _ _ gq kq=>lO (gq.1.trans J) J gB J T.aH kq) ?_
    refine st_ J (fun _ _ _ gq kq=>bi (gq.1.trans J) J (mI i6) kq) ?_
    refine st_ J (fun _ _ _ gq kq=>bd (css:= [(0,_),(1,_)]) T.wN (eC (eC eZ)) ⟨J,J,p1 (φ:=int ((ix (ix m.sT (ix (bD m) k2).toNat) k3).1)) (by exact(gq.1.trans J)),⟨J,J,p1 (φ:=int ((ix at_ ((ix (ix m.sT (ix (bD m) k2).toNat) k3).2).toNat)- 1)) (by exact(gq.2.1.trans J)),tV⟩⟩ kq) ?_
    refine st_ J (fun _ _ _ gq kq=>bsE (enc:=pE) (xs:= [((ix (ix m.sT (ix (bD m) k2).toNat) k3).1,(ix at_ ((ix (ix m.sT (ix (bD m) k2).toNat) k3).2).toNat)- 1)]) (css:= [[int ((ix (ix m.sT (ix (bD m) k2).toNat) k3).1),int ((ix at_ ((ix (ix m.sT (ix (bD m) k2).toNat) k3).2).toNat)- 1)]]) T.kW ⟨J,J,pA (cs:= [int ((ix (ix m.sT (ix (bD m) k2).toNat) k3).1),int ((ix at_ ((ix (ix m.sT (ix (bD m) k2).toNat) k3).2).toNat)- 1)]) (by exact(gq.1.trans J)),tV⟩ J J J J kq) ?_
    refine pn (ap (key:=14) (zs:= [((ix (ix m.sT (ix (bD m) k2).toNat) k3).1,(ix at_ ((ix (ix m.sT (ix (bD m) k2).toNat) k3).2).toNat)- 1)]) cB J J J T.kW (by unfold aN at*;simp;omega) (by unfold aN at*;simp;omega) fun v94=>(ag (nl (eb (th (rg (bi J J (aM i6) (mv (nl ?_)))))))))
    have hN0:(k3+1)≤(ix m.sT (ix (bD m) k2).toNat).length:=by
     first|omega|simp_all
    have hN1:(l1++ [((ix (ix m.sT (ix (bD m) k2).toNat) k3).1,(ix at_ ((ix (ix m.sT (ix (bD m) k2).toNat) k3).2).toNat)- 1)])=sX (bD m) (ix m.sT (ix (bD m) k2).toNat) (k3+1):=by
     rw[NC O,hl1];first|rfl|(rw[hix])
    exact ln (⟨k3+1,v94,l1++ [((ix (ix m.sT (ix (bD m) k2).toNat) k3).1,(ix at_ ((ix (ix m.sT (ix (bD m) k2).toNat) k3).2).toNat)- 1)]⟩:Nat × Value × (List (Int × Int))) ⟨hN0,hN1⟩ dO ⟨id,id,id,id,id,id,id,id,id,id,id,id,id,tV⟩ ⟨rI,rI,rI,rI,rI,rI,rI,tV⟩
   ·try simp at hc4
    refine ex (xt_ (xt_ (xb (th (sq (rg (mv ?_)))))))
    have hbd:∀p∈l1,bdP p:=fun p hp=>by
     rw[hl1] at hp
     obtain⟨e,he,rfl⟩:=List.mem_map.1 hp
     have h9:=hm.ed (ix (bD m) k2).toNat O e (List.mem_of_mem_take he)
     have h8:=fZ (bD m) e.2
     unfold bdP;dsimp only;omega
    refine cal (Hi:= [(14,own w1 94 2 pE l1)]) (φs:= [osl 5 w1,eqv (.func (.func 114) #[] #[])]) ⟨dV.trans dV.symm,rfl,tV⟩ (nM 5 14 (sortE.uF w1 l1 aS)) T.Cp ⟨rI,tV⟩ fun _ _=>(nl (th (rg (fP rfl T.bY (lP rfl rfl rfl T.dA (mv (fz 14 100 rfl rfl (bsE (enc:=gE) (xs:= [(bT l1)]) (css:= [[sl 2 pE (bT l1)]]) T.pF ⟨rfl,rfl,p1 (φ:=sl 2 pE (bT l1)) rfl,tV⟩ rfl rfl rfl rfl (ap (key:=110) (zs:= [(bT l1)]) cB rfl rfl rfl T.pF (by unfold aN at*;simp;omega) (by unfold aN at*;simp;omega) fun v102=>(fP rfl T.bY (cK rfl rfl rfl rfl T.dA rfl (nl (eb (th (rg (bi rfl rfl (aM i6) (mv (nl ?_))))))))))))))))))
    have hN0:(k2+1)≤q.length:=by
     first|omega|simp_all
    have hN1:(aD++ [(bT l1)])=sY m (k2+1):=by
     rw[ND hk2,hout,hl1,Qq (by show(ix m.sT (ix (bD m) k2).toNat).length≤k3;omega)]
    exact ln (⟨k2+1,v102,aD++ [(bT l1)]⟩:Nat × Value × (List (List (Int × Int)))) ⟨hN0,hN1⟩ dO ⟨id,id,id,id,id,id,id,id,id,tV⟩ ⟨rI,rI,rI,rI,rI,rI,tV⟩
  ·try simp at hc3
   refine ex (xt_ (xt_ (xb (th (sq (rg (fzc 11 110 1 J J J J (lPA J J T.aU J (mv (sPA (cs':= [sl 1 rE_ m.aC,sl 1 gE aD]) J J J T.aU J J (ag (nl (th (rt ?_))))))))))))))
   refine fzA 22 5 rfl rfl ?_
   have hr0:aD=(aF m).sT:=by
    rw[hout];exact Qs (by rw[←hqo];omega)
   have hr1:q=(bD m):=by
    exact hqo
   exact rE () [.cell 4 25,.tmp 5] J [agg [sl 1 rE_ m.aC,sl 1 gE aD],sl 1 nE q] ⟨.agg J J T.aU J J,.tmp J,tV⟩ (cA2 (fun x0 x1=>rV [agg [sl 1 rE_ m.aC,sl 1 gE x0],sl 1 nE x1]) hr0 hr1) trivial eX
end mkl
end
section
namespace ClsM
open ref01 ref03 ref04 ref06 Part Rungs LeftM TrimM RoundM MergeM BisM BisM3 BisM4 BisM5 BisM6 Itoa Keys WalkM WitM JudgM JudgM2 LevM divr divs divd dive divf divv judg sysw satj ChsM BisS TrimI QuoM FailM DivM RefM GenW CompM CrossM FitM TogM KeepK GuardM MakeM LsysM LsysM2 KeepB AtM
def kyB (k:KY):ByteArray:=mV k.1 k.2
def okK (k:KY):Prop:=0≤k.1∧∀x∈k.2,0≤x
theorem TY {p q:KY} (hp:okK p) (hq:okK q) (h:kyB p=kyB q):p=q:=by
 obtain⟨h1,h2⟩:=Pe hp.1 hq.1 hp.2 hq.2 h
 exact Prod.ext h1 h2
def eT (m:aA) (cl:List Int) (k:Nat):List KY:=gR ((cW m cl).take k)
def pO (mm:List (ByteArray × Int)) (l:List KY):Prop:=mm.length=l.length∧∀p,okK p→bJ mm (kyB p)=if p∈l then some (pxa l p:Int) else none
theorem NJ:pO [] []:=⟨rfl,fun p _=>by rw[if_neg (by simp)];rfl⟩
theorem NK {mm:List (ByteArray × Int)} {l:List KY} (h:pO mm l) {p:KY} (hp0:okK p) (hp:p∉l):pO (bQ mm (kyB p) (mm.length:Int)) (l++ [p]):=by
 have hn:bJ mm (kyB p)=none:=by rw[h.2 p hp0,if_neg hp]
 refine⟨by rw[FF,hn];simp[h.1],fun q hq0=> ?_⟩
 rw[kO,h.2 q hq0]
 by_cases e:p=q
 ·subst e
  rw[if_pos rfl,if_pos (by simp),sS hp,h.1]
 ·rw[if_neg (fun g=>e (TY hp0 hq0 g))]
  have:q∈l++ [p]↔q∈l:=by
   rw[List.mem_append]
   exact⟨fun h=>h.resolve_right (fun h=>e (List.mem_singleton.1 h).symm),.inl⟩
  by_cases hq:q∈l
  ·rw[if_pos hq,if_pos (this.2 hq),sR (List.prefix_append l [p]) hq]
  ·rw[if_neg hq,if_neg (fun h=>hq (this.1 h))]
theorem TZ {m:aA} {cl:List Int} {k:Nat} (hk:k<m.sT.length):ix (cW m cl) k=dY m cl k:=cG hk
theorem Hs (m:aA) (cl:List Int):(cW m cl).length=m.sT.length:=by simp[cW]
theorem nQ {m:aA} {cl:List Int} {k:Nat} (hk:k<m.sT.length):eT m cl (k+1)=eS (eT m cl k) (dY m cl k):=by
 unfold eT gR
 rw[bN (by rw[Hs];exact hk),List.foldl_append,TZ hk];rfl
theorem Ht {m:aA} {cl:List Int}:∀{j k:Nat},j≤k→k≤m.sT.length→eT m cl j<+:eT m cl k
 |j,0,h,_=>by rw[show j=0 by omega];exact List.prefix_rfl
 |j,k+1,h,hk=>by
  by_cases e:j=k+1
  ·rw[e];exact List.prefix_rfl
  ·rw[nQ O]
   exact(Ht O O).trans (uI _ _)
theorem Bd (m:aA) (cl:List Int):eT m cl m.sT.length=gR (cW m cl):=by
 unfold eT
 rw[List.take_of_length_le (by rw[Hs];exact Nat.le_refl _)]
def gM (m:aA) (cl:List Int) (k:Nat):List Int:=(List.range m.sT.length).map fun x=>if x<k then ix (dX m cl) x else 0
theorem qK (m:aA) (cl:List Int) (k:Nat):(gM m cl k).length=m.sT.length:=by simp[gM]
theorem Lf (m:aA) (cl:List Int):List.replicate m.sT.length (0:Int)=gM m cl 0:=by
 apply List.ext_getElem (by simp[gM])
 intro i a1 a2
 simp[gM]
theorem yR {m:aA} {cl:List Int} {k i:Nat} (h:i<(gM m cl k).length):(gM m cl k)[i]=if i<k then ix (dX m cl) i else 0:=by simp[gM]
theorem CN {m:aA} {cl:List Int} {k:Nat}:(gM m cl k).set k (ix (dX m cl) k)=gM m cl (k+1):=by
 apply List.ext_getElem (by simp[gM])
 intro i a1 a2
 have hi:i<(gM m cl k).length:=by rw[qK];rw[qK] at a2;exact a2
 rw[List.getElem_set,yR a2]
 by_cases e:k=i
 ·subst e;rw[if_pos rfl,if_pos O]
 ·rw[if_neg e,yR hi]
  by_cases c:i<k
  ·rw[if_pos c,if_pos O]
  ·rw[if_neg c,if_neg O]
theorem NL (m:aA) (cl:List Int):gM m cl m.sT.length=dX m cl:=by
 apply List.ext_getElem (by rw[qK,LsysM.GY])
 intro i a1 a2
 have hi:i<m.sT.length:=by rw[qK] at a1;exact a1
 rw[yR a1,if_pos hi,aG a2]
theorem wY {m:aA} {cl:List Int} {k:Nat} (hk:k<m.sT.length):ix (dX m cl) k=(pxa (eT m cl (k+1)) (dY m cl k):Int):=by
 rw[vM hk,←Bd]
 have hin:dY m cl k∈eT m cl (k+1):=by rw[nQ hk];exact AO _ _
 rw[sR (Ht (j:=k+1) O (Nat.le_refl _)) hin]
theorem Ua {m:aA} {cl:List Int} {k:Nat} {mm:List (ByteArray × Int)} (hk:k<m.sT.length) (h:pO mm (eT m cl k)) (ho:okK (dY m cl k)) (hs:(bJ mm (kyB (dY m cl k))).isSome=false):
 pO (bQ mm (kyB (dY m cl k)) (mm.length:Int)) (eT m cl (k+1))∧(gM m cl k).set k (mm.length:Int)=gM m cl (k+1):=by
 have hn:dY m cl k∉eT m cl k:=fun g=>by rw[h.2 _ ho,if_pos g] at hs;cases hs
 have e:eT m cl (k+1)=eT m cl k++ [dY m cl k]:=by rw[nQ hk];unfold eS;rw[if_neg hn]
 refine⟨by rw[e];exact NK h ho hn,?_⟩
 have:(mm.length:Int)=ix (dX m cl) k:=by rw[wY hk,e,sS hn,h.1]
 rw[this,CN]
theorem Ub {m:aA} {cl:List Int} {k:Nat} {mm:List (ByteArray × Int)} (hk:k<m.sT.length) (h:pO mm (eT m cl k)) (ho:okK (dY m cl k)) (hs:(bJ mm (kyB (dY m cl k))).isSome=true):
 pO mm (eT m cl (k+1))∧(gM m cl k).set k ((bJ mm (kyB (dY m cl k))).getD 0)=gM m cl (k+1):=by
 have hn:dY m cl k∈eT m cl k:=Classical.byContradiction fun g=>by rw[h.2 _ ho,if_neg g] at hs;cases hs
 have e:eT m cl (k+1)=eT m cl k:=by rw[nQ hk];unfold eS;rw[if_pos hn]
 refine⟨by rw[e];exact h,?_⟩
 have:(bJ mm (kyB (dY m cl k))).getD 0=ix (dX m cl) k:=by rw[wY hk,e,h.2 _ ho,if_pos hn];rfl
 rw[this,CN]
theorem Qw {m:aA} {cl:List Int} {mm:List (ByteArray × Int)} (h:pO mm (eT m cl m.sT.length)):mm.length=gH m cl:=by
 rw[h.1,Bd];rfl
def sZ (n:Nat) (cl:List Int) (es:List PP) (k:Nat):List Int:=(es.take k).map fun e=>e.1*((n:Int)+1)+ix cl e.2.toNat
theorem NM {n:Nat} {cl:List Int} {es:List PP} {k:Nat} (h:k<es.length):sZ n cl es (k+1)=sZ n cl es k++ [(ix es k).1*((n:Int)+1)+ix cl (ix es k).2.toNat]:=by
 unfold sZ
 rw[bN h,List.map_append];rfl
theorem Qx {n:Nat} {cl:List Int} {es:List PP} {k:Nat}:(sZ n cl es k).length≤k:=by unfold sZ;rw[List.length_map,List.length_take];omega
theorem Qy {n:Nat} {cl:List Int} {es:List PP} {k:Nat} (h:es.length≤k):Lib.compact (fC (sZ n cl es k))=pN n cl es:=by
 unfold sZ pN
 rw[List.take_of_length_le h]
theorem Ww {a n:Int} (h0:0≤a) (h1:a<8) (h2:0≤n) (h3:n≤10000):0≤a*(n+1)∧a*(n+1)≤80008:=by
 refine⟨Int.mul_nonneg h0 O,?_⟩
 have:=Int.mul_le_mul (show a≤8 by omega) (show n+1≤10001 by omega) O O
 omega
theorem NN {m:aA} (hm:bC m) {k:Nat} {cl:List Int} (h:Lab m.sT.length k cl) (hk:k≤m.sT.length) {x:Nat} (hx:x<m.sT.length):∀v∈pN cl.length cl (edg m x),0≤v∧v≤100000:=fun v hv=>by
 obtain⟨e,he,rfl⟩:=jT.1 hv
 have h1:=hm.ed x hx e he
 have h2:=h.bd e.2.toNat O
 have h3:=hm.few1
 have h4:=hm.n8
 rw[h.len]
 have:=Ww (a:=e.1) (n:=(m.sT.length:Int)) O O O O
 omega
theorem Uc {m:aA} (hm:bC m) {n:Nat} {cl:List Int} {x:Nat} (hx:x<m.sT.length):(pN n cl (edg m x)).length≤400000:=by
 unfold pN
 refine Nat.le_trans (EE _) ?_
 unfold fC
 rw[List.length_mergeSort,List.length_map]
 exact hm.many x hx
theorem Ud {m:aA} (hm:bC m) {k:Nat} {cl:List Int} (h:Lab m.sT.length k cl) (hk:k≤m.sT.length) {x:Nat} (hx:x<m.sT.length):okK (dY m cl x):=⟨(h.bd x hx).1,fun v hv=>(NN hm h hk hx v hv).1⟩
theorem EK (m:aA) (f k:Nat) (cl:List Int):wX m (f+1) k cl=if k<gH m cl then wX m f (gH m cl) (dX m cl) else dX m cl:=rfl
structure CR (m:aA) (f k:Nat) (cl:List Int):Prop where
 eq:aI m=wX m f k cl
 lab:Lab m.sT.length k cl
 few:k≤m.sT.length
 fuel:m.sT.length- k<f
theorem Ue {m:aA} (hm:bC m):CR m (m.sT.length+1) 1 (List.replicate m.sT.length 0):=⟨rfl,GZ hm,hm.few0,O⟩
theorem Uf {m:aA} {f k:Nat} {cl:List Int} (h:CR m (f+1) k cl) (hk:k<gH m cl):CR m f (gH m cl) (dX m cl):=by
 have h1:=h.eq
 rw[EK,if_pos hk] at h1
 have h2:=DN m cl
 have h3:=h.fuel
 exact⟨h1,Bc m cl,h2,O⟩
theorem Wx {m:aA} {f k:Nat} {cl:List Int} (h:CR m (f+1) k cl) (hk:¬k<gH m cl):dX m cl=aI m:=by
 have h1:=h.eq
 rw[EK,if_neg hk] at h1
 exact h1.symm
end ClsM
end
end Go.Proofs.YtnlfjojfgghchaaGreatDoor
