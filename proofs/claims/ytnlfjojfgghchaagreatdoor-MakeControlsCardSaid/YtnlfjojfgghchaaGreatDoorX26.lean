/- The walks of the functions and the plain laws. Own texts of this claim, packed: Mkcomp2, Mkmkl, MkClsM. -/
import Derived.Test.YtnlfjojfgghchaaGreatDoorX22
import Derived.Test.YtnlfjojfgghchaaGreatDoorX25
import Derived.Test.YtnlfjojfgghchaaGreatDoorX17
import Derived.Test.YtnlfjojfgghchaaGreatDoorX24
set_option linter.all false
namespace Go.Proofs.YtnlfjojfgghchaaGreatDoor
open AL Go
set_option maxRecDepth 100000
section
open ref01 Part LsysM
abbrev PQ:=Int × Int
theorem Rp {p q:PQ} (h:(!decide ((p.1,p.2)=(q.1,q.2)))=true):p≠q:=fun e=>by subst e;simp at h
theorem Rq {p q:PQ} (h:(!decide ((p.1,p.2)=(q.1,q.2)))=false):p=q:=by simpa [Prod.ext_iff] using h
def CI (xs dk:List PQ) (m k:Nat):Prop:=Lib.CompInv xs.toArray m k dk.toArray
def kpT (xs:List PQ) (k:Nat):Prop:=∀j,j<k→Lib.keeps xs.toArray j=true
theorem Cf (xs:List PQ):kpT xs 1:=Lib.keeps_lt_one _
theorem IP {xs:List PQ} {k:Nat} (h:kpT xs k) (hk:k<xs.length) (h0:0<k) (hne:ix xs k≠ix xs (k- 1)):kpT xs (k+1):=fun j hj=>by
 by_cases e:j=k
 ·subst e;exact Lib.keeps_pos (by rw[iH hk,iH O];exact hne)
 ·exact h j O
theorem Cg {xs:List PQ} {k:Nat} (h:kpT xs k) (hk:xs.length≤k):Lib.compact xs=xs:=Lib.compact_all xs fun j hj=>h j O
theorem Gr {xs:List PQ} {k:Nat} (h:kpT xs k) (hk:k<xs.length) (h0:0<k) (he:ix xs k=ix xs (k- 1)):CI xs xs (k+1) k:=Lib.CompInv.start h (Lib.keeps_neg h0 (by rw[iH hk,iH O];exact he))
theorem Ch {xs dk:List PQ} {m k:Nat} (h:CI xs dk m k):dk.length=xs.length∧k<m:=⟨by have:=h.size;simpa using this,h.lt⟩
theorem zJ {xs dk:List PQ} {m k j:Nat} (h:CI xs dk m k) (hj:k≤j) (hl:j<xs.length):ix dk j=ix xs j:=by
 have:=h.high j hj
 rwa [iH (by rw[(Ch h).1];exact hl),iH hl] at this
theorem IQ {xs dk:List PQ} {m k:Nat} (h:CI xs dk m k) (hm:m<xs.length) (hne:ix xs m≠ix xs (m- 1)):CI xs (dk.set k (ix xs m)) (m+1) (k+1):=by
 have h2:=Lib.CompInv.keep h (by simpa using hm) (Lib.keeps_pos (by rw[iH hm,iH O];exact hne))
 rw[iH hm,List.setIfInBounds_toArray] at h2
 exact h2
theorem IR {xs dk:List PQ} {m k:Nat} (h:CI xs dk m k) (hm:m<xs.length) (he:ix xs m=ix xs (m- 1)):CI xs dk (m+1) k:=
 Lib.CompInv.skip h (Lib.keeps_neg (by have:=h.lt;omega) (by rw[iH hm,iH O];exact he))
theorem MF {xs dk:List PQ} {m k:Nat} (h:CI xs dk m k) (hm:m=xs.length):Lib.compact xs=dk.take k:=by
 subst hm
 have hl:=h.len
 have hk:=Ch h
 unfold Lib.compact
 apply List.ext_getElem?
 intro j
 by_cases c:j<k
 ·rw[h.low j c,iH O,List.getElem?_take,if_pos c,List.getElem?_eq_getElem O,aD O]
 ·rw[List.getElem?_eq_none O,List.getElem?_eq_none (by simp;omega)]
namespace T
theorem Rs:zI Tryz.prog 94 3:=⟨by kernel_rfl,by kernel_rfl,by kernel_rfl,by kernel_rfl,by kernel_rfl⟩
end T
namespace comp2
theorem Pw (v:Value) (xs:List (Int × Int)) (hl:xs.length≤4000000000000):
 AL.Fn Tryz.prog 152 [osl 55 v] [(55,own v 94 2 pE xs)] (ι:=Value) (fun _ v2=>osl 55 v2) (fun v2=> [(55,own v2 94 2 pE (Lib.compact xs))]):=by
 refine fnI Tryz.func152 rfl rfl (fun w0 F0=> ?_)
 refine sq (rg (ag (nl (th (sq (sq (rg (mv (lnO J J T.cQ (bi J J aO (nl (th ?_))))))))))))
 refine cd J (fun hc0=> ?_) (fun hc0=> ?_)
 ·try simp at hc0
  have hput:Lib.compact xs=xs:=Cg (Cf xs) O
  refine sq (rg (mv (ag (nl (th (rt (rt_ ?_)))))))
  exact rE v [.tmp 2] J [osl 55 v] ⟨.tmp J,tV⟩ J (by rw[hput];exact⟨rI,tV⟩) eX
 ·try simp at hc0
  have hl2:2≤xs.length:=by omega
  refine sk (th (sq (sq (rg (ag (nl (th (bk ?_))))))))
  have hI0_0:1≤1∧1≤xs.length∧kpT xs 1:=by
   exact⟨O,O,Cf xs⟩
  refine lp (κ:=Nat) (fun p=> [(0,osl 55 v),(3,int (p:Int))]) (fun p=> [(55,own v 94 2 pE xs)]) (fun p=>1≤p∧p≤xs.length∧kpT xs p) (fun p=>xs.length- p) 1 hI0_0 ⟨id,id,tV⟩ ⟨rI,tV⟩ ?_
  intro i hG0
  obtain⟨hi1,hil,hkp⟩:1≤i∧i≤xs.length∧kpT xs i:=hG0
  refine sq (sq (rg (mv (mv (lnO J J T.cQ (bi J J aO (nl (th ?_))))))))
  refine cd J (fun hc1=> ?_) (fun hc1=> ?_)
  ·try simp at hc1
   refine sk (th (sq (bk (sq (dr (nh:=10) [0,0,3,7,0,0,32,112,240,511] T.mixed kR ?_)))))
   refine st_ J (fun _ _ _ gq kq=>mv' (gq.1.trans J) kq) ?_
   refine st_ J (fun _ _ _ gq kq=>mv' (gq.1.trans J) kq) ?_
   refine st_ J (fun _ _ _ gq kq=>iO (gq.1.trans J) J (gq.2.1.trans J) T.cQ O O kq) ?_
   refine st_ J (fun _ _ _ gq kq=>lOA (gq.1.trans J) J gB T.cJ (by decide) kq) ?_
   refine st_ J (fun _ _ _ gq kq=>mv' (gq.1.trans J) kq) ?_
   refine st_ J (fun _ _ _ gq kq=>mv' (gq.1.trans J) kq) ?_
   refine st_ J (fun _ _ _ gq kq=>bi (gq.1.trans J) J (kQ i6) kq) ?_
   refine st_ J (fun _ _ _ gq kq=>iO (gq.1.trans J) J (gq.2.1.trans J) T.cQ O O kq) ?_
   refine st_ J (fun _ _ _ gq kq=>lOA (gq.1.trans J) J gB T.cJ (by decide) kq) ?_
   refine st_ J (fun _ _ _ gq kq=>biE (gq.1.trans J) (gq.2.1.trans J) T.Rs kq) ?_
   refine pn (nl (th ?_))
   refine cd J (fun hc2=> ?_) (fun hc2=> ?_)
   ·skip
    have hdup:ix xs i=ix xs (i- 1):=by
     have h:=of_decide_eq_true hc2
     rw[show((i:Int)- 1).toNat=i- 1 by omega] at h
     exact h
    refine fcC (Wk 55 J O) fun hof55=> ?_
    obtain⟨b5,c5,hof55,hcap55⟩:=hof55
    subst hof55
    refine sq (rg (mv (mv (vI (l:=i) (m:=xs.length) J T.cQ J J O O O O (ag (nl (th (sq (sq (rg (ag (nl (th (bk ?_))))))))))))))
    have hI1_0:1≤1∧i+1≤xs.length∧i≤i∧CI xs xs (i+1) i:=by
     exact⟨O,O,O,Gr hkp O O hdup⟩
    refine lp (κ:=Nat × Nat × (List (Int × Int))) (fun p=> [(0,osl 55 (.slice (some ⟨b5,0,none⟩) xs.length c5)),(3,int (p.1:Int)),(4,eqv (.slice (some ⟨b5,i*2,none⟩) (xs.length- i) (c5- i))),(5,int (p.2.1:Int))]) (fun p=> [(55,own (.slice (some ⟨b5,0,none⟩) xs.length c5) 94 2 pE p.2.2)]) (fun p=>1≤p.2.1∧i+p.2.1≤xs.length∧i≤p.1∧CI xs p.2.2 (i+p.2.1) p.1) (fun p=>xs.length- (i+p.2.1)) ⟨i,1,xs⟩ hI1_0 ⟨id,id,id,id,tV⟩ ⟨rI,tV⟩ ?_
    intro⟨c3,i2,dk⟩ hG1
    obtain⟨h21,h2l,hc3i,hci⟩:1≤i2∧i+i2≤xs.length∧i≤c3∧CI xs dk (i+i2) c3:=hG1
    show Ct _ _ _ _ [(0,osl 55 (.slice (some ⟨b5,0,none⟩) xs.length c5)),(3,int (c3:Int)),(4,eqv (.slice (some ⟨b5,i*2,none⟩) (xs.length- i) (c5- i))),(5,int (i2:Int))] [(55,own (.slice (some ⟨b5,0,none⟩) xs.length c5) 94 2 pE dk)] _
    have hdl:=Ch hci
    refine sq (sq (rg (mv (mv (lnV J T.cQ (bi J J aO (nl (th ?_))))))))
    refine cd J (fun hc3=> ?_) (fun hc3=> ?_)
    ·try simp at hc3
     have e1:i+((i2:Int)- 1).toNat=i+i2- 1:=by omega
     have e2:=zJ hci (j:=i+i2) O O
     have e3:=zJ hci (j:=i+i2- 1) O O
     refine sk (th (sq (bk (sq (dr (nh:=10) [0,0,3,7,0,0,32,112,240,511] T.mixed kR ?_)))))
     refine st_ J (fun _ _ _ gq kq=>mv' (gq.1.trans J) kq) ?_
     refine st_ J (fun _ _ _ gq kq=>mv' (gq.1.trans J) kq) ?_
     refine st_ J (fun _ _ _ gq kq=>iOo (key:=55) (gq.1.trans J) J (gq.2.1.trans J) T.cQ O O kq) ?_
     refine st_ J (fun _ _ _ gq kq=>lOA (gq.1.trans J) J gB T.cJ (by decide) kq) ?_
     refine st_ J (fun _ _ _ gq kq=>mv' (gq.1.trans J) kq) ?_
     refine st_ J (fun _ _ _ gq kq=>mv' (gq.1.trans J) kq) ?_
     refine st_ J (fun _ _ _ gq kq=>bi (gq.1.trans J) J (kQ i6) kq) ?_
     refine st_ J (fun _ _ _ gq kq=>iOo (key:=55) (gq.1.trans J) J (gq.2.1.trans J) T.cQ O O kq) ?_
     refine st_ J (fun _ _ _ gq kq=>lOA (gq.1.trans J) J gB T.cJ (by decide) kq) ?_
     refine st_ J (fun _ _ _ gq kq=>biN (gq.1.trans J) (gq.2.1.trans J) T.Rs kq) ?_
     refine pn (nl (th ?_))
     refine cd J (fun hc4=> ?_) (fun hc4=> ?_)
     ·skip
      have hne:ix xs (i+i2)≠ix xs (i+i2- 1):=by
       have h:=Rp hc4
       rw[e1] at h
       have h:ix dk (i+i2)≠ix dk (i+i2- 1):=h
       rw[e2,e3] at h
       exact h
      refine sq (rg (mv (mv (mv (mv (iOo (key:=55) J J J T.cQ O O (lOA J J gB T.cJ (by decide) (iO J J J T.cQ O O (sOA (cs':= [int ((ix dk (i+i2)).1),int ((ix dk (i+i2)).2)]) J J J T.cJ J gB J (y':=((ix dk (i+i2)).1,(ix dk (i+i2)).2)) J (nl (th (rg (mv (bi J J (aG i6) (ag (nl (eb (th (rg (mv (bi J J (aG i6) (ag (nl ?_)))))))))))))))))))))))
      have hN0:1≤(i2+1)∧i+(i2+1)≤xs.length∧i≤(c3+1)∧CI xs (dk.set c3 ((ix dk (i+i2)).1,(ix dk (i+i2)).2)) (i+(i2+1)) (c3+1):=by
       exact⟨O,O,O,by have:=IQ hci O hne;rw[e2];exact this⟩
      exact ln (⟨c3+1,i2+1,dk.set c3 ((ix dk (i+i2)).1,(ix dk (i+i2)).2)⟩:Nat × Nat × (List (Int × Int))) hN0 dO ⟨id,id,id,id,tV⟩ ⟨rI,tV⟩
     ·skip
      have heq:ix xs (i+i2)=ix xs (i+i2- 1):=by
       have h:=Rq hc4
       rw[e1] at h
       have h:ix dk (i+i2)=ix dk (i+i2- 1):=h
       rw[e2,e3] at h
       exact h
      refine sk (eb (th (rg (mv (bi J J (aG i6) (ag (nl ?_)))))))
      have hN0:1≤(i2+1)∧i+(i2+1)≤xs.length∧i≤c3∧CI xs dk (i+(i2+1)) c3:=by
       exact⟨O,O,O,IR (m:=i+i2) hci O heq⟩
      exact ln (⟨c3,i2+1,dk⟩:Nat × Nat × (List (Int × Int))) hN0 dO ⟨id,id,id,id,tV⟩ ⟨rI,tV⟩
    ·try simp at hc3
     have hput:Lib.compact xs=dk.take c3:=MF hci (show i+i2=xs.length by omega)
     refine ex (xt_ (xt_ (xb (th (sq (rg (mv (mv (vI (l:=c3) (m:=xs.length) J T.cQ J J O O O O (Wl (key:=55) J J T.oY (by decide) O O (nl (th (sq (rg (mv (mv (vI (l:=0) (m:=c3) J T.cQ J J O O O O (kn 59 (osl 55 (.slice (some ⟨b5,0,none⟩) c3 c5)) J dM (ag (nl (th (rt (rb (rt_ (rt_ (rb (rt_ ?_)))))))))))))))))))))))))))
     exact rE (.slice (some ⟨b5,0,none⟩) c3 c5) [.tmp 2] J [osl 55 (.slice (some ⟨b5,0,none⟩) c3 c5)] ⟨.tmp J,tV⟩ J (by rw[hput];exact⟨rI,tV⟩) eX
   ·skip
    have hdif:ix xs i≠ix xs (i- 1):=fun e=>by
     have h:=of_decide_eq_false hc2
     rw[show((i:Int)- 1).toNat=i- 1 by omega] at h
     exact h (by rw[e])
    refine sk (eb (th (rg (mv (bi J J (aG i6) (ag (nl ?_)))))))
    have hN0:1≤(i+1)∧(i+1)≤xs.length∧kpT xs (i+1):=by
     exact⟨O,O,IP hkp O O hdif⟩
    exact ln (i+1) hN0 dO ⟨id,id,tV⟩ ⟨rI,tV⟩
  ·try simp at hc1
   have hput:Lib.compact xs=xs:=Cg hkp O
   refine ex (xt_ (xt_ (xb (th (sq (rg (mv (ag (nl (th (rt ?_)))))))))))
   exact rE v [.tmp 2] J [osl 55 v] ⟨.tmp J,tV⟩ J (by rw[hput];exact⟨rI,tV⟩) eX
theorem MG (kk:Nat) (v:Value) (xs:List (Int × Int)) (hl:xs.length≤4000000000000):AL.Fn Tryz.prog 152 [osl kk v] [(55,own v 94 2 pE xs)] (ι:=Value) (fun _ v2=>osl kk v2) (fun v2=> [(55,own v2 94 2 pE (Lib.compact xs))]):=by
 have e:∀x,osl kk x=osl 55 x:=fun x=>eV.trans eV.symm
 simp only [e]
 exact Pw v xs hl
theorem Px (v:Value) (xs:List (Int × Int)) (hl:xs.length≤4000000000000):
 AL.Fn Tryz.prog 103 [osl 55 v] [(55,own v 80 2 pE xs)] (ι:=Value) (fun _ v2=>osl 55 v2) (fun v2=> [(55,own v2 80 2 pE (Lib.compact xs))]):=by
 refine fnI Tryz.func103 rfl rfl (fun w0 F0=> ?_)
 refine sq (rg (ag (nl (th (sq (sq (rg (mv (lnO J J T.fR (bi J J aO (nl (th ?_))))))))))))
 refine cd J (fun hc0=> ?_) (fun hc0=> ?_)
 ·try simp at hc0
  have hput:Lib.compact xs=xs:=Cg (Cf xs) O
  refine sq (rg (mv (ag (nl (th (rt (rt_ ?_)))))))
  exact rE v [.tmp 2] J [osl 55 v] ⟨.tmp J,tV⟩ J (by rw[hput];exact⟨rI,tV⟩) eX
 ·try simp at hc0
  have hl2:2≤xs.length:=by omega
  refine sk (th (sq (sq (rg (ag (nl (th (bk ?_))))))))
  have hI0_0:1≤1∧1≤xs.length∧kpT xs 1:=by
   exact⟨O,O,Cf xs⟩
  refine lp (κ:=Nat) (fun p=> [(0,osl 55 v),(3,int (p:Int))]) (fun p=> [(55,own v 80 2 pE xs)]) (fun p=>1≤p∧p≤xs.length∧kpT xs p) (fun p=>xs.length- p) 1 hI0_0 ⟨id,id,tV⟩ ⟨rI,tV⟩ ?_
  intro i hG0
  obtain⟨hi1,hil,hkp⟩:1≤i∧i≤xs.length∧kpT xs i:=hG0
  refine sq (sq (rg (mv (mv (lnO J J T.fR (bi J J aO (nl (th ?_))))))))
  refine cd J (fun hc1=> ?_) (fun hc1=> ?_)
  ·try simp at hc1
   refine sk (th (sq (bk (sq (dr (nh:=10) [0,0,3,7,0,0,32,112,240,511] T.mixed kR ?_)))))
   refine st_ J (fun _ _ _ gq kq=>mv' (gq.1.trans J) kq) ?_
   refine st_ J (fun _ _ _ gq kq=>mv' (gq.1.trans J) kq) ?_
   refine st_ J (fun _ _ _ gq kq=>iO (gq.1.trans J) J (gq.2.1.trans J) T.fR O O kq) ?_
   refine st_ J (fun _ _ _ gq kq=>lOA (gq.1.trans J) J gB T.dX (by decide) kq) ?_
   refine st_ J (fun _ _ _ gq kq=>mv' (gq.1.trans J) kq) ?_
   refine st_ J (fun _ _ _ gq kq=>mv' (gq.1.trans J) kq) ?_
   refine st_ J (fun _ _ _ gq kq=>bi (gq.1.trans J) J (kQ i6) kq) ?_
   refine st_ J (fun _ _ _ gq kq=>iO (gq.1.trans J) J (gq.2.1.trans J) T.fR O O kq) ?_
   refine st_ J (fun _ _ _ gq kq=>lOA (gq.1.trans J) J gB T.dX (by decide) kq) ?_
   refine st_ J (fun _ _ _ gq kq=>biA (gq.1.trans J) (gq.2.1.trans J) T.iM T.kd3 kR kR kq) ?_
   refine pn (nl (th ?_))
   refine cd J (fun hc2=> ?_) (fun hc2=> ?_)
   ·skip
    have hdup:ix xs i=ix xs (i- 1):=by
     have h:=of_decide_eq_true hc2
     rw[show((i:Int)- 1).toNat=i- 1 by omega] at h
     exact h
    refine fcC (Wk 55 J O) fun hof55=> ?_
    obtain⟨b5,c5,hof55,hcap55⟩:=hof55
    subst hof55
    refine sq (rg (mv (mv (vI (l:=i) (m:=xs.length) J T.fR J J O O O O (ag (nl (th (sq (sq (rg (ag (nl (th (bk ?_))))))))))))))
    have hI1_0:1≤1∧i+1≤xs.length∧i≤i∧CI xs xs (i+1) i:=by
     exact⟨O,O,O,Gr hkp O O hdup⟩
    refine lp (κ:=Nat × Nat × (List (Int × Int))) (fun p=> [(0,osl 55 (.slice (some ⟨b5,0,none⟩) xs.length c5)),(3,int (p.1:Int)),(4,eqv (.slice (some ⟨b5,i*2,none⟩) (xs.length- i) (c5- i))),(5,int (p.2.1:Int))]) (fun p=> [(55,own (.slice (some ⟨b5,0,none⟩) xs.length c5) 80 2 pE p.2.2)]) (fun p=>1≤p.2.1∧i+p.2.1≤xs.length∧i≤p.1∧CI xs p.2.2 (i+p.2.1) p.1) (fun p=>xs.length- (i+p.2.1)) ⟨i,1,xs⟩ hI1_0 ⟨id,id,id,id,tV⟩ ⟨rI,tV⟩ ?_
    intro⟨c3,i2,dk⟩ hG1
    obtain⟨h21,h2l,hc3i,hci⟩:1≤i2∧i+i2≤xs.length∧i≤c3∧CI xs dk (i+i2) c3:=hG1
    show Ct _ _ _ _ [(0,osl 55 (.slice (some ⟨b5,0,none⟩) xs.length c5)),(3,int (c3:Int)),(4,eqv (.slice (some ⟨b5,i*2,none⟩) (xs.length- i) (c5- i))),(5,int (i2:Int))] [(55,own (.slice (some ⟨b5,0,none⟩) xs.length c5) 80 2 pE dk)] _
    have hdl:=Ch hci
    refine sq (sq (rg (mv (mv (lnV J T.fR (bi J J aO (nl (th ?_))))))))
    refine cd J (fun hc3=> ?_) (fun hc3=> ?_)
    ·try simp at hc3
     have e1:i+((i2:Int)- 1).toNat=i+i2- 1:=by omega
     have e2:=zJ hci (j:=i+i2) O O
     have e3:=zJ hci (j:=i+i2- 1) O O
     refine sk (th (sq (bk (sq (dr (nh:=10) [0,0,3,7,0,0,32,112,240,511] T.mixed kR ?_)))))
     refine st_ J (fun _ _ _ gq kq=>mv' (gq.1.trans J) kq) ?_
     refine st_ J (fun _ _ _ gq kq=>mv' (gq.1.trans J) kq) ?_
     refine st_ J (fun _ _ _ gq kq=>iOo (key:=55) (gq.1.trans J) J (gq.2.1.trans J) T.fR O O kq) ?_
     refine st_ J (fun _ _ _ gq kq=>lOA (gq.1.trans J) J gB T.dX (by decide) kq) ?_
     refine st_ J (fun _ _ _ gq kq=>mv' (gq.1.trans J) kq) ?_
     refine st_ J (fun _ _ _ gq kq=>mv' (gq.1.trans J) kq) ?_
     refine st_ J (fun _ _ _ gq kq=>bi (gq.1.trans J) J (kQ i6) kq) ?_
     refine st_ J (fun _ _ _ gq kq=>iOo (key:=55) (gq.1.trans J) J (gq.2.1.trans J) T.fR O O kq) ?_
     refine st_ J (fun _ _ _ gq kq=>lOA (gq.1.trans J) J gB T.dX (by decide) kq) ?_
     refine st_ J (fun _ _ _ gq kq=>Wn (gq.1.trans J) (gq.2.1.trans J) T.iM T.kd3 kR kR kq) ?_
     refine pn (nl (th ?_))
     refine cd J (fun hc4=> ?_) (fun hc4=> ?_)
     ·skip
      have hne:ix xs (i+i2)≠ix xs (i+i2- 1):=by
       have h:=Rp hc4
       rw[e1] at h
       have h:ix dk (i+i2)≠ix dk (i+i2- 1):=h
       rw[e2,e3] at h
       exact h
      refine sq (rg (mv (mv (mv (mv (iOo (key:=55) J J J T.fR O O (lOA J J gB T.dX (by decide) (iO J J J T.fR O O (sOA (cs':= [int ((ix dk (i+i2)).1),int ((ix dk (i+i2)).2)]) J J J T.dX J gB J (y':=((ix dk (i+i2)).1,(ix dk (i+i2)).2)) J (nl (th (rg (mv (bi J J (aG i6) (ag (nl (eb (th (rg (mv (bi J J (aG i6) (ag (nl ?_)))))))))))))))))))))))
      have hN0:1≤(i2+1)∧i+(i2+1)≤xs.length∧i≤(c3+1)∧CI xs (dk.set c3 ((ix dk (i+i2)).1,(ix dk (i+i2)).2)) (i+(i2+1)) (c3+1):=by
       exact⟨O,O,O,by have:=IQ hci O hne;rw[e2];exact this⟩
      exact ln (⟨c3+1,i2+1,dk.set c3 ((ix dk (i+i2)).1,(ix dk (i+i2)).2)⟩:Nat × Nat × (List (Int × Int))) hN0 dO ⟨id,id,id,id,tV⟩ ⟨rI,tV⟩
     ·skip
      have heq:ix xs (i+i2)=ix xs (i+i2- 1):=by
       have h:=Rq hc4
       rw[e1] at h
       have h:ix dk (i+i2)=ix dk (i+i2- 1):=h
       rw[e2,e3] at h
       exact h
      refine sk (eb (th (rg (mv (bi J J (aG i6) (ag (nl ?_)))))))
      have hN0:1≤(i2+1)∧i+(i2+1)≤xs.length∧i≤c3∧CI xs dk (i+(i2+1)) c3:=by
       exact⟨O,O,O,IR (m:=i+i2) hci O heq⟩
      exact ln (⟨c3,i2+1,dk⟩:Nat × Nat × (List (Int × Int))) hN0 dO ⟨id,id,id,id,tV⟩ ⟨rI,tV⟩
    ·try simp at hc3
     have hput:Lib.compact xs=dk.take c3:=MF hci (show i+i2=xs.length by omega)
     refine ex (xt_ (xt_ (xb (th (sq (rg (mv (mv (vI (l:=c3) (m:=xs.length) J T.fR J J O O O O (Wl (key:=55) J J T.nW (by decide) O O (nl (th (sq (rg (mv (mv (vI (l:=0) (m:=c3) J T.fR J J O O O O (kn 59 (osl 55 (.slice (some ⟨b5,0,none⟩) c3 c5)) J dM (ag (nl (th (rt (rb (rt_ (rt_ (rb (rt_ ?_)))))))))))))))))))))))))))
     exact rE (.slice (some ⟨b5,0,none⟩) c3 c5) [.tmp 2] J [osl 55 (.slice (some ⟨b5,0,none⟩) c3 c5)] ⟨.tmp J,tV⟩ J (by rw[hput];exact⟨rI,tV⟩) eX
   ·skip
    have hdif:ix xs i≠ix xs (i- 1):=fun e=>by
     have h:=of_decide_eq_false hc2
     rw[show((i:Int)- 1).toNat=i- 1 by omega] at h
     exact h (by rw[e])
    refine sk (eb (th (rg (mv (bi J J (aG i6) (ag (nl ?_)))))))
    have hN0:1≤(i+1)∧(i+1)≤xs.length∧kpT xs (i+1):=by
     exact⟨O,O,IP hkp O O hdif⟩
    exact ln (i+1) hN0 dO ⟨id,id,tV⟩ ⟨rI,tV⟩
  ·try simp at hc1
   have hput:Lib.compact xs=xs:=Cg hkp O
   refine ex (xt_ (xt_ (xb (th (sq (rg (mv (ag (nl (th (rt ?_)))))))))))
   exact rE v [.tmp 2] J [osl 55 v] ⟨.tmp J,tV⟩ J (by rw[hput];exact⟨rI,tV⟩) eX
theorem MH (kk:Nat) (v:Value) (xs:List (Int × Int)) (hl:xs.length≤4000000000000):AL.Fn Tryz.prog 103 [osl kk v] [(55,own v 80 2 pE xs)] (ι:=Value) (fun _ v2=>osl kk v2) (fun v2=> [(55,own v2 80 2 pE (Lib.compact xs))]):=by
 have e:∀x,osl kk x=osl 55 x:=fun x=>eV.trans eV.symm
 simp only [e]
 exact Px v xs hl
end comp2
end
section
open ref01 ref03 ref04 ref06 prog prog2 prog3 prog4 prog5 prog6 prog7 prog8 prog9 Part Rungs LeftM TrimM RoundM MergeM BisM BisM4 BisM5 WalkM StepM WitM JudgM JudgM2 refw judg wit refj sysw satj divr divs divd dive TrimI QuoM FailM DivM KeepK GuardM MakeM LsysM LsysM2 KeepB AtM mkk mkp
namespace T
theorem AB:iQ Tryz.prog 94 [(0,1),(1,1)] [.int .i64 0,.int .i64 0]:=jD kR kR
theorem Gs:Ent Tryz.prog 116:=aN kR
end T
namespace mkl
theorem TD (m:aA) (hm:bA m):
 Fn0 Tryz.prog 150 [sys m,int 0] (tup [agg [strs m.aC,sl 1 gE (aH m).sT],ints (aY m)]):=by
 refine fnI Tryz.func150 rfl rfl (fun w0 F0=> ?_)
 have f0:=hm.few0;have f1:=hm.few1;have hn8:=hm.n8;have hle:=nL hm
 refine fcC (bW 0 J) (fun hS0=> ?_)
 obtain⟨hma0,hms0,hme0⟩:=bU hS0
 refine sq (rg (bx (key:=2) (cs:= [sl 1 rE_ m.aC,sl 1 gE m.sT]) J fun b2=>(al (key:=4) T.z25 (eC (eC eZ)) fun b4=>(ag (nl (th (sq (rg (fP J T.bO (lP J J J T.cF (fc (aV 18 J) fun hm18=>(lnF J T.dQ (mk (key:=20) (m:=m.sT.length) (enc:=nE) (y:=(0:Int)) J J T.bZ (eC eZ) mL mL fun v20=>(ag (nl (th (sq (rg (mv (bsO 22 (enc:=nE) (xs:= [0]) (css:= [[int 0]]) T.bZ ⟨J,J,p1 (φ:=int 0) J,tV⟩ J J J J fun v22=>(ag (nl (th (sq (rg (mv (mv (iO J J J T.aX O (by simp;omega) (sO (φ:=int 1) J J J T.aF (gN (by simp;omega)) J (y':=1) J (nl (th (sq (sq (rg (ag (nl (th (bk ?_))))))))))))))))))))))))))))))))))))))
 have hI0_0:([0]:List Int)=bqY m 0∧((List.replicate m.sT.length (0:Int)).set 0 1)=atY m.sT.length ([0]:List Int)∧0≤([0]:List Int).length:=by
  exact⟨rfl,Pr f0,by simp⟩
 refine lp (κ:=Nat × Value × (List Int) × (List Int)) (fun p=> [(2,ptr 2 b2 0),(4,ptr 4 b4 0),(5,eqv (.slice none 0 0)),(6,osl 20 v20),(7,osl 22 p.2.1),(8,int (p.1:Int))]) (fun p=> [(2,cell b2 [sl 1 rE_ m.aC,sl 1 gE m.sT]),(4,cell b4 [eqv (.slice none 0 0),eqv (.slice none 0 0)]),(20,own v20 3 1 nE p.2.2.2),(22,own p.2.1 3 1 nE p.2.2.1)]) (fun p=>p.2.2.1=bqY m p.1∧p.2.2.2=atY m.sT.length p.2.2.1∧p.1≤p.2.2.1.length) (fun p=>m.sT.length- p.1) ⟨0,v22,([0]:List Int),(List.replicate m.sT.length (0:Int)).set 0 1⟩ hI0_0 ⟨id,id,id,id,id,id,tV⟩ ⟨rI,rI,rI,rI,tV⟩ ?_
 intro⟨i,v,q,at_⟩ hG0
 obtain⟨hqe,hate,hiq⟩:q=bqY m i∧at_=atY m.sT.length q∧i≤q.length:=hG0
 show Ct _ _ _ _ [(2,ptr 2 b2 0),(4,ptr 4 b4 0),(5,eqv (.slice none 0 0)),(6,osl 20 v20),(7,osl 22 v),(8,int (i:Int))] [(2,cell b2 [sl 1 rE_ m.aC,sl 1 gE m.sT]),(4,cell b4 [eqv (.slice none 0 0),eqv (.slice none 0 0)]),(20,own v20 3 1 nE at_),(22,own v 3 1 nE q)] _
 have hqlen:q.length≤m.sT.length:=by rw[hqe];exact Ce hm i
 have hal:at_.length=m.sT.length:=by rw[hate];exact zH _ _
 refine sq (sq (rg (mv (mv (lnO J J T.aX (bi J J aO (nl (th ?_))))))))
 refine cd J (fun hc0=> ?_) (fun hc0=> ?_)
 ·try simp at hc0
  have hqb:=(sM hm i).bd _ (by rw[←hqe];exact aQ hc0)
  have hi5:i≤m.sT.length:=by omega
  refine sk (th (sq (bk (sq (dr (nh:=10) [0,1,0,0,12,28,63,127,255,0] T.mixed kR ?_)))))
  refine st_ J (fun _ _ _ gq kq=>fP (gq.1.trans J) T.bO kq) ?_
  refine st_ J (fun _ _ _ gq kq=>lP (gq.1.trans J) J J T.cF kq) ?_
  refine st_ J (fun _ _ _ gq kq=>mv' (gq.1.trans J) kq) ?_
  refine st_ J (fun _ _ _ gq kq=>mv' (gq.1.trans J) kq) ?_
  refine st_ J (fun _ _ _ gq kq=>iO (gq.1.trans J) J (gq.2.1.trans J) T.aX O O kq) ?_
  refine st_ J (fun _ _ _ gq kq=>lO (gq.1.trans J) J gB J T.aF kq) ?_
  refine st_ J (fun _ _ _ gq kq=>iF (gq.1.trans J) (gq.2.1.trans J) T.dQ O gB kq) ?_
  refine st_ J (fun _ _ _ gq kq=>lF (gq.1.trans J) J T.gF kq) ?_
  refine st_ J (fun _ _ _ gq kq=>lnF (gq.1.trans J) T.cQ kq) ?_
  refine st_ J (fun _ _ _ gq kq=>mv kq) ?_
  refine pn (nl (th (bk ?_)))
  have hI1_0:0≤(ix m.sT (ix q i).toNat).length:=by
   first|omega|simp
  have hI1_1:q=visit q ((fS m (ix q i)).take 0)∧at_=atY m.sT.length q∧q.length≤10000+0:=by
   exact⟨by rw[List.take_zero];rfl,hate,O⟩
  refine lp (κ:=Nat × Value × (List Int) × (List Int)) (fun p=> [(2,ptr 2 b2 0),(4,ptr 4 b4 0),(5,eqv (.slice none 0 0)),(6,osl 20 v20),(7,osl 22 p.2.1),(8,int (i:Int)),(39,sl 2 pE (ix m.sT (ix q i).toNat)),(40,int ((ix m.sT (ix q i).toNat).length:Int)),(41,int (p.1:Int))]) (fun p=> [(2,cell b2 [sl 1 rE_ m.aC,sl 1 gE m.sT]),(4,cell b4 [eqv (.slice none 0 0),eqv (.slice none 0 0)]),(20,own v20 3 1 nE p.2.2.2),(22,own p.2.1 3 1 nE p.2.2.1)]) (fun p=>(p.1≤(ix m.sT (ix q i).toNat).length)∧(p.2.2.1=visit q ((fS m (ix q i)).take p.1)∧p.2.2.2=atY m.sT.length p.2.2.1∧p.2.2.1.length≤10000+p.1)) (fun p=>(ix m.sT (ix q i).toNat).length- p.1) ⟨0,v,q,at_⟩ ⟨hI1_0,hI1_1⟩ ⟨id,id,id,id,id,id,id,id,id,tV⟩ ⟨rI,rI,rI,rI,tV⟩ ?_
  intro⟨k1,v2,q2,at2⟩ hG1
  obtain⟨hk1,⟨hq2,hat2,hq2l⟩⟩:(k1≤(ix m.sT (ix q i).toNat).length)∧(q2=visit q ((fS m (ix q i)).take k1)∧at2=atY m.sT.length q2∧q2.length≤10000+k1):=hG1
  show Ct _ _ _ _ [(2,ptr 2 b2 0),(4,ptr 4 b4 0),(5,eqv (.slice none 0 0)),(6,osl 20 v20),(7,osl 22 v2),(8,int (i:Int)),(39,sl 2 pE (ix m.sT (ix q i).toNat)),(40,int ((ix m.sT (ix q i).toNat).length:Int)),(41,int (k1:Int))] [(2,cell b2 [sl 1 rE_ m.aC,sl 1 gE m.sT]),(4,cell b4 [eqv (.slice none 0 0),eqv (.slice none 0 0)]),(20,own v20 3 1 nE at2),(22,own v2 3 1 nE q2)] _
  have hmany:(ix m.sT (ix q i).toNat).length≤400000:=hm.many (ix q i).toNat O
  have hal2:at2.length=m.sT.length:=by rw[hat2];exact zH _ _
  refine sq (rg (bi J J aO (nl (th (sq ?_)))))
  refine cd J (fun hc1=> ?_) (fun hc1=> ?_)
  ·try simp at hc1
   have hek:=hm.ed (ix q i).toNat O _ (aQ hc1)
   have hek2:0≤(ix (ix m.sT (ix q i).toNat) k1).2∧(ix (ix m.sT (ix q i).toNat) k1).2<(m.sT.length:Int):=hek.2.2
   refine sk (th (sq (bk (sq (rg (iF J J T.cQ O gB (lFA J T.cJ (Nat.le_of_ble_eq_true J) (al (key:=10) T.z94 (eC (eC eZ)) fun b10=>(sPA (cs':= [int ((ix (ix m.sT (ix q i).toNat) k1).1),int ((ix (ix m.sT (ix q i).toNat) k1).2)]) J J J T.cJ J J (nl (th (sq (rg (mv (fP J T.cX (lP J J J T.aF (iO J J J T.aX O O (lO J J gB J T.aF (bi J J dZ (nl (th ?_)))))))))))))))))))))
   refine cd J (fun hc2=> ?_) (fun hc2=> ?_)
   ·try simp at hc2
    have hnin:(ix (ix m.sT (ix q i).toNat) k1).2∉q2:=Wi hek2.1 hek2.2 (by rw[←hat2];simpa using hc2)
    refine sq (rg (mv (fP J T.cX (lP J J J T.aF (bsE (enc:=nE) (xs:= [((ix (ix m.sT (ix q i).toNat) k1).2)]) (css:= [[int ((ix (ix m.sT (ix q i).toNat) k1).2)]]) T.bZ ⟨J,J,p1 (φ:=int ((ix (ix m.sT (ix q i).toNat) k1).2)) J,tV⟩ J J J J (ap (key:=22) (zs:= [((ix (ix m.sT (ix q i).toNat) k1).2)]) bX J J J T.bZ (by unfold aT at*;simp;omega) (by unfold aT at*;simp;omega) fun v55=>(ag (nl (th (rg (mv (fP J T.cX (lP J J J T.aF (mv (lnO J J T.aX (iO J J J T.aX O O (sO (φ:=int ((q2++ [((ix (ix m.sT (ix q i).toNat) k1).2)]).length:Int)) J J J T.aF gB J (y':=((q2++ [((ix (ix m.sT (ix q i).toNat) k1).2)]).length:Int)) J (nl (eb (th (rg (bi J J (aG i6) (mv (nl ?_))))))))))))))))))))))))
    have hN0:(k1+1)≤(ix m.sT (ix q i).toNat).length:=by
     first|omega|simp_all
    have hN1:(q2++ [((ix (ix m.sT (ix q i).toNat) k1).2)])=visit q ((fS m (ix q i)).take (k1+1))∧(at2.set ((ix (ix m.sT (ix q i).toNat) k1).2).toNat ((q2++ [((ix (ix m.sT (ix q i).toNat) k1).2)]).length:Int))=atY m.sT.length (q2++ [((ix (ix m.sT (ix q i).toNat) k1).2)])∧(q2++ [((ix (ix m.sT (ix q i).toNat) k1).2)]).length≤10000+(k1+1):=by
     refine⟨?_,?_,by simp;omega⟩
     ·rw[vH (m:=m) (x:=(ix q i)) hc1,yG hek2.1 (by rw[←hq2];exact hnin),←hq2]
     ·rw[hat2];exact IL hek2.1 hek2.2 hnin
    exact ln (⟨k1+1,v55,q2++ [((ix (ix m.sT (ix q i).toNat) k1).2)],at2.set ((ix (ix m.sT (ix q i).toNat) k1).2).toNat ((q2++ [((ix (ix m.sT (ix q i).toNat) k1).2)]).length:Int)⟩:Nat × Value × (List Int) × (List Int)) ⟨hN0,hN1⟩ dO ⟨id,id,id,id,id,id,id,id,id,tV⟩ ⟨rI,rI,rI,rI,tV⟩
   ·try simp at hc2
    have hin:(ix (ix m.sT (ix q i).toNat) k1).2∈q2:=TC hek2.1 hek2.2 (by rw[←hat2];simpa using hc2)
    refine sk (eb (th (rg (bi J J (aG i6) (mv (nl ?_))))))
    have hN0:(k1+1)≤(ix m.sT (ix q i).toNat).length:=by
     first|omega|simp_all
    have hN1:q2=visit q ((fS m (ix q i)).take (k1+1))∧at2=atY m.sT.length q2∧q2.length≤10000+(k1+1):=by
     refine⟨?_,hat2,O⟩
     rw[vH (m:=m) (x:=(ix q i)) hc1];exact hq2.trans (yH (by rw[←hq2];exact hin)).symm
    exact ln (⟨k1+1,v2,q2,at2⟩:Nat × Value × (List Int) × (List Int)) ⟨hN0,hN1⟩ dO ⟨id,id,id,id,id,id,id,id,id,tV⟩ ⟨rI,rI,rI,rI,tV⟩
  ·try simp at hc1
   refine ex (xt_ (xt_ (xb (eb (th (rg (mv (bi J J (aG i6) (ag (nl ?_))))))))))
   have hN0:q2=bqY m (i+1)∧at2=atY m.sT.length q2∧(i+1)≤q2.length:=by
    have he:q2=bqY m (i+1):=by
     rw[AA (by rw[←hqe];exact hc0),←hqe,hq2,show k1=(ix m.sT (ix q i).toNat).length by omega]
     congr 1
     exact List.take_of_length_le (by unfold fS;rw[List.length_map];exact Nat.le_refl _)
    have hpre:q<+:q2:=by rw[hq2];exact fZ _ _
    have hle2:=hpre.length_le
    exact⟨he,hat2,O⟩
   exact ln (⟨i+1,v2,q2,at2⟩:Nat × Value × (List Int) × (List Int)) hN0 (by show m.sT.length- (i+1)<m.sT.length- i;omega) ⟨id,id,id,id,id,id,tV⟩ ⟨rI,rI,rI,rI,tV⟩
 ·try simp at hc0
  have hqo:q=aY m:=by rw[hqe];exact Da hm O (by rw[←hqe];omega)
  refine ex (xt_ (xt_ (xb (th (sq (rg (fP J T.fB (lP J J J T.cM (kK (φs:= [sl 1 rE_ m.aC]) (φ:=sl 1 rE_ m.aC) ⟨J,tV⟩ (prog.gJ _ O) T.tJ (fun N hN=>fun h=>iY h) (bd (css:= [(0,_)]) T.oD (eC (eC eZ)) ⟨J,J,p1 (φ:=sl 1 rE_ m.aC) J,tV⟩ (al (key:=11) T.z25 (eC (eC eZ)) fun b11=>(sPA (cs':= [sl 1 rE_ m.aC,eqv (.slice none 0 0)]) J J J T.bE J J (nl (th (sq (sq (rg (mv (lnO J J T.aX (mv (nl (th (bk ?_)))))))))))))))))))))))
  refine nwC 110 87 1 gE (jS 11 1 (osl 110 (.slice none 0 0)) rfl rfl dM ?_)
  have hI2_0:0≤q.length:=by
   first|omega|simp
  have hI2_1:([]:List (List (Int × Int)))=sS m 0:=by
   rfl
  refine lp (κ:=Nat × Value × (List (List (Int × Int)))) (fun p=> [(2,ptr 2 b2 0),(4,ptr 4 b4 0),(5,eqv (.slice none 0 0)),(6,osl 20 v20),(7,osl 22 v),(11,ptr 11 b11 0),(67,osl 22 v),(68,int (q.length:Int)),(69,int (p.1:Int))]) (fun p=> [(2,cell b2 [sl 1 rE_ m.aC,sl 1 gE m.sT]),(4,cell b4 [eqv (.slice none 0 0),eqv (.slice none 0 0)]),(11,cell b11 [sl 1 rE_ m.aC,osl 110 p.2.1]),(20,own v20 3 1 nE at_),(22,own v 3 1 nE q),(110,own p.2.1 87 1 gE p.2.2)]) (fun p=>(p.1≤q.length)∧(p.2.2=sS m p.1)) (fun p=>q.length- p.1) ⟨0,(.slice none 0 0),([]:List (List (Int × Int)))⟩ ⟨hI2_0,hI2_1⟩ ⟨id,id,id,id,id,id,id,id,id,tV⟩ ⟨rI,rI,rI,rI,rI,rI,tV⟩ ?_
  intro⟨k2,uo,aI⟩ hG2
  obtain⟨hk2,hout⟩:(k2≤q.length)∧(aI=sS m k2):=hG2
  show Ct _ _ _ _ [(2,ptr 2 b2 0),(4,ptr 4 b4 0),(5,eqv (.slice none 0 0)),(6,osl 20 v20),(7,osl 22 v),(11,ptr 11 b11 0),(67,osl 22 v),(68,int (q.length:Int)),(69,int (k2:Int))] [(2,cell b2 [sl 1 rE_ m.aC,sl 1 gE m.sT]),(4,cell b4 [eqv (.slice none 0 0),eqv (.slice none 0 0)]),(11,cell b11 [sl 1 rE_ m.aC,osl 110 uo]),(20,own v20 3 1 nE at_),(22,own v 3 1 nE q),(110,own uo 87 1 gE aI)] _
  have hol:aI.length≤k2:=by rw[hout];exact Pv m k2
  refine sq (rg (bi J J aO (nl (th (sq ?_)))))
  refine cd J (fun hc3=> ?_) (fun hc3=> ?_)
  ·try simp at hc3
   have hk2:k2<(aY m).length:=by rw[←hqo];omega
   have hxb:=(kD hm).bd _ (aQ hk2)
   have hmx:=hm.many (ix (aY m) k2).toNat O
   have hmx2:(ix m.sT (ix (aY m) k2).toNat).length≤400000:=hmx
   have hqk:ix q k2=(ix (aY m) k2):=by rw[hqo]
   refine sk (th (sq (bk (sq (rg (iO J J J T.aX O O (lO J J gB J T.aF (kd (φ':=int (ix (aY m) k2)) (by rw[hqk];exact fun h=>h) (ag (nl (th (sq (rg (nw 14 94 2 pE (ag (rtg (key:=14) 14 J (nl (th (sq (sq (rg (fP J T.bO (lP J J J T.cF (mv (iF J J T.dQ O gB (lF J J T.gF (fc (aV 77 J) fun hm77=>(lnF J T.cQ (mv (nl (th (bk ?_))))))))))))))))))))))))))))))))
   have hI3_0:0≤(ix m.sT (ix (aY m) k2).toNat).length:=by
    first|omega|simp
   have hI3_1:([]:List (Int × Int))=sR (aY m) (ix m.sT (ix (aY m) k2).toNat) 0:=by
    rfl
   refine lp (κ:=Nat × Value × (List (Int × Int))) (fun p=> [(2,ptr 2 b2 0),(4,ptr 4 b4 0),(5,eqv (.slice none 0 0)),(6,osl 20 v20),(7,osl 22 v),(11,ptr 11 b11 0),(14,osl 14 p.2.1),(67,osl 22 v),(68,int (q.length:Int)),(69,int (k2:Int)),(77,sl 2 pE (ix m.sT (ix (aY m) k2).toNat)),(78,int ((ix m.sT (ix (aY m) k2).toNat).length:Int)),(79,int (p.1:Int))]) (fun p=> [(2,cell b2 [sl 1 rE_ m.aC,sl 1 gE m.sT]),(4,cell b4 [eqv (.slice none 0 0),eqv (.slice none 0 0)]),(11,cell b11 [sl 1 rE_ m.aC,osl 110 uo]),(14,own p.2.1 94 2 pE p.2.2),(20,own v20 3 1 nE at_),(22,own v 3 1 nE q),(110,own uo 87 1 gE aI)]) (fun p=>(p.1≤(ix m.sT (ix (aY m) k2).toNat).length)∧(p.2.2=sR (aY m) (ix m.sT (ix (aY m) k2).toNat) p.1)) (fun p=>(ix m.sT (ix (aY m) k2).toNat).length- p.1) ⟨0,(.slice none 0 0),([]:List (Int × Int))⟩ ⟨hI3_0,hI3_1⟩ ⟨id,id,id,id,id,id,id,id,id,id,id,id,id,tV⟩ ⟨rI,rI,rI,rI,rI,rI,rI,tV⟩ ?_
   intro⟨k3,w1,l1⟩ hG3
   obtain⟨hk3,hl1⟩:(k3≤(ix m.sT (ix (aY m) k2).toNat).length)∧(l1=sR (aY m) (ix m.sT (ix (aY m) k2).toNat) k3):=hG3
   show Ct _ _ _ _ [(2,ptr 2 b2 0),(4,ptr 4 b4 0),(5,eqv (.slice none 0 0)),(6,osl 20 v20),(7,osl 22 v),(11,ptr 11 b11 0),(14,osl 14 w1),(67,osl 22 v),(68,int (q.length:Int)),(69,int (k2:Int)),(77,sl 2 pE (ix m.sT (ix (aY m) k2).toNat)),(78,int ((ix m.sT (ix (aY m) k2).toNat).length:Int)),(79,int (k3:Int))] [(2,cell b2 [sl 1 rE_ m.aC,sl 1 gE m.sT]),(4,cell b4 [eqv (.slice none 0 0),eqv (.slice none 0 0)]),(11,cell b11 [sl 1 rE_ m.aC,osl 110 uo]),(14,own w1 94 2 pE l1),(20,own v20 3 1 nE at_),(22,own v 3 1 nE q),(110,own uo 87 1 gE aI)] _
   have hll:l1.length≤k3:=by rw[hl1];exact Pt
   refine sq (rg (bi J J aO (nl (th (sq ?_)))))
   refine cd J (fun hc4=> ?_) (fun hc4=> ?_)
   ·try simp at hc4
    have hed:=hm.ed (ix (aY m) k2).toNat O _ (aQ (l:=(ix m.sT (ix (aY m) k2).toNat)) O)
    have hed2:0≤(ix (ix m.sT (ix (aY m) k2).toNat) k3).1∧(ix (ix m.sT (ix (aY m) k2).toNat) k3).1<(m.aC.length:Int)∧0≤(ix (ix m.sT (ix (aY m) k2).toNat) k3).2∧(ix (ix m.sT (ix (aY m) k2).toNat) k3).2<(m.sT.length:Int):=hed
    have hcl:(ix (ix m.sT (ix (aY m) k2).toNat) k3).2∈aY m:=mH hm hk2 (aQ (l:=(ix m.sT (ix (aY m) k2).toNat)) O)
    have hix:=Wj hed2.2.2.1 hed2.2.2.2 hcl
    rw[←hqo,←hate] at hix
    have hpb:=gW (aY m) (ix (ix m.sT (ix (aY m) k2).toNat) k3).2
    have hpl:=kG hcl
    have hql5:q.length≤10000:=by omega
    rw[hqo] at hix
    refine sk (th (sq (bk (sq (rg (iF J J T.cQ O gB (lFA J T.cJ (Nat.le_of_ble_eq_true J) (al (key:=16) T.z94 (eC (eC eZ)) fun b16=>(sPA (cs':= [int ((ix (ix m.sT (ix (aY m) k2).toNat) k3).1),int ((ix (ix m.sT (ix (aY m) k2).toNat) k3).2)]) J J J T.cJ J J (nl (th (dr (nh:=11) [0,0,2,0,0,16,56,120,248,510,1022,2047,4095] T.mixed kR ?_))))))))))))
    refine st_ J (fun _ _ _ gq kq=>mv' (gq.1.trans J) kq) ?_
    refine st_ J (fun _ _ _ gq kq=>fP (gq.1.trans J) T.cT kq) ?_
    refine st_ J (fun _ _ _ gq kq=>lP (gq.1.trans J) J J T.aF kq) ?_
    refine st_ J (fun _ _ _ gq kq=>mv' (gq.1.trans J) kq) ?_
    refine st_ J (fun _ _ _ gq kq=>fP (gq.1.trans J) T.cX kq) ?_
    refine st_ J (fun _ _ _ gq kq=>lP (gq.1.trans J) J J T.aF kq) ?_
    refine st_ J (fun _ _ _ gq kq=>iO (gq.1.trans J) J (gq.2.1.trans J) T.aX O O kq) ?_
    refine st_ J (fun _ _ _ gq kq=>lO (gq.1.trans J) J gB J T.aF kq) ?_
    refine st_ J (fun _ _ _ gq kq=>bi (gq.1.trans J) J (kQ i6) kq) ?_
    refine st_ J (fun _ _ _ gq kq=>bd (css:= [(0,_),(1,_)]) T.AB (eC (eC eZ)) ⟨J,J,p1 (φ:=int ((ix (ix m.sT (ix (aY m) k2).toNat) k3).1)) (by exact(gq.1.trans J)),⟨J,J,p1 (φ:=int ((ix at_ ((ix (ix m.sT (ix (aY m) k2).toNat) k3).2).toNat)- 1)) (by exact(gq.2.1.trans J)),tV⟩⟩ kq) ?_
    refine st_ J (fun _ _ _ gq kq=>bsE (enc:=pE) (xs:= [((ix (ix m.sT (ix (aY m) k2).toNat) k3).1,(ix at_ ((ix (ix m.sT (ix (aY m) k2).toNat) k3).2).toNat)- 1)]) (css:= [[int ((ix (ix m.sT (ix (aY m) k2).toNat) k3).1),int ((ix at_ ((ix (ix m.sT (ix (aY m) k2).toNat) k3).2).toNat)- 1)]]) T.oY ⟨J,J,pA (cs:= [int ((ix (ix m.sT (ix (aY m) k2).toNat) k3).1),int ((ix at_ ((ix (ix m.sT (ix (aY m) k2).toNat) k3).2).toNat)- 1)]) (by exact(gq.1.trans J)),tV⟩ J J J J kq) ?_
    refine pn (ap (key:=14) (zs:= [((ix (ix m.sT (ix (aY m) k2).toNat) k3).1,(ix at_ ((ix (ix m.sT (ix (aY m) k2).toNat) k3).2).toNat)- 1)]) bX J J J T.oY (by unfold aT at*;simp;omega) (by unfold aT at*;simp;omega) fun v94=>(ag (nl (eb (th (rg (bi J J (aG i6) (mv (nl ?_)))))))))
    have hN0:(k3+1)≤(ix m.sT (ix (aY m) k2).toNat).length:=by
     first|omega|simp_all
    have hN1:(l1++ [((ix (ix m.sT (ix (aY m) k2).toNat) k3).1,(ix at_ ((ix (ix m.sT (ix (aY m) k2).toNat) k3).2).toNat)- 1)])=sR (aY m) (ix m.sT (ix (aY m) k2).toNat) (k3+1):=by
     rw[MB O,hl1];first|rfl|(rw[hix])
    exact ln (⟨k3+1,v94,l1++ [((ix (ix m.sT (ix (aY m) k2).toNat) k3).1,(ix at_ ((ix (ix m.sT (ix (aY m) k2).toNat) k3).2).toNat)- 1)]⟩:Nat × Value × (List (Int × Int))) ⟨hN0,hN1⟩ dO ⟨id,id,id,id,id,id,id,id,id,id,id,id,id,tV⟩ ⟨rI,rI,rI,rI,rI,rI,rI,tV⟩
   ·try simp at hc4
    refine ex (xt_ (xt_ (xb (th (sq (rg (mv ?_)))))))
    have hbd:∀p∈l1,bdP p:=fun p hp=>by
     rw[hl1] at hp
     obtain⟨e,he,rfl⟩:=List.mem_map.1 hp
     have h9:=hm.ed (ix (aY m) k2).toNat O e (List.mem_of_mem_take he)
     have h8:=gW (aY m) e.2
     unfold bdP;dsimp only;omega
    refine cal (Hi:= [(14,own w1 94 2 pE l1)]) (φs:= [osl 5 w1,eqv (.func (.func 114) #[] #[])]) ⟨eV.trans eV.symm,rfl,tV⟩ (rJ 5 14 (sortE.uF w1 l1 aS)) T.Gs ⟨rI,tV⟩ fun _ _=>(nl (th (rg (fP rfl T.bO (lP rfl rfl rfl T.cF (mv (fz 14 100 rfl rfl (bsE (enc:=gE) (xs:= [(cG l1)]) (css:= [[sl 2 pE (cG l1)]]) T.sH ⟨rfl,rfl,p1 (φ:=sl 2 pE (cG l1)) rfl,tV⟩ rfl rfl rfl rfl (ap (key:=110) (zs:= [(cG l1)]) bX rfl rfl rfl T.sH (by unfold aT at*;simp;omega) (by unfold aT at*;simp;omega) fun v102=>(fP rfl T.bO (cI rfl rfl rfl rfl T.cF rfl (nl (eb (th (rg (bi rfl rfl (aG i6) (mv (nl ?_))))))))))))))))))
    have hN0:(k2+1)≤q.length:=by
     first|omega|simp_all
    have hN1:(aI++ [(cG l1)])=sS m (k2+1):=by
     rw[MC hk2,hout,hl1,Ps (by show(ix m.sT (ix (aY m) k2).toNat).length≤k3;omega)]
    exact ln (⟨k2+1,v102,aI++ [(cG l1)]⟩:Nat × Value × (List (List (Int × Int)))) ⟨hN0,hN1⟩ dO ⟨id,id,id,id,id,id,id,id,id,tV⟩ ⟨rI,rI,rI,rI,rI,rI,tV⟩
  ·try simp at hc3
   refine ex (xt_ (xt_ (xb (th (sq (rg (fzc 11 110 1 J J J J (lPA J J T.bE J (mv (sPA (cs':= [sl 1 rE_ m.aC,sl 1 gE aI]) J J J T.bE J J (ag (nl (th (rt ?_))))))))))))))
   refine fzA 22 5 rfl rfl ?_
   have hr0:aI=(aH m).sT:=by
    rw[hout];exact Pu (by rw[←hqo];omega)
   have hr1:q=(aY m):=by
    exact hqo
   exact rE () [.cell 4 25,.tmp 5] J [agg [sl 1 rE_ m.aC,sl 1 gE aI],sl 1 nE q] ⟨.agg J J T.bE J J,.tmp J,tV⟩ (cA2 (fun x0 x1=>rV [agg [sl 1 rE_ m.aC,sl 1 gE x0],sl 1 nE x1]) hr0 hr1) trivial eX
end mkl
end
section
namespace ClsM
open ref01 ref03 ref04 ref06 Part Rungs LeftM TrimM RoundM MergeM BisM BisM3 BisM4 BisM5 BisM6 Itoa Keys WalkM WitM JudgM JudgM2 LevM divr divs divd dive divf divv judg sysw satj ChsM BisS TrimI QuoM FailM DivM RefM GenW CompM CrossM FitM TogM KeepK GuardM MakeM LsysM LsysM2 KeepB AtM
def kyB (k:KY):ByteArray:=mW k.1 k.2
def okK (k:KY):Prop:=0≤k.1∧∀x∈k.2,0≤x
theorem TE {p q:KY} (hp:okK p) (hq:okK q) (h:kyB p=kyB q):p=q:=by
 obtain⟨h1,h2⟩:=Oe hp.1 hq.1 hp.2 hq.2 h
 exact Prod.ext h1 h2
def eY (m:aA) (cl:List Int) (k:Nat):List KY:=gY ((dF m cl).take k)
def pM (mm:List (ByteArray × Int)) (l:List KY):Prop:=mm.length=l.length∧∀p,okK p→bP mm (kyB p)=if p∈l then some (pxa l p:Int) else none
theorem MI:pM [] []:=⟨rfl,fun p _=>by rw[if_neg (by simp)];rfl⟩
theorem MJ {mm:List (ByteArray × Int)} {l:List KY} (h:pM mm l) {p:KY} (hp0:okK p) (hp:p∉l):pM (cD mm (kyB p) (mm.length:Int)) (l++ [p]):=by
 have hn:bP mm (kyB p)=none:=by rw[h.2 p hp0,if_neg hp]
 refine⟨by rw[ES,hn];simp[h.1],fun q hq0=> ?_⟩
 rw[nA,h.2 q hq0]
 by_cases e:p=q
 ·subst e
  rw[if_pos rfl,if_pos (by simp),pG hp,h.1]
 ·rw[if_neg (fun g=>e (TE hp0 hq0 g))]
  have:q∈l++ [p]↔q∈l:=by
   rw[List.mem_append]
   exact⟨fun h=>h.resolve_right (fun h=>e (List.mem_singleton.1 h).symm),.inl⟩
  by_cases hq:q∈l
  ·rw[if_pos hq,if_pos (this.2 hq),mY (List.prefix_append l [p]) hq]
  ·rw[if_neg hq,if_neg (fun h=>hq (this.1 h))]
theorem TF {m:aA} {cl:List Int} {k:Nat} (hk:k<m.sT.length):ix (dF m cl) k=eK m cl k:=bS hk
theorem Gt (m:aA) (cl:List Int):(dF m cl).length=m.sT.length:=by simp[dF]
theorem nM {m:aA} {cl:List Int} {k:Nat} (hk:k<m.sT.length):eY m cl (k+1)=dL (eY m cl k) (eK m cl k):=by
 unfold eY gY
 rw[bM (by rw[Gt];exact hk),List.foldl_append,TF hk];rfl
theorem Gu {m:aA} {cl:List Int}:∀{j k:Nat},j≤k→k≤m.sT.length→eY m cl j<+:eY m cl k
 |j,0,h,_=>by rw[show j=0 by omega];exact List.prefix_rfl
 |j,k+1,h,hk=>by
  by_cases e:j=k+1
  ·rw[e];exact List.prefix_rfl
  ·rw[nM O]
   exact(Gu O O).trans (pS _ _)
theorem AC (m:aA) (cl:List Int):eY m cl m.sT.length=gY (dF m cl):=by
 unfold eY
 rw[List.take_of_length_le (by rw[Gt];exact Nat.le_refl _)]
def gS (m:aA) (cl:List Int) (k:Nat):List Int:=(List.range m.sT.length).map fun x=>if x<k then ix (eI m cl) x else 0
theorem qD (m:aA) (cl:List Int) (k:Nat):(gS m cl k).length=m.sT.length:=by simp[gS]
theorem Ki (m:aA) (cl:List Int):List.replicate m.sT.length (0:Int)=gS m cl 0:=by
 apply List.ext_getElem (by simp[gS])
 intro i a1 a2
 simp[gS]
theorem yI {m:aA} {cl:List Int} {k i:Nat} (h:i<(gS m cl k).length):(gS m cl k)[i]=if i<k then ix (eI m cl) i else 0:=by simp[gS]
theorem Ci {m:aA} {cl:List Int} {k:Nat}:(gS m cl k).set k (ix (eI m cl) k)=gS m cl (k+1):=by
 apply List.ext_getElem (by simp[gS])
 intro i a1 a2
 have hi:i<(gS m cl k).length:=by rw[qD];rw[qD] at a2;exact a2
 rw[List.getElem_set,yI a2]
 by_cases e:k=i
 ·subst e;rw[if_pos rfl,if_pos O]
 ·rw[if_neg e,yI hi]
  by_cases c:i<k
  ·rw[if_pos c,if_pos O]
  ·rw[if_neg c,if_neg O]
theorem MK (m:aA) (cl:List Int):gS m cl m.sT.length=eI m cl:=by
 apply List.ext_getElem (by rw[qD,LsysM.wF])
 intro i a1 a2
 have hi:i<m.sT.length:=by rw[qD] at a1;exact a1
 rw[yI a1,if_pos hi,aD a2]
theorem wM {m:aA} {cl:List Int} {k:Nat} (hk:k<m.sT.length):ix (eI m cl) k=(pxa (eY m cl (k+1)) (eK m cl k):Int):=by
 rw[vF hk,←AC]
 have hin:eK m cl k∈eY m cl (k+1):=by rw[nM hk];exact wD _ _
 rw[mY (Gu (j:=k+1) O (Nat.le_refl _)) hin]
theorem TG {m:aA} {cl:List Int} {k:Nat} {mm:List (ByteArray × Int)} (hk:k<m.sT.length) (h:pM mm (eY m cl k)) (ho:okK (eK m cl k)) (hs:(bP mm (kyB (eK m cl k))).isSome=false):
 pM (cD mm (kyB (eK m cl k)) (mm.length:Int)) (eY m cl (k+1))∧(gS m cl k).set k (mm.length:Int)=gS m cl (k+1):=by
 have hn:eK m cl k∉eY m cl k:=fun g=>by rw[h.2 _ ho,if_pos g] at hs;cases hs
 have e:eY m cl (k+1)=eY m cl k++ [eK m cl k]:=by rw[nM hk];unfold dL;rw[if_neg hn]
 refine⟨by rw[e];exact MJ h ho hn,?_⟩
 have:(mm.length:Int)=ix (eI m cl) k:=by rw[wM hk,e,pG hn,h.1]
 rw[this,Ci]
theorem TH {m:aA} {cl:List Int} {k:Nat} {mm:List (ByteArray × Int)} (hk:k<m.sT.length) (h:pM mm (eY m cl k)) (ho:okK (eK m cl k)) (hs:(bP mm (kyB (eK m cl k))).isSome=true):
 pM mm (eY m cl (k+1))∧(gS m cl k).set k ((bP mm (kyB (eK m cl k))).getD 0)=gS m cl (k+1):=by
 have hn:eK m cl k∈eY m cl k:=Classical.byContradiction fun g=>by rw[h.2 _ ho,if_neg g] at hs;cases hs
 have e:eY m cl (k+1)=eY m cl k:=by rw[nM hk];unfold dL;rw[if_pos hn]
 refine⟨by rw[e];exact h,?_⟩
 have:(bP mm (kyB (eK m cl k))).getD 0=ix (eI m cl) k:=by rw[wM hk,e,h.2 _ ho,if_pos hn];rfl
 rw[this,Ci]
theorem Py {m:aA} {cl:List Int} {mm:List (ByteArray × Int)} (h:pM mm (eY m cl m.sT.length)):mm.length=gQ m cl:=by
 rw[h.1,AC];rfl
def sU (n:Nat) (cl:List Int) (es:List PP) (k:Nat):List Int:=(es.take k).map fun e=>e.1*((n:Int)+1)+ix cl e.2.toNat
theorem ML {n:Nat} {cl:List Int} {es:List PP} {k:Nat} (h:k<es.length):sU n cl es (k+1)=sU n cl es k++ [(ix es k).1*((n:Int)+1)+ix cl (ix es k).2.toNat]:=by
 unfold sU
 rw[bM h,List.map_append];rfl
theorem Pz {n:Nat} {cl:List Int} {es:List PP} {k:Nat}:(sU n cl es k).length≤k:=by unfold sU;rw[List.length_map,List.length_take];omega
theorem PD {n:Nat} {cl:List Int} {es:List PP} {k:Nat} (h:es.length≤k):Lib.compact (fE (sU n cl es k))=pL n cl es:=by
 unfold sU pL
 rw[List.take_of_length_le h]
theorem Wo {a n:Int} (h0:0≤a) (h1:a<8) (h2:0≤n) (h3:n≤10000):0≤a*(n+1)∧a*(n+1)≤80008:=by
 refine⟨Int.mul_nonneg h0 O,?_⟩
 have:=Int.mul_le_mul (show a≤8 by omega) (show n+1≤10001 by omega) O O
 omega
theorem MM {m:aA} (hm:bA m) {k:Nat} {cl:List Int} (h:Lab m.sT.length k cl) (hk:k≤m.sT.length) {x:Nat} (hx:x<m.sT.length):∀v∈pL cl.length cl (edg m x),0≤v∧v≤100000:=fun v hv=>by
 obtain⟨e,he,rfl⟩:=jW.1 hv
 have h1:=hm.ed x hx e he
 have h2:=h.bd e.2.toNat O
 have h3:=hm.few1
 have h4:=hm.n8
 rw[h.len]
 have:=Wo (a:=e.1) (n:=(m.sT.length:Int)) O O O O
 omega
theorem TI {m:aA} (hm:bA m) {n:Nat} {cl:List Int} {x:Nat} (hx:x<m.sT.length):(pL n cl (edg m x)).length≤400000:=by
 unfold pL
 refine Nat.le_trans (DW _) ?_
 unfold fE
 rw[List.length_mergeSort,List.length_map]
 exact hm.many x hx
theorem TJ {m:aA} (hm:bA m) {k:Nat} {cl:List Int} (h:Lab m.sT.length k cl) (hk:k≤m.sT.length) {x:Nat} (hx:x<m.sT.length):okK (eK m cl x):=⟨(h.bd x hx).1,fun v hv=>(MM hm h hk hx v hv).1⟩
theorem Ea (m:aA) (f k:Nat) (cl:List Int):wL m (f+1) k cl=if k<gQ m cl then wL m f (gQ m cl) (eI m cl) else eI m cl:=rfl
structure CR (m:aA) (f k:Nat) (cl:List Int):Prop where
 eq:aJ m=wL m f k cl
 lab:Lab m.sT.length k cl
 few:k≤m.sT.length
 fuel:m.sT.length- k<f
theorem TK {m:aA} (hm:bA m):CR m (m.sT.length+1) 1 (List.replicate m.sT.length 0):=⟨rfl,Gg hm,hm.few0,O⟩
theorem TL {m:aA} {f k:Nat} {cl:List Int} (h:CR m (f+1) k cl) (hk:k<gQ m cl):CR m f (gQ m cl) (eI m cl):=by
 have h1:=h.eq
 rw[Ea,if_pos hk] at h1
 have h2:=CZ m cl
 have h3:=h.fuel
 exact⟨h1,Az m cl,h2,O⟩
theorem Wp {m:aA} {f k:Nat} {cl:List Int} (h:CR m (f+1) k cl) (hk:¬k<gQ m cl):eI m cl=aJ m:=by
 have h1:=h.eq
 rw[Ea,if_neg hk] at h1
 exact h1.symm
end ClsM
end
end Go.Proofs.YtnlfjojfgghchaaGreatDoor
