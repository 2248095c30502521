/- The walks of the functions and the plain laws. Own texts of this claim, packed: Mkcomp2, Mkmkl, MkClsM. -/
import Derived.Test.YtnlfjojfgghchaaGreatDoorX22
import Derived.Test.YtnlfjojfgghchaaGreatDoorX25
import Derived.Test.YtnlfjojfgghchaaGreatDoorX17
import Derived.Test.YtnlfjojfgghchaaGreatDoorX24
set_option linter.all false
namespace Go.Proofs.YtnlfjojfgghchaaGreatDoor
open AL Go
set_option maxRecDepth 100000
section
open ref01 Part LsysM
abbrev PQ:=Int × Int
theorem QV {p q:PQ} (h:(!decide ((p.1,p.2)=(q.1,q.2)))=true):p≠q:=fun e=>by subst e;simp at h
theorem QX {p q:PQ} (h:(!decide ((p.1,p.2)=(q.1,q.2)))=false):p=q:=by simpa [Prod.ext_iff] using h
def CI (xs dk:List PQ) (m k:Nat):Prop:=Lib.CompInv xs.toArray m k dk.toArray
def kpT (xs:List PQ) (k:Nat):Prop:=∀j,j<k→Lib.keeps xs.toArray j=true
theorem Ce (xs:List PQ):kpT xs 1:=Lib.keeps_lt_one _
theorem IB {xs:List PQ} {k:Nat} (h:kpT xs k) (hk:k<xs.length) (h0:0<k) (hne:ix xs k≠ix xs (k- 1)):kpT xs (k+1):=fun j hj=>by
 by_cases e:j=k
 ·subst e;exact Lib.keeps_pos (by rw[iQ hk,iQ O];exact hne)
 ·exact h j O
theorem Cf {xs:List PQ} {k:Nat} (h:kpT xs k) (hk:xs.length≤k):Lib.compact xs=xs:=Lib.compact_all xs fun j hj=>h j O
theorem Gj {xs:List PQ} {k:Nat} (h:kpT xs k) (hk:k<xs.length) (h0:0<k) (he:ix xs k=ix xs (k- 1)):CI xs xs (k+1) k:=Lib.CompInv.start h (Lib.keeps_neg h0 (by rw[iQ hk,iQ O];exact he))
theorem Cg {xs dk:List PQ} {m k:Nat} (h:CI xs dk m k):dk.length=xs.length∧k<m:=⟨by have:=h.size;simpa using this,h.lt⟩
theorem zL {xs dk:List PQ} {m k j:Nat} (h:CI xs dk m k) (hj:k≤j) (hl:j<xs.length):ix dk j=ix xs j:=by
 have:=h.high j hj
 rwa [iQ (by rw[(Cg h).1];exact hl),iQ hl] at this
theorem IC {xs dk:List PQ} {m k:Nat} (h:CI xs dk m k) (hm:m<xs.length) (hne:ix xs m≠ix xs (m- 1)):CI xs (dk.set k (ix xs m)) (m+1) (k+1):=by
 have h2:=Lib.CompInv.keep h (by simpa using hm) (Lib.keeps_pos (by rw[iQ hm,iQ O];exact hne))
 rw[iQ hm,List.setIfInBounds_toArray] at h2
 exact h2
theorem IE {xs dk:List PQ} {m k:Nat} (h:CI xs dk m k) (hm:m<xs.length) (he:ix xs m=ix xs (m- 1)):CI xs dk (m+1) k:=
 Lib.CompInv.skip h (Lib.keeps_neg (by have:=h.lt;omega) (by rw[iQ hm,iQ O];exact he))
theorem MA {xs dk:List PQ} {m k:Nat} (h:CI xs dk m k) (hm:m=xs.length):Lib.compact xs=dk.take k:=by
 subst hm
 have hl:=h.len
 have hk:=Cg h
 unfold Lib.compact
 apply List.ext_getElem?
 intro j
 by_cases c:j<k
 ·rw[h.low j c,iQ O,List.getElem?_take,if_pos c,List.getElem?_eq_getElem O,aH O]
 ·rw[List.getElem?_eq_none O,List.getElem?_eq_none (by simp;omega)]
namespace T
theorem Ke:zK Tryz.prog 94 3:=⟨by kernel_rfl,by kernel_rfl,by kernel_rfl,by kernel_rfl,by kernel_rfl⟩
theorem lG:eL Tryz.prog 87 94 2 16 [.int .i64 0,.int .i64 0]:=jU kR kR
end T
namespace comp2
theorem Pq (v:Value) (xs:List (Int × Int)) (hl:xs.length≤4000000000000):
 AL.Fn Tryz.prog 152 [osl 55 v] [(55,own v 94 2 pE xs)] (ι:=Value) (fun _ v2=>osl 55 v2) (fun v2=> [(55,own v2 94 2 pE (Lib.compact xs))]):=by
 refine fnI Tryz.func152 rfl rfl (fun w0 F0=> ?_)
 refine sq (rg (ag (nl (th (sq (sq (rg (mv (lnO J J T.cC (bi J J aN (nl (th ?_))))))))))))
 refine cd J (fun hc0=> ?_) (fun hc0=> ?_)
 ·try simp at hc0
  have hput:Lib.compact xs=xs:=Cf (Ce xs) O
  refine sq (rg (mv (ag (nl (th (rt (rt_ ?_)))))))
  exact rE v [.tmp 2] J [osl 55 v] ⟨.tmp J,tV⟩ J (by rw[hput];exact⟨rI,tV⟩) eX
 ·try simp at hc0
  have hl2:2≤xs.length:=by omega
  refine sk (th (sq (sq (rg (ag (nl (th (bk ?_))))))))
  have hI0_0:1≤1∧1≤xs.length∧kpT xs 1:=by
   exact⟨O,O,Ce xs⟩
  refine lp (κ:=Nat) (fun p=> [(0,osl 55 v),(3,int (p:Int))]) (fun p=> [(55,own v 94 2 pE xs)]) (fun p=>1≤p∧p≤xs.length∧kpT xs p) (fun p=>xs.length- p) 1 hI0_0 ⟨id,id,tV⟩ ⟨rI,tV⟩ ?_
  intro i hG0
  obtain⟨hi1,hil,hkp⟩:1≤i∧i≤xs.length∧kpT xs i:=hG0
  refine sq (sq (rg (mv (mv (lnO J J T.cC (bi J J aN (nl (th ?_))))))))
  refine cd J (fun hc1=> ?_) (fun hc1=> ?_)
  ·try simp at hc1
   refine sk (th (sq (bk (sq (dr (nh:=10) [0,0,3,7,0,0,32,112,240,511] T.mixed kR ?_)))))
   refine st_ J (fun _ _ _ gq kq=>mv' (gq.1.trans J) kq) ?_
   refine st_ J (fun _ _ _ gq kq=>mv' (gq.1.trans J) kq) ?_
   refine st_ J (fun _ _ _ gq kq=>iO (gq.1.trans J) J (gq.2.1.trans J) T.cC O O kq) ?_
   refine st_ J (fun _ _ _ gq kq=>lOA (gq.1.trans J) J gB T.bY (by decide) kq) ?_
   refine st_ J (fun _ _ _ gq kq=>mv' (gq.1.trans J) kq) ?_
   refine st_ J (fun _ _ _ gq kq=>mv' (gq.1.trans J) kq) ?_
   refine st_ J (fun _ _ _ gq kq=>bi (gq.1.trans J) J (kI i6) kq) ?_
   refine st_ J (fun _ _ _ gq kq=>iO (gq.1.trans J) J (gq.2.1.trans J) T.cC O O kq) ?_
   refine st_ J (fun _ _ _ gq kq=>lOA (gq.1.trans J) J gB T.bY (by decide) kq) ?_
   refine st_ J (fun _ _ _ gq kq=>biE (gq.1.trans J) (gq.2.1.trans J) T.Ke kq) ?_
   refine pn (nl (th ?_))
   refine cd J (fun hc2=> ?_) (fun hc2=> ?_)
   ·skip
    have hdup:ix xs i=ix xs (i- 1):=by
     have h:=of_decide_eq_true hc2
     rw[show((i:Int)- 1).toNat=i- 1 by omega] at h
     exact h
    refine fcC (VF 55 J O) fun hof55=> ?_
    obtain⟨b5,c5,hof55,hcap55⟩:=hof55
    subst hof55
    refine sq (rg (mv (mv (vF (l:=i) (m:=xs.length) J T.cC J J O O O O (ag (nl (th (sq (sq (rg (ag (nl (th (bk ?_))))))))))))))
    have hI1_0:1≤1∧i+1≤xs.length∧i≤i∧CI xs xs (i+1) i:=by
     exact⟨O,O,O,Gj hkp O O hdup⟩
    refine lp (κ:=Nat × Nat × (List (Int × Int))) (fun p=> [(0,osl 55 (.slice (some ⟨b5,0,none⟩) xs.length c5)),(3,int (p.1:Int)),(4,eqv (.slice (some ⟨b5,i*2,none⟩) (xs.length- i) (c5- i))),(5,int (p.2.1:Int))]) (fun p=> [(55,own (.slice (some ⟨b5,0,none⟩) xs.length c5) 94 2 pE p.2.2)]) (fun p=>1≤p.2.1∧i+p.2.1≤xs.length∧i≤p.1∧CI xs p.2.2 (i+p.2.1) p.1) (fun p=>xs.length- (i+p.2.1)) ⟨i,1,xs⟩ hI1_0 ⟨id,id,id,id,tV⟩ ⟨rI,tV⟩ ?_
    intro⟨c3,i2,dk⟩ hG1
    obtain⟨h21,h2l,hc3i,hci⟩:1≤i2∧i+i2≤xs.length∧i≤c3∧CI xs dk (i+i2) c3:=hG1
    show Ct _ _ _ _ [(0,osl 55 (.slice (some ⟨b5,0,none⟩) xs.length c5)),(3,int (c3:Int)),(4,eqv (.slice (some ⟨b5,i*2,none⟩) (xs.length- i) (c5- i))),(5,int (i2:Int))] [(55,own (.slice (some ⟨b5,0,none⟩) xs.length c5) 94 2 pE dk)] _
    have hdl:=Cg hci
    refine sq (sq (rg (mv (mv (lnV J T.cC (bi J J aN (nl (th ?_))))))))
    refine cd J (fun hc3=> ?_) (fun hc3=> ?_)
    ·try simp at hc3
     have e1:i+((i2:Int)- 1).toNat=i+i2- 1:=by omega
     have e2:=zL hci (j:=i+i2) O O
     have e3:=zL hci (j:=i+i2- 1) O O
     refine sk (th (sq (bk (sq (dr (nh:=10) [0,0,3,7,0,0,32,112,240,511] T.mixed kR ?_)))))
     refine st_ J (fun _ _ _ gq kq=>mv' (gq.1.trans J) kq) ?_
     refine st_ J (fun _ _ _ gq kq=>mv' (gq.1.trans J) kq) ?_
     refine st_ J (fun _ _ _ gq kq=>iOo (key:=55) (gq.1.trans J) J (gq.2.1.trans J) T.cC O O kq) ?_
     refine st_ J (fun _ _ _ gq kq=>lOA (gq.1.trans J) J gB T.bY (by decide) kq) ?_
     refine st_ J (fun _ _ _ gq kq=>mv' (gq.1.trans J) kq) ?_
     refine st_ J (fun _ _ _ gq kq=>mv' (gq.1.trans J) kq) ?_
     refine st_ J (fun _ _ _ gq kq=>bi (gq.1.trans J) J (kI i6) kq) ?_
     refine st_ J (fun _ _ _ gq kq=>iOo (key:=55) (gq.1.trans J) J (gq.2.1.trans J) T.cC O O kq) ?_
     refine st_ J (fun _ _ _ gq kq=>lOA (gq.1.trans J) J gB T.bY (by decide) kq) ?_
     refine st_ J (fun _ _ _ gq kq=>biN (gq.1.trans J) (gq.2.1.trans J) T.Ke kq) ?_
     refine pn (nl (th ?_))
     refine cd J (fun hc4=> ?_) (fun hc4=> ?_)
     ·skip
      have hne:ix xs (i+i2)≠ix xs (i+i2- 1):=by
       have h:=QV hc4
       rw[e1] at h
       have h:ix dk (i+i2)≠ix dk (i+i2- 1):=h
       rw[e2,e3] at h
       exact h
      refine sq (rg (mv (mv (mv (mv (iOo (key:=55) J J J T.cC O O (lOA J J gB T.bY (by decide) (iO J J J T.cC O O (sOA (cs':= [int ((ix dk (i+i2)).1),int ((ix dk (i+i2)).2)]) J J J T.bY J gB J (y':=((ix dk (i+i2)).1,(ix dk (i+i2)).2)) J (nl (th (rg (mv (bi J J (aK i6) (ag (nl (eb (th (rg (mv (bi J J (aK i6) (ag (nl ?_)))))))))))))))))))))))
      have hN0:1≤(i2+1)∧i+(i2+1)≤xs.length∧i≤(c3+1)∧CI xs (dk.set c3 ((ix dk (i+i2)).1,(ix dk (i+i2)).2)) (i+(i2+1)) (c3+1):=by
       exact⟨O,O,O,by have:=IC hci O hne;rw[e2];exact this⟩
      exact ln (⟨c3+1,i2+1,dk.set c3 ((ix dk (i+i2)).1,(ix dk (i+i2)).2)⟩:Nat × Nat × (List (Int × Int))) hN0 dO ⟨id,id,id,id,tV⟩ ⟨rI,tV⟩
     ·skip
      have heq:ix xs (i+i2)=ix xs (i+i2- 1):=by
       have h:=QX hc4
       rw[e1] at h
       have h:ix dk (i+i2)=ix dk (i+i2- 1):=h
       rw[e2,e3] at h
       exact h
      refine sk (eb (th (rg (mv (bi J J (aK i6) (ag (nl ?_)))))))
      have hN0:1≤(i2+1)∧i+(i2+1)≤xs.length∧i≤c3∧CI xs dk (i+(i2+1)) c3:=by
       exact⟨O,O,O,IE (m:=i+i2) hci O heq⟩
      exact ln (⟨c3,i2+1,dk⟩:Nat × Nat × (List (Int × Int))) hN0 dO ⟨id,id,id,id,tV⟩ ⟨rI,tV⟩
    ·try simp at hc3
     have hput:Lib.compact xs=dk.take c3:=MA hci (show i+i2=xs.length by omega)
     refine ex (xt_ (xt_ (xb (th (sq (rg (mv (mv (vF (l:=c3) (m:=xs.length) J T.cC J J O O O O (VG (key:=55) J J T.lG (by decide) O O (nl (th (sq (rg (mv (mv (vF (l:=0) (m:=c3) J T.cC J J O O O O (kn 59 (osl 55 (.slice (some ⟨b5,0,none⟩) c3 c5)) J dH (ag (nl (th (rt (rb (rt_ (rt_ (rb (rt_ ?_)))))))))))))))))))))))))))
     exact rE (.slice (some ⟨b5,0,none⟩) c3 c5) [.tmp 2] J [osl 55 (.slice (some ⟨b5,0,none⟩) c3 c5)] ⟨.tmp J,tV⟩ J (by rw[hput];exact⟨rI,tV⟩) eX
   ·skip
    have hdif:ix xs i≠ix xs (i- 1):=fun e=>by
     have h:=of_decide_eq_false hc2
     rw[show((i:Int)- 1).toNat=i- 1 by omega] at h
     exact h (by rw[e])
    refine sk (eb (th (rg (mv (bi J J (aK i6) (ag (nl ?_)))))))
    have hN0:1≤(i+1)∧(i+1)≤xs.length∧kpT xs (i+1):=by
     exact⟨O,O,IB hkp O O hdif⟩
    exact ln (i+1) hN0 dO ⟨id,id,tV⟩ ⟨rI,tV⟩
  ·try simp at hc1
   have hput:Lib.compact xs=xs:=Cf hkp O
   refine ex (xt_ (xt_ (xb (th (sq (rg (mv (ag (nl (th (rt ?_)))))))))))
   exact rE v [.tmp 2] J [osl 55 v] ⟨.tmp J,tV⟩ J (by rw[hput];exact⟨rI,tV⟩) eX
theorem MB (kk:Nat) (v:Value) (xs:List (Int × Int)) (hl:xs.length≤4000000000000):AL.Fn Tryz.prog 152 [osl kk v] [(55,own v 94 2 pE xs)] (ι:=Value) (fun _ v2=>osl kk v2) (fun v2=> [(55,own v2 94 2 pE (Lib.compact xs))]):=by
 have e:∀x,osl kk x=osl 55 x:=fun x=>eD.trans eD.symm
 simp only [e]
 exact Pq v xs hl
theorem Pr (v:Value) (xs:List (Int × Int)) (hl:xs.length≤4000000000000):
 AL.Fn Tryz.prog 103 [osl 55 v] [(55,own v 80 2 pE xs)] (ι:=Value) (fun _ v2=>osl 55 v2) (fun v2=> [(55,own v2 80 2 pE (Lib.compact xs))]):=by
 refine fnI Tryz.func103 rfl rfl (fun w0 F0=> ?_)
 refine sq (rg (ag (nl (th (sq (sq (rg (mv (lnO J J T.iX (bi J J aN (nl (th ?_))))))))))))
 refine cd J (fun hc0=> ?_) (fun hc0=> ?_)
 ·try simp at hc0
  have hput:Lib.compact xs=xs:=Cf (Ce xs) O
  refine sq (rg (mv (ag (nl (th (rt (rt_ ?_)))))))
  exact rE v [.tmp 2] J [osl 55 v] ⟨.tmp J,tV⟩ J (by rw[hput];exact⟨rI,tV⟩) eX
 ·try simp at hc0
  have hl2:2≤xs.length:=by omega
  refine sk (th (sq (sq (rg (ag (nl (th (bk ?_))))))))
  have hI0_0:1≤1∧1≤xs.length∧kpT xs 1:=by
   exact⟨O,O,Ce xs⟩
  refine lp (κ:=Nat) (fun p=> [(0,osl 55 v),(3,int (p:Int))]) (fun p=> [(55,own v 80 2 pE xs)]) (fun p=>1≤p∧p≤xs.length∧kpT xs p) (fun p=>xs.length- p) 1 hI0_0 ⟨id,id,tV⟩ ⟨rI,tV⟩ ?_
  intro i hG0
  obtain⟨hi1,hil,hkp⟩:1≤i∧i≤xs.length∧kpT xs i:=hG0
  refine sq (sq (rg (mv (mv (lnO J J T.iX (bi J J aN (nl (th ?_))))))))
  refine cd J (fun hc1=> ?_) (fun hc1=> ?_)
  ·try simp at hc1
   refine sk (th (sq (bk (sq (dr (nh:=10) [0,0,3,7,0,0,32,112,240,511] T.mixed kR ?_)))))
   refine st_ J (fun _ _ _ gq kq=>mv' (gq.1.trans J) kq) ?_
   refine st_ J (fun _ _ _ gq kq=>mv' (gq.1.trans J) kq) ?_
   refine st_ J (fun _ _ _ gq kq=>iO (gq.1.trans J) J (gq.2.1.trans J) T.iX O O kq) ?_
   refine st_ J (fun _ _ _ gq kq=>lOA (gq.1.trans J) J gB T.eP (by decide) kq) ?_
   refine st_ J (fun _ _ _ gq kq=>mv' (gq.1.trans J) kq) ?_
   refine st_ J (fun _ _ _ gq kq=>mv' (gq.1.trans J) kq) ?_
   refine st_ J (fun _ _ _ gq kq=>bi (gq.1.trans J) J (kI i6) kq) ?_
   refine st_ J (fun _ _ _ gq kq=>iO (gq.1.trans J) J (gq.2.1.trans J) T.iX O O kq) ?_
   refine st_ J (fun _ _ _ gq kq=>lOA (gq.1.trans J) J gB T.eP (by decide) kq) ?_
   refine st_ J (fun _ _ _ gq kq=>biA (gq.1.trans J) (gq.2.1.trans J) T.gZ T.kd3 kR kR kq) ?_
   refine pn (nl (th ?_))
   refine cd J (fun hc2=> ?_) (fun hc2=> ?_)
   ·skip
    have hdup:ix xs i=ix xs (i- 1):=by
     have h:=of_decide_eq_true hc2
     rw[show((i:Int)- 1).toNat=i- 1 by omega] at h
     exact h
    refine fcC (VF 55 J O) fun hof55=> ?_
    obtain⟨b5,c5,hof55,hcap55⟩:=hof55
    subst hof55
    refine sq (rg (mv (mv (vF (l:=i) (m:=xs.length) J T.iX J J O O O O (ag (nl (th (sq (sq (rg (ag (nl (th (bk ?_))))))))))))))
    have hI1_0:1≤1∧i+1≤xs.length∧i≤i∧CI xs xs (i+1) i:=by
     exact⟨O,O,O,Gj hkp O O hdup⟩
    refine lp (κ:=Nat × Nat × (List (Int × Int))) (fun p=> [(0,osl 55 (.slice (some ⟨b5,0,none⟩) xs.length c5)),(3,int (p.1:Int)),(4,eqv (.slice (some ⟨b5,i*2,none⟩) (xs.length- i) (c5- i))),(5,int (p.2.1:Int))]) (fun p=> [(55,own (.slice (some ⟨b5,0,none⟩) xs.length c5) 80 2 pE p.2.2)]) (fun p=>1≤p.2.1∧i+p.2.1≤xs.length∧i≤p.1∧CI xs p.2.2 (i+p.2.1) p.1) (fun p=>xs.length- (i+p.2.1)) ⟨i,1,xs⟩ hI1_0 ⟨id,id,id,id,tV⟩ ⟨rI,tV⟩ ?_
    intro⟨c3,i2,dk⟩ hG1
    obtain⟨h21,h2l,hc3i,hci⟩:1≤i2∧i+i2≤xs.length∧i≤c3∧CI xs dk (i+i2) c3:=hG1
    show Ct _ _ _ _ [(0,osl 55 (.slice (some ⟨b5,0,none⟩) xs.length c5)),(3,int (c3:Int)),(4,eqv (.slice (some ⟨b5,i*2,none⟩) (xs.length- i) (c5- i))),(5,int (i2:Int))] [(55,own (.slice (some ⟨b5,0,none⟩) xs.length c5) 80 2 pE dk)] _
    have hdl:=Cg hci
    refine sq (sq (rg (mv (mv (lnV J T.iX (bi J J aN (nl (th ?_))))))))
    refine cd J (fun hc3=> ?_) (fun hc3=> ?_)
    ·try simp at hc3
     have e1:i+((i2:Int)- 1).toNat=i+i2- 1:=by omega
     have e2:=zL hci (j:=i+i2) O O
     have e3:=zL hci (j:=i+i2- 1) O O
     refine sk (th (sq (bk (sq (dr (nh:=10) [0,0,3,7,0,0,32,112,240,511] T.mixed kR ?_)))))
     refine st_ J (fun _ _ _ gq kq=>mv' (gq.1.trans J) kq) ?_
     refine st_ J (fun _ _ _ gq kq=>mv' (gq.1.trans J) kq) ?_
     refine st_ J (fun _ _ _ gq kq=>iOo (key:=55) (gq.1.trans J) J (gq.2.1.trans J) T.iX O O kq) ?_
     refine st_ J (fun _ _ _ gq kq=>lOA (gq.1.trans J) J gB T.eP (by decide) kq) ?_
     refine st_ J (fun _ _ _ gq kq=>mv' (gq.1.trans J) kq) ?_
     refine st_ J (fun _ _ _ gq kq=>mv' (gq.1.trans J) kq) ?_
     refine st_ J (fun _ _ _ gq kq=>bi (gq.1.trans J) J (kI i6) kq) ?_
     refine st_ J (fun _ _ _ gq kq=>iOo (key:=55) (gq.1.trans J) J (gq.2.1.trans J) T.iX O O kq) ?_
     refine st_ J (fun _ _ _ gq kq=>lOA (gq.1.trans J) J gB T.eP (by decide) kq) ?_
     refine st_ J (fun _ _ _ gq kq=>XP (gq.1.trans J) (gq.2.1.trans J) T.gZ T.kd3 kR kR kq) ?_
     refine pn (nl (th ?_))
     refine cd J (fun hc4=> ?_) (fun hc4=> ?_)
     ·skip
      have hne:ix xs (i+i2)≠ix xs (i+i2- 1):=by
       have h:=QV hc4
       rw[e1] at h
       have h:ix dk (i+i2)≠ix dk (i+i2- 1):=h
       rw[e2,e3] at h
       exact h
      refine sq (rg (mv (mv (mv (mv (iOo (key:=55) J J J T.iX O O (lOA J J gB T.eP (by decide) (iO J J J T.iX O O (sOA (cs':= [int ((ix dk (i+i2)).1),int ((ix dk (i+i2)).2)]) J J J T.eP J gB J (y':=((ix dk (i+i2)).1,(ix dk (i+i2)).2)) J (nl (th (rg (mv (bi J J (aK i6) (ag (nl (eb (th (rg (mv (bi J J (aK i6) (ag (nl ?_)))))))))))))))))))))))
      have hN0:1≤(i2+1)∧i+(i2+1)≤xs.length∧i≤(c3+1)∧CI xs (dk.set c3 ((ix dk (i+i2)).1,(ix dk (i+i2)).2)) (i+(i2+1)) (c3+1):=by
       exact⟨O,O,O,by have:=IC hci O hne;rw[e2];exact this⟩
      exact ln (⟨c3+1,i2+1,dk.set c3 ((ix dk (i+i2)).1,(ix dk (i+i2)).2)⟩:Nat × Nat × (List (Int × Int))) hN0 dO ⟨id,id,id,id,tV⟩ ⟨rI,tV⟩
     ·skip
      have heq:ix xs (i+i2)=ix xs (i+i2- 1):=by
       have h:=QX hc4
       rw[e1] at h
       have h:ix dk (i+i2)=ix dk (i+i2- 1):=h
       rw[e2,e3] at h
       exact h
      refine sk (eb (th (rg (mv (bi J J (aK i6) (ag (nl ?_)))))))
      have hN0:1≤(i2+1)∧i+(i2+1)≤xs.length∧i≤c3∧CI xs dk (i+(i2+1)) c3:=by
       exact⟨O,O,O,IE (m:=i+i2) hci O heq⟩
      exact ln (⟨c3,i2+1,dk⟩:Nat × Nat × (List (Int × Int))) hN0 dO ⟨id,id,id,id,tV⟩ ⟨rI,tV⟩
    ·try simp at hc3
     have hput:Lib.compact xs=dk.take c3:=MA hci (show i+i2=xs.length by omega)
     refine ex (xt_ (xt_ (xb (th (sq (rg (mv (mv (vF (l:=c3) (m:=xs.length) J T.iX J J O O O O (VG (key:=55) J J T.mJ (by decide) O O (nl (th (sq (rg (mv (mv (vF (l:=0) (m:=c3) J T.iX J J O O O O (kn 59 (osl 55 (.slice (some ⟨b5,0,none⟩) c3 c5)) J dH (ag (nl (th (rt (rb (rt_ (rt_ (rb (rt_ ?_)))))))))))))))))))))))))))
     exact rE (.slice (some ⟨b5,0,none⟩) c3 c5) [.tmp 2] J [osl 55 (.slice (some ⟨b5,0,none⟩) c3 c5)] ⟨.tmp J,tV⟩ J (by rw[hput];exact⟨rI,tV⟩) eX
   ·skip
    have hdif:ix xs i≠ix xs (i- 1):=fun e=>by
     have h:=of_decide_eq_false hc2
     rw[show((i:Int)- 1).toNat=i- 1 by omega] at h
     exact h (by rw[e])
    refine sk (eb (th (rg (mv (bi J J (aK i6) (ag (nl ?_)))))))
    have hN0:1≤(i+1)∧(i+1)≤xs.length∧kpT xs (i+1):=by
     exact⟨O,O,IB hkp O O hdif⟩
    exact ln (i+1) hN0 dO ⟨id,id,tV⟩ ⟨rI,tV⟩
  ·try simp at hc1
   have hput:Lib.compact xs=xs:=Cf hkp O
   refine ex (xt_ (xt_ (xb (th (sq (rg (mv (ag (nl (th (rt ?_)))))))))))
   exact rE v [.tmp 2] J [osl 55 v] ⟨.tmp J,tV⟩ J (by rw[hput];exact⟨rI,tV⟩) eX
theorem MC (kk:Nat) (v:Value) (xs:List (Int × Int)) (hl:xs.length≤4000000000000):AL.Fn Tryz.prog 103 [osl kk v] [(55,own v 80 2 pE xs)] (ι:=Value) (fun _ v2=>osl kk v2) (fun v2=> [(55,own v2 80 2 pE (Lib.compact xs))]):=by
 have e:∀x,osl kk x=osl 55 x:=fun x=>eD.trans eD.symm
 simp only [e]
 exact Pr v xs hl
end comp2
end
section
open ref01 ref03 ref04 ref06 prog prog2 prog3 prog4 prog5 prog6 prog7 prog8 prog9 Part Rungs LeftM TrimM RoundM MergeM BisM BisM4 BisM5 WalkM StepM WitM JudgM JudgM2 refw judg wit refj sysw satj divr divs divd dive TrimI QuoM FailM DivM KeepK GuardM MakeM LsysM LsysM2 KeepB AtM mkk mkp
namespace T
theorem z25:eY Tryz.prog 25 [.slice none 0 0,.slice none 0 0]:=cX kR
theorem lY:jL Tryz.prog 25 [(0,1),(1,1)] [.slice none 0 0,.slice none 0 0]:=jN kR kR
theorem wJ:jL Tryz.prog 94 [(0,1),(1,1)] [.int .i64 0,.int .i64 0]:=jN kR kR
theorem Gk:Ent Tryz.prog 116:=aO kR
theorem pP:eL Tryz.prog 23 87 1 24 [.slice none 0 0]:=jU kR kR
end T
namespace mkl
theorem Tb (m:aA) (hm:aY m):
 Fn0 Tryz.prog 150 [sys m,int 0] (tup [agg [strs m.aC,sl 1 gE (aF m).sT],ints (aG m)]):=by
 refine fnI Tryz.func150 rfl rfl (fun w0 F0=> ?_)
 have f0:=hm.few0;have f1:=hm.few1;have hn8:=hm.n8;have hle:=mH hm
 refine fcC (cE 0 J) (fun hS0=> ?_)
 obtain⟨hma0,hms0,hme0⟩:=cG hS0
 refine sq (rg (bx (key:=2) (cs:= [sl 1 rE_ m.aC,sl 1 gE m.sT]) J fun b2=>(al (key:=4) T.z25 (eC (eC eZ)) fun b4=>(ag (nl (th (sq (rg (fP J T.bN (lP J J J T.cH (fc (aW 18 J) fun hm18=>(lnF J T.eB (mk (key:=20) (m:=m.sT.length) (enc:=nE) (y:=(0:Int)) J J T.cT (eC eZ) mL mL fun v20=>(ag (nl (th (sq (rg (mv (bsO 22 (enc:=nE) (xs:= [0]) (css:= [[int 0]]) T.cT ⟨J,J,p1 (φ:=int 0) J,tV⟩ J J J J fun v22=>(ag (nl (th (sq (rg (mv (mv (iO J J J T.aU O (by simp;omega) (sO (φ:=int 1) J J J T.aD (gN (by simp;omega)) J (y':=1) J (nl (th (sq (sq (rg (ag (nl (th (bk ?_))))))))))))))))))))))))))))))))))))))
 have hI0_0:([0]:List Int)=bqY m 0∧((List.replicate m.sT.length (0:Int)).set 0 1)=atY m.sT.length ([0]:List Int)∧0≤([0]:List Int).length:=by
  exact⟨rfl,Pk f0,by simp⟩
 refine lp (κ:=Nat × Value × (List Int) × (List Int)) (fun p=> [(2,ptr 2 b2 0),(4,ptr 4 b4 0),(5,eqv (.slice none 0 0)),(6,osl 20 v20),(7,osl 22 p.2.1),(8,int (p.1:Int))]) (fun p=> [(2,cell b2 [sl 1 rE_ m.aC,sl 1 gE m.sT]),(4,cell b4 [eqv (.slice none 0 0),eqv (.slice none 0 0)]),(20,own v20 3 1 nE p.2.2.2),(22,own p.2.1 3 1 nE p.2.2.1)]) (fun p=>p.2.2.1=bqY m p.1∧p.2.2.2=atY m.sT.length p.2.2.1∧p.1≤p.2.2.1.length) (fun p=>m.sT.length- p.1) ⟨0,v22,([0]:List Int),(List.replicate m.sT.length (0:Int)).set 0 1⟩ hI0_0 ⟨id,id,id,id,id,id,tV⟩ ⟨rI,rI,rI,rI,tV⟩ ?_
 intro⟨i,v,q,at_⟩ hG0
 obtain⟨hqe,hate,hiq⟩:q=bqY m i∧at_=atY m.sT.length q∧i≤q.length:=hG0
 show Ct _ _ _ _ [(2,ptr 2 b2 0),(4,ptr 4 b4 0),(5,eqv (.slice none 0 0)),(6,osl 20 v20),(7,osl 22 v),(8,int (i:Int))] [(2,cell b2 [sl 1 rE_ m.aC,sl 1 gE m.sT]),(4,cell b4 [eqv (.slice none 0 0),eqv (.slice none 0 0)]),(20,own v20 3 1 nE at_),(22,own v 3 1 nE q)] _
 have hqlen:q.length≤m.sT.length:=by rw[hqe];exact Cd hm i
 have hal:at_.length=m.sT.length:=by rw[hate];exact zJ _ _
 refine sq (sq (rg (mv (mv (lnO J J T.aU (bi J J aN (nl (th ?_))))))))
 refine cd J (fun hc0=> ?_) (fun hc0=> ?_)
 ·try simp at hc0
  have hqb:=(tA hm i).bd _ (by rw[←hqe];exact aR hc0)
  have hi5:i≤m.sT.length:=by omega
  refine sk (th (sq (bk (sq (dr (nh:=10) [0,1,0,0,12,28,63,127,255,0] T.mixed kR ?_)))))
  refine st_ J (fun _ _ _ gq kq=>fP (gq.1.trans J) T.bN kq) ?_
  refine st_ J (fun _ _ _ gq kq=>lP (gq.1.trans J) J J T.cH kq) ?_
  refine st_ J (fun _ _ _ gq kq=>mv' (gq.1.trans J) kq) ?_
  refine st_ J (fun _ _ _ gq kq=>mv' (gq.1.trans J) kq) ?_
  refine st_ J (fun _ _ _ gq kq=>iO (gq.1.trans J) J (gq.2.1.trans J) T.aU O O kq) ?_
  refine st_ J (fun _ _ _ gq kq=>lO (gq.1.trans J) J gB J T.aD kq) ?_
  refine st_ J (fun _ _ _ gq kq=>iF (gq.1.trans J) (gq.2.1.trans J) T.eB O gB kq) ?_
  refine st_ J (fun _ _ _ gq kq=>lF (gq.1.trans J) J T.fB kq) ?_
  refine st_ J (fun _ _ _ gq kq=>lnF (gq.1.trans J) T.cC kq) ?_
  refine st_ J (fun _ _ _ gq kq=>mv kq) ?_
  refine pn (nl (th (bk ?_)))
  have hI1_0:0≤(ix m.sT (ix q i).toNat).length:=by
   first|omega|simp
  have hI1_1:q=visit q ((fY m (ix q i)).take 0)∧at_=atY m.sT.length q∧q.length≤10000+0:=by
   exact⟨by rw[List.take_zero];rfl,hate,O⟩
  refine lp (κ:=Nat × Value × (List Int) × (List Int)) (fun p=> [(2,ptr 2 b2 0),(4,ptr 4 b4 0),(5,eqv (.slice none 0 0)),(6,osl 20 v20),(7,osl 22 p.2.1),(8,int (i:Int)),(39,sl 2 pE (ix m.sT (ix q i).toNat)),(40,int ((ix m.sT (ix q i).toNat).length:Int)),(41,int (p.1:Int))]) (fun p=> [(2,cell b2 [sl 1 rE_ m.aC,sl 1 gE m.sT]),(4,cell b4 [eqv (.slice none 0 0),eqv (.slice none 0 0)]),(20,own v20 3 1 nE p.2.2.2),(22,own p.2.1 3 1 nE p.2.2.1)]) (fun p=>(p.1≤(ix m.sT (ix q i).toNat).length)∧(p.2.2.1=visit q ((fY m (ix q i)).take p.1)∧p.2.2.2=atY m.sT.length p.2.2.1∧p.2.2.1.length≤10000+p.1)) (fun p=>(ix m.sT (ix q i).toNat).length- p.1) ⟨0,v,q,at_⟩ ⟨hI1_0,hI1_1⟩ ⟨id,id,id,id,id,id,id,id,id,tV⟩ ⟨rI,rI,rI,rI,tV⟩ ?_
  intro⟨k1,v2,q2,at2⟩ hG1
  obtain⟨hk1,⟨hq2,hat2,hq2l⟩⟩:(k1≤(ix m.sT (ix q i).toNat).length)∧(q2=visit q ((fY m (ix q i)).take k1)∧at2=atY m.sT.length q2∧q2.length≤10000+k1):=hG1
  show Ct _ _ _ _ [(2,ptr 2 b2 0),(4,ptr 4 b4 0),(5,eqv (.slice none 0 0)),(6,osl 20 v20),(7,osl 22 v2),(8,int (i:Int)),(39,sl 2 pE (ix m.sT (ix q i).toNat)),(40,int ((ix m.sT (ix q i).toNat).length:Int)),(41,int (k1:Int))] [(2,cell b2 [sl 1 rE_ m.aC,sl 1 gE m.sT]),(4,cell b4 [eqv (.slice none 0 0),eqv (.slice none 0 0)]),(20,own v20 3 1 nE at2),(22,own v2 3 1 nE q2)] _
  have hmany:(ix m.sT (ix q i).toNat).length≤400000:=hm.many (ix q i).toNat O
  have hal2:at2.length=m.sT.length:=by rw[hat2];exact zJ _ _
  refine sq (rg (bi J J aN (nl (th (sq ?_)))))
  refine cd J (fun hc1=> ?_) (fun hc1=> ?_)
  ·try simp at hc1
   have hek:=hm.ed (ix q i).toNat O _ (aR hc1)
   have hek2:0≤(ix (ix m.sT (ix q i).toNat) k1).2∧(ix (ix m.sT (ix q i).toNat) k1).2<(m.sT.length:Int):=hek.2.2
   refine sk (th (sq (bk (sq (rg (iF J J T.cC O gB (lFA J T.bY (Nat.le_of_ble_eq_true J) (al (key:=10) T.z94 (eC (eC eZ)) fun b10=>(sPA (cs':= [int ((ix (ix m.sT (ix q i).toNat) k1).1),int ((ix (ix m.sT (ix q i).toNat) k1).2)]) J J J T.bY J J (nl (th (sq (rg (mv (fP J T.cS (lP J J J T.aD (iO J J J T.aU O O (lO J J gB J T.aD (bi J J fJ (nl (th ?_)))))))))))))))))))))
   refine cd J (fun hc2=> ?_) (fun hc2=> ?_)
   ·try simp at hc2
    have hnin:(ix (ix m.sT (ix q i).toNat) k1).2∉q2:=VD hek2.1 hek2.2 (by rw[←hat2];simpa using hc2)
    refine sq (rg (mv (fP J T.cS (lP J J J T.aD (bsE (enc:=nE) (xs:= [((ix (ix m.sT (ix q i).toNat) k1).2)]) (css:= [[int ((ix (ix m.sT (ix q i).toNat) k1).2)]]) T.cT ⟨J,J,p1 (φ:=int ((ix (ix m.sT (ix q i).toNat) k1).2)) J,tV⟩ J J J J (ap (key:=22) (zs:= [((ix (ix m.sT (ix q i).toNat) k1).2)]) cD J J J T.cT (by unfold aT at*;simp;omega) (by unfold aT at*;simp;omega) fun v55=>(ag (nl (th (rg (mv (fP J T.cS (lP J J J T.aD (mv (lnO J J T.aU (iO J J J T.aU O O (sO (φ:=int ((q2++ [((ix (ix m.sT (ix q i).toNat) k1).2)]).length:Int)) J J J T.aD gB J (y':=((q2++ [((ix (ix m.sT (ix q i).toNat) k1).2)]).length:Int)) J (nl (eb (th (rg (bi J J (aK i6) (mv (nl ?_))))))))))))))))))))))))
    have hN0:(k1+1)≤(ix m.sT (ix q i).toNat).length:=by
     first|omega|simp_all
    have hN1:(q2++ [((ix (ix m.sT (ix q i).toNat) k1).2)])=visit q ((fY m (ix q i)).take (k1+1))∧(at2.set ((ix (ix m.sT (ix q i).toNat) k1).2).toNat ((q2++ [((ix (ix m.sT (ix q i).toNat) k1).2)]).length:Int))=atY m.sT.length (q2++ [((ix (ix m.sT (ix q i).toNat) k1).2)])∧(q2++ [((ix (ix m.sT (ix q i).toNat) k1).2)]).length≤10000+(k1+1):=by
     refine⟨?_,?_,by simp;omega⟩
     ·rw[vD (m:=m) (x:=(ix q i)) hc1,yE hek2.1 (by rw[←hq2];exact hnin),←hq2]
     ·rw[hat2];exact Iz hek2.1 hek2.2 hnin
    exact ln (⟨k1+1,v55,q2++ [((ix (ix m.sT (ix q i).toNat) k1).2)],at2.set ((ix (ix m.sT (ix q i).toNat) k1).2).toNat ((q2++ [((ix (ix m.sT (ix q i).toNat) k1).2)]).length:Int)⟩:Nat × Value × (List Int) × (List Int)) ⟨hN0,hN1⟩ dO ⟨id,id,id,id,id,id,id,id,id,tV⟩ ⟨rI,rI,rI,rI,tV⟩
   ·try simp at hc2
    have hin:(ix (ix m.sT (ix q i).toNat) k1).2∈q2:=Ta hek2.1 hek2.2 (by rw[←hat2];simpa using hc2)
    refine sk (eb (th (rg (bi J J (aK i6) (mv (nl ?_))))))
    have hN0:(k1+1)≤(ix m.sT (ix q i).toNat).length:=by
     first|omega|simp_all
    have hN1:q2=visit q ((fY m (ix q i)).take (k1+1))∧at2=atY m.sT.length q2∧q2.length≤10000+(k1+1):=by
     refine⟨?_,hat2,O⟩
     rw[vD (m:=m) (x:=(ix q i)) hc1];exact hq2.trans (yF (by rw[←hq2];exact hin)).symm
    exact ln (⟨k1+1,v2,q2,at2⟩:Nat × Value × (List Int) × (List Int)) ⟨hN0,hN1⟩ dO ⟨id,id,id,id,id,id,id,id,id,tV⟩ ⟨rI,rI,rI,rI,tV⟩
  ·try simp at hc1
   refine ex (xt_ (xt_ (xb (eb (th (rg (mv (bi J J (aK i6) (ag (nl ?_))))))))))
   have hN0:q2=bqY m (i+1)∧at2=atY m.sT.length q2∧(i+1)≤q2.length:=by
    have he:q2=bqY m (i+1):=by
     rw[AC (by rw[←hqe];exact hc0),←hqe,hq2,show k1=(ix m.sT (ix q i).toNat).length by omega]
     congr 1
     exact List.take_of_length_le (by unfold fY;rw[List.length_map];exact Nat.le_refl _)
    have hpre:q<+:q2:=by rw[hq2];exact gO _ _
    have hle2:=hpre.length_le
    exact⟨he,hat2,O⟩
   exact ln (⟨i+1,v2,q2,at2⟩:Nat × Value × (List Int) × (List Int)) hN0 (by show m.sT.length- (i+1)<m.sT.length- i;omega) ⟨id,id,id,id,id,id,tV⟩ ⟨rI,rI,rI,rI,tV⟩
 ·try simp at hc0
  have hqo:q=aG m:=by rw[hqe];exact Dd hm O (by rw[←hqe];omega)
  refine ex (xt_ (xt_ (xb (th (sq (rg (fP J T.gS (lP J J J T.dE (kC (φs:= [sl 1 rE_ m.aC]) (φ:=sl 1 rE_ m.aC) ⟨J,tV⟩ (prog.fL _ O) T.rD (fun N hN=>fun h=>jG h) (bd (css:= [(0,_)]) T.lY (eC (eC eZ)) ⟨J,J,p1 (φ:=sl 1 rE_ m.aC) J,tV⟩ (al (key:=11) T.z25 (eC (eC eZ)) fun b11=>(sPA (cs':= [sl 1 rE_ m.aC,eqv (.slice none 0 0)]) J J J T.aZ J J (nl (th (sq (sq (rg (mv (lnO J J T.aU (mv (nl (th (bk ?_)))))))))))))))))))))))
  refine nwC 110 87 1 gE (nB 11 1 (osl 110 (.slice none 0 0)) rfl rfl dH ?_)
  have hI2_0:0≤q.length:=by
   first|omega|simp
  have hI2_1:([]:List (List (Int × Int)))=tD m 0:=by
   rfl
  refine lp (κ:=Nat × Value × (List (List (Int × Int)))) (fun p=> [(2,ptr 2 b2 0),(4,ptr 4 b4 0),(5,eqv (.slice none 0 0)),(6,osl 20 v20),(7,osl 22 v),(11,ptr 11 b11 0),(67,osl 22 v),(68,int (q.length:Int)),(69,int (p.1:Int))]) (fun p=> [(2,cell b2 [sl 1 rE_ m.aC,sl 1 gE m.sT]),(4,cell b4 [eqv (.slice none 0 0),eqv (.slice none 0 0)]),(11,cell b11 [sl 1 rE_ m.aC,osl 110 p.2.1]),(20,own v20 3 1 nE at_),(22,own v 3 1 nE q),(110,own p.2.1 87 1 gE p.2.2)]) (fun p=>(p.1≤q.length)∧(p.2.2=tD m p.1)) (fun p=>q.length- p.1) ⟨0,(.slice none 0 0),([]:List (List (Int × Int)))⟩ ⟨hI2_0,hI2_1⟩ ⟨id,id,id,id,id,id,id,id,id,tV⟩ ⟨rI,rI,rI,rI,rI,rI,tV⟩ ?_
  intro⟨k2,uo,aL⟩ hG2
  obtain⟨hk2,hout⟩:(k2≤q.length)∧(aL=tD m k2):=hG2
  show Ct _ _ _ _ [(2,ptr 2 b2 0),(4,ptr 4 b4 0),(5,eqv (.slice none 0 0)),(6,osl 20 v20),(7,osl 22 v),(11,ptr 11 b11 0),(67,osl 22 v),(68,int (q.length:Int)),(69,int (k2:Int))] [(2,cell b2 [sl 1 rE_ m.aC,sl 1 gE m.sT]),(4,cell b4 [eqv (.slice none 0 0),eqv (.slice none 0 0)]),(11,cell b11 [sl 1 rE_ m.aC,osl 110 uo]),(20,own v20 3 1 nE at_),(22,own v 3 1 nE q),(110,own uo 87 1 gE aL)] _
  have hol:aL.length≤k2:=by rw[hout];exact Pp m k2
  refine sq (rg (bi J J aN (nl (th (sq ?_)))))
  refine cd J (fun hc3=> ?_) (fun hc3=> ?_)
  ·try simp at hc3
   have hk2:k2<(aG m).length:=by rw[←hqo];omega
   have hxb:=(jD hm).bd _ (aR hk2)
   have hmx:=hm.many (ix (aG m) k2).toNat O
   have hmx2:(ix m.sT (ix (aG m) k2).toNat).length≤400000:=hmx
   have hqk:ix q k2=(ix (aG m) k2):=by rw[hqo]
   refine sk (th (sq (bk (sq (rg (iO J J J T.aU O O (lO J J gB J T.aD (kd (φ':=int (ix (aG m) k2)) (by rw[hqk];exact fun h=>h) (ag (nl (th (sq (rg (nw 14 94 2 pE (ag (rtg (key:=14) 14 J (nl (th (sq (sq (rg (fP J T.bN (lP J J J T.cH (mv (iF J J T.eB O gB (lF J J T.fB (fc (aW 77 J) fun hm77=>(lnF J T.cC (mv (nl (th (bk ?_))))))))))))))))))))))))))))))))
   have hI3_0:0≤(ix m.sT (ix (aG m) k2).toNat).length:=by
    first|omega|simp
   have hI3_1:([]:List (Int × Int))=tC (aG m) (ix m.sT (ix (aG m) k2).toNat) 0:=by
    rfl
   refine lp (κ:=Nat × Value × (List (Int × Int))) (fun p=> [(2,ptr 2 b2 0),(4,ptr 4 b4 0),(5,eqv (.slice none 0 0)),(6,osl 20 v20),(7,osl 22 v),(11,ptr 11 b11 0),(14,osl 14 p.2.1),(67,osl 22 v),(68,int (q.length:Int)),(69,int (k2:Int)),(77,sl 2 pE (ix m.sT (ix (aG m) k2).toNat)),(78,int ((ix m.sT (ix (aG m) k2).toNat).length:Int)),(79,int (p.1:Int))]) (fun p=> [(2,cell b2 [sl 1 rE_ m.aC,sl 1 gE m.sT]),(4,cell b4 [eqv (.slice none 0 0),eqv (.slice none 0 0)]),(11,cell b11 [sl 1 rE_ m.aC,osl 110 uo]),(14,own p.2.1 94 2 pE p.2.2),(20,own v20 3 1 nE at_),(22,own v 3 1 nE q),(110,own uo 87 1 gE aL)]) (fun p=>(p.1≤(ix m.sT (ix (aG m) k2).toNat).length)∧(p.2.2=tC (aG m) (ix m.sT (ix (aG m) k2).toNat) p.1)) (fun p=>(ix m.sT (ix (aG m) k2).toNat).length- p.1) ⟨0,(.slice none 0 0),([]:List (Int × Int))⟩ ⟨hI3_0,hI3_1⟩ ⟨id,id,id,id,id,id,id,id,id,id,id,id,id,tV⟩ ⟨rI,rI,rI,rI,rI,rI,rI,tV⟩ ?_
   intro⟨k3,w1,l1⟩ hG3
   obtain⟨hk3,hl1⟩:(k3≤(ix m.sT (ix (aG m) k2).toNat).length)∧(l1=tC (aG m) (ix m.sT (ix (aG m) k2).toNat) k3):=hG3
   show Ct _ _ _ _ [(2,ptr 2 b2 0),(4,ptr 4 b4 0),(5,eqv (.slice none 0 0)),(6,osl 20 v20),(7,osl 22 v),(11,ptr 11 b11 0),(14,osl 14 w1),(67,osl 22 v),(68,int (q.length:Int)),(69,int (k2:Int)),(77,sl 2 pE (ix m.sT (ix (aG m) k2).toNat)),(78,int ((ix m.sT (ix (aG m) k2).toNat).length:Int)),(79,int (k3:Int))] [(2,cell b2 [sl 1 rE_ m.aC,sl 1 gE m.sT]),(4,cell b4 [eqv (.slice none 0 0),eqv (.slice none 0 0)]),(11,cell b11 [sl 1 rE_ m.aC,osl 110 uo]),(14,own w1 94 2 pE l1),(20,own v20 3 1 nE at_),(22,own v 3 1 nE q),(110,own uo 87 1 gE aL)] _
   have hll:l1.length≤k3:=by rw[hl1];exact Pn
   refine sq (rg (bi J J aN (nl (th (sq ?_)))))
   refine cd J (fun hc4=> ?_) (fun hc4=> ?_)
   ·try simp at hc4
    have hed:=hm.ed (ix (aG m) k2).toNat O _ (aR (l:=(ix m.sT (ix (aG m) k2).toNat)) O)
    have hed2:0≤(ix (ix m.sT (ix (aG m) k2).toNat) k3).1∧(ix (ix m.sT (ix (aG m) k2).toNat) k3).1<(m.aC.length:Int)∧0≤(ix (ix m.sT (ix (aG m) k2).toNat) k3).2∧(ix (ix m.sT (ix (aG m) k2).toNat) k3).2<(m.sT.length:Int):=hed
    have hcl:(ix (ix m.sT (ix (aG m) k2).toNat) k3).2∈aG m:=kW hm hk2 (aR (l:=(ix m.sT (ix (aG m) k2).toNat)) O)
    have hix:=VE hed2.2.2.1 hed2.2.2.2 hcl
    rw[←hqo,←hate] at hix
    have hpb:=fD (aG m) (ix (ix m.sT (ix (aG m) k2).toNat) k3).2
    have hpl:=jB hcl
    have hql5:q.length≤10000:=by omega
    rw[hqo] at hix
    refine sk (th (sq (bk (sq (rg (iF J J T.cC O gB (lFA J T.bY (Nat.le_of_ble_eq_true J) (al (key:=16) T.z94 (eC (eC eZ)) fun b16=>(sPA (cs':= [int ((ix (ix m.sT (ix (aG m) k2).toNat) k3).1),int ((ix (ix m.sT (ix (aG m) k2).toNat) k3).2)]) J J J T.bY J J (nl (th (dr (nh:=11) [0,0,2,0,0,16,56,120,248,510,1022,2047,4095] T.mixed kR ?_))))))))))))
    refine st_ J (fun _ _ _ gq kq=>mv' (gq.1.trans J) kq) ?_
    refine st_ J (fun _ _ _ gq kq=>fP (gq.1.trans J) T.cR kq) ?_
    refine st_ J (fun _ _ _ gq kq=>lP (gq.1.trans J) J J T.aD kq) ?_
    refine st_ J (fun _ _ _ gq kq=>mv' (gq.1.trans J) kq) ?_
    refine st_ J (fun _ _ _ gq kq=>fP (gq.1.trans J) T.cS kq) ?_
    refine st_ J (fun _ _ _ gq kq=>lP (gq.1.trans J) J J T.aD kq) ?_
    refine st_ J (fun _ _ _ gq kq=>iO (gq.1.trans J) J (gq.2.1.trans J) T.aU O O kq) ?_
    refine st_ J (fun _ _ _ gq kq=>lO (gq.1.trans J) J gB J T.aD kq) ?_
    refine st_ J (fun _ _ _ gq kq=>bi (gq.1.trans J) J (kI i6) kq) ?_
    refine st_ J (fun _ _ _ gq kq=>bd (css:= [(0,_),(1,_)]) T.wJ (eC (eC eZ)) ⟨J,J,p1 (φ:=int ((ix (ix m.sT (ix (aG m) k2).toNat) k3).1)) (by exact(gq.1.trans J)),⟨J,J,p1 (φ:=int ((ix at_ ((ix (ix m.sT (ix (aG m) k2).toNat) k3).2).toNat)- 1)) (by exact(gq.2.1.trans J)),tV⟩⟩ kq) ?_
    refine st_ J (fun _ _ _ gq kq=>bsE (enc:=pE) (xs:= [((ix (ix m.sT (ix (aG m) k2).toNat) k3).1,(ix at_ ((ix (ix m.sT (ix (aG m) k2).toNat) k3).2).toNat)- 1)]) (css:= [[int ((ix (ix m.sT (ix (aG m) k2).toNat) k3).1),int ((ix at_ ((ix (ix m.sT (ix (aG m) k2).toNat) k3).2).toNat)- 1)]]) T.lG ⟨J,J,pA (cs:= [int ((ix (ix m.sT (ix (aG m) k2).toNat) k3).1),int ((ix at_ ((ix (ix m.sT (ix (aG m) k2).toNat) k3).2).toNat)- 1)]) (by exact(gq.1.trans J)),tV⟩ J J J J kq) ?_
    refine pn (ap (key:=14) (zs:= [((ix (ix m.sT (ix (aG m) k2).toNat) k3).1,(ix at_ ((ix (ix m.sT (ix (aG m) k2).toNat) k3).2).toNat)- 1)]) cD J J J T.lG (by unfold aT at*;simp;omega) (by unfold aT at*;simp;omega) fun v94=>(ag (nl (eb (th (rg (bi J J (aK i6) (mv (nl ?_)))))))))
    have hN0:(k3+1)≤(ix m.sT (ix (aG m) k2).toNat).length:=by
     first|omega|simp_all
    have hN1:(l1++ [((ix (ix m.sT (ix (aG m) k2).toNat) k3).1,(ix at_ ((ix (ix m.sT (ix (aG m) k2).toNat) k3).2).toNat)- 1)])=tC (aG m) (ix m.sT (ix (aG m) k2).toNat) (k3+1):=by
     rw[Mw O,hl1];first|rfl|(rw[hix])
    exact ln (⟨k3+1,v94,l1++ [((ix (ix m.sT (ix (aG m) k2).toNat) k3).1,(ix at_ ((ix (ix m.sT (ix (aG m) k2).toNat) k3).2).toNat)- 1)]⟩:Nat × Value × (List (Int × Int))) ⟨hN0,hN1⟩ dO ⟨id,id,id,id,id,id,id,id,id,id,id,id,id,tV⟩ ⟨rI,rI,rI,rI,rI,rI,rI,tV⟩
   ·try simp at hc4
    refine ex (xt_ (xt_ (xb (th (sq (rg (mv ?_)))))))
    have hbd:∀p∈l1,bdP p:=fun p hp=>by
     rw[hl1] at hp
     obtain⟨e,he,rfl⟩:=List.mem_map.1 hp
     have h9:=hm.ed (ix (aG m) k2).toNat O e (List.mem_of_mem_take he)
     have h8:=fD (aG m) e.2
     unfold bdP;dsimp only;omega
    refine cal (Hi:= [(14,own w1 94 2 pE l1)]) (φs:= [osl 5 w1,eqv (.func (.func 114) #[] #[])]) ⟨eD.trans eD.symm,rfl,tV⟩ (rP 5 14 (sortE.uI w1 l1 aS)) T.Gk ⟨rI,tV⟩ fun _ _=>(nl (th (rg (fP rfl T.bN (lP rfl rfl rfl T.cH (mv (fz 14 100 rfl rfl (bsE (enc:=gE) (xs:= [(cF l1)]) (css:= [[sl 2 pE (cF l1)]]) T.pP ⟨rfl,rfl,p1 (φ:=sl 2 pE (cF l1)) rfl,tV⟩ rfl rfl rfl rfl (ap (key:=110) (zs:= [(cF l1)]) cD rfl rfl rfl T.pP (by unfold aT at*;simp;omega) (by unfold aT at*;simp;omega) fun v102=>(fP rfl T.bN (cU rfl rfl rfl rfl T.cH rfl (nl (eb (th (rg (bi rfl rfl (aK i6) (mv (nl ?_))))))))))))))))))
    have hN0:(k2+1)≤q.length:=by
     first|omega|simp_all
    have hN1:(aL++ [(cF l1)])=tD m (k2+1):=by
     rw[Mx hk2,hout,hl1,Pm (by show(ix m.sT (ix (aG m) k2).toNat).length≤k3;omega)]
    exact ln (⟨k2+1,v102,aL++ [(cF l1)]⟩:Nat × Value × (List (List (Int × Int)))) ⟨hN0,hN1⟩ dO ⟨id,id,id,id,id,id,id,id,id,tV⟩ ⟨rI,rI,rI,rI,rI,rI,tV⟩
  ·try simp at hc3
   refine ex (xt_ (xt_ (xb (th (sq (rg (fzc 11 110 1 J J J J (lPA J J T.aZ J (mv (sPA (cs':= [sl 1 rE_ m.aC,sl 1 gE aL]) J J J T.aZ J J (ag (nl (th (rt ?_))))))))))))))
   refine fzA 22 5 rfl rfl ?_
   have hr0:aL=(aF m).sT:=by
    rw[hout];exact Po (by rw[←hqo];omega)
   have hr1:q=(aG m):=by
    exact hqo
   exact rE () [.cell 4 25,.tmp 5] J [agg [sl 1 rE_ m.aC,sl 1 gE aL],sl 1 nE q] ⟨.agg J J T.aZ J J,.tmp J,tV⟩ (cA2 (fun x0 x1=>rV [agg [sl 1 rE_ m.aC,sl 1 gE x0],sl 1 nE x1]) hr0 hr1) trivial eX
end mkl
end
section
namespace ClsM
open ref01 ref03 ref04 ref06 Part Rungs LeftM TrimM RoundM MergeM BisM BisM3 BisM4 BisM5 BisM6 Itoa Keys WalkM WitM JudgM JudgM2 LevM divr divs divd dive divf divv judg sysw satj ChsM BisS TrimI QuoM FailM DivM RefM GenW CompM CrossM FitM TogM KeepK GuardM MakeM LsysM LsysM2 KeepB AtM
def kyB (k:KY):ByteArray:=nI k.1 k.2
def okK (k:KY):Prop:=0≤k.1∧∀x∈k.2,0≤x
theorem Tc {p q:KY} (hp:okK p) (hq:okK q) (h:kyB p=kyB q):p=q:=by
 obtain⟨h1,h2⟩:=Oe hp.1 hq.1 hp.2 hq.2 h
 exact Prod.ext h1 h2
def fA (m:aA) (cl:List Int) (k:Nat):List KY:=iE ((dF m cl).take k)
def pQ (mm:List (ByteArray × Int)) (l:List KY):Prop:=mm.length=l.length∧∀p,okK p→bM mm (kyB p)=if p∈l then some (pxa l p:Int) else none
theorem MD:pQ [] []:=⟨rfl,fun p _=>by rw[if_neg (by simp)];rfl⟩
theorem ME {mm:List (ByteArray × Int)} {l:List KY} (h:pQ mm l) {p:KY} (hp0:okK p) (hp:p∉l):pQ (cB mm (kyB p) (mm.length:Int)) (l++ [p]):=by
 have hn:bM mm (kyB p)=none:=by rw[h.2 p hp0,if_neg hp]
 refine⟨by rw[EO,hn];simp[h.1],fun q hq0=> ?_⟩
 rw[nP,h.2 q hq0]
 by_cases e:p=q
 ·subst e
  rw[if_pos rfl,if_pos (by simp),sW hp,h.1]
 ·rw[if_neg (fun g=>e (Tc hp0 hq0 g))]
  have:q∈l++ [p]↔q∈l:=by
   rw[List.mem_append]
   exact⟨fun h=>h.resolve_right (fun h=>e (List.mem_singleton.1 h).symm),.inl⟩
  by_cases hq:q∈l
  ·rw[if_pos hq,if_pos (this.2 hq),sV (List.prefix_append l [p]) hq]
  ·rw[if_neg hq,if_neg (fun h=>hq (this.1 h))]
theorem Td {m:aA} {cl:List Int} {k:Nat} (hk:k<m.sT.length):ix (dF m cl) k=eI m cl k:=bS hk
theorem Gl (m:aA) (cl:List Int):(dF m cl).length=m.sT.length:=by simp[dF]
theorem oC {m:aA} {cl:List Int} {k:Nat} (hk:k<m.sT.length):fA m cl (k+1)=eW (fA m cl k) (eI m cl k):=by
 unfold fA iE
 rw[bJ (by rw[Gl];exact hk),List.foldl_append,Td hk];rfl
theorem Gm {m:aA} {cl:List Int}:∀{j k:Nat},j≤k→k≤m.sT.length→fA m cl j<+:fA m cl k
 |j,0,h,_=>by rw[show j=0 by omega];exact List.prefix_rfl
 |j,k+1,h,hk=>by
  by_cases e:j=k+1
  ·rw[e];exact List.prefix_rfl
  ·rw[oC O]
   exact(Gm O O).trans (uJ _ _)
theorem AF (m:aA) (cl:List Int):fA m cl m.sT.length=iE (dF m cl):=by
 unfold fA
 rw[List.take_of_length_le (by rw[Gl];exact Nat.le_refl _)]
def iB (m:aA) (cl:List Int) (k:Nat):List Int:=(List.range m.sT.length).map fun x=>if x<k then ix (eF m cl) x else 0
theorem qM (m:aA) (cl:List Int) (k:Nat):(iB m cl k).length=m.sT.length:=by simp[iB]
theorem Kf (m:aA) (cl:List Int):List.replicate m.sT.length (0:Int)=iB m cl 0:=by
 apply List.ext_getElem (by simp[iB])
 intro i a1 a2
 simp[iB]
theorem yG {m:aA} {cl:List Int} {k i:Nat} (h:i<(iB m cl k).length):(iB m cl k)[i]=if i<k then ix (eF m cl) i else 0:=by simp[iB]
theorem Ch {m:aA} {cl:List Int} {k:Nat}:(iB m cl k).set k (ix (eF m cl) k)=iB m cl (k+1):=by
 apply List.ext_getElem (by simp[iB])
 intro i a1 a2
 have hi:i<(iB m cl k).length:=by rw[qM];rw[qM] at a2;exact a2
 rw[List.getElem_set,yG a2]
 by_cases e:k=i
 ·subst e;rw[if_pos rfl,if_pos O]
 ·rw[if_neg e,yG hi]
  by_cases c:i<k
  ·rw[if_pos c,if_pos O]
  ·rw[if_neg c,if_neg O]
theorem MF (m:aA) (cl:List Int):iB m cl m.sT.length=eF m cl:=by
 apply List.ext_getElem (by rw[qM,LsysM.FY])
 intro i a1 a2
 have hi:i<m.sT.length:=by rw[qM] at a1;exact a1
 rw[yG a1,if_pos hi,aH a2]
theorem wK {m:aA} {cl:List Int} {k:Nat} (hk:k<m.sT.length):ix (eF m cl) k=(pxa (fA m cl (k+1)) (eI m cl k):Int):=by
 rw[vB hk,←AF]
 have hin:eI m cl k∈fA m cl (k+1):=by rw[oC hk];exact Ar _ _
 rw[sV (Gm (j:=k+1) O (Nat.le_refl _)) hin]
theorem Te {m:aA} {cl:List Int} {k:Nat} {mm:List (ByteArray × Int)} (hk:k<m.sT.length) (h:pQ mm (fA m cl k)) (ho:okK (eI m cl k)) (hs:(bM mm (kyB (eI m cl k))).isSome=false):
 pQ (cB mm (kyB (eI m cl k)) (mm.length:Int)) (fA m cl (k+1))∧(iB m cl k).set k (mm.length:Int)=iB m cl (k+1):=by
 have hn:eI m cl k∉fA m cl k:=fun g=>by rw[h.2 _ ho,if_pos g] at hs;cases hs
 have e:fA m cl (k+1)=fA m cl k++ [eI m cl k]:=by rw[oC hk];unfold eW;rw[if_neg hn]
 refine⟨by rw[e];exact ME h ho hn,?_⟩
 have:(mm.length:Int)=ix (eF m cl) k:=by rw[wK hk,e,sW hn,h.1]
 rw[this,Ch]
theorem Tf {m:aA} {cl:List Int} {k:Nat} {mm:List (ByteArray × Int)} (hk:k<m.sT.length) (h:pQ mm (fA m cl k)) (ho:okK (eI m cl k)) (hs:(bM mm (kyB (eI m cl k))).isSome=true):
 pQ mm (fA m cl (k+1))∧(iB m cl k).set k ((bM mm (kyB (eI m cl k))).getD 0)=iB m cl (k+1):=by
 have hn:eI m cl k∈fA m cl k:=Classical.byContradiction fun g=>by rw[h.2 _ ho,if_neg g] at hs;cases hs
 have e:fA m cl (k+1)=fA m cl k:=by rw[oC hk];unfold eW;rw[if_pos hn]
 refine⟨by rw[e];exact h,?_⟩
 have:(bM mm (kyB (eI m cl k))).getD 0=ix (eF m cl) k:=by rw[wK hk,e,h.2 _ ho,if_pos hn];rfl
 rw[this,Ch]
theorem Ps {m:aA} {cl:List Int} {mm:List (ByteArray × Int)} (h:pQ mm (fA m cl m.sT.length)):mm.length=hU m cl:=by
 rw[h.1,AF];rfl
def tE (n:Nat) (cl:List Int) (es:List PP) (k:Nat):List Int:=(es.take k).map fun e=>e.1*((n:Int)+1)+ix cl e.2.toNat
theorem MG {n:Nat} {cl:List Int} {es:List PP} {k:Nat} (h:k<es.length):tE n cl es (k+1)=tE n cl es k++ [(ix es k).1*((n:Int)+1)+ix cl (ix es k).2.toNat]:=by
 unfold tE
 rw[bJ h,List.map_append];rfl
theorem Pt {n:Nat} {cl:List Int} {es:List PP} {k:Nat}:(tE n cl es k).length≤k:=by unfold tE;rw[List.length_map,List.length_take];omega
theorem Pu {n:Nat} {cl:List Int} {es:List PP} {k:Nat} (h:es.length≤k):Lib.compact (fH (tE n cl es k))=pO n cl es:=by
 unfold tE pO
 rw[List.take_of_length_le h]
theorem VI {a n:Int} (h0:0≤a) (h1:a<8) (h2:0≤n) (h3:n≤10000):0≤a*(n+1)∧a*(n+1)≤80008:=by
 refine⟨Int.mul_nonneg h0 O,?_⟩
 have:=Int.mul_le_mul (show a≤8 by omega) (show n+1≤10001 by omega) O O
 omega
theorem MH {m:aA} (hm:aY m) {k:Nat} {cl:List Int} (h:Lab m.sT.length k cl) (hk:k≤m.sT.length) {x:Nat} (hx:x<m.sT.length):∀v∈pO cl.length cl (edg m x),0≤v∧v≤100000:=fun v hv=>by
 obtain⟨e,he,rfl⟩:=kL.1 hv
 have h1:=hm.ed x hx e he
 have h2:=h.bd e.2.toNat O
 have h3:=hm.few1
 have h4:=hm.n8
 rw[h.len]
 have:=VI (a:=e.1) (n:=(m.sT.length:Int)) O O O O
 omega
theorem Tg {m:aA} (hm:aY m) {n:Nat} {cl:List Int} {x:Nat} (hx:x<m.sT.length):(pO n cl (edg m x)).length≤400000:=by
 unfold pO
 refine Nat.le_trans (DU _) ?_
 unfold fH
 rw[List.length_mergeSort,List.length_map]
 exact hm.many x hx
theorem Ti {m:aA} (hm:aY m) {k:Nat} {cl:List Int} (h:Lab m.sT.length k cl) (hk:k≤m.sT.length) {x:Nat} (hx:x<m.sT.length):okK (eI m cl x):=⟨(h.bd x hx).1,fun v hv=>(MH hm h hk hx v hv).1⟩
theorem DX (m:aA) (f k:Nat) (cl:List Int):wI m (f+1) k cl=if k<hU m cl then wI m f (hU m cl) (eF m cl) else eF m cl:=rfl
structure CR (m:aA) (f k:Nat) (cl:List Int):Prop where
 eq:aJ m=wI m f k cl
 lab:Lab m.sT.length k cl
 few:k≤m.sT.length
 fuel:m.sT.length- k<f
theorem Tj {m:aA} (hm:aY m):CR m (m.sT.length+1) 1 (List.replicate m.sT.length 0):=⟨rfl,FZ hm,hm.few0,O⟩
theorem Tk {m:aA} {f k:Nat} {cl:List Int} (h:CR m (f+1) k cl) (hk:k<hU m cl):CR m f (hU m cl) (eF m cl):=by
 have h1:=h.eq
 rw[DX,if_pos hk] at h1
 have h2:=Db m cl
 have h3:=h.fuel
 exact⟨h1,AB m cl,h2,O⟩
theorem VK {m:aA} {f k:Nat} {cl:List Int} (h:CR m (f+1) k cl) (hk:¬k<hU m cl):eF m cl=aJ m:=by
 have h1:=h.eq
 rw[DX,if_neg hk] at h1
 exact h1.symm
end ClsM
end
end Go.Proofs.YtnlfjojfgghchaaGreatDoor
