/- The walks of the functions and the plain laws. Own texts of this claim, packed: Mkprog2, Mkprog3, Mkprog5, Mkprog4, MkRungs, Mkprog6, MkLeftM, Mkprog7, Mkprog8, MkTrimM, Mkprog9. -/
import Derived.Test.YtnlfjojfgghchaaGreatDoorX03
set_option linter.all false
namespace Go.Proofs.YtnlfjojfgghchaaGreatDoor
open AL Go
set_option maxRecDepth 100000
section
open ref01 ref03 ref04 ref06 prog Part
def jE (s:SS):Prop:=∀k,k<s.sT.length→∀i,i<(ix s.sT k).aP.length→ix (ix s.sT k).aP i<2^63
def mT (u:Int) (nx:List Int) (k:Nat):Prop:=∀a:Nat,u.toNat.testBit a=true↔a<k∧0≤ix nx a
theorem KP {u:Int} {nx:List Int} {k:Nat} (h:mT u nx k) (h0:0≤ix nx k):mT ((u.toNat|||2^k:Nat):Int) nx (k+1):=fun a=>by
 rw[Int.toNat_natCast,Nat.testBit_or,Nat.testBit_two_pow,Bool.or_eq_true,h a,decide_eq_true_eq]
 constructor
 ·rintro(h1|rfl)
  ·exact⟨O,h1.2⟩
  ·exact⟨O,h0⟩
 ·intro h1
  by_cases e:k=a
  ·exact .inr e
  ·exact .inl ⟨O,h1.2⟩
theorem NJ {u:Int} {nx:List Int} {k:Nat} (h:mT u nx k) (h0:ix nx k<0):mT u nx (k+1):=fun a=>by
 rw[h a]
 constructor
 ·exact fun h1=>⟨O,h1.2⟩
 ·intro h1
  refine⟨?_,h1.2⟩
  by_cases e:k=a
  ·subst e;omega
  ·omega
theorem Fp {m n:Nat}:m^^^ (m&&&n)=0↔∀a,m.testBit a=true→n.testBit a=true:=by
 constructor
 ·intro h a ha
  have:=congrArg (fun z=>z.testBit a) h
  simp only [Nat.testBit_xor,Nat.testBit_and,ha,Nat.zero_testBit,Bool.true_and] at this
  cases hn:n.testBit a
  ·rw[hn] at this;cases this
  ·rfl
 ·intro h
  apply Nat.eq_of_testBit_eq
  intro a
  simp only [Nat.testBit_xor,Nat.testBit_and,Nat.zero_testBit]
  cases hm:m.testBit a
  ·rfl
  ·rw[h a hm];rfl
theorem Dl {x:SA} {n:Nat} {u t:Int} (hn:n≤8) (hl:x.next.length=n) (hc:mT u x.next n) (h0:0≤t):fW x n t=true↔t.toNat^^^ (t.toNat&&&u.toNat)=0:=by
 rw[Fp]
 constructor
 ·intro h a ha
  unfold fW at h
  simp only [Bool.and_eq_true] at h
  have hb:=h.1
  unfold eG at hb
  simp only [Bool.and_eq_true,decide_eq_true_eq,Int.toNat_natCast] at hb
  have han:a<n:=by
   have h7:2^a≤t.toNat:=Nat.ge_two_pow_of_testBit ha
   have h9:2^a<2^n:=by omega
   exact(Nat.pow_lt_pow_iff_right O).1 h9
  have hm:(a:Int)∈aL n t:=List.mem_map.2 ⟨a,List.mem_filter.2 ⟨List.mem_range.2 han,by unfold has;rw[Int.toNat_natCast];exact ha⟩,rfl⟩
  have:=List.all_eq_true.1 h.2 _ hm
  exact(hc a).2 ⟨han,by simpa using this⟩
 ·intro h
  have hlt:t.toNat<2^n:=Nat.lt_pow_two_of_testBit _ (fun i hi=>by
   cases hti:t.toNat.testBit i
   ·rfl
   ·have:=((hc i).1 (h i hti)).1;omega)
  unfold fW eG
  simp only [Bool.and_eq_true,decide_eq_true_eq,Int.toNat_natCast]
  refine⟨⟨h0,O⟩,List.all_eq_true.2 (fun z hz=> ?_)⟩
  obtain⟨a,ha,rfl⟩:=List.mem_map.1 hz
  have h1:=(List.mem_filter.1 ha).2
  unfold has at h1
  rw[Int.toNat_natCast] at h1
  have:=((hc a).1 (h a h1)).2
  simpa using this
theorem KQ {x:SA} {n:Nat} {t:Int} (h0:t<0):fW x n t=false:=by
 unfold fW eG
 rw[decide_eq_false O];rfl
theorem KR {l:List Int} (h:∀j,j+1<l.length→ix l j<ix l (j+1)):rising l=true:=by
 unfold rising
 exact List.all_eq_true.2 (fun i hi=>by have:=List.mem_range.1 hi;simpa using h i O)
theorem Js {l:List Int} {j:Nat} (h:j+1<l.length) (hh:ix l (j+1)≤ix l j):rising l=false:=by
 unfold rising
 exact jA (i:=j) O (by simp;omega)
theorem KS {l:List Int} {p:Int→Bool} (h:∀j,j<l.length→p (ix l j)=true):l.all p=true:=List.all_eq_true.2 (fun x hx=>by
 obtain⟨j,hj,rfl⟩:=List.getElem_of_mem hx
 rw[←aF hj];exact h j hj)
namespace T
theorem KT:Ent Tryz.prog 113:=aN kR
end T
namespace prog2
theorem kB (s:SS) (hsm:jE s):
 Fn0 Tryz.prog 67 [spec s] (bl (bT s)):=by
 refine fnI Tryz.func67 rfl rfl (fun w0 F0=> ?_)
 refine fcC (bV 0 J) (fun hS0=> ?_)
 obtain⟨hsa0,hss0,hse0⟩:=sLn hS0
 refine sq (rg (bx (key:=1) (cs:= [sl 1 rE_ s.aC,sl 2 sE s.sT]) J fun b1=>(ag (nl (th (sq (rg (fP J T.bA (lP J J J T.bM (fc (aT 12 J) fun hm12=>(lnF J T.cE (ag (nl (th (sq (sq (rg (fP J T.cP (lP J J J T.cK (aZ (φs:= [sl 1 rE_ s.aC]) (φ:=bl (bZ s.aC)) ⟨J,tV⟩ (prog.Dk _) T.KT (no J (mv ?_))))))))))))))))))))))
 apply gOr (t:=18) (pd:=21) rfl
 rotate_left
 ·intro hg0 fin
  have hg0':=hg0
  try simp at hg0'
  exact gy J J J hg0 (mv (gy J J J hg0 (bi J J aO (pkF J hg0 J (drp (X:= [(20,_),(19,_)]) ⟨J,J,tV⟩ fin)))))
 ·intro hg0 fin
  exact gn J J J hg0 J J (gn J J J hg0 J J (pkT J hg0 J (drp (X:= [(20,_),(19,_)]) ⟨J,J,tV⟩ fin)))
 refine mv ?_
 apply gOr (t:=22) (pd:=25) rfl
 rotate_left
 ·intro hg1 fin
  have hg1':=hg1
  try simp at hg1'
  exact gy J J J hg1 (mv (gy J J J hg1 (bi J J fJ (pkF J hg1 J (drp (X:= [(24,_),(23,_)]) ⟨J,J,tV⟩ fin)))))
 ·intro hg1 fin
  exact gn J J J hg1 J J (gn J J J hg1 J J (pkT J hg1 J (drp (X:= [(24,_),(23,_)]) ⟨J,J,tV⟩ fin)))
 refine nl (th ?_)
 refine cd J (fun hc0=> ?_) (fun hc0=> ?_)
 ·try simp at hc0
  refine sq (rg (ag (nl (th (rt (rt_ ?_))))))
  have hr0:false=(bT s):=by
   unfold bT
   by_cases h:bZ s.aC=true
   ·simp[h] at hc0 ⊢
    omega
   ·simp[h]
  exact rE () [.tmp 2] J [bl false] ⟨.tmp J,tV⟩ (cA1 (fun x0=>rV [bl x0]) hr0) trivial eX
 ·try simp at hc0
  have hact:=gF (l:=s.aC) (by simp_all)
  refine sk (th (sq (sq (rg (fP J T.bA (lP J J J T.bM (lnF J T.cE (mv (nl (th (bk ?_)))))))))))
  have hI0_0:0≤s.sT.length:=by
   first|omega|simp
  have hI0_1:(s.sT.take 0).all (fun x=>cT x (s.sT.length:Int) s.aC.length)=true:=by
   simp
  refine lp (κ:=Nat) (fun p=> [(1,ptr 1 b1 0),(3,int (s.sT.length:Int)),(27,sl 2 sE s.sT),(28,int (s.sT.length:Int)),(29,int (p:Int))]) (fun p=> [(1,cell b1 [sl 1 rE_ s.aC,sl 2 sE s.sT])]) (fun p=>(p≤s.sT.length)∧((s.sT.take p).all (fun x=>cT x (s.sT.length:Int) s.aC.length)=true)) (fun p=>s.sT.length- p) 0 ⟨hI0_0,hI0_1⟩ ⟨id,id,id,id,id,tV⟩ ⟨rI,tV⟩ ?_
  intro k hG0
  obtain⟨hk0,hI0⟩:(k≤s.sT.length)∧((s.sT.take k).all (fun x=>cT x (s.sT.length:Int) s.aC.length)=true):=hG0
  refine sq (rg (bi J J aO (nl (th (sq ?_)))))
  refine cd J (fun hc1=> ?_) (fun hc1=> ?_)
  ·try simp at hc1
   refine sk (th (sq (bk (sq (rg (iF J J T.cE O gB (lFA J T.cR (Nat.le_of_ble_eq_true J) (al (key:=5) T.z79 (eC (eC eZ)) fun b5=>(sPA (cs':= [sl 1 nE (ix s.sT k).aP,sl 1 nE (ix s.sT k).next]) J J J T.cR J J (nl (th (sq (sq (rg (fP J T.bR (lP J J J T.aY (fc (aT 34 J) fun hm34=>(lnF J T.aU (fP J T.cP (lP J J J T.cK (fc (aT 37 J) fun hm37=>(lnF J T.dW (bi J J fR (nl (th ?_)))))))))))))))))))))))))
   refine cd J (fun hc2=> ?_) (fun hc2=> ?_)
   ·try simp at hc2
    refine sq (rg (ag (nl (th (rt (rt_ (rb (rt_ (rt_ (rb (rt_ ?_)))))))))))
    have hr0:false=(bT s):=by
     unfold bT
     rw[fV (xs:=s.sT) (k:=k) O ?_];simp
     unfold cT
     rw[decide_eq_false O];simp
    exact rE () [.tmp 2] J [bl false] ⟨.tmp J,tV⟩ (cA1 (fun x0=>rV [bl x0]) hr0) trivial eX
   ·try simp at hc2
    refine sk (th (sq (rg (ag (nl (th (sq (sq (rg (fP J T.bR (lP J J J T.aY (lnF J T.aU (mv (nl (th (bk ?_))))))))))))))))
    have hI1_0:0≤(ix s.sT k).next.length:=by
     first|omega|simp
    have hI1_1:0≤(0:Int)∧(0:Int)<256∧mT (0:Int) (ix s.sT k).next 0∧((ix s.sT k).next.take 0).all (fun j=>decide (-1≤j)&&decide (j<(s.sT.length:Int)))=true:=by
     refine⟨O,O,fun a=> ?_,by simp⟩
     simp
    refine lp (κ:=Nat × Int) (fun p=> [(1,ptr 1 b1 0),(3,int (s.sT.length:Int)),(5,ptr 5 b5 0),(6,int p.2),(27,sl 2 sE s.sT),(28,int (s.sT.length:Int)),(29,int (k:Int)),(41,sl 1 nE (ix s.sT k).next),(42,int ((ix s.sT k).next.length:Int)),(43,int (p.1:Int))]) (fun p=> [(1,cell b1 [sl 1 rE_ s.aC,sl 2 sE s.sT]),(5,cell b5 [sl 1 nE (ix s.sT k).aP,sl 1 nE (ix s.sT k).next])]) (fun p=>(p.1≤(ix s.sT k).next.length)∧(0≤p.2∧p.2<256∧mT p.2 (ix s.sT k).next p.1∧((ix s.sT k).next.take p.1).all (fun j=>decide (-1≤j)&&decide (j<(s.sT.length:Int)))=true)) (fun p=>(ix s.sT k).next.length- p.1) ⟨0,(0:Int)⟩ ⟨hI1_0,hI1_1⟩ ⟨id,id,id,id,id,id,id,id,id,id,tV⟩ ⟨rI,rI,tV⟩ ?_
    intro⟨k1,u⟩ hG1
    obtain⟨hk1,hI1⟩:(k1≤(ix s.sT k).next.length)∧(0≤u∧u<256∧mT u (ix s.sT k).next k1∧((ix s.sT k).next.take k1).all (fun j=>decide (-1≤j)&&decide (j<(s.sT.length:Int)))=true):=hG1
    show Ct _ _ _ _ [(1,ptr 1 b1 0),(3,int (s.sT.length:Int)),(5,ptr 5 b5 0),(6,int u),(27,sl 2 sE s.sT),(28,int (s.sT.length:Int)),(29,int (k:Int)),(41,sl 1 nE (ix s.sT k).next),(42,int ((ix s.sT k).next.length:Int)),(43,int (k1:Int))] [(1,cell b1 [sl 1 rE_ s.aC,sl 2 sE s.sT]),(5,cell b5 [sl 1 nE (ix s.sT k).aP,sl 1 nE (ix s.sT k).next])] _
    refine sq (rg (bi J J aO (nl (th (sq ?_)))))
    refine cd J (fun hc3=> ?_) (fun hc3=> ?_)
    ·try simp at hc3
     refine sk (th (sq (bk (sq (rg (mv (iF J J T.aU O gB (lF J J T.aH (ag (ag (nl (th (sq (sq (rg (mv (bi J J aO (mv ?_))))))))))))))))))
     apply gOr (t:=50) (pd:=54) rfl
     rotate_left
     ·intro hg2 fin
      have hg2':=hg2
      try simp at hg2'
      exact gy J J J hg2 (mv (gy J J J hg2 (mv (gy J J J hg2 (bi J J fK (pkF J hg2 J (drp (X:= [(53,_),(52,_),(51,_)]) ⟨J,J,J,tV⟩ fin)))))))
     ·intro hg2 fin
      exact gn J J J hg2 J J (gn J J J hg2 J J (gn J J J hg2 J J (pkT J hg2 J (drp (X:= [(53,_),(52,_),(51,_)]) ⟨J,J,J,tV⟩ fin))))
     refine nl (th ?_)
     refine cd J (fun hc4=> ?_) (fun hc4=> ?_)
     ·try simp at hc4
      refine sq (rg (ag (nl (th (rt (rt_ (rb (rt_ (rt_ (rb (rt_ (rb (rt_ (rt_ (rb (rt_ ?_))))))))))))))))
      have hr0:false=(bT s):=by
       unfold bT
       rw[fV (xs:=s.sT) (k:=k) O ?_];simp
       unfold cT
       rw[fV (xs:=(ix s.sT k).next) (k:=k1) O (by simp;omega)];simp
      exact rE () [.tmp 2] J [bl false] ⟨.tmp J,tV⟩ (cA1 (fun x0=>rV [bl x0]) hr0) trivial eX
     ·try simp at hc4
      refine sk (th (sq (rg (mv (bi J J fK (nl (th ?_)))))))
      refine cd J (fun hc5=> ?_) (fun hc5=> ?_)
      ·try simp at hc5
       have hp:2^k1≤2^7:=Nat.pow_le_pow_right O O
       refine rg (mv (mv (bi J J (pX O O) (bi J J (tA O O (Int.natCast_nonneg _) (by rw[Int.toNat_natCast];omega)) (ag (nl (eb (th (rg (bi J J (aG i6) (mv (nl ?_))))))))))))
       have hN0:(k1+1)≤(ix s.sT k).next.length:=by
        first|omega|simp_all
       have hN1:0≤((u.toNat|||(2^k1):Nat):Int)∧((u.toNat|||(2^k1):Nat):Int)<256∧mT ((u.toNat|||(2^k1):Nat):Int) (ix s.sT k).next (k1+1)∧((ix s.sT k).next.take (k1+1)).all (fun j=>decide (-1≤j)&&decide (j<(s.sT.length:Int)))=true:=by
        refine⟨O,jY (b:=((2^k1:Nat):Int)) hI1.2.1 O,KP hI1.2.2.1 hc5,?_⟩
        rw[eQ O,hI1.2.2.2];simp;omega
       exact ln (⟨k1+1,((u.toNat|||(2^k1):Nat):Int)⟩:Nat × Int) ⟨hN0,hN1⟩ dO ⟨id,id,id,id,id,id,id,id,id,id,tV⟩ ⟨rI,rI,tV⟩
      ·try simp at hc5
       refine sk (eb (th (rg (bi J J (aG i6) (mv (nl ?_))))))
       have hN0:(k1+1)≤(ix s.sT k).next.length:=by
        first|omega|simp_all
       have hN1:0≤u∧u<256∧mT u (ix s.sT k).next (k1+1)∧((ix s.sT k).next.take (k1+1)).all (fun j=>decide (-1≤j)&&decide (j<(s.sT.length:Int)))=true:=by
        refine⟨hI1.1,hI1.2.1,NJ hI1.2.2.1 hc5,?_⟩
        rw[eQ O,hI1.2.2.2];simp;omega
       exact ln (⟨k1+1,u⟩:Nat × Int) ⟨hN0,hN1⟩ dO ⟨id,id,id,id,id,id,id,id,id,id,tV⟩ ⟨rI,rI,tV⟩
    ·try simp at hc3
     refine ex (xt_ (xt_ (xb (th (sq (rg (fP J T.cJ (lP J J J T.aY (fc (aT 63 J) fun hm63=>(lnF J T.aU (mv (nl (th (bk ?_))))))))))))))
     have hI2_0:0≤(ix s.sT k).aP.length:=by
      first|omega|simp
     have hI2_1:(∀j,j<0→fW (ix s.sT k) s.aC.length (ix (ix s.sT k).aP j)=true)∧∀j,j+1<0→ix (ix s.sT k).aP j<ix (ix s.sT k).aP (j+1):=by
      exact⟨fun j hj=>by omega,fun j hj=>by omega⟩
     refine lp (κ:=Nat) (fun p=> [(1,ptr 1 b1 0),(3,int (s.sT.length:Int)),(5,ptr 5 b5 0),(6,int u),(27,sl 2 sE s.sT),(28,int (s.sT.length:Int)),(29,int (k:Int)),(63,sl 1 nE (ix s.sT k).aP),(64,int ((ix s.sT k).aP.length:Int)),(65,int (p:Int))]) (fun p=> [(1,cell b1 [sl 1 rE_ s.aC,sl 2 sE s.sT]),(5,cell b5 [sl 1 nE (ix s.sT k).aP,sl 1 nE (ix s.sT k).next])]) (fun p=>(p≤(ix s.sT k).aP.length)∧((∀j,j<p→fW (ix s.sT k) s.aC.length (ix (ix s.sT k).aP j)=true)∧∀j,j+1<p→ix (ix s.sT k).aP j<ix (ix s.sT k).aP (j+1))) (fun p=>(ix s.sT k).aP.length- p) 0 ⟨hI2_0,hI2_1⟩ ⟨id,id,id,id,id,id,id,id,id,id,tV⟩ ⟨rI,rI,tV⟩ ?_
     intro k2 hG2
     obtain⟨hk2,hI2⟩:(k2≤(ix s.sT k).aP.length)∧((∀j,j<k2→fW (ix s.sT k) s.aC.length (ix (ix s.sT k).aP j)=true)∧∀j,j+1<k2→ix (ix s.sT k).aP j<ix (ix s.sT k).aP (j+1)):=hG2
     refine sq (rg (bi J J aO (nl (th (sq ?_)))))
     refine cd J (fun hc6=> ?_) (fun hc6=> ?_)
     ·try simp at hc6
      have hsk:=hsm k O k2 O
      refine sk (th (sq (bk (sq (rg (mv (iF J J T.aU O gB (lF J J T.aH (ag (ag (nl (th (sq (rg (mv (bi J J aO (mv ?_)))))))))))))))))
      apply gOr (t:=72) (pd:=77) rfl
      rotate_left
      ·intro hg3 fin
       have hg3':=hg3
       try simp at hg3'
       exact gy J J J hg3 (mv (gy J J J hg3 (mv (gy J J J hg3 (bi J J (Kw O O O O) (gy J J J hg3 (bi J J fR (pkF J hg3 J (drp (X:= [(76,_),(75,_),(74,_),(73,_)]) ⟨J,J,J,J,tV⟩ fin)))))))))
      ·intro hg3 fin
       exact gn J J J hg3 J J (gn J J J hg3 J J (gn J J J hg3 J J (gn J J J hg3 J J (pkT J hg3 J (drp (X:= [(76,_),(75,_),(74,_),(73,_)]) ⟨J,J,J,J,tV⟩ fin)))))
      refine mv ?_
      apply gOr (t:=78) (pd:=91) rfl
      rotate_left
      ·intro hg4 fin
       have hg4':=hg4
       try simp at hg4'
       refine gy rfl rfl rfl hg4 (mv (gy rfl rfl rfl hg4 (bi rfl rfl fJ (gy rfl rfl rfl hg4 (mv ?_)))))
       apply cZ (t:=81) (pd:=90) rfl
       rotate_left
       ·intro hg5 fin
        have hg5':=hg5
        try simp at hg5'
        exact gy J J J hg5 (fP J T.cJ (gy J J J hg5 (lP J J J T.aY (gy J J J hg5 (mv (gy J J J hg5 (bi J J (kZ i6) (gy J J J hg5 (iF J J T.aU O gB (gy J J J hg5 (lF J J T.aH (gy J J J hg5 (mv (gy J J J hg5 (bi J J fK (gy J J J hg4 (pkT J hg5 J (drp (X:= [(89,_),(88,_),(87,_),(86,_),(85,_),(84,_),(83,_),(82,_)]) ⟨J,J,J,J,J,J,J,J,tV⟩ fin))))))))))))))))))
       ·intro hg5 fin
        exact gn J J J hg5 J J (gn J J J hg5 J J (gn J J J hg5 J J (gn J J J hg5 J J (gn J J J hg5 J J (gn J J J hg5 J J (gn J J J hg5 J J (gn J J J hg5 J J (gy J J J hg4 (pkF J hg5 J (drp (X:= [(89,_),(88,_),(87,_),(86,_),(85,_),(84,_),(83,_),(82,_)]) ⟨J,J,J,J,J,J,J,J,tV⟩ fin))))))))))
       exact pkF rfl hg4 rfl (drp (X:= [(90,_),(81,_),(80,_),(79,_)]) ⟨rfl,rfl,rfl,rfl,tV⟩ fin)
      ·intro hg4 fin
       exact gn J J J hg4 J J (gn J J J hg4 J J (gn J J J hg4 J J (gu J J J J J (gu J J J J J (gu J J J J J (gu J J J J J (gu J J J J J (gu J J J J J (gu J J J J J (gu J J J J J (gn J J J hg4 J J (pkT J hg4 J (drp (X:= [(90,_),(89,_),(88,_),(87,_),(86,_),(85,_),(84,_),(83,_),(82,_),(81,_),(80,_),(79,_)]) ⟨J,J,J,J,J,J,J,J,J,J,J,J,tV⟩ fin)))))))))))))
      refine nl (th ?_)
      refine cd J (fun hc7=> ?_) (fun hc7=> ?_)
      ·try simp at hc7
       refine sq (rg (ag (nl (th (rt (rb (rt_ (rt_ (rb (rb (rt_ (rt_ (rb (rt_ ?_))))))))))))))
       have hr0:false=(bT s):=by
        unfold bT
        rw[fV (xs:=s.sT) (k:=k) O ?_];simp
        unfold cT
        have hnl:(ix s.sT k).next.length=s.aC.length:=by omega
        have hcan:mT u (ix s.sT k).next s.aC.length:=by rw[show s.aC.length=k1 by omega];exact hI1.2.2.1
        rcases Int.lt_or_le (ix (ix s.sT k).aP k2) 0 with h0|h0
        ·rw[fV (xs:=(ix s.sT k).aP) (k:=k2) O (KQ h0)];simp
        ·rcases hc7 with(h|h)|h
         ·omega
         ·have hq:fW (ix s.sT k) s.aC.length (ix (ix s.sT k).aP k2)=false:=by
                   cases hq:fW (ix s.sT k) s.aC.length (ix (ix s.sT k).aP k2)
                   ·rfl
                   ·exact absurd ((Dl hact hnl hcan h0).1 hq) h
          rw[fV (xs:=(ix s.sT k).aP) (k:=k2) O hq];simp
         ·rw[Js (l:=(ix s.sT k).aP) (j:=k2- 1) O (by rw[show k2- 1+1=k2 by omega];exact h.2)];simp
       exact rE () [.tmp 2] J [bl false] ⟨.tmp J,tV⟩ (cA1 (fun x0=>rV [bl x0]) hr0) trivial eX
      ·try simp at hc7
       refine sk (eb (th (rg (bi J J (aG i6) (mv (nl ?_))))))
       have hN0:(k2+1)≤(ix s.sT k).aP.length:=by
        first|omega|simp_all
       have hN1:(∀j,j<(k2+1)→fW (ix s.sT k) s.aC.length (ix (ix s.sT k).aP j)=true)∧∀j,j+1<(k2+1)→ix (ix s.sT k).aP j<ix (ix s.sT k).aP (j+1):=by
        have hnl:(ix s.sT k).next.length=s.aC.length:=by omega
        have hcan:mT u (ix s.sT k).next s.aC.length:=by rw[show s.aC.length=k1 by omega];exact hI1.2.2.1
        refine⟨fun j hj=> ?_,fun j hj=> ?_⟩
        ·by_cases e:j=k2
         ·subst e;exact(Dl hact hnl hcan O).2 O
         ·exact hI2.1 j O
        ·by_cases e:j+1=k2
         ·have h3:=hc7.2 O
          rw[show k2- 1=j by omega] at h3;rw[e];exact h3
         ·exact hI2.2 j O
       exact ln (k2+1) ⟨hN0,hN1⟩ dO ⟨id,id,id,id,id,id,id,id,id,id,tV⟩ ⟨rI,rI,tV⟩
     ·try simp at hc6
      refine ex (xt_ (xt_ (xb (eb (th (rg (bi J J (aG i6) (mv (nl ?_)))))))))
      have hN0:(k+1)≤s.sT.length:=by
       first|omega|simp_all
      have hN1:(s.sT.take (k+1)).all (fun x=>cT x (s.sT.length:Int) s.aC.length)=true:=by
       rw[eQ O,hI0]
       have hnl:(ix s.sT k).next.length=s.aC.length:=by omega
       have hk1:k1=s.aC.length:=by omega
       have hk2:k2=(ix s.sT k).aP.length:=by omega
       have hall:=hI1.2.2.2
       rw[show k1=(ix s.sT k).next.length by omega,List.take_length] at hall
       unfold cT
       rw[hall,KR (fun j hj=>hI2.2 j O),KS (fun j hj=>hI2.1 j O)]
       simp;omega
      exact ln (k+1) ⟨hN0,hN1⟩ dO ⟨id,id,id,id,id,tV⟩ ⟨rI,tV⟩
  ·try simp at hc1
   refine ex (xt_ (xt_ (xb (th (sq (rg (ag (nl (th (rt ?_))))))))))
   have hr0:true=(bT s):=by
    unfold bT
    rw[show k=s.sT.length by omega,List.take_length] at hI0
    rw[hI0]
    simp[hc0];omega
   exact rE () [.tmp 2] J [bl true] ⟨.tmp J,tV⟩ (cA1 (fun x0=>rV [bl x0]) hr0) trivial eX
end prog2
end
section
open ref01 ref03 ref04 ref06 prog prog2 Part
theorem Rx {P:Program} {f:FuncId} {args args':List AV} {Hi:Hp} {ι:Type} {res:Nat→ι→AV} {Ho:ι→Hp} (h:∀{w F vs},All2 w F args' vs→All2 w F args vs) (hf:AL.Fn P f args Hi res Ho):AL.Fn P f args' Hi res Ho:=fun w F vs hv hb hH=>hf w F vs (h hv) hb hH
namespace prog3
theorem rB (t:Int):
 Fn0 Tryz.prog 99 [int t] (clo 137 [fp [int t]]):=by
 refine fnI Tryz.func99 rfl rfl (fun w0 F0=> ?_)
 refine sq (rg (bx1 (key:=1) (φ:=int t) J fun b1=>(ag (nl (th (sq (rg (fzv 1 1 J J (mkf (ag (nl (th (rt ?_)))))))))))))
 exact rE () [.tmp 2] J [clo 137 [fp [int t]]] ⟨.tmp J,tV⟩ J trivial eX
end prog3
end
section
open ref01 ref03 ref04 ref06 prog prog2 prog3 Part
attribute [local semireducible] eqv in
theorem Cq {x:Value} {w:World} {F:Fz}:(eqv x).p w F x:=rfl
abbrev smE:ByteArray→Value:=fun s=>Value.string s
abbrev smD:ByteArray→Prop:=fun s=>s.size≤aQ
abbrev smV:Int→AV:=fun n=>int n
namespace prog5
end prog5
end
section
open ref01 ref03 ref04 ref06 prog prog2 prog3 Part
attribute [local semireducible] eM any in
theorem Fq {q:Prop} (hq:q) {w:World} {F:Fz} {v:Value}:(eM q any).p w F v:=⟨hq,tV⟩
theorem yM {x:HA} {H:Hp}:SubH [(0,x)] ((0,x)::H):=⟨by rw[bF];exact rI,tV⟩
theorem Ry {t a:Nat} (ht:t<2^63) (h:0<t>>>a):a≤62:=by
 rw[Nat.shiftRight_eq_div_pow] at h
 rcases Nat.lt_or_ge 62 a with h1|h1
 ·have h2:2^63≤2^a:=Nat.pow_le_pow_right O O
  rw[Nat.div_eq_of_lt O] at h
  omega
 ·exact h1
theorem zG {t:Int} {a:Nat} (h:t.toNat>>>a=0):∀j,aL (a+j) t=aL a t
 |0=>rfl
 |j+1=>by
  rw[show a+(j+1)=a+j+1 by omega,jL,zG h j]
  have:has t ((a+j:Nat):Int)=false:=by
   unfold has
   rw[Int.toNat_natCast,Nat.testBit_eq_decide_div_mod_eq]
   rw[Nat.shiftRight_eq_div_pow] at h
   have h2:t.toNat/2^ (a+j)=0:=by
    rw[Nat.pow_add,←Nat.div_div_eq_div_mul,h,Nat.zero_div]
   rw[h2];rfl
  rw[this];simp
theorem Bi (t:Int) (a:Nat):∀j,∃q,aL (a+j) t=aL a t++q
 |0=>⟨[],by simp⟩
 |j+1=>by
  obtain⟨q,hq⟩:=Bi t a j
  rw[show a+(j+1)=a+j+1 by omega,jL,hq,List.append_assoc]
  exact⟨_,rfl⟩
theorem KU {t:Int} {a:Nat} (h:has t (a:Int)=true) (ha:a≤62):(aL 63 t)[(aL a t).length]?=some (a:Int):=by
 obtain⟨q,hq⟩:=Bi t (a+1) (62- a)
 rw[show a+1+(62- a)=63 by omega] at hq
 rw[hq,jL,if_pos h]
 simp
namespace prog4
theorem Cr (t:Int) (h0:0≤t) (h1:t<2^63):
 It Tryz.prog 137 [fp [int t]] nE (aL 63 t):=by
 intro y Y Z hlaw hz hY0
 refine fnI Tryz.func137 rfl rfl (fun w0 F0=> ?_)
 refine sq (rg (ag (nl (th (bk ?_)))))
 have hI0_0:Y (aL 0 t).length hz∧0≤63:=by
  exact⟨hY0,O⟩
 refine lp (κ:=Nat × HA) (fun p=> [(0,eqv y),(1,fp [int t]),(3,int (p.1:Int))]) (fun p=> [(0,p.2)]) (fun p=>Y (aL p.1 t).length p.2∧p.1≤63) (fun p=>64- p.1) ⟨0,hz⟩ hI0_0 ⟨id,id,id,tV⟩ yM ?_
 intro⟨a,hh⟩ hG0
 have hI0:Y (aL a t).length hh∧a≤63:=hG0
 show Ct _ _ _ _ [(0,eqv y),(1,fp [int t]),(3,int (a:Int))] [(0,hh)] _
 refine sq (sq (rg (lF J J T.aH (mv (bi J J (AP O O O) (bi J J fJ (nl (th ?_))))))))
 refine cd J (fun hc0=> ?_) (fun hc0=> ?_)
 ·skip
  have hc0:0<t.toNat>>>a:=by have h5:=of_decide_eq_true hc0;rw[Int.toNat_natCast] at h5;omega
  have ha62:=Ry (t:=t.toNat) O hc0
  refine sk (th (sq (bk (sq (rg (lF J J T.aH (mv (bi J J (AP O O O) (bi J J (EP (m:=(t.toNat>>>a)) (Nat.lt_of_le_of_lt (Nat.shiftRight_le _ _) O)) (bi J J eS (mv ?_)))))))))))
  rcases Bool.eq_false_or_eq_true (decide ((((t.toNat>>>a)&&&1:Nat):Int)=1)) with hg0|hg0
  ·have hg0':=hg0
   try simp at hg0'
   have hha:has t (a:Int)=true:=by unfold has;rw[Int.toNat_natCast,has_eq];exact hg0
   have hxa:=KU hha ha62
   refine gy rfl rfl rfl hg0 (mv (gy rfl rfl rfl hg0 (mv (gy rfl rfl rfl hg0 (Qw (Hi:= [(0,hh)]) rfl (hlaw _ hh (a:Int) hI0.1 hxa) yM fun N bh=>oan 18 rfl fun hres=>(gy rfl rfl rfl hg0 (no rfl (pkT rfl hg0 rfl (nl (th ?_))))))))))
   refine cd J (fun hc1=> ?_) (fun hc1=> ?_)
   ·try simp at hc1
    refine rt (rb (rt_ (rt_ (rb ?_))))
    exact r0 bh.2 rfl (fun _=>Fq (.inr (hres.2 hc1))) yM (.inr rfl)
   ·try simp at hc1
    refine sk (eb (th (rg (mv (bi J J (aG i6) (ag (nl ?_)))))))
    have hN0:Y (aL (a+1) t).length bh.2∧(a+1)≤63:=by
     refine⟨?_,O⟩
     rw[jL,hha];simpa using hres.1 hc1
    exact ln (⟨a+1,bh.2⟩:Nat × HA) hN0 dO ⟨id,id,id,tV⟩ yM
  ·have hg0':=hg0
   try simp at hg0'
   have hha:has t (a:Int)=false:=by unfold has;rw[Int.toNat_natCast,has_eq];exact hg0
   refine gn rfl rfl rfl hg0 rfl rfl (gn rfl rfl rfl hg0 rfl rfl (gn rfl rfl rfl hg0 rfl rfl (gn rfl rfl rfl hg0 rfl rfl (pkF rfl hg0 rfl (nl (th ?_))))))
   refine cd J (fun hc1=> ?_) (fun hc1=> ?_)
   ·try simp at hc1
    skip
   ·try simp at hc1
    refine sk (eb (th (rg (mv (bi J J (aG i6) (ag (nl ?_)))))))
    have hN0:Y (aL (a+1) t).length hh∧(a+1)≤63:=by
     refine⟨?_,O⟩
     rw[jL,hha];simpa using hI0.1
    exact ln (⟨a+1,hh⟩:Nat × HA) hN0 dO ⟨id,id,id,tV⟩ yM
 ·skip
  have hc0:t.toNat>>>a=0:=by have h5:=of_decide_eq_false hc0;rw[Int.toNat_natCast] at h5;exact Nat.eq_zero_of_not_pos (fun h=>h5 (Int.natCast_pos.2 h))
  refine ex (xt_ (xt_ (xb ?_)))
  exact r0 hh rfl (fun _=>Fq (.inl (by have e:=zG hc0 (63- a);rw[show a+(63- a)=63 by omega] at e;rw[e];exact hI0.1))) yM (.inl rfl)
end prog4
end
section
open ref01 ref03 ref04
namespace Rungs
structure LS where
 left:List Int
 dead:List (List Bool)
 out:List Int
def rW (s:SS) (x:Nat) (a:Int) (k:Nat) (t:LS):LS:=if has (ix (ix s.sT x).aP k) a&& !ix (ix t.dead x) k then
 ⟨t.left.set x (ix t.left x- 1),t.dead.set x ((ix t.dead x).set k true),if ix t.left x- 1=0 then t.out++ [(x:Int)] else t.out⟩ else t
def oG (s:SS) (x:Nat) (a:Int):Nat→LS→LS
 |0,st=>st
 |k+1,st=>rW s x a k (oG s x a k st)
def low (s:SS) (x:Nat) (a:Int) (st:LS):LS:=oG s x a (ix s.sT x).aP.length st
def fE (s:SS) (x y j:Nat):List (Int × Int):=((List.range j).filter fun a=>decide (ix (ix s.sT x).next a=(y:Int))).map fun(a:Nat)=>((x:Int),(a:Int))
def dN (s:SS) (k y:Nat):List (Int × Int):=(List.range k).flatMap fun x=>fE s x y (ix s.sT x).next.length
def procs (s:SS) (ps:List (Int × Int)) (st:LS):LS:=ps.foldl (fun st p=>low s p.1.toNat p.2 st) st
def init (s:SS) (k:Nat):LS:=⟨(List.range s.sT.length).map fun x=>if x<k then((ix s.sT x).aP.length:Int) else 0,(List.range s.sT.length).map fun x=>if x<k then List.replicate (ix s.sT x).aP.length false else [],((List.range k).filter fun x=>decide ((ix s.sT x).aP.length=0)).map fun(x:Nat)=>(x:Int)⟩
def rq (s:SS):Nat→LS
 |0=>init s s.sT.length
 |i+1=>if i<(rq s i).out.length then procs s (dN s s.sT.length (ix (rq s i).out i).toNat) (rq s i) else rq s i
def eT (s:SS):List Int:=(rq s s.sT.length).out
structure LInv (s:SS) (st:LS):Prop where
 ll:st.left.length=s.sT.length
 dl:st.dead.length=s.sT.length
 dx:∀x,x<s.sT.length→(ix st.dead x).length=(ix s.sT x).aP.length
 cnt:∀x,x<s.sT.length→ix st.left x=((ix st.dead x).count false:Int)
 bd:∀y,y∈st.out→0≤y∧y<(s.sT.length:Int)
 nd:st.out.Nodup
 mem:∀x,x<s.sT.length→((x:Int)∈st.out↔ix st.left x=0)
 snd:∀x,x<s.sT.length→∀i,i<(ix s.sT x).aP.length→ix (ix st.dead x) i=true→∃a,a<(ix s.sT x).next.length∧0≤ix (ix s.sT x).next a∧has (ix (ix s.sT x).aP i) (a:Int)=true∧Hol s (ix (ix s.sT x).next a).toNat
def Le (st t:LS):Prop:=st.out<+:t.out∧∀x i,ix (ix st.dead x) i=true→ix (ix t.dead x) i=true
theorem Le.refl (st:LS):Le st st:=⟨List.prefix_rfl,fun _ _ h=>h⟩
theorem Le.trans {a b c:LS} (h:Le a b) (k:Le b c):Le a c:=⟨h.1.trans k.1,fun x i g=>k.2 x i (h.2 x i g)⟩
theorem Bj {l:List Bool}:∀{k:Nat},k<l.length→ix l k=false→(l.set k true).count false+1=l.count false:=by
 induction l with
 |nil=>intro k hk;simp at hk
 |cons b l ih=>
  intro k hk h
  cases k with
  |zero=>
   have:b=false:=h
   subst this
   simp
  |succ k=>
   have h1:=ih (k:=k) (by simpa using hk) h
   rw[List.set_cons_succ,List.count_cons,List.count_cons]
   omega
theorem Bl {l:List Int} {x:Int} (h:l.Nodup) (hx:x∉l):(l++ [x]).Nodup:=by
 rw[List.nodup_append]
 exact⟨h,by simp,fun a ha b hb e=>by
  have:b=x:=by simpa using hb
  exact hx (by rw[←this,←e];exact ha)⟩
theorem LInv.hol {s:SS} {st:LS} (h:LInv s st) {x:Nat} (hx:x<s.sT.length) (h0:ix st.left x=0):Hol s x:=by
 refine oF s x hx (fun i hi=> ?_)
 have h1:=h.cnt x hx
 have h2:(ix st.dead x).count false=0:=by omega
 rw[List.count_eq_zero] at h2
 have h3:ix (ix st.dead x) i=true:=by
  have hl:=h.dx x hx
  rw[aF O]
  cases hb:(ix st.dead x)[i]' O with
  |true=>rfl
  |false=>exact absurd (hb▸List.getElem_mem _) h2
 obtain⟨a,h4,h5,h6,h7⟩:=h.snd x hx i hi h3
 exact⟨a,h4,h5,h6,h7⟩
theorem mM {l:List Int} {y:Int} (h:y∈l):∃i,i<l.length∧ix l i=y:=by
 obtain⟨i,hi,e⟩:=List.mem_iff_getElem.1 h
 exact⟨i,hi,by rw[aF hi];exact e⟩
theorem iK {l:List Int} {i:Nat} (h:i<l.length):ix l i∈l:=by rw[aF h];exact List.getElem_mem h
theorem LInv.outHol {s:SS} {st:LS} (h:LInv s st) {y:Int} (hy:y∈st.out):0≤y∧y<(s.sT.length:Int)∧Hol s y.toNat:=by
 have hb:=h.bd y hy
 refine⟨hb.1,hb.2,h.hol O ((h.mem _ O).1 ?_)⟩
 rw[Int.toNat_of_nonneg hb.1];exact hy
theorem Dm:∀{l m:List Int},l.Nodup→l ⊆ m→l.length≤m.length
 | [],m,_,_=>Nat.zero_le _
 |x::l,m,h,hs=>by
  obtain⟨h1,h2⟩:=List.nodup_cons.1 h
  have hx:x∈m:=hs (by simp)
  have:=Dm (m:=m.erase x) h2 (fun y hy=>(List.mem_erase_of_ne (fun e=>h1 (by rw[←e];exact hy))).2 (hs (by simp[hy])))
  rw[List.length_erase_of_mem hx] at this
  have:=List.length_pos_of_mem hx
  simp;omega
theorem LInv.len {s:SS} {st:LS} (h:LInv s st):st.out.length≤s.sT.length:=by
 have h1:st.out ⊆ (List.range s.sT.length).map fun(x:Nat)=>(x:Int):=fun y hy=>by
  obtain⟨h0,h1,_⟩:=h.outHol hy
  exact List.mem_map.2 ⟨y.toNat,List.mem_range.2 O,O⟩
 have:=Dm h.nd h1
 simpa using this
theorem NK {s:SS} {x:Nat} {a:Nat} (hx:x<s.sT.length) (ha:a<(ix s.sT x).next.length) (h0:0≤ix (ix s.sT x).next a) (hH:Hol s (ix (ix s.sT x).next a).toNat) {t:LS} (h1:LInv s t) {k:Nat} (hk:k<(ix s.sT x).aP.length):
 LInv s (rW s x a k t)∧Le t (rW s x a k t)∧(has (ix (ix s.sT x).aP k) (a:Int)=true→ix (ix (rW s x a k t).dead x) k=true):=by
 unfold rW
 split
 ·next hc=>
  simp only [Bool.and_eq_true,Bool.not_eq_true'] at hc
  obtain⟨c1,c2⟩:=hc
  have hdl:=h1.dx x hx
  have hcnt:=Bj (l:=ix t.dead x) (k:=k) O c2
  have hcx:=h1.cnt x hx
  have hdx:∀y,ix (t.dead.set x ((ix t.dead x).set k true)) y=if y=x then(ix t.dead x).set k true else ix t.dead y:=fun y=>lC (by rw[h1.dl];exact hx) _ y
  have hlx:∀y,ix (t.left.set x (ix t.left x- 1)) y=if y=x then ix t.left x- 1 else ix t.left y:=fun y=>lC (by rw[h1.ll];exact hx) _ y
  have hno:(x:Int)∉t.out:=fun hm=>by have:=(h1.mem x hx).1 hm;omega
  have hmo:∀y:Int,y∈(if ix t.left x- 1=0 then t.out++ [(x:Int)] else t.out)↔y∈t.out∨(ix t.left x- 1=0∧y=(x:Int)):=fun y=>by
   split
   ·next he=>simp[he]
   ·next he=>simp[he]
  have hdk:∀i,ix ((ix t.dead x).set k true) i=if i=k then true else ix (ix t.dead x) i:=fun i=>lC O _ i
  refine⟨⟨by simp[h1.ll],by simp[h1.dl],fun y hy=> ?_,fun y hy=> ?_,fun y hy=> ?_,?_,fun y hy=> ?_,fun y hy i hi hd=> ?_⟩,⟨?_,fun y i hd=> ?_⟩,fun _=> ?_⟩
  ·show(ix (t.dead.set x _) y).length=_
   rw[hdx]
   split
   ·next e=>subst e;simpa using hdl
   ·exact h1.dx y hy
  ·show ix (t.left.set x _) y=((ix (t.dead.set x _) y).count false:Int)
   rw[hdx,hlx]
   split
   ·next e=>subst e;omega
   ·exact h1.cnt y hy
  ·rcases(hmo y).1 hy with h|⟨_,rfl⟩
   ·exact h1.bd y h
   ·omega
  ·show List.Nodup (if _ then _ else _)
   split
   ·exact Bl h1.nd hno
   ·exact h1.nd
  ·show(y:Int)∈(if _ then _ else _)↔ix (t.left.set x _) y=0
   rw[hmo,hlx]
   split
   ·next e=>
    subst e
    constructor
    ·rintro(h|h)
     ·exact absurd h hno
     ·exact h.1
    ·exact fun h=> .inr ⟨h,J⟩
   ·next e=>
    rw[←h1.mem y hy]
    constructor
    ·rintro(h|h)
     ·exact h
     ·exact absurd O e
    ·exact .inl
  ·change ix (ix (t.dead.set x _) y) i=true at hd
   rw[hdx] at hd
   split at hd
   ·next e=>
    subst e
    rw[hdk] at hd
    split at hd
    ·next e2=>subst e2;exact⟨a,ha,h0,c1,hH⟩
    ·exact h1.snd y hy i hi hd
   ·exact h1.snd y hy i hi hd
  ·show t.out<+:(if _ then _ else _)
   split
   ·exact List.prefix_append _ _
   ·exact List.prefix_rfl
  ·show ix (ix (t.dead.set x _) y) i=true
   rw[hdx]
   split
   ·next e=>
    subst e
    rw[hdk]
    split
    ·rfl
    ·exact hd
   ·exact hd
  ·show ix (ix (t.dead.set x _) x) k=true
   rw[hdx,if_pos rfl,hdk,if_pos rfl]
 ·next hc=>
  refine⟨h1,Le.refl _,fun h=> ?_⟩
  rw[h] at hc
  simpa using hc
theorem zV {s:SS} {x:Nat} {a:Nat} (hx:x<s.sT.length) (ha:a<(ix s.sT x).next.length) (h0:0≤ix (ix s.sT x).next a) (hH:Hol s (ix (ix s.sT x).next a).toNat) {st:LS} (h:LInv s st):
 ∀k,k≤(ix s.sT x).aP.length→LInv s (oG s x a k st)∧Le st (oG s x a k st)∧∀i,i<k→has (ix (ix s.sT x).aP i) (a:Int)=true→ix (ix (oG s x a k st).dead x) i=true
 |0,_=>⟨h,Le.refl _,fun i hi=>by omega⟩
 |k+1,hk=>by
  obtain⟨h1,h2,h3⟩:=zV hx ha h0 hH h k O
  obtain⟨g1,g2,g3⟩:=NK hx ha h0 hH h1 (k:=k) O
  refine⟨g1,h2.trans g2,fun i hi hh=> ?_⟩
  by_cases e:i=k
  ·subst e;exact g3 hh
  ·exact g2.2 x i (h3 i O hh)
def okP (s:SS) (p:Int × Int):Prop:=∃(x a:Nat),p=((x:Int),(a:Int))∧x<s.sT.length∧a<(ix s.sT x).next.length∧0≤ix (ix s.sT x).next a∧Hol s (ix (ix s.sT x).next a).toNat
def doneP (s:SS) (p:Int × Int) (st:LS):Prop:=∀i,i<(ix s.sT p.1.toNat).aP.length→has (ix (ix s.sT p.1.toNat).aP i) p.2=true→ix (ix st.dead p.1.toNat) i=true
theorem doneP.le {s:SS} {p:Int × Int} {st t:LS} (h:doneP s p st) (k:Le st t):doneP s p t:=fun i hi hh=>k.2 _ _ (h i hi hh)
theorem Rz {s:SS} {p:Int × Int} (hp:okP s p) {st:LS} (h:LInv s st):LInv s (low s p.1.toNat p.2 st)∧Le st (low s p.1.toNat p.2 st)∧doneP s p (low s p.1.toNat p.2 st):=by
 obtain⟨x,a,rfl,hx,ha,h0,hH⟩:=hp
 exact zV hx ha h0 hH h _ (Nat.le_refl _)
theorem Jt (s:SS) (ps:List (Int × Int)) (p:Int × Int) (st:LS):procs s (ps++ [p]) st=low s p.1.toNat p.2 (procs s ps st):=by simp[procs]
theorem nN {s:SS}:∀{ps:List (Int × Int)} {st:LS},(∀p∈ps,okP s p)→LInv s st→LInv s (procs s ps st)∧Le st (procs s ps st)∧∀p∈ps,doneP s p (procs s ps st)
 | [],st,_,h=>⟨h,Le.refl _,fun p hp=>by cases hp⟩
 |p::ps,st,hp,h=>by
  obtain⟨h1,h2,h3⟩:=Rz (hp p (by simp)) h
  obtain⟨g1,g2,g3⟩:=nN (ps:=ps) (fun q hq=>hp q (by simp[hq])) h1
  refine⟨g1,h2.trans g2,fun q hq=> ?_⟩
  rcases List.mem_cons.1 hq with rfl|hq
  ·exact h3.le g2
  ·exact g3 q hq
theorem Ju {s:SS} {x y j:Nat} {p:Int × Int} (h:p∈fE s x y j):∃a:Nat,p=((x:Int),(a:Int))∧a<j∧ix (ix s.sT x).next a=(y:Int):=by
 unfold fE at h
 obtain⟨a,ha,rfl⟩:=List.mem_map.1 h
 obtain⟨h1,h2⟩:=List.mem_filter.1 ha
 exact⟨a,rfl,List.mem_range.1 h1,by simpa using h2⟩
theorem KV {s:SS} {k y:Nat} {p:Int × Int} (h:p∈dN s k y):∃x a:Nat,p=((x:Int),(a:Int))∧x<k∧a<(ix s.sT x).next.length∧ix (ix s.sT x).next a=(y:Int):=by
 unfold dN at h
 obtain⟨x,hx,hp⟩:=List.mem_flatMap.1 h
 obtain⟨a,h1,h2,h3⟩:=Ju hp
 exact⟨x,a,h1,List.mem_range.1 hx,h2,h3⟩
theorem KW {s:SS} {k y x a:Nat} (hx:x<k) (ha:a<(ix s.sT x).next.length) (h:ix (ix s.sT x).next a=(y:Int)):((x:Int),(a:Int))∈dN s k y:=by
 unfold dN
 refine List.mem_flatMap.2 ⟨x,List.mem_range.2 hx,List.mem_map.2 ⟨a,List.mem_filter.2 ⟨List.mem_range.2 ha,by simpa using h⟩,rfl⟩⟩
theorem oV {s:SS} {y:Nat} (hy:Hol s y):∀p∈dN s s.sT.length y,okP s p:=fun p hp=>by
 obtain⟨x,a,rfl,hx,ha,h⟩:=KV hp
 exact⟨x,a,rfl,hx,ha,O,by rw[h];simpa using hy⟩
theorem NL (s:SS):LInv s (init s s.sT.length):=by
 have hl:∀x,x<s.sT.length→ix (init s s.sT.length).left x=((ix s.sT x).aP.length:Int):=fun x hx=>by
  show ix ((List.range _).map _) x=_
  rw[aF (by simpa using hx)];simp[hx]
 have hd:∀x,x<s.sT.length→ix (init s s.sT.length).dead x=List.replicate (ix s.sT x).aP.length false:=fun x hx=>by
  show ix ((List.range _).map _) x=_
  rw[aF (by simpa using hx)];simp[hx]
 have hm:∀y:Int,y∈(init s s.sT.length).out↔∃x:Nat,x<s.sT.length∧(ix s.sT x).aP.length=0∧(x:Int)=y:=fun y=>by
  show y∈((List.range _).filter _).map _↔_
  simp[and_assoc]
 refine⟨by simp[init],by simp[init],fun x hx=>by rw[hd x hx];simp,fun x hx=>by rw[hd x hx,hl x hx];simp,fun y hy=> ?_,?_,fun x hx=> ?_,fun x hx i hi h=> ?_⟩
 ·obtain⟨x,h1,h2,rfl⟩:=(hm y).1 hy;omega
 ·show(((List.range _).filter _).map _).Nodup
  refine List.Pairwise.map _ (fun a b h e=>h O) (List.nodup_range.filter _)
 ·rw[hm,hl x hx]
  constructor
  ·rintro⟨z,h1,h2,h3⟩
   have:z=x:=by omega
   subst this;omega
  ·exact fun h=>⟨x,hx,O,J⟩
 ·rw[hd x hx,aF (by simpa using hi)] at h
  simp at h
theorem oH (s:SS):∀i,LInv s (rq s i)
 |0=>NL s
 |i+1=>by
  have ih:=oH s i
  unfold rq
  split
  ·next hi=>exact(nN (oV (ih.outHol (iK hi)).2.2) ih).1
  ·exact ih
theorem RA (s:SS) (i:Nat):Le (rq s i) (rq s (i+1)):=by
 have ih:=oH s i
 show Le _ (if _ then _ else _)
 split
 ·next hi=>exact(nN (oV (ih.outHol (iK hi)).2.2) ih).2.1
 ·exact Le.refl _
theorem xG {s:SS} {i:Nat} (h:(rq s i).out.length≤i):∀j,rq s (i+j)=rq s i
 |0=>rfl
 |j+1=>by
  have ih:=xG h j
  show(if i+j<(rq s (i+j)).out.length then procs s (dN s s.sT.length (ix (rq s (i+j)).out (i+j)).toNat) (rq s (i+j)) else rq s (i+j))=_
  rw[ih,if_neg O]
theorem NM {s:SS} {i:Nat} (h:(rq s i).out.length≤i):(rq s i).out=eT s:=by
 unfold eT
 have hn:=(oH s s.sT.length).len
 rcases Nat.le_total i s.sT.length with h1|h1
 ·have:=xG h (s.sT.length- i)
  rw[show i+(s.sT.length- i)=s.sT.length by omega] at this
  rw[this]
 ·have:=xG hn (i- s.sT.length)
  rw[show s.sT.length+(i- s.sT.length)=i by omega] at this
  rw[this]
theorem nO {l m:List Int} (h:l<+:m) {j:Nat} (hj:j<l.length):ix m j=ix l j:=by
 obtain⟨q,rfl⟩:=h
 unfold ix
 rw[List.getD_eq_getElem?_getD,List.getD_eq_getElem?_getD,List.getElem?_append_left hj]
theorem Cs (s:SS):∀i,∀j,j<i→j<(rq s i).out.length→∀p∈dN s s.sT.length (ix (rq s i).out j).toNat,doneP s p (rq s i)
 |0,j,hj,_,p,_=>by omega
 |i+1,j,hj,hl,p,hp=>by
  have ih:=oH s i
  have hs:=RA s i
  by_cases hi:i<(rq s i).out.length
  ·have e:rq s (i+1)=procs s (dN s s.sT.length (ix (rq s i).out i).toNat) (rq s i):=by
    show(if _ then _ else _)=_
    rw[if_pos hi]
   rw[nO hs.1 O] at hp
   by_cases ej:j=i
   ·subst ej
    rw[e]
    exact(nN (oV (ih.outHol (iK hi)).2.2) ih).2.2 p hp
   ·exact(Cs s i j O O p hp).le hs
  ·have e:rq s (i+1)=rq s i:=by
    show(if _ then _ else _)=_
    rw[if_neg hi]
   rw[e] at hl hp ⊢
   exact Cs s i j O hl p hp
theorem KX {s:SS} (hs:oK s) {x:Nat} (hx:x<s.sT.length):(x:Int)∈eT s↔Hol s x:=by
 have hI:=oH s s.sT.length
 constructor
 ·intro h
  have:=(hI.outHol h).2.2
  simpa using this
 ·intro h
  refine h (fun x=>x<s.sT.length→(x:Int)∈eT s) (fun x hx hc _=> ?_) hx
  refine(hI.mem x hx).2 ?_
  have h1:=hI.cnt x hx
  have h2:(ix (rq s s.sT.length).dead x).count false=0:=by
   rw[List.count_eq_zero]
   intro hf
   obtain⟨i,hi,e⟩:=List.mem_iff_getElem.1 hf
   have hil:i<(ix s.sT x).aP.length:=by rw[←hI.dx x hx];exact hi
   obtain⟨a,ha,h0,hh,hm⟩:=hc i hil
   by_cases hb:(ix (ix s.sT x).next a).toNat<s.sT.length
   ·have hm:=hm hb
    obtain⟨j,hj,ej⟩:=mM hm
    have hlen:=hI.len
    have hd:=Cs s s.sT.length j (by show j<s.sT.length;exact Nat.lt_of_lt_of_le hj hlen) hj ((x:Int),(a:Int)) (by
     have ej:ix (rq s s.sT.length).out j=_:=ej
     rw[ej]
     exact KW hx ha O)
    have:=hd i (by simpa using hil) (by simpa using hh)
    rw[Int.toNat_natCast,aF hi,e] at this
    cases this
   ·have hk:=hs.st x hx
    have:=hk.nx a (by rw[←hk.len];exact ha)
    omega
  omega
theorem Fs {s:SS} (hs:oK s):marks s.sT.length (eT s)=hOl s:=by
 unfold marks hOl
 refine List.map_congr_left (fun x hx=> ?_)
 have:=KX hs (List.mem_range.1 hx)
 by_cases h:Hol s x
 ·simp[h,this.2 h]
 ·simp[h]
  exact fun hm=>h (this.1 hm)
theorem lV {α:Type} [Inhabited α] {f g:Nat→α} {n t:Nat} {v:α} (ht:t<n) (hv:g t=v) (ho:∀y,y<n→y≠t→g y=f y):((List.range n).map f).set t v=(List.range n).map g:=by
 apply List.ext_getElem?
 intro j
 by_cases e:t=j
 ·subst e;rw[List.getElem?_set_self (by simpa using ht),List.getElem?_map,List.getElem?_range ht,←hv];rfl
 ·rw[List.getElem?_set_ne e,List.getElem?_map,List.getElem?_map]
  by_cases hj:j<n
  ·rw[List.getElem?_range hj];simp[ho j hj (Ne.symm e)]
  ·rw[List.getElem?_eq_none (by simpa using hj)];rfl
theorem KZ (s:SS):init s 0=⟨List.replicate s.sT.length 0,List.replicate s.sT.length [],[]⟩:=by
 unfold init
 simp[List.map_const']
theorem La {s:SS} {k:Nat} (hk:k<s.sT.length):init s (k+1)=⟨(init s k).left.set k ((ix s.sT k).aP.length:Int),(init s k).dead.set k (List.replicate (ix s.sT k).aP.length false),if ((ix s.sT k).aP.length:Int)=0 then(init s k).out++ [(k:Int)] else(init s k).out⟩:=by
 have h1:(init s k).left.set k ((ix s.sT k).aP.length:Int)=(init s (k+1)).left:=lV hk (by rw[if_pos O]) (fun y hy hne=>by
  by_cases h:y<k
  ·rw[if_pos h,if_pos O]
  ·rw[if_neg h,if_neg O])
 have h2:(init s k).dead.set k (List.replicate (ix s.sT k).aP.length false)=(init s (k+1)).dead:=lV hk (by rw[if_pos O]) (fun y hy hne=>by
  by_cases h:y<k
  ·rw[if_pos h,if_pos O]
  ·rw[if_neg h,if_neg O])
 rw[h1,h2]
 have h3:(if ((ix s.sT k).aP.length:Int)=0 then(init s k).out++ [(k:Int)] else(init s k).out)=(init s (k+1)).out:=by
  unfold init
  simp only [List.range_succ,List.filter_append,List.map_append]
  by_cases h:(ix s.sT k).aP.length=0
  ·rw[if_pos O]
   congr 1
   rw[List.filter_cons,if_pos (by simpa using h)];rfl
  ·rw[if_neg O,List.filter_cons,if_neg (by simpa using h)]
   simp
 rw[h3]
theorem Hc (s:SS) (k:Nat):(init s k).out.length≤k:=by
 unfold init
 simp only [List.length_map]
 have:=List.length_filter_le (fun x=>decide ((ix s.sT x).aP.length=0)) (List.range k)
 simpa using this
theorem Bm (s:SS) (k y:Nat):dN s (k+1) y=dN s k y++fE s k y (ix s.sT k).next.length:=by
 unfold dN
 rw[List.range_succ,List.flatMap_append];simp
theorem uC (s:SS) (k y j:Nat):fE s k y (j+1)=fE s k y j++if ix (ix s.sT k).next j=(y:Int) then [((k:Int),(j:Int))] else []:=by
 unfold fE
 rw[List.range_succ,List.filter_append,List.map_append]
 congr 1
 by_cases h:ix (ix s.sT k).next j=(y:Int)<;>simp[h]
theorem Jv {s:SS} {k j n t:Nat} {F:Nat→List (Int × Int)} (ht:ix (ix s.sT k).next j=(t:Int)) (hn:t<n):((List.range n).map fun y=>F y++fE s k y j).set t (F t++fE s k t j++ [((k:Int),(j:Int))])=(List.range n).map fun y=>F y++fE s k y (j+1):=
 lV hn (by rw[uC,if_pos ht,List.append_assoc]) (fun y hy hne=>by rw[uC,if_neg (fun h=>hne O),List.append_nil])
theorem Hd {s:SS} {k j n:Nat} {F:Nat→List (Int × Int)} (ht:ix (ix s.sT k).next j<0):((List.range n).map fun y=>F y++fE s k y j)=(List.range n).map fun y=>F y++fE s k y (j+1):=
 List.map_congr_left (fun y _=>by rw[uC,if_neg O,List.append_nil])
theorem aX {α:Type} [Inhabited α] {l:List α} {i:Nat} (h:i<l.length):ix l i∈l:=by rw[aF h];exact List.getElem_mem h
theorem Dn (s:SS) (x y j:Nat):(fE s x y j).length≤j:=by
 unfold fE
 rw[List.length_map]
 have:=List.length_filter_le (fun a=>decide (ix (ix s.sT x).next a=(y:Int))) (List.range j)
 simpa using this
theorem zW {s:SS} {y:Nat} {m:Nat}:∀k,(∀x,x<k→(ix s.sT x).next.length≤m)→(dN s k y).length≤k*m
 |0,_=>by simp[dN]
 |k+1,h=>by
  have ih:=zW (s:=s) (y:=y) (m:=m) k (fun x hx=>h x O)
  have h1:=Dn s k y (ix s.sT k).next.length
  have h2:=h k O
  rw[Bm,List.length_append,Nat.succ_mul]
  omega
theorem Jw (s:SS):(List.range s.sT.length).map (dN s 0)=List.replicate s.sT.length []:=by
 rw[show dN s 0=fun _=> [] from rfl];simp[List.map_const']
end Rungs
end
section
open ref01 ref03 ref04 ref06 prog prog2 prog3 Part Rungs
def pE:Int × Int→List AV:=fun p=> [int p.1,int p.2]
instance (x:Int × Int):OneAll (pE x):=inferInstanceAs (OneAll [int x.1,int x.2])
theorem rM (t:Int) (a:Nat):has t (a:Int)=decide (((t.toNat>>>a&&&1:Nat):Int)=1):=by
 unfold has;rw[Int.toNat_natCast,has_eq]
abbrev Ft (c5 c4 c7:Nat) (w22 w20:Value) (us:List Value) (v7:Value) (st:LS):Hp:=
 [(5,cell c5 [osl 22 w22]),(22,own w22 90 1 dE us),(221,bB us 4 1 blE st.dead none),(4,cell c4 [osl 20 w20]),(20,own w20 3 1 nE st.left),(7,cell c7 [osl 70 v7]),(70,own v7 3 1 nE st.out)]
namespace T
theorem Uz:Ent Tryz.prog 177:=aN kR
theorem Bn:eF Tryz.prog 121:=fT kR
theorem lW:IsSlice Tryz.prog 121 90 1:=gU kR
theorem jF:eF Tryz.prog 90:=fT kR
theorem z66:eW Tryz.prog 66 [.slice none 0 0]:=cY kR
theorem Jy:eL Tryz.prog 121 90 1 24 [.slice none 0 0]:=jK kR kR
theorem XV:eW Tryz.prog 121 [.slice none 0 0]:=cY kR
theorem zX:eL Tryz.prog 81 65 1 24 [.slice none 0 0]:=jK kR kR
theorem oW:IsSlice Tryz.prog 81 65 1:=gU kR
theorem lX:eF Tryz.prog 65:=fT kR
theorem qO:iZ Tryz.prog 80 [(0,1),(1,1)] [.int .i64 0,.int .i64 0]:=Rn kR kR
theorem lG:eL Tryz.prog 65 80 2 16 [.int .i64 0,.int .i64 0]:=jK kR kR
theorem fA:IsSlice Tryz.prog 65 80 2:=gU kR
theorem dG:iU Tryz.prog 80 2:=jJ kR
theorem z80:eW Tryz.prog 80 [.int .i64 0,.int .i64 0]:=cY kR
theorem eU:Tryz.prog.underlying 80=some (.array 2 3):=by kernel_rfl
end T
namespace prog6
theorem NN (s:SS) (hs:oK s) (x a:Nat) (hx:x<s.sT.length) (ha:a<(ix s.sT x).next.length) (h0:0≤ix (ix s.sT x).next a) (hH:Hol s (ix (ix s.sT x).next a).toNat) (st:LS) (hst:LInv s st) (c5 c4 c7:Nat) (w22 w20 w7:Value) (us:List Value) (hus:us.length=s.sT.length):
 AL.Fn Tryz.prog 177 [int (x:Int),int (a:Int),fp [strs s.aC,sl 2 sE s.sT],ptr 5 c5 0,ptr 4 c4 0,ptr 7 c7 0] (Ft c5 c4 c7 w22 w20 us w7 st) (fun _ (_:Value)=>tup []) (fun v=>Ft c5 c4 c7 w22 w20 us v (low s x (a:Int) st)):=by
 refine fnI Tryz.func177 rfl rfl (fun w0 F0=> ?_)
 have hf1:=hs.few1;have hox:=hs.st x hx;have hal:=hox.acl;have hn8:=hs.n8;have hln:=hox.len
 refine sq (rg (fF J T.bA (lF J J T.bM (mv (iF J J T.cE O gB (fF J T.cJ (lF J J T.aY (fc (aT 15 J) fun hm15=>(lnF J T.aU (mv (nl (th (bk ?_)))))))))))))
 have hI0_0:0≤(ix s.sT x).aP.length:=by
  first|omega|simp
 have hI0_1:(⟨st.left,st.dead,st.out⟩:LS)=(oG s x (a:Int) 0 st):=by
  rfl
 refine lp (κ:=Nat × (List Int) × (List (List Bool)) × Value × (List Int)) (fun p=> [(0,int (x:Int)),(1,int (a:Int)),(3,ptr 5 c5 0),(4,ptr 4 c4 0),(5,ptr 7 c7 0),(15,sl 1 nE (ix s.sT x).aP),(16,int ((ix s.sT x).aP.length:Int)),(17,int (p.1:Int))]) (fun p=> [(4,cell c4 [osl 20 w20]),(5,cell c5 [osl 22 w22]),(7,cell c7 [osl 70 p.2.2.2.1]),(20,own w20 3 1 nE p.2.1),(22,own w22 90 1 dE us),(70,own p.2.2.2.1 3 1 nE p.2.2.2.2),(221,bB us 4 1 blE p.2.2.1 none)]) (fun p=>(p.1≤(ix s.sT x).aP.length)∧((⟨p.2.1,p.2.2.1,p.2.2.2.2⟩:LS)=(oG s x (a:Int) p.1 st))) (fun p=>(ix s.sT x).aP.length- p.1) ⟨0,st.left,st.dead,w7,st.out⟩ ⟨hI0_0,hI0_1⟩ ⟨id,id,id,id,id,id,id,id,tV⟩ ⟨rI,rI,rI,rI,rI,rI,rI,tV⟩ ?_
 intro⟨k,left,dead,u7,out⟩ hG0
 obtain⟨hk0,hI0⟩:(k≤(ix s.sT x).aP.length)∧((⟨left,dead,out⟩:LS)=(oG s x (a:Int) k st)):=hG0
 show Ct _ _ _ _ [(0,int (x:Int)),(1,int (a:Int)),(3,ptr 5 c5 0),(4,ptr 4 c4 0),(5,ptr 7 c7 0),(15,sl 1 nE (ix s.sT x).aP),(16,int ((ix s.sT x).aP.length:Int)),(17,int (k:Int))] [(4,cell c4 [osl 20 w20]),(5,cell c5 [osl 22 w22]),(7,cell c7 [osl 70 u7]),(20,own w20 3 1 nE left),(22,own w22 90 1 dE us),(70,own u7 3 1 nE out),(221,bB us 4 1 blE dead none)] _
 obtain⟨hL,hLe,_⟩:=zV hx ha h0 hH hst k hk0
 rw[←hI0] at hL
 have hac:=fun h=>hox.ac k h
 have hll:=hL.ll
 have hdl:=hL.dl
 have hdx:=hL.dx x hx
 have hcn:=hL.cnt x hx
 have hol:=hL.len
 dsimp only at hll hdl hdx hcn hol
 refine sq (rg (bi J J aO (nl (th (sq ?_)))))
 refine cd J (fun hc0=> ?_) (fun hc0=> ?_)
 ·try simp at hc0
  refine sk (th (sq (bk (sq (rg (mv (iF J J T.aU O gB (lF J J T.aH (ag (ag (nl (th (sq (rg (mv (mv (bi J J (AP O O O) (bi J J (EP (m:=((ix (ix s.sT x).aP k).toNat>>>a)) (Nat.lt_of_le_of_lt (Nat.shiftRight_le _ _) (by have:=hac hc0;omega))) (bi J J eS (mv ?_))))))))))))))))))))
  apply cZ (t:=27) (pd:=36) rfl
  rotate_left
  ·intro hg0 fin
   have hg0':=hg0
   try simp at hg0'
   exact gy J J J hg0 (lP J J J T.Bn (gy J J J hg0 (mv (gy J J J hg0 (iO J J J T.lW O O (gy J J J hg0 (lO J J gB J T.jF (tkB 221 31 x J J (by decide) (gK O) (gK O) (kn 31 (osl 31 (ix us x)) J cS (gy J J J hg0 (mv (gy J J J hg0 (iO J J J T.gJ O O (gy J J J hg0 (lO J J gB J T.eP (gvR 221 31 x J J (by decide) (gK O) (gK O) (gy J J J hg0 (no J (pkT J hg0 J (drp (X:= [(35,_),(34,_),(33,_),(32,_),(31,_),(31,_),(30,_),(29,_),(28,_)]) ⟨J,J,J,J,J,J,J,J,J,tV⟩ fin))))))))))))))))))))
  ·intro hg0 fin
   exact gn J J J hg0 J J (gn J J J hg0 J J (gn J J J hg0 J J (gn J J J hg0 J J (gn J J J hg0 J J (gn J J J hg0 J J (gn J J J hg0 J J (gn J J J hg0 J J (pkF J hg0 J (drp (X:= [(35,_),(34,_),(33,_),(32,_),(31,_),(30,_),(29,_),(28,_)]) ⟨J,J,J,J,J,J,J,J,tV⟩ fin)))))))))
  refine nl (th ?_)
  refine cd J (fun hc1=> ?_) (fun hc1=> ?_)
  ·try simp at hc1
   refine sq (rg (lP J J J T.Bn (mv (iO J J J T.lW O O (lO J J gB J T.jF (tkB 221 40 x J J (by decide) (gK O) (gK O) (kn 40 (osl 40 (ix us x)) J cS (mv (iO J J J T.gJ O O (sO (φ:=bl true) J J J T.eP gB J (y':=true) J (nl (th (sq (rg (gvU 221 40 x J J (by decide) (gK O) (lP J J J T.aY (mv (iO J J J T.aU O O (lO J J gB J T.aH (bi J J (kZ (by have hcl:=List.count_le_length (a:=false) (l:=ix dead x);unfold I64;omega)) (iO J J J T.aU O O (sO (φ:=int ((ix left x)- 1)) J J J T.aH gB J (y':=((ix left x)- 1)) J (nl (th (sq (rg (lP J J J T.aY (mv (iO J J J T.aU O (by simp;omega) (lO J J (by first|exact gN (by simp;omega)|exact gI O (by simp;omega)) J T.aH (bi J J eS (nl (th ?_)))))))))))))))))))))))))))))))))
   refine cd J (fun hc2=> ?_) (fun hc2=> ?_)
   ·try simp at hc2
    refine rg (lP J J J T.aY (mv (bsE (enc:=nE) (xs:= [(x:Int)]) (css:= [[int (x:Int)]]) T.bS ⟨J,J,p1 (φ:=int (x:Int)) J,tV⟩ J J J J (ap (key:=70) (zs:= [(x:Int)]) bP J J J T.bS (by unfold aQ at*;simp;omega) (by unfold aQ at*;simp;omega) fun v57=>(bY J J J J T.aY J (nl (eb (th (rg (bi J J (aG i6) (mv (nl ?_))))))))))))
    have hN0:(k+1)≤(ix s.sT x).aP.length:=by
     first|omega|simp_all
    have hN1:(⟨(left.set x ((ix left x)- 1)),(dead.set x ((ix dead x).set k true)),(out++ [(x:Int)])⟩:LS)=(oG s x (a:Int) (k+1) st):=by
     show _=rW s x a k (oG s x a k st)
     rw[←hI0]
     unfold rW
     have hcc:(has (ix (ix s.sT x).aP k) (a:Int)&& !ix (ix dead x) k)=true:=by rw[rM];simpa using hc1
     have hz:ix left x- 1=0:=by simpa [lC (xs:=left) (k:=x) O] using hc2
     simp[hcc,hz]
    exact ln (⟨k+1,left.set x ((ix left x)- 1),dead.set x ((ix dead x).set k true),v57,out++ [(x:Int)]⟩:Nat × (List Int) × (List (List Bool)) × Value × (List Int)) ⟨hN0,hN1⟩ dO ⟨id,id,id,id,id,id,id,id,tV⟩ ⟨rI,rI,rI,rI,rI,rI,rI,tV⟩
   ·try simp at hc2
    refine sk (eb (th (rg (bi J J (aG i6) (mv (nl ?_))))))
    have hN0:(k+1)≤(ix s.sT x).aP.length:=by
     first|omega|simp_all
    have hN1:(⟨(left.set x ((ix left x)- 1)),(dead.set x ((ix dead x).set k true)),out⟩:LS)=(oG s x (a:Int) (k+1) st):=by
     show _=rW s x a k (oG s x a k st)
     rw[←hI0]
     unfold rW
     have hcc:(has (ix (ix s.sT x).aP k) (a:Int)&& !ix (ix dead x) k)=true:=by rw[rM];simpa using hc1
     have hz:¬ix left x- 1=0:=by simpa [lC (xs:=left) (k:=x) O] using hc2
     simp[hcc,hz]
    exact ln (⟨k+1,left.set x ((ix left x)- 1),dead.set x ((ix dead x).set k true),u7,out⟩:Nat × (List Int) × (List (List Bool)) × Value × (List Int)) ⟨hN0,hN1⟩ dO ⟨id,id,id,id,id,id,id,id,tV⟩ ⟨rI,rI,rI,rI,rI,rI,rI,tV⟩
  ·try simp at hc1
   refine sk (eb (th (rg (bi J J (aG i6) (mv (nl ?_))))))
   have hN0:(k+1)≤(ix s.sT x).aP.length:=by
    first|omega|simp_all
   have hN1:(⟨left,dead,out⟩:LS)=(oG s x (a:Int) (k+1) st):=by
    show _=rW s x a k (oG s x a k st)
    rw[←hI0]
    unfold rW
    have hcc:(has (ix (ix s.sT x).aP k) (a:Int)&& !ix (ix dead x) k)=false:=by rw[rM];simpa using hc1
    simp[hcc]
   exact ln (⟨k+1,left,dead,u7,out⟩:Nat × (List Int) × (List (List Bool)) × Value × (List Int)) ⟨hN0,hN1⟩ dO ⟨id,id,id,id,id,id,id,id,tV⟩ ⟨rI,rI,rI,rI,rI,rI,rI,tV⟩
 ·try simp at hc0
  refine ex (xt_ (xt_ (xb ?_)))
  have hlow:low s x (a:Int) st=⟨left,dead,out⟩:=by unfold low;rw[hI0,show(ix s.sT x).aP.length=k by omega]
  exact rE u7 [] J [] trivial J (by show SubH (Ft c5 c4 c7 w22 w20 us u7 (low s x (a:Int) st)) _;rw[hlow];exact⟨rI,rI,rI,rI,rI,rI,rI,tV⟩) eX
theorem NP (s:SS) (hs:oK s):
 Fn0 Tryz.prog 144 [spec s] (ints (eT s)):=by
 refine fnI Tryz.func144 rfl rfl (fun w0 F0=> ?_)
 have hf1:=hs.few1;have hn8:=hs.n8
 refine fcC (bV 0 J) (fun hS0=> ?_)
 obtain⟨hsa0,hss0,hse0⟩:=sLn hS0
 refine sq (rg (bx (key:=1) (cs:= [sl 1 rE_ s.aC,sl 2 sE s.sT]) J fun b1=>(ag (nl (th (sq (rg (fzv 1 1 J J (fF J T.bA (lF J J T.bM (fc (aT 17 J) fun hm17=>(lnF J T.cE (ag (nl (th (sq (rg (mv (mk (key:=20) (m:=s.sT.length) (enc:=nE) (y:=(0:Int)) J J T.bS (eC eZ) mL mL fun v20=>(al (key:=4) T.z66 (eC eZ) fun b4=>(bY J J J J T.aY J (nl (th (sq (rg (mv (mk (key:=22) (m:=s.sT.length) (enc:=dE) (y:=(.slice none 0 0:Value)) J J T.Jy (eC eZ) mL mL fun v22=>(al (key:=5) T.XV (eC eZ) fun b5=>(bY J J J J T.Bn J (nl (th (sq (rg (nbB 221 s.sT.length 4 1 blE (mv (mk (key:=24) (m:=s.sT.length) (enc:=dE) (y:=(.slice none 0 0:Value)) J J T.zX (eC eZ) mL mL fun v24=>(ag (nl (th (sq (rg (al (key:=7) T.z66 (eC eZ) fun b7=>(nl (th (sq (sq (rg (nw 70 3 1 nE (knc 7 0 (osl 70 (.slice none 0 0)) J J cS (nbB 241 s.sT.length 80 2 pE (fF J T.bA (lF J J T.bM (lnF J T.cE (mv (nl (th (bk ?_)))))))))))))))))))))))))))))))))))))))))))))))))))))))))
 have hI0_0:0≤s.sT.length:=by
  first|omega|simp
 have hI0_1:(List.replicate s.sT.length (.slice none 0 0:Value)).length=s.sT.length∧(List.replicate s.sT.length (.slice none 0 0:Value)).length=s.sT.length∧(⟨(List.replicate s.sT.length (0:Int)),(List.replicate s.sT.length []),([]:List Int)⟩:LS)=init s 0∧(List.replicate s.sT.length [])=(List.range s.sT.length).map (dN s 0):=by
  exact⟨by simp,by simp,by rw[KZ],(Jw s).symm⟩
 refine lp (κ:=Nat × (List Value) × (List (List Bool)) × (List Int) × Value × (List Int) × (List Value) × (List (List (Int × Int)))) (fun p=> [(1,fp [sl 1 rE_ s.aC,sl 2 sE s.sT]),(2,eqv (.slice none 0 0)),(4,ptr 4 b4 0),(5,ptr 5 b5 0),(6,osl 24 v24),(7,ptr 7 b7 0),(26,sl 2 sE s.sT),(27,int (s.sT.length:Int)),(28,int (p.1:Int))]) (fun p=> [(4,cell b4 [osl 20 v20]),(5,cell b5 [osl 22 v22]),(7,cell b7 [osl 70 p.2.2.2.2.1]),(20,own v20 3 1 nE p.2.2.2.1),(22,own v22 90 1 dE p.2.1),(24,own v24 65 1 dE p.2.2.2.2.2.2.1),(70,own p.2.2.2.2.1 3 1 nE p.2.2.2.2.2.1),(221,bB p.2.1 4 1 blE p.2.2.1 none),(241,bB p.2.2.2.2.2.2.1 80 2 pE p.2.2.2.2.2.2.2 none)]) (fun p=>(p.1≤s.sT.length)∧(p.2.1.length=s.sT.length∧p.2.2.2.2.2.2.1.length=s.sT.length∧(⟨p.2.2.2.1,p.2.2.1,p.2.2.2.2.2.1⟩:LS)=init s p.1∧p.2.2.2.2.2.2.2=(List.range s.sT.length).map (dN s p.1))) (fun p=>s.sT.length- p.1) ⟨0,List.replicate s.sT.length (.slice none 0 0:Value),List.replicate s.sT.length [],List.replicate s.sT.length (0:Int),(.slice none 0 0),([]:List Int),List.replicate s.sT.length (.slice none 0 0:Value),List.replicate s.sT.length []⟩ ⟨hI0_0,hI0_1⟩ ⟨id,id,id,id,id,id,id,id,id,tV⟩ ⟨rI,rI,rI,rI,rI,rI,rI,rI,rI,tV⟩ ?_
 intro⟨k,us,dead,left,u7,out,us2,into⟩ hG0
 obtain⟨hk0,hI0⟩:(k≤s.sT.length)∧(us.length=s.sT.length∧us2.length=s.sT.length∧(⟨left,dead,out⟩:LS)=init s k∧into=(List.range s.sT.length).map (dN s k)):=hG0
 show Ct _ _ _ _ [(1,fp [sl 1 rE_ s.aC,sl 2 sE s.sT]),(2,eqv (.slice none 0 0)),(4,ptr 4 b4 0),(5,ptr 5 b5 0),(6,osl 24 v24),(7,ptr 7 b7 0),(26,sl 2 sE s.sT),(27,int (s.sT.length:Int)),(28,int (k:Int))] [(4,cell b4 [osl 20 v20]),(5,cell b5 [osl 22 v22]),(7,cell b7 [osl 70 u7]),(20,own v20 3 1 nE left),(22,own v22 90 1 dE us),(24,own v24 65 1 dE us2),(70,own u7 3 1 nE out),(221,bB us 4 1 blE dead none),(241,bB us2 80 2 pE into none)] _
 obtain⟨hul,hul2,hst,hin⟩:=hI0
 have hdl:dead.length=s.sT.length:=by have:=congrArg (fun z=>z.dead.length) hst;simpa [init] using this
 have hll:left.length=s.sT.length:=by have:=congrArg (fun z=>z.left.length) hst;simpa [init] using this
 have hil:into.length=s.sT.length:=by rw[hin];simp
 have hol:out.length≤s.sT.length:=by have:=congrArg (fun z=>z.out.length) hst;have h2:=Hc s k;dsimp only at this;omega
 refine sq (rg (bi J J aO (nl (th (sq ?_)))))
 refine cd J (fun hc0=> ?_) (fun hc0=> ?_)
 ·try simp at hc0
  have hox:=hs.st k hc0;have hxl:=hox.len;have hxa:=hox.acl
  refine sk (th (sq (bk (sq (rg (mv (iF J J T.cE O gB (lFA J T.cR (Nat.le_of_ble_eq_true J) (al (key:=9) T.z79 (eC (eC eZ)) fun b9=>(ag (sPA (cs':= [sl 1 nE (ix s.sT k).aP,sl 1 nE (ix s.sT k).next]) J J J T.cR J J (nl (th (sq (EX 221 99 k J J (by decide) (gK O) (gK O) ?_)))))))))))))))
  refine drH (nh:=15) [0,0,0,0,0,16,48,0,128,384,896,115,2163,8191,16383] [(none,[4]),(none,[]),(none,[5]),(none,[]),(none,[]),(none,[9]),(none,[]),(none,[]),(none,[9]),(none,[]),(some 43,[]),(none,[20]),(some 20,[20]),(none,[22]),(some 22,[22])] T.mixed kR kR ?_
  refine stv (d:=33) (fun β0=>osl 20 v20) [4] J bH (fun β0 _ _ _ _ gq gh kq=>lP (gq.1.trans J) (gh.1.trans J) J T.aY kq) ?_
  refine stv (d:=34) (fun β0=>int (k:Int)) [] J bH (fun β0 _ _ _ _ gq gh kq=>mv' (gq.1.trans J) kq) ?_
  refine stv (d:=35) (fun β0=>osl 22 v22) [5] J bH (fun β0 _ _ _ _ gq gh kq=>lP (gq.1.trans J) (gh.1.trans J) J T.Bn kq) ?_
  refine stv (d:=36) (fun β0=>int (k:Int)) [] J bH (fun β0 _ _ _ _ gq gh kq=>mv' (gq.1.trans J) kq) ?_
  refine stv (d:=37) (fun β0=>ptr 9 b9 0) [] J bH (fun β0 _ _ _ _ gq gh kq=>fP (gq.1.trans J) T.cJ kq) ?_
  refine stv (d:=38) (fun β0=>sl 1 nE (ix s.sT k).aP) [9] J bH (fun β0 _ _ _ _ gq gh kq=>lP (gq.1.trans J) (gh.1.trans J) J T.aY kq) ?_
  refine stv (d:=39) (fun β0=>int ((ix s.sT k).aP.length:Int)) [] J bH (fun β0 _ _ _ _ gq gh kq=>lnF (gq.1.trans J) T.aU kq) ?_
  refine stv (d:=40) (fun β0=>ptr 9 b9 0) [] J bH (fun β0 _ _ _ _ gq gh kq=>fP (gq.1.trans J) T.cJ kq) ?_
  refine stv (d:=41) (fun β0=>sl 1 nE (ix s.sT k).aP) [9] J bH (fun β0 _ _ _ _ gq gh kq=>lP (gq.1.trans J) (gh.1.trans J) J T.aY kq) ?_
  refine stv (d:=42) (fun β0=>int ((ix s.sT k).aP.length:Int)) [] J bH (fun β0 _ _ _ _ gq gh kq=>lnF (gq.1.trans J) T.aU kq) ?_
  refine stm (m:=(ix s.sT k).aP.length) (enc:=blE) (y:=false) 43 T.vT (eC eZ) mL mL (fun β0 _ gq=>⟨(gq.1.trans rfl),(gq.2.1.trans rfl)⟩) ?_
  refine stv (d:=44) (fun β0=>eE 20 v20 1 k 0) [20] J bH (fun β0 _ _ _ _ gq gh kq=>iO (gq.1.trans J) (gh.1.trans J) (gq.2.1.trans J) T.aU O O kq) ?_
  refine stw 20 (fun β0=>own v20 3 1 nE (left.set k ((ix s.sT k).aP.length:Int))) [20] J bH (fun β0 _ _ _ _ gq gh kq=>sO (φ:=int ((ix s.sT k).aP.length:Int)) (gq.1.trans J) (gh.1.trans J) (gq.2.1.trans J) T.aH gB J (y':=((ix s.sT k).aP.length:Int)) J kq) ?_
  refine stv (d:=45) (fun β0=>eE 22 v22 1 k 0) [22] J bH (fun β0 _ _ _ _ gq gh kq=>iO (gq.1.trans J) (gh.1.trans J) (gq.2.1.trans J) T.lW O O kq) ?_
  refine stw 22 (fun β0=>own v22 90 1 dE (us.set k (.slice (some ⟨gbk (β0 10),0,none⟩) (ix s.sT k).aP.length (ix s.sT k).aP.length))) [22] J (fun β β' hb=>by first|rw[hb 10 J]|(dsimp only;rw[hb 10 J])) (fun β0 _ _ _ _ gq gh kq=>sO (φ:=eqv (.slice (some ⟨gbk (β0 10),0,none⟩) (ix s.sT k).aP.length (ix s.sT k).aP.length)) (gq.1.trans J) (gh.1.trans J) ((gq.2.1.trans J).trans eO) T.jF gB J (y':=(.slice (some ⟨gbk (β0 10),0,none⟩) (ix s.sT k).aP.length (ix s.sT k).aP.length)) J kq) ?_
  refine pnH fun β0=>(nl (th (sq (sq (rg (gvB (us:=us) 221 43 k J J (by decide) O (lP J J J T.aY (mv (iO J J J T.aU O (by simp;omega) (lO J J (by first|exact gN (by simp;omega)|exact gI O (by simp;omega)) J T.aH (bi J J eS (nl (th ?_)))))))))))))
  refine jn (κ:=Value × (List Int)) (fun p=> [(1,fp [sl 1 rE_ s.aC,sl 2 sE s.sT]),(2,eqv (.slice none 0 0)),(4,ptr 4 b4 0),(5,ptr 5 b5 0),(6,osl 24 v24),(7,ptr 7 b7 0),(8,int (k:Int)),(9,ptr 9 b9 0),(26,sl 2 sE s.sT),(27,int (s.sT.length:Int)),(28,int (k:Int))]) (fun p=> [(4,cell b4 [osl 20 v20]),(5,cell b5 [osl 22 v22]),(7,cell b7 [osl 70 p.1]),(9,cell b9 [sl 1 nE (ix s.sT k).aP,sl 1 nE (ix s.sT k).next]),(20,own v20 3 1 nE (left.set k ((ix s.sT k).aP.length:Int))),(22,own v22 90 1 dE (us.set k (.slice (some ⟨gbk (β0 10),0,none⟩) (ix s.sT k).aP.length (ix s.sT k).aP.length))),(24,own v24 65 1 dE us2),(70,own p.1 3 1 nE p.2),(99,own (ix us k) 4 1 blE (ix dead k)),(221,bB (us.set k (.slice (some ⟨gbk (β0 10),0,none⟩) (ix s.sT k).aP.length (ix s.sT k).aP.length)) 4 1 blE (dead.set k (List.replicate (ix s.sT k).aP.length false)) none),(241,bB us2 80 2 pE into none)]) (fun p=>p.2=if ((ix s.sT k).aP.length:Int)=0 then out++ [(k:Int)] else out) ?_ ?_
  ·
   refine cd J (fun hc1=> ?_) (fun hc1=> ?_)
   ·try simp at hc1
    refine rg (lP J J J T.aY (mv (bsE (enc:=nE) (xs:= [(k:Int)]) (css:= [[int (k:Int)]]) T.bS ⟨J,J,p1 (φ:=int (k:Int)) J,tV⟩ J J J J (ap (key:=70) (zs:= [(k:Int)]) bP J J J T.bS (by unfold aQ at*;simp;omega) (by unfold aQ at*;simp;omega) fun v54=>(bY J J J J T.aY J (nl ?_))))))
    have hN0:(out++ [(k:Int)])=if ((ix s.sT k).aP.length:Int)=0 then out++ [(k:Int)] else out:=by
     rw[lC O,if_pos (by simp)] at hc1
     rw[if_pos hc1]
    exact jx ⟨v54,out++ [(k:Int)]⟩ hN0 ⟨id,id,id,id,id,id,id,id,id,id,id,tV⟩ ⟨rI,rI,rI,rI,rI,rI,rI,rI,rI,rI,rI,tV⟩
   ·try simp at hc1
    refine sk ?_
    have hN0:out=if ((ix s.sT k).aP.length:Int)=0 then out++ [(k:Int)] else out:=by
     rw[lC O,if_pos (by simp)] at hc1
     rw[if_neg hc1]
    exact jx ⟨u7,out⟩ hN0 ⟨id,id,id,id,id,id,id,id,id,id,id,tV⟩ ⟨rI,rI,rI,rI,rI,rI,rI,rI,rI,rI,rI,tV⟩
  ·intro⟨w7,ou⟩ hG
   have hJ1:ou=if ((ix s.sT k).aP.length:Int)=0 then out++ [(k:Int)] else out:=hG
   skip
   show At _ _ _ [(1,fp [sl 1 rE_ s.aC,sl 2 sE s.sT]),(2,eqv (.slice none 0 0)),(4,ptr 4 b4 0),(5,ptr 5 b5 0),(6,osl 24 v24),(7,ptr 7 b7 0),(8,int (k:Int)),(9,ptr 9 b9 0),(26,sl 2 sE s.sT),(27,int (s.sT.length:Int)),(28,int (k:Int))] [(4,cell b4 [osl 20 v20]),(5,cell b5 [osl 22 v22]),(7,cell b7 [osl 70 w7]),(9,cell b9 [sl 1 nE (ix s.sT k).aP,sl 1 nE (ix s.sT k).next]),(20,own v20 3 1 nE (left.set k ((ix s.sT k).aP.length:Int))),(22,own v22 90 1 dE (us.set k (.slice (some ⟨gbk (β0 10),0,none⟩) (ix s.sT k).aP.length (ix s.sT k).aP.length))),(24,own v24 65 1 dE us2),(70,own w7 3 1 nE ou),(99,own (ix us k) 4 1 blE (ix dead k)),(221,bB (us.set k (.slice (some ⟨gbk (β0 10),0,none⟩) (ix s.sT k).aP.length (ix s.sT k).aP.length)) 4 1 blE (dead.set k (List.replicate (ix s.sT k).aP.length false)) none),(241,bB us2 80 2 pE into none)]
   refine th (sq (rg (fP rfl T.bR (lP rfl rfl rfl T.aY (fc (aT 56 rfl) fun hm56=>(lnF rfl T.aU (mv (nl (th (bk ?_))))))))))
   have hI1_0:0≤(ix s.sT k).next.length:=by
    first|omega|simp
   have hI1_1:us2.length=s.sT.length∧into=(List.range s.sT.length).map (fun y=>dN s k y++fE s k y 0):=by
    exact⟨hul2,by rw[hin];exact List.map_congr_left (fun y _=>by simp[fE])⟩
   refine lp (κ:=Nat × (List Value) × (List (List (Int × Int)))) (fun p=> [(1,fp [sl 1 rE_ s.aC,sl 2 sE s.sT]),(2,eqv (.slice none 0 0)),(4,ptr 4 b4 0),(5,ptr 5 b5 0),(6,osl 24 v24),(7,ptr 7 b7 0),(8,int (k:Int)),(26,sl 2 sE s.sT),(27,int (s.sT.length:Int)),(28,int (k:Int)),(56,sl 1 nE (ix s.sT k).next),(57,int ((ix s.sT k).next.length:Int)),(58,int (p.1:Int))]) (fun p=> [(4,cell b4 [osl 20 v20]),(5,cell b5 [osl 22 v22]),(7,cell b7 [osl 70 w7]),(9,cell b9 [sl 1 nE (ix s.sT k).aP,sl 1 nE (ix s.sT k).next]),(20,own v20 3 1 nE (left.set k ((ix s.sT k).aP.length:Int))),(22,own v22 90 1 dE (us.set k (.slice (some ⟨gbk (β0 10),0,none⟩) (ix s.sT k).aP.length (ix s.sT k).aP.length))),(24,own v24 65 1 dE p.2.1),(70,own w7 3 1 nE ou),(99,own (ix us k) 4 1 blE (ix dead k)),(221,bB (us.set k (.slice (some ⟨gbk (β0 10),0,none⟩) (ix s.sT k).aP.length (ix s.sT k).aP.length)) 4 1 blE (dead.set k (List.replicate (ix s.sT k).aP.length false)) none),(241,bB p.2.1 80 2 pE p.2.2 none)]) (fun p=>(p.1≤(ix s.sT k).next.length)∧(p.2.1.length=s.sT.length∧p.2.2=(List.range s.sT.length).map (fun y=>dN s k y++fE s k y p.1))) (fun p=>(ix s.sT k).next.length- p.1) ⟨0,us2,into⟩ ⟨hI1_0,hI1_1⟩ ⟨id,id,id,id,id,id,id,id,id,id,id,id,id,tV⟩ ⟨rI,rI,rI,rI,rI,rI,rI,rI,rI,rI,rI,tV⟩ ?_
   intro⟨k1,us3,into3⟩ hG1
   obtain⟨hk1,hI1⟩:(k1≤(ix s.sT k).next.length)∧(us3.length=s.sT.length∧into3=(List.range s.sT.length).map (fun y=>dN s k y++fE s k y k1)):=hG1
   show Ct _ _ _ _ [(1,fp [sl 1 rE_ s.aC,sl 2 sE s.sT]),(2,eqv (.slice none 0 0)),(4,ptr 4 b4 0),(5,ptr 5 b5 0),(6,osl 24 v24),(7,ptr 7 b7 0),(8,int (k:Int)),(26,sl 2 sE s.sT),(27,int (s.sT.length:Int)),(28,int (k:Int)),(56,sl 1 nE (ix s.sT k).next),(57,int ((ix s.sT k).next.length:Int)),(58,int (k1:Int))] [(4,cell b4 [osl 20 v20]),(5,cell b5 [osl 22 v22]),(7,cell b7 [osl 70 w7]),(9,cell b9 [sl 1 nE (ix s.sT k).aP,sl 1 nE (ix s.sT k).next]),(20,own v20 3 1 nE (left.set k ((ix s.sT k).aP.length:Int))),(22,own v22 90 1 dE (us.set k (.slice (some ⟨gbk (β0 10),0,none⟩) (ix s.sT k).aP.length (ix s.sT k).aP.length))),(24,own v24 65 1 dE us3),(70,own w7 3 1 nE ou),(99,own (ix us k) 4 1 blE (ix dead k)),(221,bB (us.set k (.slice (some ⟨gbk (β0 10),0,none⟩) (ix s.sT k).aP.length (ix s.sT k).aP.length)) 4 1 blE (dead.set k (List.replicate (ix s.sT k).aP.length false)) none),(241,bB us3 80 2 pE into3 none)] _
   have hul3:=hI1.1
   have hil3:into3.length=s.sT.length:=by rw[hI1.2];simp
   refine sq (rg (bi J J aO (nl (th (sq ?_)))))
   refine cd J (fun hc2=> ?_) (fun hc2=> ?_)
   ·try simp at hc2
    have hnx:=hox.nx k1 O
    refine sk (th (sq (bk (sq (rg (mv (iF J J T.aU O gB (lF J J T.aH (ag (ag (nl (th (sq (rg (mv (bi J J fK (nl (th ?_))))))))))))))))))
    refine cd J (fun hc3=> ?_) (fun hc3=> ?_)
    ·try simp at hc3
     have hpb:(ix into3 (ix (ix s.sT k).next k1).toNat).length≤80000:=by
      rw[hI1.2,cB O,List.length_append]
      have h1:=zW (s:=s) (y:=(ix (ix s.sT k).next k1).toNat) (m:=8) k (fun x hx=>by rw[(hs.st x O).len];exact hn8)
      have h2:=Dn s k (ix (ix s.sT k).next k1).toNat k1
      omega
     refine rg (mv (mv (mv (mv (iO J J J T.oW O O (lO J J gB J T.lX (tkB 241 75 (ix (ix s.sT k).next k1).toNat J J (by decide) (gK O) (gK O) (kn 70 (osl 75 (ix us3 (ix (ix s.sT k).next k1).toNat)) J cS (mv (mv (bd (css:= [(0,_),(1,_)]) T.qO (eC (eC eZ)) ⟨J,J,p1 (φ:=int (k:Int)) J,⟨J,J,p1 (φ:=int (k1:Int)) J,tV⟩⟩ (bs (css:= [[int (k:Int),int (k1:Int)]]) T.lG ⟨J,J,pA (cs:= [int (k:Int),int (k1:Int)]) J,tV⟩ J J J (ap (key:=75) (zs:= [((k:Int),(k1:Int))]) bP J J J T.lG (by unfold aQ at*;simp;omega) (by unfold aQ at*;simp;omega) fun v75=>(iO J J J T.oW O O (sOO (k2:=75) J J eO J T.lX gB J (y':=v75) J (gvB (us:=us3) 241 75 (ix (ix s.sT k).next k1).toNat J J (by decide) O (nl (eb (th (rg (bi J J (aG i6) (mv (nl ?_)))))))))))))))))))))))
     have hN0:(k1+1)≤(ix s.sT k).next.length:=by
      first|omega|simp_all
     have hN1:(us3.set (ix (ix s.sT k).next k1).toNat v75).length=s.sT.length∧(into3.set (ix (ix s.sT k).next k1).toNat ((ix into3 (ix (ix s.sT k).next k1).toNat)++ [((k:Int),(k1:Int))]))=(List.range s.sT.length).map (fun y=>dN s k y++fE s k y (k1+1)):=by
      have ht:(ix (ix s.sT k).next k1).toNat<s.sT.length:=by omega
      refine⟨by simpa using hul3,?_⟩
      have e:ix into3 (ix (ix s.sT k).next k1).toNat=dN s k (ix (ix s.sT k).next k1).toNat++fE s k (ix (ix s.sT k).next k1).toNat k1:=by rw[hI1.2];exact cB ht
      rw[e,hI1.2]
      exact Jv O ht
     exact ln (⟨k1+1,us3.set (ix (ix s.sT k).next k1).toNat v75,into3.set (ix (ix s.sT k).next k1).toNat ((ix into3 (ix (ix s.sT k).next k1).toNat)++ [((k:Int),(k1:Int))])⟩:Nat × (List Value) × (List (List (Int × Int)))) ⟨hN0,hN1⟩ dO ⟨id,id,id,id,id,id,id,id,id,id,id,id,id,tV⟩ ⟨rI,rI,rI,rI,rI,rI,rI,rI,rI,rI,rI,tV⟩
    ·try simp at hc3
     refine sk (eb (th (rg (bi J J (aG i6) (mv (nl ?_))))))
     have hN0:(k1+1)≤(ix s.sT k).next.length:=by
      first|omega|simp_all
     have hN1:us3.length=s.sT.length∧into3=(List.range s.sT.length).map (fun y=>dN s k y++fE s k y (k1+1)):=by
      refine⟨hul3,?_⟩
      rw[hI1.2]
      exact Hd O
     exact ln (⟨k1+1,us3,into3⟩:Nat × (List Value) × (List (List (Int × Int)))) ⟨hN0,hN1⟩ dO ⟨id,id,id,id,id,id,id,id,id,id,id,id,id,tV⟩ ⟨rI,rI,rI,rI,rI,rI,rI,rI,rI,rI,rI,tV⟩
   ·try simp at hc2
    refine ex (xt_ (xt_ (xb (eb (th (rg (bi J J (aG i6) (mv (nl ?_)))))))))
    have hN0:(k+1)≤s.sT.length:=by
     first|omega|simp_all
    have hN1:(us.set k (.slice (some ⟨gbk (β0 10),0,none⟩) (ix s.sT k).aP.length (ix s.sT k).aP.length)).length=s.sT.length∧us3.length=s.sT.length∧(⟨(left.set k ((ix s.sT k).aP.length:Int)),(dead.set k (List.replicate (ix s.sT k).aP.length false)),ou⟩:LS)=init s (k+1)∧into3=(List.range s.sT.length).map (dN s (k+1)):=by
     rw[La hc0,←hst,hJ1]
     refine⟨by simpa using hul,hI1.1,rfl,?_⟩
     rw[hI1.2,show k1=(ix s.sT k).next.length by omega]
     exact List.map_congr_left (fun y _=>(Bm s k y).symm)
    exact ln (⟨k+1,us.set k (.slice (some ⟨gbk (β0 10),0,none⟩) (ix s.sT k).aP.length (ix s.sT k).aP.length),dead.set k (List.replicate (ix s.sT k).aP.length false),left.set k ((ix s.sT k).aP.length:Int),w7,ou,us3,into3⟩:Nat × (List Value) × (List (List Bool)) × (List Int) × Value × (List Int) × (List Value) × (List (List (Int × Int)))) ⟨hN0,hN1⟩ dO ⟨id,id,id,id,id,id,id,id,id,tV⟩ ⟨rI,rI,rI,rI,rI,rI,rI,rI,rI,tV⟩
 ·try simp at hc0
  refine ex (xt_ (xt_ (xb (th (sq (rg (mkf (ag (nl (th (sq (sq (rg (ag (nl (th (bk ?_)))))))))))))))))
  have hkn:k=s.sT.length:=by omega
  have hI2_0:(⟨left,dead,out⟩:LS)=rq s 0∧0≤out.length:=by
   rw[hst,hkn]
   exact⟨rfl,Nat.zero_le _⟩
  refine lp (κ:=Nat × (List (List Bool)) × (List Int) × Value × (List Int)) (fun p=> [(2,eqv (.slice none 0 0)),(6,osl 24 v24),(7,ptr 7 b7 0),(12,clo 177 [fp [sl 1 rE_ s.aC,sl 2 sE s.sT],ptr 5 b5 0,ptr 4 b4 0,ptr 7 b7 0]),(13,int (p.1:Int))]) (fun p=> [(4,cell b4 [osl 20 v20]),(5,cell b5 [osl 22 v22]),(7,cell b7 [osl 70 p.2.2.2.1]),(20,own v20 3 1 nE p.2.2.1),(22,own v22 90 1 dE us),(24,own v24 65 1 dE us2),(70,own p.2.2.2.1 3 1 nE p.2.2.2.2),(221,bB us 4 1 blE p.2.1 none),(241,bB us2 80 2 pE into none)]) (fun p=>(⟨p.2.2.1,p.2.1,p.2.2.2.2⟩:LS)=rq s p.1∧p.1≤p.2.2.2.2.length) (fun p=>s.sT.length- p.1) ⟨0,dead,left,u7,out⟩ hI2_0 ⟨id,id,id,id,id,tV⟩ ⟨rI,rI,rI,rI,rI,rI,rI,rI,rI,tV⟩ ?_
  intro⟨i,dead,left,u7,out⟩ hG2
  have hI2:(⟨left,dead,out⟩:LS)=rq s i∧i≤out.length:=hG2
  show Ct _ _ _ _ [(2,eqv (.slice none 0 0)),(6,osl 24 v24),(7,ptr 7 b7 0),(12,clo 177 [fp [sl 1 rE_ s.aC,sl 2 sE s.sT],ptr 5 b5 0,ptr 4 b4 0,ptr 7 b7 0]),(13,int (i:Int))] [(4,cell b4 [osl 20 v20]),(5,cell b5 [osl 22 v22]),(7,cell b7 [osl 70 u7]),(20,own v20 3 1 nE left),(22,own v22 90 1 dE us),(24,own v24 65 1 dE us2),(70,own u7 3 1 nE out),(221,bB us 4 1 blE dead none),(241,bB us2 80 2 pE into none)] _
  have hL:=oH s i
  rw[←hI2.1] at hL
  have hll:=hL.ll
  have hdl:=hL.dl
  have hol:=hL.len
  dsimp only at hll hdl hol
  refine sq (sq (rg (mv (lP J J J T.aY (lnO J J T.aU (bi J J aO (nl (th ?_))))))))
  refine cd J (fun hc4=> ?_) (fun hc4=> ?_)
  ·try simp at hc4
   have hoy:=hL.outHol (iK hc4)
   dsimp only at hoy
   have hHy:=hoy.2.2
   have hiy:ix into (ix out i).toNat=dN s s.sT.length (ix out i).toNat:=by rw[hin,hkn];exact cB O
   have hpb:(ix into (ix out i).toNat).length≤80000:=by
    rw[hiy]
    have h1:=zW (s:=s) (y:=(ix out i).toNat) (m:=8) s.sT.length (fun x hx=>by rw[(hs.st x hx).len];exact hn8)
    omega
   refine sk (th (sq (bk (sq (rg (mv (lP J J J T.aY (mv (iO J J J T.aU O O (lO J J gB J T.aH (iO J J J T.oW O O (lO J J gB J T.lX (tkB 241 92 (ix out i).toNat J J (by decide) (gK O) (gK O) (kn 92 (osl 92 (ix us2 (ix out i).toNat)) J cS (lnO J J T.fA (mv (nl (th (bk ?_)))))))))))))))))))
   have hI3_0:0≤(ix into (ix out i).toNat).length:=by
    first|omega|simp
   have hI3_1:(⟨left,dead,out⟩:LS)=procs s ((dN s s.sT.length (ix out i).toNat).take 0) (rq s i):=by
    rw[List.take_zero];exact hI2.1
   refine lp (κ:=Nat × (List (List Bool)) × (List Int) × Value × (List Int)) (fun p=> [(2,eqv (.slice none 0 0)),(6,osl 24 v24),(7,ptr 7 b7 0),(12,clo 177 [fp [sl 1 rE_ s.aC,sl 2 sE s.sT],ptr 5 b5 0,ptr 4 b4 0,ptr 7 b7 0]),(13,int (i:Int)),(92,osl 92 (ix us2 (ix out i).toNat)),(93,int ((ix into (ix out i).toNat).length:Int)),(94,int (p.1:Int))]) (fun p=> [(4,cell b4 [osl 20 v20]),(5,cell b5 [osl 22 v22]),(7,cell b7 [osl 70 p.2.2.2.1]),(20,own v20 3 1 nE p.2.2.1),(22,own v22 90 1 dE us),(24,own v24 65 1 dE us2),(70,own p.2.2.2.1 3 1 nE p.2.2.2.2),(92,own (ix us2 (ix out i).toNat) 80 2 pE (ix into (ix out i).toNat)),(221,bB us 4 1 blE p.2.1 none),(241,bB us2 80 2 pE into (some (ix out i).toNat))]) (fun p=>(p.1≤(ix into (ix out i).toNat).length)∧((⟨p.2.2.1,p.2.1,p.2.2.2.2⟩:LS)=procs s ((dN s s.sT.length (ix out i).toNat).take p.1) (rq s i))) (fun p=>(ix into (ix out i).toNat).length- p.1) ⟨0,dead,left,u7,out⟩ ⟨hI3_0,hI3_1⟩ ⟨id,id,id,id,id,id,id,id,tV⟩ ⟨rI,rI,rI,rI,rI,rI,rI,rI,rI,rI,tV⟩ ?_
   intro⟨k3,dead3,left3,u73,out3⟩ hG3
   obtain⟨hk3,hI3⟩:(k3≤(ix into (ix out i).toNat).length)∧((⟨left3,dead3,out3⟩:LS)=procs s ((dN s s.sT.length (ix out i).toNat).take k3) (rq s i)):=hG3
   show Ct _ _ _ _ [(2,eqv (.slice none 0 0)),(6,osl 24 v24),(7,ptr 7 b7 0),(12,clo 177 [fp [sl 1 rE_ s.aC,sl 2 sE s.sT],ptr 5 b5 0,ptr 4 b4 0,ptr 7 b7 0]),(13,int (i:Int)),(92,osl 92 (ix us2 (ix out i).toNat)),(93,int ((ix into (ix out i).toNat).length:Int)),(94,int (k3:Int))] [(4,cell b4 [osl 20 v20]),(5,cell b5 [osl 22 v22]),(7,cell b7 [osl 70 u73]),(20,own v20 3 1 nE left3),(22,own v22 90 1 dE us),(24,own v24 65 1 dE us2),(70,own u73 3 1 nE out3),(92,own (ix us2 (ix out i).toNat) 80 2 pE (ix into (ix out i).toNat)),(221,bB us 4 1 blE dead3 none),(241,bB us2 80 2 pE into (some (ix out i).toNat))] _
   refine sq (rg (bi J J aO (nl (th (sq ?_)))))
   refine cd J (fun hc5=> ?_) (fun hc5=> ?_)
   ·try simp at hc5
    obtain⟨px,pa,hpe,hpx,hpa,hp0,hpH⟩:=oV hHy (ix (ix into (ix out i).toNat) k3) (by rw[←hiy];exact aX O)
    have hps:=nN (ps:=(dN s s.sT.length (ix out i).toNat).take k3) (fun p hp=>oV hHy p (List.mem_of_mem_take hp)) (oH s i)
    rw[←hI3] at hps
    have hp1:(ix (ix into (ix out i).toNat) k3).1=(px:Int):=by rw[hpe]
    have hp2:(ix (ix into (ix out i).toNat) k3).2=(pa:Int):=by rw[hpe]
    refine sk (th (sq (bk (sq (rg (iO J J J T.fA O O (lOA J J gB T.dG (by decide) (al (key:=15) T.z80 (eC (eC eZ)) fun b15=>(sPA (cs':= [int ((ix (ix into (ix out i).toNat) k3).1),int ((ix (ix into (ix out i).toNat) k3).2)]) J J J T.dG J J (nl (th (rg (mv (iPA J J T.eU T.aH J (lP J J J T.aH (iPA J J T.eU T.aH J (lP J J J T.aH (Qx (Hi:=Ft b5 b4 b7 v22 v20 us u73 (⟨left3,dead3,out3⟩:LS)) (ι:=Value) (res:=fun _ _=>tup []) (Ho:=fun v=>Ft b5 b4 b7 v22 v20 us v (low s px (pa:Int) (⟨left3,dead3,out3⟩:LS))) J (by show AL.Fn _ _ [int (ix (ix into (ix out i).toNat) k3).1,int (ix (ix into (ix out i).toNat) k3).2,_,_,_,_] _ _ _;rw[hp1,hp2];exact NN s hs px pa hpx hpa hp0 hpH (⟨left3,dead3,out3⟩:LS) hps.1 b5 b4 b7 v22 v20 u73 us hul) T.Uz ⟨rI,rI,rI,rI,rI,rI,rI,tV⟩ fun N z=>(nl (eb (th (rg (bi J J (aG i6) (mv (nl ?_)))))))))))))))))))))))))
    have hN0:(k3+1)≤(ix into (ix out i).toNat).length:=by
     first|omega|simp_all
    have hN1:(⟨(low s px (pa:Int) (⟨left3,dead3,out3⟩:LS)).left,(low s px (pa:Int) (⟨left3,dead3,out3⟩:LS)).dead,(low s px (pa:Int) (⟨left3,dead3,out3⟩:LS)).out⟩:LS)=procs s ((dN s s.sT.length (ix out i).toNat).take (k3+1)) (rq s i):=by
     rw[bJ (by rw[←hiy];omega),Jt,←hI3,←hiy,hpe]
     rfl
    exact ln (⟨k3+1,(low s px (pa:Int) (⟨left3,dead3,out3⟩:LS)).dead,(low s px (pa:Int) (⟨left3,dead3,out3⟩:LS)).left,z,(low s px (pa:Int) (⟨left3,dead3,out3⟩:LS)).out⟩:Nat × (List (List Bool)) × (List Int) × Value × (List Int)) ⟨hN0,hN1⟩ dO ⟨id,id,id,id,id,id,id,id,tV⟩ ⟨rI,rI,rI,rI,rI,rI,rI,rI,rI,rI,tV⟩
   ·try simp at hc5
    refine ex (xt_ (xt_ (xb (eb (th (rg (gvS 241 92 (ix out i).toNat J J (by decide) (gK O) (gK O) (mv (bi J J (aG i6) (ag (nl ?_)))))))))))
    have hN0:(⟨left3,dead3,out3⟩:LS)=rq s (i+1)∧(i+1)≤out3.length:=by
     have hps:=nN (oV hHy) (oH s i)
     rw[show k3=(dN s s.sT.length (ix out i).toNat).length by rw[←hiy];omega,List.take_length] at hI3
     rw[←hI3,←hI2.1] at hps
     have hpl:=hps.2.1.1.length_le
     refine⟨?_,by dsimp only at hpl;omega⟩
     rw[hI3]
     show _=if _ then _ else _
     rw[←hI2.1,if_pos hc4]
    exact ln (⟨i+1,dead3,left3,u73,out3⟩:Nat × (List (List Bool)) × (List Int) × Value × (List Int)) hN0 dO ⟨id,id,id,id,id,tV⟩ ⟨rI,rI,rI,rI,rI,rI,rI,rI,rI,tV⟩
  ·try simp at hc4
   refine ex (xt_ (xt_ (xb (th (sq (rg (lP J J J T.aY (ag (nl (th (rt ?_)))))))))))
   refine fzA 70 2 rfl rfl ?_
   have hr0:out=(eT s):=by
    have hR:=NM (s:=s) (i:=i) (by rw[←hI2.1];exact hc4)
    rw[←hR,←hI2.1]
   exact rE () [.tmp 2] J [sl 1 nE out] ⟨.tmp J,tV⟩ (cA1 (fun x0=>rV [sl 1 nE x0]) hr0) trivial eX
end prog6
end
section
open ref01 ref03 ref04 ref06 Rungs
namespace LeftM
theorem eB {n:Nat} {t x:Int}:x∈aL n t↔∃a:Nat,x=(a:Int)∧a<n∧has t (a:Int)=true:=by
 unfold aL
 constructor
 ·intro h
  obtain⟨a,ha,rfl⟩:=List.mem_map.1 h
  obtain⟨h1,h2⟩:=List.mem_filter.1 ha
  exact⟨a,rfl,List.mem_range.1 h1,h2⟩
 ·rintro⟨a,rfl,h1,h2⟩
  exact List.mem_map.2 ⟨a,List.mem_filter.2 ⟨List.mem_range.2 h1,h2⟩,rfl⟩
theorem oI {n m:Nat} {t x:Int} (h:(aL n t)[m]?=some x):∃a:Nat,x=(a:Int)∧a<n∧has t (a:Int)=true:=eB.1 (List.mem_of_getElem? h)
def Jz (x:SA) (t:Int) (h:List Bool):Bool:=(aL 63 t).all fun a=> !ix h (ix x.next a.toNat).toNat
theorem HM {x:SA} {N n:Nat} (hx:okState x N n) (hn:n≤8) {t:Int} (ht:t∈x.aP) (h:List Bool):Jz x t h= !dF x t h:=by
 obtain⟨i,hi,e⟩:=mM ht
 have hgo:=hx.go i hi
 rw[e] at hgo
 unfold Jz
 rw[Bool.eq_iff_iff,List.all_eq_true,Bool.not_eq_true',←Bool.not_eq_true,jD]
 constructor
 ·rintro h1 ⟨a,h2,h3,h4,h5⟩
  have:=h1 (a:Int) (eB.2 ⟨a,rfl,by have:=hx.len;omega,h4⟩)
  rw[Int.toNat_natCast,h5] at this
  cases this
 ·intro h1 x' hx'
  obtain⟨a,rfl,h2,h3⟩:=eB.1 hx'
  obtain⟨h4,h5⟩:=hgo a h3
  rw[Int.toNat_natCast]
  cases hb:ix h (ix x.next a).toNat with
  |false=>rfl
  |true=>exact absurd ⟨a,by have:=hx.len;omega,h5,h3,hb⟩ h1
theorem Lb {x:SA} {t:Int} {h:List Bool} {m:Nat} {a:Int} (ha:(aL 63 t)[m]?=some a):((aL 63 t).take (m+1)).all (fun a=> !ix h (ix x.next a.toNat).toNat)=(((aL 63 t).take m).all (fun a=> !ix h (ix x.next a.toNat).toNat)&& !ix h (ix x.next a.toNat).toNat):=by
 have hm:=(List.getElem?_eq_some_iff.1 ha)
 obtain⟨hm,rfl⟩:=hm
 rw[List.take_succ_eq_append_getElem hm,List.all_append];simp
theorem UA {u t:Int} {a:Nat}:has ((u.toNat|||t.toNat:Nat):Int) (a:Int)=(has u (a:Int)||has t (a:Int)):=by
 unfold has
 rw[Int.toNat_natCast,Int.toNat_natCast,Nat.testBit_or]
theorem rX (l:List Int):0≤aV l:=by
 rcases List.eq_nil_or_concat l with rfl|⟨l',t,rfl⟩
 ·exact Int.le_refl _
 ·rw[List.concat_eq_append,gV];omega
theorem Fu {α:Type} {p:List α→Prop} (h0:p []) (h1:∀l a,p l→p (l++ [a])) (l:List α):p l:=by
 have:∀n (l:List α),l.length=n→p l:=fun n=>by
  induction n with
  |zero=>intro l hl;rw[List.eq_nil_of_length_eq_zero hl];exact h0
  |succ n ih=>
   intro l hl
   rcases List.eq_nil_or_concat l with rfl|⟨l',t,rfl⟩
   ·exact h0
   ·rw[List.concat_eq_append] at hl ⊢
    exact h1 _ _ (ih l' (by simpa using hl))
 exact this _ l rfl
theorem cU (l:List Int) (a:Nat):has (aV l) (a:Int)=true↔∃t∈l,has t (a:Int)=true:=by
 refine Fu (p:=fun l=>has (aV l) (a:Int)=true↔∃t∈l,has t (a:Int)=true) ?_ (fun l t ih=> ?_) l
 ·simp[aV,has]
 ·rw[gV,UA,Bool.or_eq_true,ih]
  constructor
  ·rintro(⟨u,h1,h2⟩|h)
   ·exact⟨u,by simp[h1],h2⟩
   ·exact⟨t,by simp,h⟩
  ·rintro⟨u,h1,h2⟩
   rcases List.mem_append.1 h1 with h|h
   ·exact .inl ⟨u,h,h2⟩
   ·have:u=t:=by simpa using h
    subst this;exact .inr h2
theorem NQ (l:List Int) (h:∀t∈l,t<256):aV l<256:=by
 refine Fu (p:=fun l=>(∀t∈l,t<256)→aV l<256) (fun _=>by decide) (fun l t ih h=> ?_) l h
 rw[gV]
 exact jY (ih (fun u hu=>h u (by simp[hu]))) (h t (by simp))
theorem zY {s:SS} {x:Nat} {t:Int} (h:t∈keep s x):t∈(ix s.sT x).aP∧ix (hOl s) x=false∧dF (ix s.sT x) t (hOl s)=false:=by
 unfold keep at h
 obtain⟨h1,h2⟩:=List.mem_filter.1 h
 simp only [Bool.and_eq_true,Bool.not_eq_true'] at h2
 exact⟨h1,h2.1,h2.2⟩
theorem kM {s:SS} {x:Nat} (h:ix (hOl s) x=false):keep s x=(ix s.sT x).aP.filter fun t=> !dF (ix s.sT x) t (hOl s):=by
 unfold keep;rw[h];simp
theorem xH {x:SA} {N n:Nat} (hx:okState x N n) {t:Int} (ht:t∈x.aP):0≤t∧t<256:=by
 obtain⟨i,hi,rfl⟩:=mM ht
 exact hx.ac i hi
theorem xI {x:SA} {N n:Nat} (hx:okState x N n) {t:Int} (ht:t∈x.aP) {a:Nat} (h:has t (a:Int)=true):a<n∧0≤ix x.next a:=by
 obtain⟨i,hi,rfl⟩:=mM ht
 exact hx.go i hi a h
theorem kJ {s:SS} (hs:oK s) {x:Nat} (hx:x<s.sT.length) {a:Nat} (h:has (aV (keep s x)) (a:Int)=true):
 a<(ix s.sT x).next.length∧0≤ix (ix s.sT x).next a∧ix (ix s.sT x).next a<(s.sT.length:Int)∧ix (hOl s) (ix (ix s.sT x).next a).toNat=false:=by
 obtain⟨t,ht,hh⟩:=(cU _ _).1 h
 obtain⟨h1,h2,h3⟩:=zY ht
 have hok:=hs.st x hx
 obtain⟨h4,h5⟩:=xI hok h1 hh
 rw[←hok.len] at h4
 refine⟨h4,h5,(hok.nx a (by rw[←hok.len];exact h4)).2,?_⟩
 cases hb:ix (hOl s) (ix (ix s.sT x).next a).toNat with
 |false=>rfl
 |true=>
  rw[jD.2 ⟨a,h4,h5,hh,hb⟩] at h3;cases h3
def kK (l:List Int) (k:Int):List Int:=if decide (0≤k)&& !l.contains k then l++ [k] else l
theorem jM (l ks:List Int):visit l ks=ks.foldl kK l:=rfl
theorem rY {p:Nat→Bool} {g:Nat→Int}:∀(xs:List Nat) (l:List Int),visit l (xs.map fun a=>if p a then g a else-1)=visit l ((xs.filter p).map g)
 | [],l=>rfl
 |x::xs,l=>by
  rw[jM,jM]
  by_cases h:p x=true
  ·rw[List.filter_cons,if_pos h,List.map_cons,List.map_cons,List.foldl_cons,List.foldl_cons,if_pos h]
   exact rY xs _
  ·rw[List.filter_cons,if_neg h,List.map_cons,List.foldl_cons,if_neg h]
   have:kK l (-1)=l:=rfl
   rw[this]
   exact rY xs l
theorem xJ {p:Nat→Bool} {m:Nat}:∀j,(∀a,p a=true→a<m)→(List.range (m+j)).filter p=(List.range m).filter p
 |0,_=>rfl
 |j+1,h=>by
  rw[show m+(j+1)=m+j+1 by omega,List.range_succ,List.filter_append,xJ j h]
  have:p (m+j)=false:=by
   cases hp:p (m+j) with
   |false=>rfl
   |true=>have:=h _ hp;omega
  simp[this]
theorem Bo {x:SA} {u:Int} (hl:x.next.length≤63) (h:∀a:Nat,has u (a:Int)=true→a<x.next.length):aL 63 u=aL x.next.length u:=by
 unfold aL
 have:=xJ (p:=fun a=>has u (a:Int)) (m:=x.next.length) (63- x.next.length) h
 rw[show x.next.length+(63- x.next.length)=63 by omega] at this
 rw[this]
theorem Lc {x:SA} {u:Int} (hl:x.next.length≤63) (h:∀a:Nat,has u (a:Int)=true→a<x.next.length) (l:List Int):visit l (cut x u)=visit l ((aL 63 u).map fun a=>ix x.next a.toNat):=by
 unfold cut
 rw[rY,Bo hl h]
 unfold aL
 rw[List.map_map]
 rfl
theorem gY:∀(ks l:List Int),l<+:visit l ks
 | [],l=>List.prefix_rfl
 |k::ks,l=>by
  rw[jM,List.foldl_cons]
  refine List.IsPrefix.trans ?_ (gY ks _)
  unfold kK
  split
  ·exact List.prefix_append _ _
  ·exact List.prefix_rfl
theorem RB (s:SS) (i:Nat):bq s i<+:bq s (i+1):=by
 show _<+:(if _ then _ else _)
 split
 ·exact gY _ _
 ·exact List.prefix_rfl
theorem tH (s:SS) (i:Nat):∀j,bq s i<+:bq s (i+j)
 |0=>List.prefix_rfl
 |j+1=>(tH s i j).trans (RB s (i+j))
theorem nB {s:SS} (h:oK s) {i:Nat} (hi:i≤s.sT.length):bq (aA s) i<+:order (aA s):=by
 have:=tH (aA s) i ((aA s).sT.length- i)
 rw[fQ] at this
 rw[show i+(s.sT.length- i)=s.sT.length by omega] at this
 unfold order
 rw[fQ];exact this
theorem Bp {s:SS} (h:oK s) {i:Nat} (hi:(bq (aA s) i).length≤i) (hn:i≤s.sT.length):bq (aA s) i=order (aA s):=by
 have:=xD hi (s.sT.length- i)
 rw[show i+(s.sT.length- i)=s.sT.length by omega] at this
 unfold order
 rw[fQ];exact this.symm
theorem JA {s:SS} (h:oK s) (i:Nat):okQ s.sT.length (bq (aA s) i):=by
 have:=Fj (s:=aA s) (by rw[fQ];exact h.few0) (fun k hk a ha=>by rw[fQ] at hk ⊢;exact vU h hk ha) i
 rw[fQ] at this
 exact this
theorem Cu {s:SS} (h:oK s) {i:Nat} (hi:i<(bq (aA s) i).length):bq (aA s) (i+1)=visit (bq (aA s) i) ((aL 63 (aV (keep s (ix (bq (aA s) i) i).toNat))).map fun a=>ix (ix s.sT (ix (bq (aA s) i) i).toNat).next a.toNat):=by
 have hb:=(JA h i).1 i hi
 have hx:(ix (bq (aA s) i) i).toNat<s.sT.length:=by omega
 show(if _ then _ else _)=_
 rw[if_pos hi,fX hx]
 have hok:=h.st _ hx
 have hn8:=h.n8
 exact Lc (by have:=hok.len;omega) (fun a ha=>(kJ h hx ha).1) _
theorem tI {y:Int}:∀(ks l:List Int),y∈visit l ks→y∈l∨y∈ks
 | [],l,h=> .inl h
 |k::ks,l,h=>by
  rw[jM,List.foldl_cons] at h
  rcases tI ks _ h with h|h
  ·unfold kK at h
   split at h
   ·rcases List.mem_append.1 h with h|h
    ·exact .inl h
    ·exact .inr (by simp at h;simp[h])
   ·exact .inl h
  ·exact .inr (by simp[h])
theorem vW {s:SS} (h:oK s) (h0:ix (hOl s) 0=false):∀i,∀y∈bq (aA s) i,ix (hOl s) y.toNat=false
 |0,y,hy=>by
  have:y=0:=by simpa [bq] using hy
  subst this;exact h0
 |i+1,y,hy=>by
  by_cases hi:i<(bq (aA s) i).length
  ·rw[Cu h hi] at hy
   rcases tI _ _ hy with hy|hy
   ·exact vW h h0 i y hy
   ·obtain⟨a,ha,rfl⟩:=List.mem_map.1 hy
    obtain⟨a',rfl,_,hh⟩:=eB.1 ha
    have hb:=(JA h i).1 i hi
    exact(kJ h O hh).2.2.2
  ·have e:bq (aA s) (i+1)=bq (aA s) i:=by
    show(if _ then _ else _)=_
    rw[if_neg hi]
   rw[e] at hy
   exact vW h h0 i y hy
noncomputable def pR (s:SS):List (Int × List Int):=if ix (hOl s) 0=true then [] else(order (aA s)).map fun x=>(x,keep s x.toNat)
theorem NR {s:SS} (h:oK s) (h0:ix (hOl s) 0=false) {i:Nat} (hn:i≤s.sT.length) (hi:i<(bq (aA s) i).length):(pR s)[i]?=some (ix (bq (aA s) i) i,keep s (ix (bq (aA s) i) i).toNat):=by
 have hp:=nB h hn
 have hl:=hp.length_le
 unfold pR
 rw[h0]
 rw[if_neg (by simp),List.getElem?_map,List.getElem?_eq_getElem O,←aF O,nO hp hi];rfl
theorem tJ {s:SS} (h0:ix (hOl s) 0=false):(pR s).length=(order (aA s)).length:=by
 unfold pR
 rw[h0];simp
end LeftM
end
section
open ref01 ref03 ref04 ref06 prog prog2 prog3 prog4 prog6 Part Rungs LeftM
def WP:Int × List Int→List AV:=fun p=> [int p.1,ints p.2]
attribute [local semireducible] eM any in
theorem xK {q:Prop} (hq:q) {w:World} {F:Fz} {v:Value}:(eM q any).p w F v:=⟨hq,tV⟩
theorem JB {n:Nat} {l:List Int} {k:Nat} (hk:k<l.length) (h0:0≤ix l k):(marks n (l.take k)).set (ix l k).toNat true=marks n (l.take (k+1)):=by
 rw[nM h0,bJ hk]
theorem take_at {α:Type} {l:List α} {m:Nat} {x:α} (h:l[m]?=some x):l.take (m+1)=l.take m++ [x]:=by
 obtain⟨hm,rfl⟩:=List.getElem?_eq_some_iff.1 h
 rw[List.take_succ_eq_append_getElem hm]
theorem Ld {s:SS} {x:Nat} (h:¬ix (hOl s) x=true):ix (hOl s) x=false:=by simpa using h
namespace T
theorem UB:Ent Tryz.prog 144:=aN kR
theorem Lf:Ent Tryz.prog 110:=aN kR
theorem z90:eW Tryz.prog 90 [.slice none 0 0]:=cY kR
theorem z4:eW Tryz.prog 4 [.bool false]:=cY kR
theorem yN:Ent Tryz.prog 99:=aN kR
theorem uU:Ent Tryz.prog 137:=aN kR
end T
namespace prog7
theorem Bq (s:SS) (hs:oK s):
 Fn0 Tryz.prog 110 [spec s] (bls (hOl s)):=by
 refine fnI Tryz.func110 rfl rfl (fun w0 F0=> ?_)
 have hf1:=hs.few1;have hI:=oH s s.sT.length;have hrl:(eT s).length≤s.sT.length:=hI.len
 refine fcC (bV 0 J) (fun hS0=> ?_)
 obtain⟨hsa0,hss0,hse0⟩:=sLn hS0
 refine sq (rg (bx (key:=1) (cs:= [sl 1 rE_ s.aC,sl 2 sE s.sT]) J fun b1=>(ag (nl (th (sq (rg (fP J T.bA (lP J J J T.bM (fc (aT 7 J) fun hm7=>(lnF J T.cE (mk (key:=9) (m:=s.sT.length) (enc:=blE) (y:=false) J J T.vT (eC eZ) mL mL fun v9=>(ag (nl (th (sq (sq (rg (lPA J J T.aW J (aZ (φs:= [agg [sl 1 rE_ s.aC,sl 2 sE s.sT]]) (φ:=sl 1 nE (eT s)) ⟨J,tV⟩ (prog6.NP s aS) T.UB (fc (aT 11 J) fun hm11=>(lnF J T.aU (mv (nl (th (bk ?_))))))))))))))))))))))))))
 have hI0_0:0≤(eT s).length:=by
  first|omega|simp
 have hI0_1:(List.replicate s.sT.length false)=marks s.sT.length ((eT s).take 0):=by
  rw[List.take_zero];apply List.ext_getElem?;intro j;simp[marks,List.getElem?_replicate];split<;>simp_all
 refine lp (κ:=Nat × (List Bool)) (fun p=> [(2,eqv (.slice none 0 0)),(3,osl 9 v9),(11,sl 1 nE (eT s)),(12,int ((eT s).length:Int)),(13,int (p.1:Int))]) (fun p=> [(1,cell b1 [sl 1 rE_ s.aC,sl 2 sE s.sT]),(9,own v9 4 1 blE p.2)]) (fun p=>(p.1≤(eT s).length)∧(p.2=marks s.sT.length ((eT s).take p.1))) (fun p=>(eT s).length- p.1) ⟨0,List.replicate s.sT.length false⟩ ⟨hI0_0,hI0_1⟩ ⟨id,id,id,id,id,tV⟩ ⟨rI,rI,tV⟩ ?_
 intro⟨k,acc⟩ hG0
 obtain⟨hk0,hI0⟩:(k≤(eT s).length)∧(acc=marks s.sT.length ((eT s).take k)):=hG0
 show Ct _ _ _ _ [(2,eqv (.slice none 0 0)),(3,osl 9 v9),(11,sl 1 nE (eT s)),(12,int ((eT s).length:Int)),(13,int (k:Int))] [(1,cell b1 [sl 1 rE_ s.aC,sl 2 sE s.sT]),(9,own v9 4 1 blE acc)] _
 refine sq (rg (bi J J aO (nl (th (sq ?_)))))
 refine cd J (fun hc0=> ?_) (fun hc0=> ?_)
 ·try simp at hc0
  have hob:=hI.bd _ (iK (l:=eT s) hc0)
  have hal:acc.length=s.sT.length:=by rw[hI0];exact lD _ _
  refine sk (th (sq (bk (sq (rg (iF J J T.aU O gB (lF J J T.aH (ag (nl (th (rg (mv (mv (iO J J J T.gJ O O (sO (φ:=bl true) J J J T.eP gB J (y':=true) J (nl (eb (th (rg (bi J J (aG i6) (mv (nl ?_))))))))))))))))))))))
  have hN0:(k+1)≤(eT s).length:=by
   first|omega|simp_all
  have hN1:(acc.set (ix (eT s) k).toNat true)=marks s.sT.length ((eT s).take (k+1)):=by
   rw[hI0];exact JB hc0 hob.1
  exact ln (⟨k+1,acc.set (ix (eT s) k).toNat true⟩:Nat × (List Bool)) ⟨hN0,hN1⟩ dO ⟨id,id,id,id,id,tV⟩ ⟨rI,rI,tV⟩
 ·try simp at hc0
  refine ex (xt_ (xt_ (xb (th (sq (rg (mv (ag (nl (th (rt ?_)))))))))))
  refine fzA 9 2 rfl rfl ?_
  have hr0:acc=(hOl s):=by
   rw[hI0,show k=(eT s).length by omega,List.take_length];exact Fs hs
  exact rE () [.tmp 2] J [sl 1 blE acc] ⟨.tmp J,tV⟩ (cA1 (fun x0=>rV [sl 1 blE x0]) hr0) trivial eX
theorem RD (s:SS):
 Fn0 Tryz.prog 119 [spec s] (clo 149 [fp [strs s.aC,sl 2 sE s.sT]]):=by
 refine fnI Tryz.func119 rfl rfl (fun w0 F0=> ?_)
 refine fcC (bV 0 J) (fun hS0=> ?_)
 obtain⟨hsa0,hss0,hse0⟩:=sLn hS0
 refine sq (rg (bx (key:=1) (cs:= [sl 1 rE_ s.aC,sl 2 sE s.sT]) J fun b1=>(ag (nl (th (sq (rg (fzv 1 1 J J (mkf (ag (nl (th (rt ?_)))))))))))))
 exact rE () [.tmp 2] J [clo 149 [fp [sl 1 rE_ s.aC,sl 2 sE s.sT]]] ⟨.tmp J,tV⟩ J trivial eX
theorem UC (s:SS) (hs:oK s):
 It Tryz.prog 149 [fp [strs s.aC,sl 2 sE s.sT]] WP (pR s):=by
 intro y Y Z hlaw hz hY0
 refine fnI Tryz.func149 rfl rfl (fun w0 F0=> ?_)
 have hf0:=hs.few0;have hf1:=hs.few1;have hn8:=hs.n8;have hhl:=jX s
 refine sq (rg (lFA J T.aW (Nat.le_of_ble_eq_true J) (aZ (φs:= [agg [sl 1 rE_ s.aC,sl 2 sE s.sT]]) (φ:=sl 1 blE (hOl s)) ⟨J,tV⟩ (prog7.Bq s aS) T.Lf (al (key:=3) T.z90 (eC eZ) fun b3=>(sP (φ:=sl 1 blE (hOl s)) J J J T.jF J (nl (th (sq (sq (rg (lP J J J T.jF (iF J J T.gJ O (gK (k:=0) O) (lF J J T.eP (nl (th ?_)))))))))))))))
 refine cd J (fun hc0=> ?_) (fun hc0=> ?_)
 ·try simp at hc0
  refine rt (rt_ ?_)
  exact r0 hz rfl (fun _=>xK (.inl (by unfold pR;rw[if_pos hc0];exact hY0))) ⟨rI,tV⟩ (.inr rfl)
 ·try simp at hc0
  have h00:=Ld (by rw[hc0];simp)
  refine sk (th (sq (rg (fF J T.bA (lF J J T.bM (fc (aT 22 J) fun hm22=>(lnF J T.cE (mk (key:=24) (m:=s.sT.length) (enc:=blE) (y:=false) J J T.vT (eC eZ) mL mL fun v24=>(al (key:=4) T.z90 (eC eZ) fun b4=>(bY J J J J T.jF J (nl (th (sq (rg (lP J J J T.jF (iO J J J T.gJ O (by simp;omega) (sO (φ:=bl true) J J J T.eP (gN (by simp;omega)) J (y':=true) J (nl (th (sq (rg (bsO 27 (enc:=nE) (xs:= [0]) (css:= [[int 0]]) T.bS ⟨J,J,p1 (φ:=int 0) J,tV⟩ J J J J fun v27=>(al (key:=5) T.z66 (eC eZ) fun b5=>(bY J J J J T.aY J (nl (th (sq (rg (ag (nl (th (bk ?_))))))))))))))))))))))))))))))))
  have hI0_0:([0]:List Int)=bq (aA s) 0∧((List.replicate s.sT.length false).set 0 true)=marks s.sT.length ([0]:List Int)∧Y 0 hz∧0≤([0]:List Int).length:=by
   exact⟨rfl,Bf _,hY0,Nat.zero_le _⟩
  refine lp (κ:=Nat × (List Bool) × Value × (List Int) × HA) (fun p=> [(0,eqv y),(1,fp [sl 1 rE_ s.aC,sl 2 sE s.sT]),(3,ptr 3 b3 0),(4,ptr 4 b4 0),(5,ptr 5 b5 0),(6,int (p.1:Int))]) (fun p=> [(0,p.2.2.2.2),(3,cell b3 [sl 1 blE (hOl s)]),(4,cell b4 [osl 24 v24]),(5,cell b5 [osl 27 p.2.2.1]),(24,own v24 4 1 blE p.2.1),(27,own p.2.2.1 3 1 nE p.2.2.2.1)]) (fun p=>p.2.2.2.1=bq (aA s) p.1∧p.2.1=marks s.sT.length p.2.2.2.1∧Y p.1 p.2.2.2.2∧p.1≤p.2.2.2.1.length) (fun p=>s.sT.length- p.1) ⟨0,(List.replicate s.sT.length false).set 0 true,v27,([0]:List Int),hz⟩ hI0_0 ⟨id,id,id,id,id,id,tV⟩ ⟨rI,rI,rI,rI,rI,rI,tV⟩ ?_
  intro⟨i,met,u5,ord,hh⟩ hG0
  have hI0:ord=bq (aA s) i∧met=marks s.sT.length ord∧Y i hh∧i≤ord.length:=hG0
  show Ct _ _ _ _ [(0,eqv y),(1,fp [sl 1 rE_ s.aC,sl 2 sE s.sT]),(3,ptr 3 b3 0),(4,ptr 4 b4 0),(5,ptr 5 b5 0),(6,int (i:Int))] [(0,hh),(3,cell b3 [sl 1 blE (hOl s)]),(4,cell b4 [osl 24 v24]),(5,cell b5 [osl 27 u5]),(24,own v24 4 1 blE met),(27,own u5 3 1 nE ord)] _
  have hoq:=JA hs i
  rw[←hI0.1] at hoq
  have hol:=hoq.le
  have hml:met.length=s.sT.length:=by rw[hI0.2.1];exact lD _ _
  refine sq (sq (rg (mv (lP J J J T.aY (lnO J J T.aU (bi J J aO (nl (th ?_))))))))
  refine cd J (fun hc1=> ?_) (fun hc1=> ?_)
  ·try simp at hc1
   have hob:=hoq.1 i hc1
   have hox:=hs.st (ix ord i).toNat O
   have hxn:(ix ord i).toNat<s.sT.length:=by omega
   refine sk (th (sq (bk (sq ?_))))
   refine drH (nh:=10) [0,1,0,0,12,28,63,127,0,511] [(none,[]),(none,[]),(none,[5]),(none,[]),(none,[27]),(none,[27]),(none,[]),(none,[]),(some 7,[]),(some 7,[7])] T.mixed kR kR ?_
   refine stv (d:=34) (fun β0=>fp [sl 2 sE s.sT]) [] J bH (fun β0 _ _ _ _ gq gh kq=>fF (gq.1.trans J) T.bA kq) ?_
   refine stv (d:=35) (fun β0=>sl 2 sE s.sT) [] J bH (fun β0 _ _ _ _ gq gh kq=>lF (gq.1.trans J) J T.bM kq) ?_
   refine stv (d:=36) (fun β0=>osl 27 u5) [5] J bH (fun β0 _ _ _ _ gq gh kq=>lP (gq.1.trans J) (gh.1.trans J) J T.aY kq) ?_
   refine stv (d:=37) (fun β0=>int (i:Int)) [] J bH (fun β0 _ _ _ _ gq gh kq=>mv' (gq.1.trans J) kq) ?_
   refine stv (d:=38) (fun β0=>eE 27 u5 1 i 0) [27] J bH (fun β0 _ _ _ _ gq gh kq=>iO (gq.1.trans J) (gh.1.trans J) (gq.2.1.trans J) T.aU O O kq) ?_
   refine stv (d:=39) (fun β0=>int (ix ord i)) [27] J bH (fun β0 _ _ _ _ gq gh kq=>lO (gq.1.trans J) (gh.1.trans J) gB J T.aH kq) ?_
   refine stv (d:=40) (fun β0=>fp [sl 1 nE (ix s.sT (ix ord i).toNat).aP,sl 1 nE (ix s.sT (ix ord i).toNat).next]) [] J bH (fun β0 _ _ _ _ gq gh kq=>iF (gq.1.trans J) (gq.2.1.trans J) T.cE O gB kq) ?_
   refine stv (d:=41) (fun β0=>agg [sl 1 nE (ix s.sT (ix ord i).toNat).aP,sl 1 nE (ix s.sT (ix ord i).toNat).next]) [] J bH (fun β0 _ _ _ _ gq gh kq=>lFA (gq.1.trans J) T.cR (Nat.le_of_ble_eq_true J) kq) ?_
   refine sta 7 T.z79 (eC (eC eZ)) ?_
   refine stw 7 (fun β0=>cell (gbk (β0 8)) [sl 1 nE (ix s.sT (ix ord i).toNat).aP,sl 1 nE (ix s.sT (ix ord i).toNat).next]) [7] J (fun β β' hb=>by first|rw[hb 8 J]|(dsimp only;rw[hb 8 J])) (fun β0 _ _ _ _ gq gh kq=>sPA (cs':= [sl 1 nE (ix s.sT (ix ord i).toNat).aP,sl 1 nE (ix s.sT (ix ord i).toNat).next]) (gq.1.trans J) (gh.1.trans J) (gq.2.1.trans J) T.cR J J kq) ?_
   refine pnH fun β0=>(nl (th (sq (rg (nw 8 3 1 nE (ag (rtg (key:=8) 8 J (nl (th (sq (rg (ag (nl (th (sq (sq (rg (fP J T.cJ (lP J J J T.aY (fc (aT 43 J) fun hm43=>(lnF J T.aU (mv (nl (th (bk ?_)))))))))))))))))))))))))
   have hI1_0:0≤(ix s.sT (ix ord i).toNat).aP.length:=by
    first|omega|simp
   have hI1_1:([]:List Int)=((ix s.sT (ix ord i).toNat).aP.take 0).filter (fun t=> !dF (ix s.sT (ix ord i).toNat) t (hOl s))∧(0:Int)=aV ([]:List Int)∧0≤(0:Int)∧(0:Int)<256∧([]:List Int).length≤0:=by
    exact⟨by simp,rfl,O,O,by simp⟩
   refine lp (κ:=Nat × Value × (List Int) × Int) (fun p=> [(0,eqv y),(1,fp [sl 1 rE_ s.aC,sl 2 sE s.sT]),(3,ptr 3 b3 0),(4,ptr 4 b4 0),(5,ptr 5 b5 0),(6,int (i:Int)),(7,ptr 7 (gbk (β0 8)) 0),(8,osl 8 p.2.1),(9,int p.2.2.2),(43,sl 1 nE (ix s.sT (ix ord i).toNat).aP),(44,int ((ix s.sT (ix ord i).toNat).aP.length:Int)),(45,int (p.1:Int))]) (fun p=> [(0,hh),(3,cell b3 [sl 1 blE (hOl s)]),(4,cell b4 [osl 24 v24]),(5,cell b5 [osl 27 u5]),(7,cell (gbk (β0 8)) [sl 1 nE (ix s.sT (ix ord i).toNat).aP,sl 1 nE (ix s.sT (ix ord i).toNat).next]),(8,own p.2.1 3 1 nE p.2.2.1),(24,own v24 4 1 blE met),(27,own u5 3 1 nE ord)]) (fun p=>(p.1≤(ix s.sT (ix ord i).toNat).aP.length)∧(p.2.2.1=((ix s.sT (ix ord i).toNat).aP.take p.1).filter (fun t=> !dF (ix s.sT (ix ord i).toNat) t (hOl s))∧p.2.2.2=aV p.2.2.1∧0≤p.2.2.2∧p.2.2.2<256∧p.2.2.1.length≤p.1)) (fun p=>(ix s.sT (ix ord i).toNat).aP.length- p.1) ⟨0,(.slice none 0 0),([]:List Int),(0:Int)⟩ ⟨hI1_0,hI1_1⟩ ⟨id,id,id,id,id,id,id,id,id,id,id,id,tV⟩ ⟨rI,rI,rI,rI,rI,rI,rI,rI,tV⟩ ?_
   intro⟨k1,u8,sets,cn⟩ hG1
   obtain⟨hk1,hI1⟩:(k1≤(ix s.sT (ix ord i).toNat).aP.length)∧(sets=((ix s.sT (ix ord i).toNat).aP.take k1).filter (fun t=> !dF (ix s.sT (ix ord i).toNat) t (hOl s))∧cn=aV sets∧0≤cn∧cn<256∧sets.length≤k1):=hG1
   show Ct _ _ _ _ [(0,eqv y),(1,fp [sl 1 rE_ s.aC,sl 2 sE s.sT]),(3,ptr 3 b3 0),(4,ptr 4 b4 0),(5,ptr 5 b5 0),(6,int (i:Int)),(7,ptr 7 (gbk (β0 8)) 0),(8,osl 8 u8),(9,int cn),(43,sl 1 nE (ix s.sT (ix ord i).toNat).aP),(44,int ((ix s.sT (ix ord i).toNat).aP.length:Int)),(45,int (k1:Int))] [(0,hh),(3,cell b3 [sl 1 blE (hOl s)]),(4,cell b4 [osl 24 v24]),(5,cell b5 [osl 27 u5]),(7,cell (gbk (β0 8)) [sl 1 nE (ix s.sT (ix ord i).toNat).aP,sl 1 nE (ix s.sT (ix ord i).toNat).next]),(8,own u8 3 1 nE sets),(24,own v24 4 1 blE met),(27,own u5 3 1 nE ord)] _
   have hacl:=hox.acl
   refine sq (rg (bi J J aO (nl (th (sq ?_)))))
   refine cd J (fun hc2=> ?_) (fun hc2=> ?_)
   ·try simp at hc2
    have hac:=hox.ac k1 O
    refine sk (th (sq (bk (sq (rg (iF J J T.aU O gB (lF J J T.aH (ag (nl (th (sq (rg (al (key:=12) T.z4 (eC eZ) fun b12=>(sP (φ:=bl true) J J J T.eP J (nl (th (sq (sq (rg (mv (aZ (φs:= [int (ix (ix s.sT (ix ord i).toNat).aP k1)]) (φ:=clo 137 [fp [int (ix (ix s.sT (ix ord i).toNat).aP k1)]]) ⟨J,tV⟩ (prog3.rB (ix (ix s.sT (ix ord i).toNat).aP k1)) T.yN (nl (th (bk ?_))))))))))))))))))))))))
    have hR0:true=((aL 63 (ix (ix s.sT (ix ord i).toNat).aP k1)).take 0).all (fun a=> !ix (hOl s) (ix (ix s.sT (ix ord i).toNat).next a.toNat).toNat):=by
     simp
    refine rf (κ:=Bool) 900 (fun p=> [(0,hh),(3,cell b3 [sl 1 blE (hOl s)]),(4,cell b4 [osl 24 v24]),(5,cell b5 [osl 27 u5]),(7,cell (gbk (β0 8)) [sl 1 nE (ix s.sT (ix ord i).toNat).aP,sl 1 nE (ix s.sT (ix ord i).toNat).next]),(8,own u8 3 1 nE sets),(12,cell b12 [bl p]),(24,own v24 4 1 blE met),(27,own u5 3 1 nE ord)]) (fun iR p=>p=((aL 63 (ix (ix s.sT (ix ord i).toNat).aP k1)).take iR).all (fun a=> !ix (hOl s) (ix (ix s.sT (ix ord i).toNat).next a.toNat).toNat)) (fun c p=>False) J (Cr (ix (ix s.sT (ix ord i).toNat).aP k1) O O) T.uU J (fun _=>J) (fun _=>J) true hR0 ⟨rI,rI,rI,rI,rI,rI,rI,rI,rI,tV⟩ ?_ ?_ (fun k h=>h.elim) (fun id k h=>h.elim) (fun c k h=>h.elim)
    ·intro m0 fi x0 hG0 hx0 l R w1 M1 F1 hRd
     have hR0:fi=((aL 63 (ix (ix s.sT (ix ord i).toNat).aP k1)).take m0).all (fun a=> !ix (hOl s) (ix (ix s.sT (ix ord i).toNat).next a.toNat).toNat):=hG0
     obtain⟨a,rfl,ha63,hha⟩:=oI hx0
     have hgo:=hox.go k1 O a hha
     have hnx:=hox.nx a hgo.1
     have hxl:=hox.len
     refine rg (ag (nl (aq hRd J (bk (dr (nh:=12) [0,1,3,3,11,3,59,123,255,511,1023,2047,4095] T.mixed kR ?_)))))
     refine st_ J (fun _ _ _ gq kq=>lP (gq.1.trans J) J J T.eP kq) ?_
     refine st_ J (fun _ _ _ gq kq=>mv' (gq.1.trans J) kq) ?_
     refine sg_ (φ:=sl 1 blE (hOl s)) J J J J (List.mem_of_elem_eq_true J) (fun hgd=> ?_) ?_
     ·have hgd':=hgd
      try simp at hgd'
      exact fun _ _ _ gq kq=>lP (gq.1.trans J) J J T.jF kq
     refine sg_ (φ:=ptr 7 (gbk (β0 8)) 1) J J J J (List.mem_of_elem_eq_true J) (fun hgd=> ?_) ?_
     ·have hgd':=hgd
      try simp at hgd'
      exact fun _ _ _ gq kq=>fP (gq.1.trans J) T.bR kq
     refine sg_ (φ:=sl 1 nE (ix s.sT (ix ord i).toNat).next) J J J J (List.mem_of_elem_eq_true J) (fun hgd=> ?_) ?_
     ·have hgd':=hgd
      try simp at hgd'
      exact fun _ _ _ gq kq=>lP (gq.1.trans (cF hgd)) J J T.aY kq
     refine sg_ (φ:=int (a:Int)) J J J J (List.mem_of_elem_eq_true J) (fun hgd=> ?_) ?_
     ·have hgd':=hgd
      try simp at hgd'
      exact fun _ _ _ gq kq=>mv' (gq.1.trans J) kq
     refine sg_ (φ:=fp [int (ix (ix s.sT (ix ord i).toNat).next a)]) J J J J (List.mem_of_elem_eq_true J) (fun hgd=> ?_) ?_
     ·have hgd':=hgd
      try simp at hgd'
      exact fun _ _ _ gq kq=>iF (gq.1.trans (cF hgd)) (gq.2.1.trans (cF hgd)) T.aU O gB kq
     refine sg_ (φ:=int (ix (ix s.sT (ix ord i).toNat).next a)) J J J J (List.mem_of_elem_eq_true J) (fun hgd=> ?_) ?_
     ·have hgd':=hgd
      try simp at hgd'
      exact fun _ _ _ gq kq=>lF (gq.1.trans (cF hgd)) J T.aH kq
     refine sg_ (φ:=fp [bl (ix (hOl s) (ix (ix s.sT (ix ord i).toNat).next a).toNat)]) J J J J (List.mem_of_elem_eq_true J) (fun hgd=> ?_) ?_
     ·have hgd':=hgd
      try simp at hgd'
      exact fun _ _ _ gq kq=>iF (gq.1.trans (cF hgd)) (gq.2.1.trans (cF hgd)) T.gJ O gB kq
     refine sg_ (φ:=bl (ix (hOl s) (ix (ix s.sT (ix ord i).toNat).next a).toNat)) J J J J (List.mem_of_elem_eq_true J) (fun hgd=> ?_) ?_
     ·have hgd':=hgd
      try simp at hgd'
      exact fun _ _ _ gq kq=>lF (gq.1.trans (cF hgd)) J T.eP kq
     refine sg_ (φ:=bl (!(ix (hOl s) (ix (ix s.sT (ix ord i).toNat).next a).toNat))) J J J J (List.mem_of_elem_eq_true J) (fun hgd=> ?_) ?_
     ·have hgd':=hgd
      try simp at hgd'
      exact fun _ _ _ gq kq=>no (gq.1.trans (cF hgd)) kq
     refine st_ J (fun _ _ _ gq kq=>pk (gq.1.trans J) (Fa (x:= .tmp 53) (gq.1.trans J) (gq.2.1.trans J) J) kq) ?_
     refine pn (sP (φ:=bl (fi&&(!(ix (hOl s) (ix (ix s.sT (ix ord i).toNat).next a).toNat)))) J J J T.eP J (nl (eb ?_)))
     have hN0:(fi&&(!(ix (hOl s) (ix (ix s.sT (ix ord i).toNat).next a).toNat)))=((aL 63 (ix (ix s.sT (ix ord i).toNat).aP k1)).take (m0+1)).all (fun a=> !ix (hOl s) (ix (ix s.sT (ix ord i).toNat).next a.toNat).toNat):=by
      rw[Lb hx0,hR0];simp
     exact rqN (fi&&(!(ix (hOl s) (ix (ix s.sT (ix ord i).toNat).next a).toNat))) hN0 ⟨rI,rI,rI,rI,rI,rI,rI,rI,rI,rI,tV⟩
    ·intro fi hG0
     have hR0:fi=((aL 63 (ix (ix s.sT (ix ord i).toNat).aP k1)).take (aL 63 (ix (ix s.sT (ix ord i).toNat).aP k1)).length).all (fun a=> !ix (hOl s) (ix (ix s.sT (ix ord i).toNat).next a.toNat).toNat):=hG0
     refine eb (th (sq (rg (lP rfl rfl rfl T.eP (nl (th ?_))))))
     refine cd J (fun hc3=> ?_) (fun hc3=> ?_)
     ·try simp at hc3
      refine sq (rg (mv (mv (bsE (enc:=nE) (xs:= [(ix (ix s.sT (ix ord i).toNat).aP k1)]) (css:= [[int (ix (ix s.sT (ix ord i).toNat).aP k1)]]) T.bS ⟨J,J,p1 (φ:=int (ix (ix s.sT (ix ord i).toNat).aP k1)) J,tV⟩ J J J J (ap (key:=8) (zs:= [(ix (ix s.sT (ix ord i).toNat).aP k1)]) bP J J J T.bS (by unfold aQ at*;simp;omega) (by unfold aQ at*;simp;omega) fun v68=>(ag (nl (th (rg (mv (mv (bi J J (tA O O O O) (ag (nl (eb (th (rg (bi J J (aG i6) (mv (nl ?_))))))))))))))))))))
      have hN0:(k1+1)≤(ix s.sT (ix ord i).toNat).aP.length:=by
       first|omega|simp_all
      have hN1:(sets++ [(ix (ix s.sT (ix ord i).toNat).aP k1)])=((ix s.sT (ix ord i).toNat).aP.take (k1+1)).filter (fun t=> !dF (ix s.sT (ix ord i).toNat) t (hOl s))∧((cn.toNat|||(ix (ix s.sT (ix ord i).toNat).aP k1).toNat:Nat):Int)=aV (sets++ [(ix (ix s.sT (ix ord i).toNat).aP k1)])∧0≤((cn.toNat|||(ix (ix s.sT (ix ord i).toNat).aP k1).toNat:Nat):Int)∧((cn.toNat|||(ix (ix s.sT (ix ord i).toNat).aP k1).toNat:Nat):Int)<256∧(sets++ [(ix (ix s.sT (ix ord i).toNat).aP k1)]).length≤(k1+1):=by
       have hfi:dF (ix s.sT (ix ord i).toNat) (ix (ix s.sT (ix ord i).toNat).aP k1) (hOl s)=false:=by
                have h1:fi=Jz (ix s.sT (ix ord i).toNat) (ix (ix s.sT (ix ord i).toNat).aP k1) (hOl s):=by rw[hR0,List.take_length];rfl
                rw[HM hox hn8 (iK O),hc3] at h1;simpa using h1.symm
       refine⟨?_,?_,O,jY hI1.2.2.2.1 hac.2,by simp;omega⟩
       ·rw[kA O,hI1.1];simp[hfi]
       ·rw[gV,←hI1.2.1]
      exact ln (⟨k1+1,v68,sets++ [(ix (ix s.sT (ix ord i).toNat).aP k1)],((cn.toNat|||(ix (ix s.sT (ix ord i).toNat).aP k1).toNat:Nat):Int)⟩:Nat × Value × (List Int) × Int) ⟨hN0,hN1⟩ dO ⟨id,id,id,id,id,id,id,id,id,id,id,id,tV⟩ ⟨rI,rI,rI,rI,rI,rI,rI,rI,tV⟩
     ·try simp at hc3
      refine sk (eb (th (rg (bi J J (aG i6) (mv (nl ?_))))))
      have hN0:(k1+1)≤(ix s.sT (ix ord i).toNat).aP.length:=by
       first|omega|simp_all
      have hN1:sets=((ix s.sT (ix ord i).toNat).aP.take (k1+1)).filter (fun t=> !dF (ix s.sT (ix ord i).toNat) t (hOl s))∧cn=aV sets∧0≤cn∧cn<256∧sets.length≤(k1+1):=by
       have hfi:dF (ix s.sT (ix ord i).toNat) (ix (ix s.sT (ix ord i).toNat).aP k1) (hOl s)=true:=by
                have h1:fi=Jz (ix s.sT (ix ord i).toNat) (ix (ix s.sT (ix ord i).toNat).aP k1) (hOl s):=by rw[hR0,List.take_length];rfl
                rw[HM hox hn8 (iK O),hc3] at h1;simpa using h1.symm
       refine⟨?_,hI1.2.1,hI1.2.2.1,hI1.2.2.2.1,O⟩
       rw[kA O,hI1.1];simp[hfi]
      exact ln (⟨k1+1,u8,sets,cn⟩:Nat × Value × (List Int) × Int) ⟨hN0,hN1⟩ dO ⟨id,id,id,id,id,id,id,id,id,id,id,id,tV⟩ ⟨rI,rI,rI,rI,rI,rI,rI,rI,tV⟩
   ·try simp at hc2
    have hnh:=vW hs h00 i (ix ord i) (by rw[←hI0.1];exact iK hc1)
    have hsets:sets=keep s (ix ord i).toNat:=by rw[kM hnh,hI1.1,show k1=(ix s.sT (ix ord i).toNat).aP.length by omega,List.take_length]
    have hcn:cn=aV (keep s (ix ord i).toNat):=by rw[hI1.2.1,hsets]
    refine ex (xt_ (xt_ (xb (th (sq (sq (rg (mv (aZ (φs:= [int cn]) (φ:=clo 137 [fp [int cn]]) ⟨J,tV⟩ (prog3.rB cn) T.yN (nl (th (bk ?_))))))))))))
    have hR1:ord=visit ord (((aL 63 cn).take 0).map fun a=>ix (ix s.sT (ix ord i).toNat).next a.toNat)∧met=marks s.sT.length ord∧okQ s.sT.length ord:=by
     exact⟨by simp[visit],hI0.2.1,hoq⟩
    refine rf (κ:=(List Bool) × Value × (List Int)) 901 (fun p=> [(0,hh),(3,cell b3 [sl 1 blE (hOl s)]),(4,cell b4 [osl 24 v24]),(5,cell b5 [osl 27 p.2.1]),(7,cell (gbk (β0 8)) [sl 1 nE (ix s.sT (ix ord i).toNat).aP,sl 1 nE (ix s.sT (ix ord i).toNat).next]),(8,own u8 3 1 nE sets),(24,own v24 4 1 blE p.1),(27,own p.2.1 3 1 nE p.2.2)]) (fun iR p=>p.2.2=visit ord (((aL 63 cn).take iR).map fun a=>ix (ix s.sT (ix ord i).toNat).next a.toNat)∧p.1=marks s.sT.length p.2.2∧okQ s.sT.length p.2.2) (fun c p=>False) J (Cr cn O O) T.uU J (fun _=>J) (fun _=>J) ⟨met,u5,ord⟩ hR1 ⟨rI,rI,rI,rI,rI,rI,rI,rI,tV⟩ ?_ ?_ (fun k h=>h.elim) (fun id k h=>h.elim) (fun c k h=>h.elim)
    ·intro m1 ⟨met2,u52,ord2⟩ x1 hG1 hx1 l R w1 M1 F1 hRd
     have hR1:ord2=visit ord (((aL 63 cn).take m1).map fun a=>ix (ix s.sT (ix ord i).toNat).next a.toNat)∧met2=marks s.sT.length ord2∧okQ s.sT.length ord2:=hG1
     show Ct _ _ _ _ _ ((901,obj l (.loop R)):: [(0,hh),(3,cell b3 [sl 1 blE (hOl s)]),(4,cell b4 [osl 24 v24]),(5,cell b5 [osl 27 u52]),(7,cell (gbk (β0 8)) [sl 1 nE (ix s.sT (ix ord i).toNat).aP,sl 1 nE (ix s.sT (ix ord i).toNat).next]),(8,own u8 3 1 nE sets),(24,own v24 4 1 blE met2),(27,own u52 3 1 nE ord2)]) _
     obtain⟨a,rfl,ha63,hha⟩:=oI hx1
     have hgo:=kJ hs hxn (by rw[←hcn];exact hha)
     have CM:=hR1.2.2.le
     have hml2:met2.length=s.sT.length:=by rw[hR1.2.1];exact lD _ _
     refine rg (ag (nl (aq hRd J (bk (sq (rg (fP J T.bR (lP J J J T.aY (mv (iF J J T.aU O gB (lF J J T.aH (ag (nl (th (sq (rg (lP J J J T.jF (mv (iO J J J T.gJ O O (lO J J gB J T.eP (no J (nl (th ?_)))))))))))))))))))))))
     refine cd J (fun hc4=> ?_) (fun hc4=> ?_)
     ·try simp at hc4
      refine sq (rg (lP J J J T.jF (mv (iO J J J T.gJ O O (sO (φ:=bl true) J J J T.eP gB J (y':=true) J (nl (th (rg (lP J J J T.aY (mv (bsE (enc:=nE) (xs:= [(ix (ix s.sT (ix ord i).toNat).next a)]) (css:= [[int (ix (ix s.sT (ix ord i).toNat).next a)]]) T.bS ⟨J,J,p1 (φ:=int (ix (ix s.sT (ix ord i).toNat).next a)) J,tV⟩ J J J J (ap (key:=27) (zs:= [(ix (ix s.sT (ix ord i).toNat).next a)]) bP J J J T.bS (by unfold aQ at*;simp;omega) (by unfold aQ at*;simp;omega) fun v92=>(bY J J J J T.aY J (nl (eb ?_)))))))))))))))
      have hN0:(ord2++ [(ix (ix s.sT (ix ord i).toNat).next a)])=visit ord (((aL 63 cn).take (m1+1)).map fun a=>ix (ix s.sT (ix ord i).toNat).next a.toNat)∧(met2.set (ix (ix s.sT (ix ord i).toNat).next a).toNat true)=marks s.sT.length (ord2++ [(ix (ix s.sT (ix ord i).toNat).next a)])∧okQ s.sT.length (ord2++ [(ix (ix s.sT (ix ord i).toNat).next a)]):=by
       have hcc:ord2.contains (ix (ix s.sT (ix ord i).toNat).next a)=false:=by
                rw[hR1.2.1,rU O,Int.toNat_of_nonneg hgo.2.1] at hc4;exact hc4
       refine⟨?_,?_,zU hR1.2.2 hgo.2.1 hgo.2.2.1 hcc⟩
       ·rw[take_at hx1,List.map_append,List.map_cons,List.map_nil,qZ,←hR1.1,Int.toNat_natCast,if_pos (by simp only [hcc];simpa using hgo.2.1)]
       ·rw[hR1.2.1,nM hgo.2.1]
      exact rqN ⟨met2.set (ix (ix s.sT (ix ord i).toNat).next a).toNat true,v92,ord2++ [(ix (ix s.sT (ix ord i).toNat).next a)]⟩ hN0 ⟨rI,rI,rI,rI,rI,rI,rI,rI,rI,tV⟩
     ·try simp at hc4
      refine sk (eb ?_)
      have hN0:ord2=visit ord (((aL 63 cn).take (m1+1)).map fun a=>ix (ix s.sT (ix ord i).toNat).next a.toNat)∧met2=marks s.sT.length ord2∧okQ s.sT.length ord2:=by
       have hcc:ord2.contains (ix (ix s.sT (ix ord i).toNat).next a)=true:=by
                rw[hR1.2.1,rU O,Int.toNat_of_nonneg hgo.2.1] at hc4;exact hc4
       refine⟨?_,hR1.2.1,hR1.2.2⟩
       rw[take_at hx1,List.map_append,List.map_cons,List.map_nil,qZ,←hR1.1,Int.toNat_natCast,if_neg (by simp only [hcc];simp)]
      exact rqN ⟨met2,u52,ord2⟩ hN0 ⟨rI,rI,rI,rI,rI,rI,rI,rI,rI,tV⟩
    ·intro⟨met2,u52,ord2⟩ hG1
     have hR1:ord2=visit ord (((aL 63 cn).take (aL 63 cn).length).map fun a=>ix (ix s.sT (ix ord i).toNat).next a.toNat)∧met2=marks s.sT.length ord2∧okQ s.sT.length ord2:=hG1
     show At _ _ _ _ [(0,hh),(3,cell b3 [sl 1 blE (hOl s)]),(4,cell b4 [osl 24 v24]),(5,cell b5 [osl 27 u52]),(7,cell (gbk (β0 8)) [sl 1 nE (ix s.sT (ix ord i).toNat).aP,sl 1 nE (ix s.sT (ix ord i).toNat).next]),(8,own u8 3 1 nE sets),(24,own v24 4 1 blE met2),(27,own u52 3 1 nE ord2)]
     refine eb (th (sq (rg ?_)))
     have hor:=hR1.1
     rw[List.take_length] at hor
     have ho2:ord2=bq (aA s) (i+1):=by rw[Cu hs (by rw[←hI0.1];exact hc1),←hI0.1,←hcn,hor]
     have hpx:ord<+:ord2:=by rw[hor];exact gY _ _
     have hix:ix ord2 i=ix ord i:=nO hpx hc1
     have hpl:=hpx.length_le
     have hla:=NR hs h00 (i:=i) O (by rw[←hI0.1];exact hc1)
     rw[←hI0.1] at hla
     have hol3:=hR1.2.2.le
     refine mv (lP rfl rfl rfl T.aY (mv (iO rfl rfl rfl T.aU O O (lO rfl rfl gB rfl T.aH (mv (fz 8 98 rfl rfl (Qw (Hi:= [(0,hh)]) rfl (by show FnV _ _ [int (ix ord2 i),ints sets] _ _ _;rw[hix,hsets];exact hlaw i hh (ix ord i,keep s (ix ord i).toNat) hI0.2.2.1 hla) ⟨rI,tV⟩ fun N bh=>oan 99 rfl fun hres=>(no rfl (nl (th ?_))))))))))
     refine cd J (fun hc5=> ?_) (fun hc5=> ?_)
     ·try simp at hc5
      refine rt (rb (rt_ (rt_ (rb ?_))))
      exact r0 bh.2 rfl (fun _=>xK (.inr (hres.2 hc5))) ⟨rI,tV⟩ (.inr rfl)
     ·try simp at hc5
      refine sk (eb (th (rg (mv (bi J J (aG i6) (ag (nl ?_)))))))
      have hN0:ord2=bq (aA s) (i+1)∧met2=marks s.sT.length ord2∧Y (i+1) bh.2∧(i+1)≤ord2.length:=by
       refine⟨ho2,hR1.2.1,hres.1 (by simpa using hc5),?_⟩
       omega
      exact ln (⟨i+1,met2,u52,ord2,bh.2⟩:Nat × (List Bool) × Value × (List Int) × HA) hN0 dO ⟨id,id,id,id,id,id,tV⟩ ⟨rI,rI,rI,rI,rI,rI,tV⟩
  ·try simp at hc1
   refine ex (xt_ (xt_ (xb ?_)))
   exact r0 hh rfl (fun _=>xK (.inl (by have he:=Bp hs (i:=i) (by rw[←hI0.1];exact hc1) O;rw[tJ h00,←he,←hI0.1,show ord.length=i by omega];exact hI0.2.2.1))) ⟨rI,tV⟩ (.inl rfl)
end prog7
end
section
open ref01 ref03 ref04 ref06 prog prog2 prog3 prog4 prog6 prog7 Part Rungs LeftM
theorem NS {n cp:Nat} (h:cp≤n):(List.replicate cp (-1:Int)++List.replicate (n- cp) 0).take cp++(List.replicate cp (-1:Int)++List.replicate (n- cp) 0).take (min cp (n- cp))++(List.replicate cp (-1:Int)++List.replicate (n- cp) 0).drop (cp+min cp (n- cp))=List.replicate (cp+min cp (n- cp)) (-1)++List.replicate (n- (cp+min cp (n- cp))) 0:=by
 have h1:(List.replicate cp (-1:Int)++List.replicate (n- cp) 0).take cp=List.replicate cp (-1):=by
  rw[List.take_append_of_le_length (by simp)];simp
 have h2:(List.replicate cp (-1:Int)++List.replicate (n- cp) 0).take (min cp (n- cp))=List.replicate (min cp (n- cp)) (-1):=by
  rw[List.take_append_of_le_length (by simp;omega)];simp[List.take_replicate]
 have h3:(List.replicate cp (-1:Int)++List.replicate (n- cp) 0).drop (cp+min cp (n- cp))=List.replicate (n- (cp+min cp (n- cp))) 0:=by
  rw[List.drop_append];simp;omega
 rw[h1,h2,h3,List.replicate_append_replicate]
theorem Lg (n:Nat):(List.replicate n (0:Int)).take 0++([-1]:List Int).take (min 1 n)++(List.replicate n (0:Int)).drop (0+min 1 n)=List.replicate (min 1 n) (-1)++List.replicate (n- min 1 n) 0:=by
 cases n with
 |zero=>rfl
 |succ n=>simp[show min 1 (n+1)=1 by omega,List.replicate_succ]
namespace T
theorem UD:Ent Tryz.prog 162:=aN kR
theorem kd3:Tryz.prog.underlying 3=some (.int .i64):=by kernel_rfl
theorem Br:Tryz.prog.underlying 183=some (.int .u64):=by kernel_rfl
theorem UE:Ent Tryz.prog 134:=aN kR
theorem tK:Ent Tryz.prog 92:=aN kR
theorem JC:Ent Tryz.prog 94:=aN kR
end T
namespace prog8
theorem NT (n:Int) (h0:0≤n) (h1:n<4294967296):
 Fn0 Tryz.prog 162 [u64 1,u64 n] (tup [u64 0,u64 n]):=by
 refine fnI Tryz.func162 rfl rfl (fun w0 F0=> ?_)
 refine sq (rg (ag (ag (nl (th (sq (rg (mv (bi J J (zR O O) (ag (nl (th (sq (rg (mv (bi J J (rT O O) (ag (nl (th (sq (rg (mv (bi J J (zR O O) (ag (nl (th (sq (rg (mv (bi J J (rT O O) (ag (nl (th (sq (rg (mv (mv (bi J J (wV (by unfold U64;omega)) (ag (nl (th (sq (rg (mv (mv (bi J J (wV (by unfold U64;omega)) (mv (bi J J (rT O O) (bi J J (AW (by unfold U64;omega)) (ag (nl (th (sq (rg (mv (bi J J (zR O O) (ag (nl (th (sq (rg (mv (bi J J (rT O O) (ag (nl (th (sq (rg (mv (mv (mv (bi J J (wV (by unfold U64;omega)) (bi J J (AW (by unfold U64;omega)) (ag (nl (th (sq (rg (mv (mv (bi J J (wV (by unfold U64;omega)) (mv (bi J J (AW (by unfold U64;omega)) (mv (bi J J (rT O O) (bi J J (AW (by unfold U64;omega)) (ag (nl (th (sq (rg (mv (mv (bi J J (wV (by unfold U64;omega)) (ag (nl (th (rt ?_))))))))))))))))))))))))))))))))))))))))))))))))))))))))))))))))))))))))))))))))))))))))))))))))))
 have hr0:((((0*0)+0)+0):Int)=0:=by
  omega
 have hr1:((1*n):Int)=n:=by
  omega
 exact rE () [.tmp 4,.tmp 5] J [u64 (((0*0)+0)+0),u64 (1*n)] ⟨.tmp J,.tmp J,tV⟩ (cA2 (fun x0 x1=>rV [u64 x0,u64 x1]) hr0 hr1) trivial eX
theorem UF (n:Int) (h0:0≤n) (h1:n<4294967296):
 Fn0 Tryz.prog 134 [u64 1,u64 n] (tup [u64 0,u64 n]):=by
 refine fnI Tryz.func134 rfl rfl (fun w0 F0=> ?_)
 refine sq (rg (ag (ag (nl (th (sq ?_))))))
 refine cd J (fun hc0=> ?_) (fun hc0=> ?_)
 ·try simp at hc0
  skip
 ·try simp at hc0
  refine sk (th (sq (rg (mv (mv (aZ (φs:= [u64 1,u64 n]) (φ:=tup [u64 0,u64 n]) ⟨J,J,tV⟩ (prog8.NT n O O) T.UD (mv (xt J J (xt J J (ag (ag (nl (th (sq (rg (mv (mv (ag (ag (nl (th (rt ?_))))))))))))))))))))))
  exact rE () [.tmp 4,.tmp 5] J [u64 0,u64 n] ⟨.tmp J,.tmp J,tV⟩ J trivial eX
theorem xL (n:Nat) (hn:n≤1000000):
 AL.Fn Tryz.prog 94 [ints [-1],int (n:Int)] [] (fun _ v=>osl 30 v) (fun v=> [(30,own v 3 1 nE (List.replicate n (-1)))]):=by
 refine fnI Tryz.func94 rfl rfl (fun w0 F0=> ?_)
 refine fcC (aT 0 J) (fun hm0=> ?_)
 refine sq (rg (ag (nl (th (sq (sq (rg (mv (bi J J aO (nl (th ?_)))))))))))
 refine cd J (fun hc0=> ?_) (fun hc0=> ?_)
 ·try simp at hc0
  exfalso;omega
 ·try simp at hc0
  refine sk (th (sq (rg (mv (lnF J T.aU (cv J T.kd3 T.Br (mY ⟨by simp,by simp⟩) (mv (cv J T.kd3 T.Br (mY ⟨O,O⟩) (aZ (φs:= [u64 ([-1].length:Int),u64 (n:Int)]) (φ:=tup [u64 0,u64 (n:Int)]) ⟨J,J,tV⟩ (prog8.UF (n:Int) O O) T.UE (mv (xt J J (xt J J (ag (ag (nl (th (sq (sq (rg (mv (bi J J fJ (mv ?_))))))))))))))))))))))
  apply gOr (t:=23) (pd:=26) rfl
  rotate_left
  ·intro hg0 fin
   have hg0':=hg0
   try simp at hg0'
   exact gy J J J hg0 (mv (gy J J J hg0 (bi J J fJ (pkF J hg0 J (drp (X:= [(25,_),(24,_)]) ⟨J,J,tV⟩ fin)))))
  ·intro hg0 fin
   exact gn J J J hg0 J J (gn J J J hg0 J J (pkT J hg0 J (drp (X:= [(25,_),(24,_)]) ⟨J,J,tV⟩ fin)))
  refine nl (th ?_)
  refine cd J (fun hc1=> ?_) (fun hc1=> ?_)
  ·try simp at hc1
   exfalso;omega
  ·try simp at hc1
   refine sk (th (sq (rg (mv (cv J T.Br T.kd3 (oQ ⟨O,O⟩) (mkB (key:=30) (m:=n) (enc:=nE) (y:=(0:Int)) J J T.bS (eC eZ) mL mL fun b30=>(ag (nl (th (sq (rg (mv (mv (cpF (key:=30) (i:=0) (l:=n) (c:=n) (b:=b30) (n:=min 1 n) (ys:=([-1]:List Int)) (xs:=List.replicate n (0:Int)) eO J J T.bS (fun y=>inferInstance) J (by rw[List.length_replicate];omega) (ag (nl (th (sq (bk ?_)))))))))))))))))))
   have hI0_0:((List.replicate n (0:Int)).take 0++([-1]:List Int).take (min 1 n)++(List.replicate n (0:Int)).drop (0+min 1 n))=List.replicate (min 1 n) (-1)++List.replicate (n- (min 1 n)) 0∧(min 1 n)≤n∧(n=0∨1≤(min 1 n)):=by
    exact⟨Lg n,O,O⟩
   refine lp (κ:=Nat × (List Int)) (fun p=> [(4,eqv (.slice none 0 0)),(7,osl 30 (.slice (some ⟨b30,0,none⟩) n n)),(8,int (p.1:Int))]) (fun p=> [(30,own (.slice (some ⟨b30,0,none⟩) n n) 3 1 nE p.2)]) (fun p=>p.2=List.replicate p.1 (-1)++List.replicate (n- p.1) 0∧p.1≤n∧(n=0∨1≤p.1)) (fun p=>n- p.1) ⟨min 1 n,(List.replicate n (0:Int)).take 0++([-1]:List Int).take (min 1 n)++(List.replicate n (0:Int)).drop (0+min 1 n)⟩ hI0_0 ⟨id,id,id,tV⟩ ⟨rI,tV⟩ ?_
   intro⟨cp,xs⟩ hG0
   have hI0:xs=List.replicate cp (-1)++List.replicate (n- cp) 0∧cp≤n∧(n=0∨1≤cp):=hG0
   show Ct _ _ _ _ [(4,eqv (.slice none 0 0)),(7,osl 30 (.slice (some ⟨b30,0,none⟩) n n)),(8,int (cp:Int))] [(30,own (.slice (some ⟨b30,0,none⟩) n n) 3 1 nE xs)] _
   have hxl:xs.length=n:=by rw[hI0.1];simp;omega
   refine sq (sq (rg (mv (mv (lnO J J T.aU (bi J J aO (nl (th ?_))))))))
   refine cd J (fun hc2=> ?_) (fun hc2=> ?_)
   ·try simp at hc2
    refine sk (th (bk ?_))
    refine drH (nh:=10) [0,0,0,6,0,0,48,126,255,511] [(none,[]),(none,[]),(none,[]),(none,[]),(none,[]),(none,[]),(none,[]),(some 30,[30]),(none,[]),(none,[])] T.mixed kR kR ?_
    refine stv (d:=38) (fun β0=>int (cp:Int)) [] J bH (fun β0 _ _ _ _ gq gh kq=>mv' (gq.1.trans J) kq) ?_
    refine stv (d:=39) (fun β0=>osl 30 (.slice (some ⟨b30,0,none⟩) n n)) [] J bH (fun β0 _ _ _ _ gq gh kq=>mv' (gq.1.trans J) kq) ?_
    refine stv (d:=40) (fun β0=>int (cp:Int)) [] J bH (fun β0 _ _ _ _ gq gh kq=>mv' (gq.1.trans J) kq) ?_
    refine stv (d:=41) (fun β0=>eqv (.slice (some ⟨b30,cp,none⟩) (n- cp) (n- cp))) [] J bH (fun β0 _ _ _ _ gq gh kq=>Kz (l:=cp) (m:=n) ((gq.1.trans J).trans J) T.aU (gq.2.1.trans J) J O O O O kq) ?_
    refine stv (d:=42) (fun β0=>osl 30 (.slice (some ⟨b30,0,none⟩) n n)) [] J bH (fun β0 _ _ _ _ gq gh kq=>mv' (gq.1.trans J) kq) ?_
    refine stv (d:=43) (fun β0=>int (cp:Int)) [] J bH (fun β0 _ _ _ _ gq gh kq=>mv' (gq.1.trans J) kq) ?_
    refine stv (d:=44) (fun β0=>eqv (.slice (some ⟨b30,0,none⟩) (cp- 0) (n- 0))) [] J bH (fun β0 _ _ _ _ gq gh kq=>Kz (l:=0) (m:=cp) ((gq.1.trans J).trans J) T.aU J (gq.2.1.trans J) O O O O kq) ?_
    refine stb (d:=45) 30 (fun β0=>int ((min cp (n- cp):Nat):Int)) (fun β0=>own (.slice (some ⟨b30,0,none⟩) n n) 3 1 nE (xs.take cp++xs.take (min cp (n- cp))++xs.drop (cp+min cp (n- cp)))) [30] rfl (fun β β' hb=>rfl) (fun β β' hb=>rfl) (fun β0 _ _ _ _ gq gh kq=>cpO (key:=30) (i:=cp) (l:=n- cp) (c:=n- cp) (l2:=cp) (c2:=n) (b:=b30) (n:=min cp (n- cp)) (gq.1.trans rfl) (gh.1.trans rfl) (gq.2.1.trans rfl) T.bS (fun y=>inferInstance) rfl (by rw[hI0.1];simp) (by rw[hI0.1];simp;omega) kq) ?_
    refine stv (d:=46) (fun β0=>int ((cp+(min cp (n- cp)):Nat):Int)) [] J bH (fun β0 _ _ _ _ gq gh kq=>bi (gq.1.trans J) (gq.2.1.trans J) (aG i6) kq) ?_
    refine stv (d:=8) (fun β0=>int ((cp+(min cp (n- cp)):Nat):Int)) [] J bH (fun β0 _ _ _ _ gq gh kq=>ag' (gq.1.trans J) kq) ?_
    refine pnH fun β0=>(nl (eb ?_))
    have hN0:(xs.take cp++xs.take (min cp (n- cp))++xs.drop (cp+min cp (n- cp)))=List.replicate (cp+(min cp (n- cp))) (-1)++List.replicate (n- (cp+(min cp (n- cp)))) 0∧(cp+(min cp (n- cp)))≤n∧(n=0∨1≤(cp+(min cp (n- cp)))):=by
     refine⟨?_,O,O⟩
     rw[hI0.1];exact NS hI0.2.1
    exact ln (⟨cp+(min cp (n- cp)),xs.take cp++xs.take (min cp (n- cp))++xs.drop (cp+min cp (n- cp))⟩:Nat × (List Int)) hN0 dO ⟨id,id,id,tV⟩ ⟨rI,tV⟩
   ·try simp at hc2
    refine ex (xt_ (xt_ (xb (th (sq (rg (mv (ag (nl (th (rt ?_)))))))))))
    have hcp:cp=n:=by omega
    have hxs:xs=List.replicate n (-1):=by rw[hI0.1,hcp];simp
    subst hxs
    exact rE (.slice (some ⟨b30,0,none⟩) n n) [.tmp 4] J [osl 30 (.slice (some ⟨b30,0,none⟩) n n)] ⟨.tmp J,tV⟩ J ⟨rI,tV⟩ eX
theorem vS (l:List ByteArray) (hl:l.length≤1000):
 AL.Fn Tryz.prog 120 [strs l] [] (ι:=Unit) (fun N _=>Qz N (nothing l)) (fun _=> []):=by
 refine fnI Tryz.func120 rfl rfl (fun w0 F0=> ?_)
 refine fcC (aT 0 J) (fun hm0=> ?_)
 refine sq (rg (al (key:=2) T.z28 (eC (eC eZ)) fun b2=>(nl (th (sq (rg (mv (lB (φs:= [sl 1 rE_ l]) (φ:=fre w0.heap.size (sl 1 rE_ l)) ⟨J,tV⟩ (prog.gG _ O) T.tK (fun N hN=>fun h=>jS hN h) (bsE (enc:=nE) (xs:= [(-1)]) (css:= [[int (-1)]]) T.bS ⟨J,J,p1 (φ:=int (-1)) J,tV⟩ J J J J (mv (lnF J T.dW (cl (prog8.xL l.length O) T.JC trivial fun N8 v8=>(fzN nE 30 8 noM flat J J (bd (css:= [(1,_)]) T.vR (eC (eC eZ)) ⟨J,J,p1 (φ:=fre w0.heap.size (sl 1 nE (List.replicate l.length (-1)))) J,tV⟩ (kn 9 (agg [fre w0.heap.size (sl 1 nE []),fre w0.heap.size (sl 1 nE (List.replicate l.length (-1)))]) J (jR (cs:= [eqv (.slice none 0 0),fre w0.heap.size (sl 1 nE (List.replicate l.length (-1)))]) (ds:= [fre w0.heap.size (sl 1 nE []),fre w0.heap.size (sl 1 nE (List.replicate l.length (-1)))]) ⟨fun h=>mK h,fun h=>h,tV⟩) (bsO 10 (enc:=uS w0.heap.size) (xs:= [(⟨[],List.replicate l.length (-1)⟩)]) (css:= [[fre w0.heap.size (sl 1 nE []),fre w0.heap.size (sl 1 nE (List.replicate l.length (-1)))]]) T.kS ⟨J,J,pA (cs:= [fre w0.heap.size (sl 1 nE []),fre w0.heap.size (sl 1 nE (List.replicate l.length (-1)))]) J,tV⟩ J J J J fun v10=>(fzN sE 10 10 noM (fun _=>J) J J (bd (css:= [(0,_),(1,_)]) T.nA (eC (eC eZ)) ⟨J,J,p1 (φ:=fre w0.heap.size (sl 1 rE_ l)) J,⟨J,J,p1 (φ:=fre w0.heap.size (sl 2 sE [(⟨[],List.replicate l.length (-1)⟩)])) J,tV⟩⟩ (sPA (cs':= [fre w0.heap.size (sl 1 rE_ l),fre w0.heap.size (sl 2 sE [(⟨[],List.replicate l.length (-1)⟩)])]) J J J T.aW J J (nl (th (rt ?_))))))))))))))))))))))
 have hr0:l=(nothing l).aC:=by
  first|rfl|simp_all|omega
 have hr1: [(⟨[],List.replicate l.length (-1)⟩)]=(nothing l).sT:=by
  first|rfl|simp_all|omega
 exact rE () [.cell 2 28] J [agg [fre w0.heap.size (sl 1 rE_ l),fre w0.heap.size (sl 2 sE [(⟨[],List.replicate l.length (-1)⟩)])]] ⟨.agg J J T.aW J J,tV⟩ (cA2 (fun x0 x1=>rV [agg [fre w0.heap.size (sl 1 rE_ x0),fre w0.heap.size (sl 2 sE x1)]]) hr0 hr1) trivial eX
end prog8
end
section
open ref01 ref03 ref04 ref06 Rungs LeftM
namespace TrimM
theorem uD:∀(ks l:List Int),l.Nodup→(visit l ks).Nodup
 | [],l,h=>h
 |k::ks,l,h=>by
  rw[jM,List.foldl_cons]
  refine uD ks _ ?_
  unfold kK
  split
  ·next hc=>
   simp only [Bool.and_eq_true,Bool.not_eq_true',decide_eq_true_eq] at hc
   exact Bl h (fun hm=>by rw[List.contains_iff_mem.2 hm] at hc;cases hc.2)
  ·exact h
theorem zZ (s:SS):∀i,(bq s i).Nodup
 |0=>by simp[bq]
 |i+1=>by
  show List.Nodup (if _ then _ else _)
  split
  ·exact uD _ _ (zZ s i)
  ·exact zZ s i
theorem pS (s:SS):(order s).Nodup:=zZ s _
theorem fresh {l:List Int} (h:l.Nodup) {m:Nat} (hm:m<l.length):ix l m∉l.take m:=fun hx=>by
 have h1:(l.take (m+1)).Nodup:=h.sublist (List.take_sublist _ _)
 rw[bJ hm,List.nodup_append] at h1
 exact h1.2.2 _ hx (ix l m) (by simp) rfl
def dR (l:List Int) (y:Int):Int:=match l.findIdx? (fun z=>decide (z=y)) with|some j=>(j:Int)|none=>0
def atL (n:Nat) (l:List Int):List Int:=(List.range n).map fun(y:Nat)=>dR l (y:Int)
theorem Fv (n:Nat):List.replicate n 0=atL n []:=by
 unfold atL
 apply List.ext_getElem?
 intro j
 rw[List.getElem?_replicate,List.getElem?_map]
 split
 ·next h=>rw[List.getElem?_range h];rfl
 ·next h=>rw[List.getElem?_eq_none (by simpa using h)];rfl
theorem uV {l:List Int} {x:Int} (h:x∉l):dR (l++ [x]) x=(l.length:Int):=by
 unfold dR
 rw[List.findIdx?_append]
 have:l.findIdx? (fun z=>decide (z=x))=none:=by
  rw[List.findIdx?_eq_none_iff]
  intro z hz
  simp only [decide_eq_false_iff_not]
  exact fun e=>h (by rw[←e];exact hz)
 rw[this];simp
theorem tL {l:List Int} {x y:Int} (h:y≠x):dR (l++ [x]) y=dR l y:=by
 unfold dR
 rw[List.findIdx?_append]
 cases hf:l.findIdx? (fun z=>decide (z=y)) with
 |some j=>rfl
 |none=>
  have:([x]:List Int).findIdx? (fun z=>decide (z=y))=none:=by simp[Ne.symm h]
  rw[this];rfl
theorem Fw {n:Nat} {l:List Int} {x:Int} (h:x∉l) (h0:0≤x) (h1:x<(n:Int)):(atL n l).set x.toNat (l.length:Int)=atL n (l++ [x]):=
 lV O (by rw[Int.toNat_of_nonneg h0,uV h]) (fun y _ hne=>tL O)
theorem Lh {n:Nat} {l:List Int} {y:Nat} (h:y<n):ix (atL n l) y=dR l (y:Int):=cB h
theorem Cv (n:Nat) (l:List Int):(atL n l).length=n:=by simp[atL]
theorem fZ (l:List Int) (y:Int):0≤dR l y∧(dR l y<(l.length:Int)∨dR l y=0):=by
 unfold dR
 cases hf:l.findIdx? (fun z=>decide (z=y)) with
 |some j=>
  have:=(List.findIdx?_eq_some_iff_getElem.1 hf).1
  dsimp only;omega
 |none=>dsimp only;omega
theorem kN {l:List Int} {y:Int} (h:y∈l):dR l y<(l.length:Int)∧ix l (dR l y).toNat=y:=by
 unfold dR
 cases hf:l.findIdx? (fun z=>decide (z=y)) with
 |some j=>
  obtain⟨h1,h2,_⟩:=List.findIdx?_eq_some_iff_getElem.1 hf
  refine⟨by dsimp only;omega,?_⟩
  dsimp only
  rw[Int.toNat_natCast,aF h1]
  simpa using h2
 |none=>
  rw[List.findIdx?_eq_none_iff] at hf
  have:=hf y h
  simp at this
theorem HO {l:List Int} (hn:l.Nodup) {i:Nat} (hi:i<l.length):dR l (ix l i)=(i:Int):=by
 obtain⟨h1,h2⟩:=kN (iK hi)
 have h0:=(fZ l (ix l i)).1
 have hj:(dR l (ix l i)).toNat<l.length:=by omega
 have h3:l[(dR l (ix l i)).toNat]=l[i]:=by rw[←aF hj,h2,aF hi]
 have:=(List.getElem_inj hn).1 h3
 omega
noncomputable abbrev aM (s:SS):List Int:=order (aA s)
noncomputable def iV (s:SS) (x:Int):List Int:=(List.range s.aC.length).map fun(a:Nat)=>if has (aV (keep s x.toNat)) (a:Int) then dR (aM s) (ix (ix s.sT x.toNat).next a) else-1
noncomputable def eY (s:SS) (x:Int):SA:=⟨keep s x.toNat,iV s x⟩
noncomputable def half (s:SS) (x:Int):SA:=⟨keep s x.toNat,[]⟩
noncomputable def aJ (s:SS) (i:Nat):List SA:=(List.range (aM s).length).map fun j=>if j<i then eY s (ix (aM s) j) else half s (ix (aM s) j)
noncomputable def tR (s:SS):SS × List Int:=if ix (hOl s) 0=true then(nothing s.aC,[]) else(⟨s.aC,(aM s).map (eY s)⟩,aM s)
theorem rZ {α β:Type} [Inhabited α] (l:List α) (f:α→β):l.map f=(List.range l.length).map fun j=>f (ix l j):=by
 apply List.ext_getElem?
 intro j
 rw[List.getElem?_map,List.getElem?_map]
 by_cases h:j<l.length
 ·rw[List.getElem?_range h,List.getElem?_eq_getElem h];simp[aF h]
 ·rw[List.getElem?_eq_none O,List.getElem?_eq_none (by simpa using h)];rfl
theorem Li (s:SS):aJ s 0=(aM s).map (half s):=by
 rw[rZ]
 unfold aJ
 simp
theorem NU (s:SS):aJ s (aM s).length=(aM s).map (eY s):=by
 rw[rZ]
 unfold aJ
 exact List.map_congr_left (fun j hj=>by rw[if_pos (List.mem_range.1 hj)])
theorem NV (s:SS) (i:Nat):(aJ s i).length=(aM s).length:=by simp[aJ]
theorem RE {s:SS} {i:Nat} (hi:i<(aM s).length):ix (aJ s i) i=half s (ix (aM s) i):=by
 unfold aJ
 rw[cB hi,if_neg O]
theorem Lj {s:SS} {i:Nat} (hi:i<(aM s).length):(aJ s i).set i (eY s (ix (aM s) i))=aJ s (i+1):=
 lV hi (by rw[if_pos O]) (fun j _ hne=>by
  by_cases h:j<i
  ·rw[if_pos h,if_pos O]
  ·rw[if_neg h,if_neg O])
noncomputable def nxL (s:SS) (x:Int) (m:Nat):List Int:=(List.range s.aC.length).map fun(a:Nat)=>if ((aL 63 (aV (keep s x.toNat))).take m).contains (a:Int) then dR (aM s) (ix (ix s.sT x.toNat).next a) else-1
theorem NW (s:SS) (x:Int):List.replicate s.aC.length (-1)=nxL s x 0:=by
 unfold nxL
 simp[List.map_const']
theorem NX {s:SS} {x:Int} {m a:Nat} (h:(aL 63 (aV (keep s x.toNat)))[m]?=some (a:Int)) (ha:a<s.aC.length):(nxL s x m).set a (dR (aM s) (ix (ix s.sT x.toNat).next a))=nxL s x (m+1):=by
 obtain⟨hm,he⟩:=List.getElem?_eq_some_iff.1 h
 have e:(aL 63 (aV (keep s x.toNat))).take (m+1)=(aL 63 (aV (keep s x.toNat))).take m++ [(a:Int)]:=by rw[List.take_succ_eq_append_getElem hm,he]
 refine lV ha ?_ (fun y _ hne=> ?_)
 ·rw[e,if_pos (by simp)]
 ·rw[e]
  have:(((aL 63 (aV (keep s x.toNat))).take m++ [(a:Int)]).contains (y:Int))=((aL 63 (aV (keep s x.toNat))).take m).contains (y:Int):=by
   rw[Bool.eq_iff_iff,List.contains_iff_mem,List.contains_iff_mem,List.mem_append]
   constructor
   ·rintro(h|h)
    ·exact h
    ·simp at h;omega
   ·exact .inl
  rw[this]
theorem RF {s:SS} (hs:oK s) (x:Int):nxL s x (aL 63 (aV (keep s x.toNat))).length=iV s x:=by
 unfold nxL iV
 rw[List.take_length]
 refine List.map_congr_left (fun a ha=> ?_)
 have ha:=List.mem_range.1 ha
 have hn:=hs.n8
 by_cases h:has (aV (keep s x.toNat)) (a:Int)=true
 ·rw[if_pos h,if_pos (List.contains_iff_mem.2 (eB.2 ⟨a,rfl,O,h⟩))]
 ·rw[if_neg h,if_neg (fun hc=>h (by
   obtain⟨b,hb,_,hh⟩:=eB.1 (List.contains_iff_mem.1 hc)
   have:b=a:=by omega
   subst this;exact hh))]
theorem Ll {s:SS} {m:Nat} {x:Int × List Int} (h:(pR s)[m]?=some x):ix (hOl s) 0=false∧m<(aM s).length∧x.1=ix (aM s) m∧x.2=keep s (ix (aM s) m).toNat:=by
 unfold pR at h
 by_cases h0:ix (hOl s) 0=true
 ·rw[if_pos h0] at h;simp at h
 ·rw[if_neg h0,List.getElem?_map] at h
  have h00:ix (hOl s) 0=false:=by simpa using h0
  by_cases hm:m<(aM s).length
  ·rw[List.getElem?_eq_getElem hm] at h
   simp at h
   subst h
   exact⟨h00,hm,(aF hm).symm,by rw[aF hm]⟩
  ·rw[List.getElem?_eq_none (show(aM s).length≤m by omega)] at h;simp at h
theorem nC (s:SS):1≤(aM s).length:=by
 have h:=tH (aA s) 0 (aA s).sT.length
 rw[Nat.zero_add] at h
 exact h.length_le
theorem dV {s:SS} (h:ix (hOl s) 0=false):tR s=(⟨s.aC,(aM s).map (eY s)⟩,aM s):=by
 unfold tR;rw[if_neg (by simp[h])]
theorem eR {s:SS} (h:ix (hOl s) 0=true):tR s=(nothing s.aC,[]):=by
 unfold tR;rw[if_pos h]
end TrimM
end
section
open ref01 ref03 ref04 ref06 prog prog2 prog3 prog4 prog6 prog7 prog8 Part Rungs LeftM TrimM
namespace T
theorem UG:Ent Tryz.prog 119:=aN kR
theorem UH:Ent Tryz.prog 149:=aN kR
theorem UI:Ent Tryz.prog 120:=aN kR
theorem z3:eW Tryz.prog 3 [.int .i64 0]:=cY kR
end T
namespace prog9
theorem Bs (s:SS) (hs:oK s):
 AL.Fn Tryz.prog 73 [spec s] [] (ι:=Unit) (fun N _=>tup [agg [fre N (strs (tR s).1.aC),frb (ix (hOl s) 0) N (sl 2 sE (tR s).1.sT)],ints (tR s).2]) (fun _=> []):=by
 refine fnI Tryz.func73 rfl rfl (fun w0 F0=> ?_)
 have hf0:=hs.few0;have hf1:=hs.few1;have hn8:=hs.n8;have hoq:okQ s.sT.length (aM s):=tG hs;have hol:(aM s).length≤s.sT.length:=hoq.le;have hnd:(aM s).Nodup:=pS _;have hop:=nC s
 refine fcC (bV 0 J) (fun hS0=> ?_)
 obtain⟨hsa0,hss0,hse0⟩:=sLn hS0
 refine sq (rg (bx (key:=1) (cs:= [sl 1 rE_ s.aC,sl 2 sE s.sT]) J fun b1=>(al (key:=2) T.z28 (eC (eC eZ)) fun b2=>(ag (nl (th (sq (rg (fP J T.cP (lP J J J T.cK (lB (φs:= [sl 1 rE_ s.aC]) (φ:=fre w0.heap.size (sl 1 rE_ s.aC)) ⟨J,tV⟩ (prog.gG _ O) T.tK (fun N hN=>fun h=>jS hN h) (bd (css:= [(0,_)]) T.nA (eC (eC eZ)) ⟨J,J,p1 (φ:=fre w0.heap.size (sl 1 rE_ s.aC)) J,tV⟩ (al (key:=4) T.z28 (eC (eC eZ)) fun b4=>(sPA (cs':= [fre w0.heap.size (sl 1 rE_ s.aC),eqv (.slice none 0 0)]) J J J T.aW J J (nl (th (sq (rg (al (key:=5) T.z66 (eC eZ) fun b5=>(nl (th (sq (rg (fP J T.bA (lP J J J T.bM (fc (aT 21 J) fun hm21=>(lnF J T.cE (mk (key:=23) (m:=s.sT.length) (enc:=nE) (y:=(0:Int)) J J T.bS (eC eZ) mL mL fun v23=>(al (key:=6) T.z66 (eC eZ) fun b6=>(bY J J J J T.aY J (nl (th (sq (sq (rg (nw 50 3 1 nE (knc 5 0 (osl 50 (.slice none 0 0)) J J cS (nw 40 79 2 sE (knc 4 1 (osl 40 (.slice none 0 0)) J J cS (lPA J J T.aW J (aZ (φs:= [agg [sl 1 rE_ s.aC,sl 2 sE s.sT]]) (φ:=clo 149 [fp [sl 1 rE_ s.aC,sl 2 sE s.sT]]) ⟨J,tV⟩ (prog7.RD s) T.UG (nl (th (bk ?_))))))))))))))))))))))))))))))))))))))))))))
 have hR0:(List.replicate s.sT.length (0:Int))=atL s.sT.length ((aM s).take 0)∧([]:List Int)=(if ix (hOl s) 0=true then [] else(aM s).take 0)∧([]:List SA)=([]:List Int).map (half s):=by
  exact⟨Fv _,by split<;>rfl,rfl⟩
 refine rf (κ:=(List Int) × Value × (List Int) × Value × (List SA)) 900 (fun p=> [(1,cell b1 [sl 1 rE_ s.aC,sl 2 sE s.sT]),(2,cell b2 [eqv (.slice none 0 0),eqv (.slice none 0 0)]),(4,cell b4 [fre w0.heap.size (sl 1 rE_ s.aC),osl 40 p.2.2.2.1]),(5,cell b5 [osl 50 p.2.1]),(6,cell b6 [osl 23 v23]),(23,own v23 3 1 nE p.1),(40,own p.2.2.2.1 79 2 sE p.2.2.2.2),(50,own p.2.1 3 1 nE p.2.2.1)]) (fun iR p=>p.1=atL s.sT.length ((aM s).take iR)∧p.2.2.1=(if ix (hOl s) 0=true then [] else(aM s).take iR)∧p.2.2.2.2=p.2.2.1.map (half s)) (fun c p=>False) J (UC s hs) T.UH J (fun _=>J) (fun _=>J) ⟨List.replicate s.sT.length (0:Int),(.slice none 0 0),([]:List Int),(.slice none 0 0),([]:List SA)⟩ hR0 ⟨rI,rI,rI,rI,rI,rI,rI,rI,tV⟩ ?_ ?_ (fun k h=>h.elim) (fun id k h=>h.elim) (fun c k h=>h.elim)
 ·intro m0 ⟨at_,u50,fr,u40,sts⟩ x0 hG0 hx0 l R w1 M1 F1 hRd
  have hR0:at_=atL s.sT.length ((aM s).take m0)∧fr=(if ix (hOl s) 0=true then [] else(aM s).take m0)∧sts=fr.map (half s):=hG0
  show Ct _ _ _ _ _ ((900,obj l (.loop R)):: [(1,cell b1 [sl 1 rE_ s.aC,sl 2 sE s.sT]),(2,cell b2 [eqv (.slice none 0 0),eqv (.slice none 0 0)]),(4,cell b4 [fre w0.heap.size (sl 1 rE_ s.aC),osl 40 u40]),(5,cell b5 [osl 50 u50]),(6,cell b6 [osl 23 v23]),(23,own v23 3 1 nE at_),(40,own u40 79 2 sE sts),(50,own u50 3 1 nE fr)]) _
  obtain⟨h00,hm0,hxa,hxb⟩:=Ll hx0
  have hob:=hoq.1 m0 hm0
  have hal:at_.length=s.sT.length:=by rw[hR0.1];exact Cv _ _
  have hfl:fr.length=m0:=by rw[hR0.2.1,if_neg (by simp[h00])];simp;omega
  have hstl:sts.length=m0:=by rw[hR0.2.2];simp[hfl]
  refine sq (rg (ag (nl (th (rg (ag (nl (aq hRd J (bk (sq (rg (lP J J J T.aY (mv (lP J J J T.aY (lnO J J T.aU (iO J J J T.aU O O (sO (φ:=int (fr.length:Int)) J J J T.aH gB J (y':=(fr.length:Int)) J (nl (th (sq (rg (lP J J J T.aY (mv (bsE (enc:=nE) (xs:= [x0.1]) (css:= [[int x0.1]]) T.bS ⟨J,J,p1 (φ:=int x0.1) J,tV⟩ J J J J (ap (key:=50) (zs:= [x0.1]) bP J J J T.bS (by unfold aQ at*;simp;omega) (by unfold aQ at*;simp;omega) fun v36=>(bY J J J J T.aY J (nl (th (rg (fP J T.bA (lP J J J T.bM (mv (bd (css:= [(0,_)]) T.vR (eC (eC eZ)) ⟨J,J,p1 (φ:=sl 1 nE x0.2) J,tV⟩ (kn 40 (agg [sl 1 nE x0.2,sl 1 nE []]) J (jR (cs:= [sl 1 nE x0.2,eqv (.slice none 0 0)]) (ds:= [sl 1 nE x0.2,sl 1 nE []]) ⟨fun h=>h,fun h=>slnil h,tV⟩) (bsE (enc:=sE) (xs:= [(⟨x0.2,[]⟩)]) (css:= [[sl 1 nE x0.2,sl 1 nE []]]) T.kS ⟨J,J,pA (cs:= [sl 1 nE x0.2,sl 1 nE []]) J,tV⟩ J J J J (ap (key:=40) (zs:= [(⟨x0.2,[]⟩)]) bP J J J T.kS (by unfold aQ at*;simp;omega) (by unfold aQ at*;simp;omega) fun v42=>(fP J T.bA (bY J J J J T.bM J (nl (eb ?_))))))))))))))))))))))))))))))))))))))))
  have hN0:(at_.set x0.1.toNat (fr.length:Int))=atL s.sT.length ((aM s).take (m0+1))∧(fr++ [x0.1])=(if ix (hOl s) 0=true then [] else(aM s).take (m0+1))∧(sts++ [(⟨x0.2,[]⟩)])=(fr++ [x0.1]).map (half s):=by
   have hfl2:fr.length=((aM s).take m0).length:=by rw[hfl];simp;omega
   refine⟨?_,?_,?_⟩
   ·rw[hR0.1,hxa,hfl2,bJ hm0,Fw (fresh hnd hm0) hob.1 hob.2]
   ·rw[if_neg (by simp[h00]),bJ hm0,hR0.2.1,if_neg (by simp[h00]),hxa]
   ·rw[List.map_append,←hR0.2.2,hxb,hxa];rfl
  exact rqN ⟨at_.set x0.1.toNat (fr.length:Int),v36,fr++ [x0.1],v42,sts++ [(⟨x0.2,[]⟩)]⟩ hN0 ⟨rI,rI,rI,rI,rI,rI,rI,rI,rI,tV⟩
 ·intro⟨at_,u50,fr,u40,sts⟩ hG0
  have hR0:at_=atL s.sT.length ((aM s).take (pR s).length)∧fr=(if ix (hOl s) 0=true then [] else(aM s).take (pR s).length)∧sts=fr.map (half s):=hG0
  show At _ _ _ _ [(1,cell b1 [sl 1 rE_ s.aC,sl 2 sE s.sT]),(2,cell b2 [eqv (.slice none 0 0),eqv (.slice none 0 0)]),(4,cell b4 [fre w0.heap.size (sl 1 rE_ s.aC),osl 40 u40]),(5,cell b5 [osl 50 u50]),(6,cell b6 [osl 23 v23]),(23,own v23 3 1 nE at_),(40,own u40 79 2 sE sts),(50,own u50 3 1 nE fr)]
  refine eb (th (sq (sq (rg (lP rfl rfl rfl T.aY (lnO rfl rfl T.aU (bi rfl rfl eS (nl (th ?_)))))))))
  refine cd J (fun hc0=> ?_) (fun hc0=> ?_)
  ·try simp at hc0
   have hh0:ix (hOl s) 0=true:=by
    cases h:ix (hOl s) 0 with
    |true=>rfl
    |false=>
     exfalso
     have h2:=hR0.2.1
     rw[if_neg (by simp[h]),tJ h,List.take_length] at h2
     have h3:=hop
     rw[hc0] at h2
     rw[show aM s= [] from h2.symm] at h3
     simp at h3
   refine sq (rg (fP J T.cP (lP J J J T.cK (lB (φs:= [sl 1 rE_ s.aC]) (φ:=agg [fre w0.heap.size (sl 1 rE_ (nothing s.aC).aC),fre w0.heap.size (sl 2 sE (nothing s.aC).sT)]) ⟨J,tV⟩ (prog8.vS s.aC O) T.UI (fun N hN=>fun h=>jR (cs:= [fre N (sl 1 rE_ (nothing s.aC).aC),fre N (sl 2 sE (nothing s.aC).sT)]) (ds:= [fre w0.heap.size (sl 1 rE_ (nothing s.aC).aC),fre w0.heap.size (sl 2 sE (nothing s.aC).sT)]) ⟨fun h=>jS hN h,fun h=>jS hN h,tV⟩ h) (sPA (cs':= [fre w0.heap.size (sl 1 rE_ (nothing s.aC).aC),fre w0.heap.size (sl 2 sE (nothing s.aC).sT)]) J J J T.aW J J (ag (nl (th (rt (rt_ ?_))))))))))
   refine gH 2 1 (frb (ix (hOl s) 0) w0.heap.size (sl 2 sE (nothing s.aC).sT)) rfl rfl (WL hh0) ?_
   refine knA 3 (sl 1 nE []) rfl slnil ?_
   have hr0:(nothing s.aC).aC=((tR s).1.aC):=by
    rw[eR hh0]
   have hr1:(nothing s.aC).sT=((tR s).1.sT):=by
    rw[eR hh0]
   have hr2: []=((tR s).2):=by
    rw[eR hh0]
   exact rE () [.cell 2 28,.tmp 3] J [agg [fre w0.heap.size (sl 1 rE_ (nothing s.aC).aC),frb (ix (hOl s) 0) w0.heap.size (sl 2 sE (nothing s.aC).sT)],sl 1 nE []] ⟨.agg J J T.aW J J,.tmp J,tV⟩ (cA3 (fun x0 x1 x2=>rV [agg [fre w0.heap.size (sl 1 rE_ x0),frb (ix (hOl s) 0) w0.heap.size (sl 2 sE x1)],sl 1 nE x2]) hr0 hr1 hr2) trivial eX
  ·try simp at hc0
   have h00:ix (hOl s) 0=false:=by
    cases h:ix (hOl s) 0 with
    |false=>rfl
    |true=>exact absurd (by rw[hR0.2.1,if_pos h]) hc0
   have hfr:fr=aM s:=by rw[hR0.2.1,if_neg (by simp[h00]),tJ h00,List.take_length]
   have hat:at_=atL s.sT.length (aM s):=by rw[hR0.1,tJ h00,List.take_length]
   have hfl:fr.length=(aM s).length:=by rw[hfr]
   have hal:at_.length=s.sT.length:=by rw[hat];exact Cv _ _
   refine sk (th (sq (sq (rg (lP J J J T.aY (lnO J J T.aU (mv (nl (th (bk ?_))))))))))
   have hI0_0:0≤fr.length:=by
    first|omega|simp
   have hI0_1:sts=aJ s 0:=by
    rw[hR0.2.2,hfr,Li]
   refine lp (κ:=Nat × (List SA)) (fun p=> [(1,ptr 1 b1 0),(2,ptr 2 b2 0),(3,eqv (.slice none 0 0)),(4,ptr 4 b4 0),(5,ptr 5 b5 0),(6,ptr 6 b6 0),(50,osl 50 u50),(51,int (fr.length:Int)),(52,int (p.1:Int))]) (fun p=> [(1,cell b1 [sl 1 rE_ s.aC,sl 2 sE s.sT]),(2,cell b2 [eqv (.slice none 0 0),eqv (.slice none 0 0)]),(4,cell b4 [fre w0.heap.size (sl 1 rE_ s.aC),osl 40 u40]),(5,cell b5 [osl 50 u50]),(6,cell b6 [osl 23 v23]),(23,own v23 3 1 nE at_),(40,own u40 79 2 sE p.2),(50,own u50 3 1 nE fr)]) (fun p=>(p.1≤fr.length)∧(p.2=aJ s p.1)) (fun p=>fr.length- p.1) ⟨0,sts⟩ ⟨hI0_0,hI0_1⟩ ⟨id,id,id,id,id,id,id,id,id,tV⟩ ⟨rI,rI,rI,rI,rI,rI,rI,rI,tV⟩ ?_
   intro⟨k,sts2⟩ hG0
   obtain⟨hk0,hI0⟩:(k≤fr.length)∧(sts2=aJ s k):=hG0
   show Ct _ _ _ _ [(1,ptr 1 b1 0),(2,ptr 2 b2 0),(3,eqv (.slice none 0 0)),(4,ptr 4 b4 0),(5,ptr 5 b5 0),(6,ptr 6 b6 0),(50,osl 50 u50),(51,int (fr.length:Int)),(52,int (k:Int))] [(1,cell b1 [sl 1 rE_ s.aC,sl 2 sE s.sT]),(2,cell b2 [eqv (.slice none 0 0),eqv (.slice none 0 0)]),(4,cell b4 [fre w0.heap.size (sl 1 rE_ s.aC),osl 40 u40]),(5,cell b5 [osl 50 u50]),(6,cell b6 [osl 23 v23]),(23,own v23 3 1 nE at_),(40,own u40 79 2 sE sts2),(50,own u50 3 1 nE fr)] _
   have hsl:sts2.length=(aM s).length:=by rw[hI0];exact NV s k
   refine sq (rg (bi J J aO (nl (th (sq ?_)))))
   refine cd J (fun hc1=> ?_) (fun hc1=> ?_)
   ·try simp at hc1
    have hkl:k<(aM s).length:=by omega
    have hob:=hoq.1 k hkl
    rw[←hfr] at hob
    have hxn:(ix fr k).toNat<s.sT.length:=by omega
    have hox:=hs.st _ hxn
    have hacl:=hox.acl
    have hxl:=hox.len
    have hhf:ix sts2 k=half s (ix fr k):=by rw[hI0,hfr];exact RE hkl
    have hha:(ix sts2 k).aP=keep s (ix fr k).toNat:=by rw[hhf];rfl
    refine sk (th (sq (bk (sq (rg (mv (iO J J J T.aU O O (lO J J gB J T.aH (al (key:=10) T.z3 (eC eZ) fun b10=>(ag (sP (φ:=int (ix fr k)) J J J T.aH J (nl (th (sq (rg (ag (nl (th (sq (sq (rg (fP J T.bA (lP J J J T.bM (mv (iO J J J T.cE O O (fO J T.cJ (lO J J gB J T.aY (fc (aT 62 J) fun hm62=>(lnF J T.aU (mv (nl (th (bk ?_)))))))))))))))))))))))))))))))))
    have hI1_0:0≤(ix sts2 k).aP.length:=by
     first|omega|simp
    have hI1_1:(0:Int)=aV ((keep s (ix fr k).toNat).take 0)∧0≤(0:Int)∧(0:Int)<256:=by
     exact⟨rfl,O,O⟩
    refine lp (κ:=Nat × Int) (fun p=> [(1,ptr 1 b1 0),(2,ptr 2 b2 0),(3,eqv (.slice none 0 0)),(4,ptr 4 b4 0),(5,ptr 5 b5 0),(6,ptr 6 b6 0),(9,int (k:Int)),(10,ptr 10 b10 0),(11,int p.2),(50,osl 50 u50),(51,int (fr.length:Int)),(52,int (k:Int)),(62,sl 1 nE (ix sts2 k).aP),(63,int ((ix sts2 k).aP.length:Int)),(64,int (p.1:Int))]) (fun p=> [(1,cell b1 [sl 1 rE_ s.aC,sl 2 sE s.sT]),(2,cell b2 [eqv (.slice none 0 0),eqv (.slice none 0 0)]),(4,cell b4 [fre w0.heap.size (sl 1 rE_ s.aC),osl 40 u40]),(5,cell b5 [osl 50 u50]),(6,cell b6 [osl 23 v23]),(10,cell b10 [int (ix fr k)]),(23,own v23 3 1 nE at_),(40,own u40 79 2 sE sts2),(50,own u50 3 1 nE fr)]) (fun p=>(p.1≤(ix sts2 k).aP.length)∧(p.2=aV ((keep s (ix fr k).toNat).take p.1)∧0≤p.2∧p.2<256)) (fun p=>(ix sts2 k).aP.length- p.1) ⟨0,(0:Int)⟩ ⟨hI1_0,hI1_1⟩ ⟨id,id,id,id,id,id,id,id,id,id,id,id,id,id,id,tV⟩ ⟨rI,rI,rI,rI,rI,rI,rI,rI,rI,tV⟩ ?_
    intro⟨k1,cn⟩ hG1
    obtain⟨hk1,hI1⟩:(k1≤(ix sts2 k).aP.length)∧(cn=aV ((keep s (ix fr k).toNat).take k1)∧0≤cn∧cn<256):=hG1
    show Ct _ _ _ _ [(1,ptr 1 b1 0),(2,ptr 2 b2 0),(3,eqv (.slice none 0 0)),(4,ptr 4 b4 0),(5,ptr 5 b5 0),(6,ptr 6 b6 0),(9,int (k:Int)),(10,ptr 10 b10 0),(11,int cn),(50,osl 50 u50),(51,int (fr.length:Int)),(52,int (k:Int)),(62,sl 1 nE (ix sts2 k).aP),(63,int ((ix sts2 k).aP.length:Int)),(64,int (k1:Int))] [(1,cell b1 [sl 1 rE_ s.aC,sl 2 sE s.sT]),(2,cell b2 [eqv (.slice none 0 0),eqv (.slice none 0 0)]),(4,cell b4 [fre w0.heap.size (sl 1 rE_ s.aC),osl 40 u40]),(5,cell b5 [osl 50 u50]),(6,cell b6 [osl 23 v23]),(10,cell b10 [int (ix fr k)]),(23,own v23 3 1 nE at_),(40,own u40 79 2 sE sts2),(50,own u50 3 1 nE fr)] _
    refine sq (rg (bi J J aO (nl (th (sq ?_)))))
    refine cd J (fun hc2=> ?_) (fun hc2=> ?_)
    ·try simp at hc2
     have hkb:0≤ix (ix sts2 k).aP k1∧ix (ix sts2 k).aP k1<256:=by
         rw[hha] at hc2 ⊢
         exact xH hox (zY (iK hc2)).1
     refine sk (th (sq (bk (sq (rg (iF J J T.aU O gB (lF J J T.aH (ag (nl (th (rg (mv (mv (bi J J (tA O O O O) (ag (nl (eb (th (rg (bi J J (aG i6) (mv (nl ?_))))))))))))))))))))))
     have hN0:(k1+1)≤((ix sts2 k).aP).length:=by
         first|omega|simp_all
     have hN1:((cn.toNat|||((ix ((ix sts2 k).aP) k1).toNat):Nat):Int)=aV ((keep s (ix fr k).toNat).take (k1+1))∧0≤((cn.toNat|||((ix ((ix sts2 k).aP) k1).toNat):Nat):Int)∧((cn.toNat|||((ix ((ix sts2 k).aP) k1).toNat):Nat):Int)<256:=by
         refine⟨?_,O,jY hI1.2.2 hkb.2⟩
         rw[bJ (by rw[←hha];omega),gV,←hI1.1,hha]
     exact ln (⟨k1+1,((cn.toNat|||(ix (ix sts2 k).aP k1).toNat:Nat):Int)⟩:Nat × Int) ⟨hN0,hN1⟩ dO ⟨id,id,id,id,id,id,id,id,id,id,id,id,id,id,id,tV⟩ ⟨rI,rI,rI,rI,rI,rI,rI,rI,rI,tV⟩
    ·try simp at hc2
     have hcn:cn=aV (keep s (ix fr k).toNat):=by rw[hI1.1,show k1=(keep s (ix fr k).toNat).length by rw[←hha];omega,List.take_length]
     refine ex (xt_ (xt_ (xb (th (sq (rg (bsE (enc:=nE) (xs:= [(-1)]) (css:= [[int (-1)]]) T.bS ⟨J,J,p1 (φ:=int (-1)) J,tV⟩ J J J J (fP J T.cP (lP J J J T.cK (fc (aT 74 J) fun hm74=>(lnF J T.dW (cl (prog8.xL s.aC.length O) T.JC trivial fun N76 v76=>(al (key:=14) T.z66 (eC eZ) fun b14=>(bY J J J J T.aY J (nl (th (sq (sq (rg (mv (aZ (φs:= [int cn]) (φ:=clo 137 [fp [int cn]]) ⟨J,tV⟩ (prog3.rB cn) T.yN (nl (th (bk ?_))))))))))))))))))))))))
     have hR1:(List.replicate s.aC.length (-1))=nxL s (ix fr k) 0:=by
         exact NW _ _
     refine rf (κ:=(List Int)) 901 (fun p=> [(1,cell b1 [sl 1 rE_ s.aC,sl 2 sE s.sT]),(2,cell b2 [eqv (.slice none 0 0),eqv (.slice none 0 0)]),(4,cell b4 [fre w0.heap.size (sl 1 rE_ s.aC),osl 40 u40]),(5,cell b5 [osl 50 u50]),(6,cell b6 [osl 23 v23]),(10,cell b10 [int (ix fr k)]),(14,cell b14 [osl 30 v76]),(23,own v23 3 1 nE at_),(30,own v76 3 1 nE p),(40,own u40 79 2 sE sts2),(50,own u50 3 1 nE fr)]) (fun iR p=>p=nxL s (ix fr k) iR) (fun c p=>False) J (Cr cn O O) T.uU J (fun _=>J) (fun _=>J) (List.replicate s.aC.length (-1)) hR1 ⟨rI,rI,rI,rI,rI,rI,rI,rI,rI,rI,rI,tV⟩ ?_ ?_ (fun k h=>h.elim) (fun id k h=>h.elim) (fun c k h=>h.elim)
     ·intro m1 nx x1 hG1 hx1 l R w1 M1 F1 hRd
      have hR1:nx=nxL s (ix fr k) m1:=hG1
      obtain⟨a,rfl,ha63,hha2⟩:=oI hx1
      rw[hcn] at hx1 hha2
      have hgo:=kJ hs hxn hha2
      have hnl:nx.length=s.aC.length:=by rw[hR1];simp[nxL]
      refine rg (ag (nl (aq hRd J (bk (dr (nh:=15) [0,0,0,0,8,0,56,120,248,0,1016,2040,4092,8188,16383,32767] T.mixed kR ?_)))))
      refine st_ J (fun _ _ _ gq kq=>lP (gq.1.trans J) J J T.aY kq) ?_
      refine st_ J (fun _ _ _ gq kq=>mv' (gq.1.trans J) kq) ?_
      refine st_ J (fun _ _ _ gq kq=>lP (gq.1.trans J) J J T.aY kq) ?_
      refine st_ J (fun _ _ _ gq kq=>fP (gq.1.trans J) T.bA kq) ?_
      refine st_ J (fun _ _ _ gq kq=>lP (gq.1.trans J) J J T.bM kq) ?_
      refine st_ J (fun _ _ _ gq kq=>lP (gq.1.trans J) J J T.aH kq) ?_
      refine st_ J (fun _ _ _ gq kq=>iF (gq.1.trans J) (gq.2.1.trans J) T.cE O gB kq) ?_
      refine st_ J (fun _ _ _ gq kq=>fF (gq.1.trans J) T.bR kq) ?_
      refine st_ J (fun _ _ _ gq kq=>lF (gq.1.trans J) J T.aY kq) ?_
      refine st_ J (fun _ _ _ gq kq=>mv' (gq.1.trans J) kq) ?_
      refine st_ J (fun _ _ _ gq kq=>iF (gq.1.trans J) (gq.2.1.trans J) T.aU O gB kq) ?_
      refine st_ J (fun _ _ _ gq kq=>lF (gq.1.trans J) J T.aH kq) ?_
      refine st_ J (fun _ _ _ gq kq=>iO (gq.1.trans J) J (gq.2.1.trans J) T.aU O O kq) ?_
      refine st_ J (fun _ _ _ gq kq=>lO (gq.1.trans J) J gB J T.aH kq) ?_
      refine st_ J (fun _ _ _ gq kq=>iO (gq.1.trans J) J (gq.2.1.trans J) T.aU O O kq) ?_
      refine pn (sO (φ:=int (ix at_ (ix (ix s.sT (ix fr k).toNat).next a).toNat)) J J J T.aH gB J (y':=(ix at_ (ix (ix s.sT (ix fr k).toNat).next a).toNat)) J (nl (eb ?_)))
      have hN0:(nx.set a (ix at_ ((ix ((ix s.sT ((ix fr k).toNat)).next) a).toNat)))=nxL s (ix fr k) (m1+1):=by
         rw[←NX hx1 O,←hR1,hat,Lh O,Int.toNat_of_nonneg hgo.2.1]
      exact rqN (nx.set a (ix at_ (ix (ix s.sT (ix fr k).toNat).next a).toNat)) hN0 ⟨rI,rI,rI,rI,rI,rI,rI,rI,rI,rI,rI,rI,tV⟩
     ·intro nx hG1
      have hR1:nx=nxL s (ix fr k) (aL 63 cn).length:=hG1
      refine eb (th (rg (fP rfl T.bA (lP rfl rfl rfl T.bM (mv (lP rfl rfl rfl T.aY (iO rfl rfl rfl T.cE O O (fO rfl T.bR (fz 30 98 rfl rfl (sO (φ:=sl 1 nE nx) rfl rfl rfl T.aY (gN O) rfl (y':=⟨(ix sts2 k).aP,nx⟩) rfl (nl (eb (th (rg (bi rfl rfl (aG i6) (mv (nl ?_)))))))))))))))))
      have hN0:(k+1)≤fr.length:=by
         first|omega|simp_all
      have hN1:(sts2.set k (⟨(ix sts2 k).aP,nx⟩))=aJ s (k+1):=by
         rw[hcn,RF hs] at hR1
         rw[←Lj hkl,←hI0,hR1,hha]
         rw[show ix fr k=ix (aM s) k by rw[hfr]]
         rfl
      exact ln (⟨k+1,sts2.set k (⟨(ix sts2 k).aP,nx⟩)⟩:Nat × (List SA)) ⟨hN0,hN1⟩ dO ⟨id,id,id,id,id,id,id,id,id,tV⟩ ⟨rI,rI,rI,rI,rI,rI,rI,rI,tV⟩
   ·try simp at hc1
    refine ex (xt_ (xt_ (xb (th (sq (EV 4 40 1 J J J J (EV 5 50 0 J J J J ?_)))))))
    refine drH (nh:=4) [0,0,1,7] [(none,[4]),(none,[5]),(some 2,[2]),(none,[])] T.mixed kR kR ?_
    refine stv (d:=102) (fun β0=>agg [fre w0.heap.size (sl 1 rE_ s.aC),sl 2 sE sts2]) [4] J bH (fun β0 _ _ _ _ gq gh kq=>lPA (gq.1.trans J) (gh.1.trans J) T.aW J kq) ?_
    refine stv (d:=103) (fun β0=>sl 1 nE fr) [5] J bH (fun β0 _ _ _ _ gq gh kq=>lP (gq.1.trans J) (gh.1.trans J) J T.aY kq) ?_
    refine stw 2 (fun β0=>cell b2 [fre w0.heap.size (sl 1 rE_ s.aC),sl 2 sE sts2]) [2] J bH (fun β0 _ _ _ _ gq gh kq=>sPA (cs':= [fre w0.heap.size (sl 1 rE_ s.aC),sl 2 sE sts2]) (gq.1.trans J) (gh.1.trans J) (gq.2.1.trans J) T.aW J J kq) ?_
    refine stv (d:=3) (fun β0=>sl 1 nE fr) [] J bH (fun β0 _ _ _ _ gq gh kq=>ag' (gq.1.trans J) kq) ?_
    refine pnH fun β0=>(nl (th (rt ?_)))
    refine gH 2 1 (frb (ix (hOl s) 0) w0.heap.size (sl 2 sE sts2)) rfl rfl (WM h00) ?_
    have hr0:s.aC=((tR s).1.aC):=by
     rw[dV h00]
    have hr1:sts2=((tR s).1.sT):=by
     rw[dV h00,hI0,show k=(aM s).length by omega,NU]
    have hr2:fr=((tR s).2):=by
     rw[dV h00,hfr]
    exact rE () [.cell 2 28,.tmp 3] J [agg [fre w0.heap.size (sl 1 rE_ s.aC),frb (ix (hOl s) 0) w0.heap.size (sl 2 sE sts2)],sl 1 nE fr] ⟨.agg J J T.aW J J,.tmp J,tV⟩ (cA3 (fun x0 x1 x2=>rV [agg [fre w0.heap.size (sl 1 rE_ x0),frb (ix (hOl s) 0) w0.heap.size (sl 2 sE x1)],sl 1 nE x2]) hr0 hr1 hr2) trivial eX
end prog9
end
end Go.Proofs.YtnlfjojfgghchaaGreatDoor
