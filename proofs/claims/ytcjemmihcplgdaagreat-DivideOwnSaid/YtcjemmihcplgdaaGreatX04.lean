/- The walks of the functions and the plain laws. Own texts of this claim, packed: Zzprog2, Zzprog3, Zzprog4, Zzprog5. -/
import Derived.Test.YtcjemmihcplgdaaGreatX03
set_option linter.all false
namespace Go.Proofs.YtcjemmihcplgdaaGreat
open AL Go
set_option maxRecDepth 100000
section
open ref01 ref03 ref04 ref06 prog Part
def smallSpec (s:SS):Prop:=∀k,k<s.sT.length→∀i,i<(ix s.sT k).aP.length→ix (ix s.sT k).aP i<2^63
def canIs (u:Int) (nx:List Int) (k:Nat):Prop:=∀a:Nat,u.toNat.testBit a=true↔a<k∧0≤ix nx a
theorem canIs_yes {u:Int} {nx:List Int} {k:Nat} (h:canIs u nx k) (h0:0≤ix nx k):canIs ((u.toNat|||2^k:Nat):Int) nx (k+1):=fun a=>by
 rw[Int.toNat_natCast,Nat.testBit_or,Nat.testBit_two_pow,Bool.or_eq_true,h a,decide_eq_true_eq]
 constructor
 ·rintro(h1|rfl)
  ·exact⟨O,h1.2⟩
  ·exact⟨O,h0⟩
 ·intro h1
  by_cases e:k=a
  ·exact .inr e
  ·exact .inl ⟨O,h1.2⟩
theorem canIs_no {u:Int} {nx:List Int} {k:Nat} (h:canIs u nx k) (h0:ix nx k<0):canIs u nx (k+1):=fun a=>by
 rw[h a]
 constructor
 ·exact fun h1=>⟨O,h1.2⟩
 ·intro h1
  refine⟨?_,h1.2⟩
  by_cases e:k=a
  ·subst e;omega
  ·omega
theorem xor_and_zero {m n:Nat}:m^^^ (m&&&n)=0↔∀a,m.testBit a=true→n.testBit a=true:=by
 constructor
 ·intro h a ha
  have:=congrArg (fun z=>z.testBit a) h
  simp only [Nat.testBit_xor,Nat.testBit_and,ha,Nat.zero_testBit,Bool.true_and] at this
  cases hn:n.testBit a
  ·rw[hn] at this;cases this
  ·rfl
 ·intro h
  apply Nat.eq_of_testBit_eq
  intro a
  simp only [Nat.testBit_xor,Nat.testBit_and,Nat.zero_testBit]
  cases hm:m.testBit a
  ·rfl
  ·rw[h a hm];rfl
theorem setOK_iff {x:SA} {n:Nat} {u t:Int} (hn:n≤8) (hl:x.next.length=n) (hc:canIs u x.next n) (h0:0≤t):setOK x n t=true↔t.toNat^^^ (t.toNat&&&u.toNat)=0:=by
 rw[xor_and_zero]
 constructor
 ·intro h a ha
  unfold setOK at h
  simp only [Bool.and_eq_true] at h
  have hb:=h.1
  unfold isSet at hb
  simp only [Bool.and_eq_true,decide_eq_true_eq,Int.toNat_natCast] at hb
  have han:a<n:=by
   have h7:2^a≤t.toNat:=Nat.ge_two_pow_of_testBit ha
   have h9:2^a<2^n:=by omega
   exact(Nat.pow_lt_pow_iff_right O).1 h9
  have hm:(a:Int)∈listOf n t:=List.mem_map.2 ⟨a,List.mem_filter.2 ⟨List.mem_range.2 han,by unfold has;rw[Int.toNat_natCast];exact ha⟩,rfl⟩
  have:=List.all_eq_true.1 h.2 _ hm
  exact(hc a).2 ⟨han,by simpa using this⟩
 ·intro h
  have hlt:t.toNat<2^n:=Nat.lt_pow_two_of_testBit _ (fun i hi=>by
   cases hti:t.toNat.testBit i
   ·rfl
   ·have:=((hc i).1 (h i hti)).1;omega)
  unfold setOK isSet
  simp only [Bool.and_eq_true,decide_eq_true_eq,Int.toNat_natCast]
  refine⟨⟨h0,O⟩,List.all_eq_true.2 (fun z hz=> ?_)⟩
  obtain⟨a,ha,rfl⟩:=List.mem_map.1 hz
  have h1:=(List.mem_filter.1 ha).2
  unfold has at h1
  rw[Int.toNat_natCast] at h1
  have:=((hc a).1 (h a h1)).2
  simpa using this
theorem setOK_neg {x:SA} {n:Nat} {t:Int} (h0:t<0):setOK x n t=false:=by
 unfold setOK isSet
 rw[decide_eq_false O];rfl
theorem rising_of {l:List Int} (h:∀j,j+1<l.length→ix l j<ix l (j+1)):rising l=true:=by
 unfold rising
 exact List.all_eq_true.2 (fun i hi=>by have:=List.mem_range.1 hi;simpa using h i O)
theorem rising_not {l:List Int} {j:Nat} (h:j+1<l.length) (hh:ix l (j+1)≤ix l j):rising l=false:=by
 unfold rising
 exact all_range_not (i:=j) O (by simp;omega)
theorem all_of_ix {l:List Int} {p:Int→Bool} (h:∀j,j<l.length→p (ix l j)=true):l.all p=true:=List.all_eq_true.2 (fun x hx=>by
 obtain⟨j,hj,rfl⟩:=List.getElem_of_mem hx
 rw[←ix_get hj];exact h j hj)
namespace T
theorem ent91:Ent Tryz.prog 91:=ent_of kR
end T
namespace prog2
theorem Valid_ok (s:SS) (hsm:smallSpec s):
 Fn0 Tryz.prog 79 [spec s] (bl (specOK s)):=by
 refine fnI Tryz.func79 rfl rfl (fun w0 F0=> ?_)
 refine fcC (inhS 0 J) (fun hS0=> ?_)
 obtain⟨hsa0,hss0,hse0⟩:=sLn hS0
 refine sq (rg (bx (key:=1) (cs:= [sl 1 rE_ s.aC,sl 2 sE s.sT]) J fun b1=>(ag (nl (th (sq (rg (fP J T.fld25_1 (lP J J J T.one23 (fc (slenI 12 J) fun hm12=>(lnF J T.sl23 (ag (nl (th (sq (sq (rg (fP J T.fld25_0 (lP J J J T.one22 (cal0 (φs:= [sl 1 rE_ s.aC]) (φ:=bl (actionsOK s.aC)) ⟨J,tV⟩ (prog.aValid_ok _) T.ent91 (no J (mv ?_))))))))))))))))))))))
 apply gOr (t:=18) (pd:=21) rfl
 rotate_left
 ·intro hg0 fin
  have hg0':=hg0
  try simp at hg0'
  exact gy J J J hg0 (mv (gy J J J hg0 (bi J J b_lss (pkF J hg0 J (drp (X:= [(20,_),(19,_)]) ⟨J,J,tV⟩ fin)))))
 ·intro hg0 fin
  exact gn J J J hg0 J J (gn J J J hg0 J J (pkT J hg0 J (drp (X:= [(20,_),(19,_)]) ⟨J,J,tV⟩ fin)))
 refine mv ?_
 apply gOr (t:=22) (pd:=25) rfl
 rotate_left
 ·intro hg1 fin
  have hg1':=hg1
  try simp at hg1'
  exact gy J J J hg1 (mv (gy J J J hg1 (bi J J b_gtr (pkF J hg1 J (drp (X:= [(24,_),(23,_)]) ⟨J,J,tV⟩ fin)))))
 ·intro hg1 fin
  exact gn J J J hg1 J J (gn J J J hg1 J J (pkT J hg1 J (drp (X:= [(24,_),(23,_)]) ⟨J,J,tV⟩ fin)))
 refine nl (th ?_)
 refine cd J (fun hc0=> ?_) (fun hc0=> ?_)
 ·try simp at hc0
  refine sq (rg (ag (nl (th (rt (rt_ ?_))))))
  have hr0:false=(specOK s):=by
   unfold specOK
   by_cases h:actionsOK s.aC=true
   ·simp[h] at hc0 ⊢
    omega
   ·simp[h]
  exact rE () [.tmp 2] J [bl false] ⟨.tmp J,tV⟩ (cA1 (fun x0=>rV [bl x0]) hr0) trivial eX
 ·try simp at hc0
  have hact:=actionsOK_len (l:=s.aC) (by simp_all)
  refine sk (th (sq (sq (rg (fP J T.fld25_1 (lP J J J T.one23 (lnF J T.sl23 (mv (nl (th (bk ?_)))))))))))
  have hI0_0:0≤s.sT.length:=by
   first|omega|simp
  have hI0_1:(s.sT.take 0).all (fun x=>stateOK x (s.sT.length:Int) s.aC.length)=true:=by
   simp
  refine lp (κ:=Nat) (fun p=> [(1,ptr 1 b1 0),(3,int (s.sT.length:Int)),(27,sl 2 sE s.sT),(28,int (s.sT.length:Int)),(29,int (p:Int))]) (fun p=> [(1,cell b1 [sl 1 rE_ s.aC,sl 2 sE s.sT])]) (fun p=>(p≤s.sT.length)∧((s.sT.take p).all (fun x=>stateOK x (s.sT.length:Int) s.aC.length)=true)) (fun p=>s.sT.length- p) 0 ⟨hI0_0,hI0_1⟩ ⟨id,id,id,id,id,tV⟩ ⟨rI,tV⟩ ?_
  intro k hG0
  obtain⟨hk0,hI0⟩:(k≤s.sT.length)∧((s.sT.take k).all (fun x=>stateOK x (s.sT.length:Int) s.aC.length)=true):=hG0
  refine sq (rg (bi J J b_lss (nl (th (sq ?_)))))
  refine cd J (fun hc1=> ?_) (fun hc1=> ?_)
  ·try simp at hc1
   refine sk (th (sq (bk (sq (rg (iF J J T.sl23 O gB (lFA J T.agg72 (Nat.le_of_ble_eq_true J) (al (key:=5) T.z72 (eC (eC eZ)) fun b5=>(sPA (cs':= [sl 1 nE (ix s.sT k).aP,sl 1 nE (ix s.sT k).next]) J J J T.agg72 J J (nl (th (sq (sq (rg (fP J T.fld72_1 (lP J J J T.one63 (fc (slenI 34 J) fun hm34=>(lnF J T.sl63 (fP J T.fld25_0 (lP J J J T.one22 (fc (slenI 37 J) fun hm37=>(lnF J T.sl22 (bi J J b_neq (nl (th ?_)))))))))))))))))))))))))
   refine cd J (fun hc2=> ?_) (fun hc2=> ?_)
   ·try simp at hc2
    refine sq (rg (ag (nl (th (rt (rt_ (rb (rt_ (rt_ (rb (rt_ ?_)))))))))))
    have hr0:false=(specOK s):=by
     unfold specOK
     rw[all_fail (xs:=s.sT) (k:=k) O ?_];simp
     unfold stateOK
     rw[decide_eq_false O];simp
    exact rE () [.tmp 2] J [bl false] ⟨.tmp J,tV⟩ (cA1 (fun x0=>rV [bl x0]) hr0) trivial eX
   ·try simp at hc2
    refine sk (th (sq (rg (ag (nl (th (sq (sq (rg (fP J T.fld72_1 (lP J J J T.one63 (lnF J T.sl63 (mv (nl (th (bk ?_))))))))))))))))
    have hI1_0:0≤(ix s.sT k).next.length:=by
     first|omega|simp
    have hI1_1:0≤(0:Int)∧(0:Int)<256∧canIs (0:Int) (ix s.sT k).next 0∧((ix s.sT k).next.take 0).all (fun j=>decide (-1≤j)&&decide (j<(s.sT.length:Int)))=true:=by
     refine⟨O,O,fun a=> ?_,by simp⟩
     simp
    refine lp (κ:=Nat × Int) (fun p=> [(1,ptr 1 b1 0),(3,int (s.sT.length:Int)),(5,ptr 5 b5 0),(6,int p.2),(27,sl 2 sE s.sT),(28,int (s.sT.length:Int)),(29,int (k:Int)),(41,sl 1 nE (ix s.sT k).next),(42,int ((ix s.sT k).next.length:Int)),(43,int (p.1:Int))]) (fun p=> [(1,cell b1 [sl 1 rE_ s.aC,sl 2 sE s.sT]),(5,cell b5 [sl 1 nE (ix s.sT k).aP,sl 1 nE (ix s.sT k).next])]) (fun p=>(p.1≤(ix s.sT k).next.length)∧(0≤p.2∧p.2<256∧canIs p.2 (ix s.sT k).next p.1∧((ix s.sT k).next.take p.1).all (fun j=>decide (-1≤j)&&decide (j<(s.sT.length:Int)))=true)) (fun p=>(ix s.sT k).next.length- p.1) ⟨0,(0:Int)⟩ ⟨hI1_0,hI1_1⟩ ⟨id,id,id,id,id,id,id,id,id,id,tV⟩ ⟨rI,rI,tV⟩ ?_
    intro⟨k1,u⟩ hG1
    obtain⟨hk1,hI1⟩:(k1≤(ix s.sT k).next.length)∧(0≤u∧u<256∧canIs u (ix s.sT k).next k1∧((ix s.sT k).next.take k1).all (fun j=>decide (-1≤j)&&decide (j<(s.sT.length:Int)))=true):=hG1
    show Ct _ _ _ _ [(1,ptr 1 b1 0),(3,int (s.sT.length:Int)),(5,ptr 5 b5 0),(6,int u),(27,sl 2 sE s.sT),(28,int (s.sT.length:Int)),(29,int (k:Int)),(41,sl 1 nE (ix s.sT k).next),(42,int ((ix s.sT k).next.length:Int)),(43,int (k1:Int))] [(1,cell b1 [sl 1 rE_ s.aC,sl 2 sE s.sT]),(5,cell b5 [sl 1 nE (ix s.sT k).aP,sl 1 nE (ix s.sT k).next])] _
    refine sq (rg (bi J J b_lss (nl (th (sq ?_)))))
    refine cd J (fun hc3=> ?_) (fun hc3=> ?_)
    ·try simp at hc3
     refine sk (th (sq (bk (sq (rg (mv (iF J J T.sl63 O gB (lF J J T.one3 (ag (ag (nl (th (sq (sq (rg (mv (bi J J b_lss (mv ?_))))))))))))))))))
     apply gOr (t:=50) (pd:=54) rfl
     rotate_left
     ·intro hg2 fin
      have hg2':=hg2
      try simp at hg2'
      exact gy J J J hg2 (mv (gy J J J hg2 (mv (gy J J J hg2 (bi J J b_geq (pkF J hg2 J (drp (X:= [(53,_),(52,_),(51,_)]) ⟨J,J,J,tV⟩ fin)))))))
     ·intro hg2 fin
      exact gn J J J hg2 J J (gn J J J hg2 J J (gn J J J hg2 J J (pkT J hg2 J (drp (X:= [(53,_),(52,_),(51,_)]) ⟨J,J,J,tV⟩ fin))))
     refine nl (th ?_)
     refine cd J (fun hc4=> ?_) (fun hc4=> ?_)
     ·try simp at hc4
      refine sq (rg (ag (nl (th (rt (rt_ (rb (rt_ (rt_ (rb (rt_ (rb (rt_ (rt_ (rb (rt_ ?_))))))))))))))))
      have hr0:false=(specOK s):=by
       unfold specOK
       rw[all_fail (xs:=s.sT) (k:=k) O ?_];simp
       unfold stateOK
       rw[all_fail (xs:=(ix s.sT k).next) (k:=k1) O (by simp;omega)];simp
      exact rE () [.tmp 2] J [bl false] ⟨.tmp J,tV⟩ (cA1 (fun x0=>rV [bl x0]) hr0) trivial eX
     ·try simp at hc4
      refine sk (th (sq (rg (mv (bi J J b_geq (nl (th ?_)))))))
      refine cd J (fun hc5=> ?_) (fun hc5=> ?_)
      ·try simp at hc5
       have hp:2^k1≤2^7:=Nat.pow_le_pow_right O O
       refine rg (mv (mv (bi J J (b_shlI O O) (bi J J (b_orI O O (Int.natCast_nonneg _) (by rw[Int.toNat_natCast];omega)) (ag (nl (eb (th (rg (bi J J (b_add i6) (mv (nl ?_))))))))))))
       have hN0:(k1+1)≤(ix s.sT k).next.length:=by
        first|omega|simp_all
       have hN1:0≤((u.toNat|||(2^k1):Nat):Int)∧((u.toNat|||(2^k1):Nat):Int)<256∧canIs ((u.toNat|||(2^k1):Nat):Int) (ix s.sT k).next (k1+1)∧((ix s.sT k).next.take (k1+1)).all (fun j=>decide (-1≤j)&&decide (j<(s.sT.length:Int)))=true:=by
        refine⟨O,or_lt256 (b:=((2^k1:Nat):Int)) hI1.2.1 O,canIs_yes hI1.2.2.1 hc5,?_⟩
        rw[all_take_succ O,hI1.2.2.2];simp;omega
       exact ln (⟨k1+1,((u.toNat|||(2^k1):Nat):Int)⟩:Nat × Int) ⟨hN0,hN1⟩ dO ⟨id,id,id,id,id,id,id,id,id,id,tV⟩ ⟨rI,rI,tV⟩
      ·try simp at hc5
       refine sk (eb (th (rg (bi J J (b_add i6) (mv (nl ?_))))))
       have hN0:(k1+1)≤(ix s.sT k).next.length:=by
        first|omega|simp_all
       have hN1:0≤u∧u<256∧canIs u (ix s.sT k).next (k1+1)∧((ix s.sT k).next.take (k1+1)).all (fun j=>decide (-1≤j)&&decide (j<(s.sT.length:Int)))=true:=by
        refine⟨hI1.1,hI1.2.1,canIs_no hI1.2.2.1 hc5,?_⟩
        rw[all_take_succ O,hI1.2.2.2];simp;omega
       exact ln (⟨k1+1,u⟩:Nat × Int) ⟨hN0,hN1⟩ dO ⟨id,id,id,id,id,id,id,id,id,id,tV⟩ ⟨rI,rI,tV⟩
    ·try simp at hc3
     refine ex (xt_ (xt_ (xb (th (sq (rg (fP J T.fld72_0 (lP J J J T.one63 (fc (slenI 63 J) fun hm63=>(lnF J T.sl63 (mv (nl (th (bk ?_))))))))))))))
     have hI2_0:0≤(ix s.sT k).aP.length:=by
      first|omega|simp
     have hI2_1:(∀j,j<0→setOK (ix s.sT k) s.aC.length (ix (ix s.sT k).aP j)=true)∧∀j,j+1<0→ix (ix s.sT k).aP j<ix (ix s.sT k).aP (j+1):=by
      exact⟨fun j hj=>by omega,fun j hj=>by omega⟩
     refine lp (κ:=Nat) (fun p=> [(1,ptr 1 b1 0),(3,int (s.sT.length:Int)),(5,ptr 5 b5 0),(6,int u),(27,sl 2 sE s.sT),(28,int (s.sT.length:Int)),(29,int (k:Int)),(63,sl 1 nE (ix s.sT k).aP),(64,int ((ix s.sT k).aP.length:Int)),(65,int (p:Int))]) (fun p=> [(1,cell b1 [sl 1 rE_ s.aC,sl 2 sE s.sT]),(5,cell b5 [sl 1 nE (ix s.sT k).aP,sl 1 nE (ix s.sT k).next])]) (fun p=>(p≤(ix s.sT k).aP.length)∧((∀j,j<p→setOK (ix s.sT k) s.aC.length (ix (ix s.sT k).aP j)=true)∧∀j,j+1<p→ix (ix s.sT k).aP j<ix (ix s.sT k).aP (j+1))) (fun p=>(ix s.sT k).aP.length- p) 0 ⟨hI2_0,hI2_1⟩ ⟨id,id,id,id,id,id,id,id,id,id,tV⟩ ⟨rI,rI,tV⟩ ?_
     intro k2 hG2
     obtain⟨hk2,hI2⟩:(k2≤(ix s.sT k).aP.length)∧((∀j,j<k2→setOK (ix s.sT k) s.aC.length (ix (ix s.sT k).aP j)=true)∧∀j,j+1<k2→ix (ix s.sT k).aP j<ix (ix s.sT k).aP (j+1)):=hG2
     refine sq (rg (bi J J b_lss (nl (th (sq ?_)))))
     refine cd J (fun hc6=> ?_) (fun hc6=> ?_)
     ·try simp at hc6
      have hsk:=hsm k O k2 O
      refine sk (th (sq (bk (sq (rg (mv (iF J J T.sl63 O gB (lF J J T.one3 (ag (ag (nl (th (sq (rg (mv (bi J J b_lss (mv ?_)))))))))))))))))
      apply gOr (t:=72) (pd:=77) rfl
      rotate_left
      ·intro hg3 fin
       have hg3':=hg3
       try simp at hg3'
       exact gy J J J hg3 (mv (gy J J J hg3 (mv (gy J J J hg3 (bi J J (b_andNotI O O O O) (gy J J J hg3 (bi J J b_neq (pkF J hg3 J (drp (X:= [(76,_),(75,_),(74,_),(73,_)]) ⟨J,J,J,J,tV⟩ fin)))))))))
      ·intro hg3 fin
       exact gn J J J hg3 J J (gn J J J hg3 J J (gn J J J hg3 J J (gn J J J hg3 J J (pkT J hg3 J (drp (X:= [(76,_),(75,_),(74,_),(73,_)]) ⟨J,J,J,J,tV⟩ fin)))))
      refine mv ?_
      apply gOr (t:=78) (pd:=91) rfl
      rotate_left
      ·intro hg4 fin
       have hg4':=hg4
       try simp at hg4'
       refine gy rfl rfl rfl hg4 (mv (gy rfl rfl rfl hg4 (bi rfl rfl b_gtr (gy rfl rfl rfl hg4 (mv ?_)))))
       apply gAnd (t:=81) (pd:=90) rfl
       rotate_left
       ·intro hg5 fin
        have hg5':=hg5
        try simp at hg5'
        exact gy J J J hg5 (fP J T.fld72_0 (gy J J J hg5 (lP J J J T.one63 (gy J J J hg5 (mv (gy J J J hg5 (bi J J (b_sub i6) (gy J J J hg5 (iF J J T.sl63 O gB (gy J J J hg5 (lF J J T.one3 (gy J J J hg5 (mv (gy J J J hg5 (bi J J b_geq (gy J J J hg4 (pkT J hg5 J (drp (X:= [(89,_),(88,_),(87,_),(86,_),(85,_),(84,_),(83,_),(82,_)]) ⟨J,J,J,J,J,J,J,J,tV⟩ fin))))))))))))))))))
       ·intro hg5 fin
        exact gn J J J hg5 J J (gn J J J hg5 J J (gn J J J hg5 J J (gn J J J hg5 J J (gn J J J hg5 J J (gn J J J hg5 J J (gn J J J hg5 J J (gn J J J hg5 J J (gy J J J hg4 (pkF J hg5 J (drp (X:= [(89,_),(88,_),(87,_),(86,_),(85,_),(84,_),(83,_),(82,_)]) ⟨J,J,J,J,J,J,J,J,tV⟩ fin))))))))))
       exact pkF rfl hg4 rfl (drp (X:= [(90,_),(81,_),(80,_),(79,_)]) ⟨rfl,rfl,rfl,rfl,tV⟩ fin)
      ·intro hg4 fin
       exact gn J J J hg4 J J (gn J J J hg4 J J (gn J J J hg4 J J (gu J J J J J (gu J J J J J (gu J J J J J (gu J J J J J (gu J J J J J (gu J J J J J (gu J J J J J (gu J J J J J (gn J J J hg4 J J (pkT J hg4 J (drp (X:= [(90,_),(89,_),(88,_),(87,_),(86,_),(85,_),(84,_),(83,_),(82,_),(81,_),(80,_),(79,_)]) ⟨J,J,J,J,J,J,J,J,J,J,J,J,tV⟩ fin)))))))))))))
      refine nl (th ?_)
      refine cd J (fun hc7=> ?_) (fun hc7=> ?_)
      ·try simp at hc7
       refine sq (rg (ag (nl (th (rt (rb (rt_ (rt_ (rb (rb (rt_ (rt_ (rb (rt_ ?_))))))))))))))
       have hr0:false=(specOK s):=by
        unfold specOK
        rw[all_fail (xs:=s.sT) (k:=k) O ?_];simp
        unfold stateOK
        have hnl:(ix s.sT k).next.length=s.aC.length:=by omega
        have hcan:canIs u (ix s.sT k).next s.aC.length:=by rw[show s.aC.length=k1 by omega];exact hI1.2.2.1
        rcases Int.lt_or_le (ix (ix s.sT k).aP k2) 0 with h0|h0
        ·rw[all_fail (xs:=(ix s.sT k).aP) (k:=k2) O (setOK_neg h0)];simp
        ·rcases hc7 with(h|h)|h
         ·omega
         ·have hq:setOK (ix s.sT k) s.aC.length (ix (ix s.sT k).aP k2)=false:=by
                   cases hq:setOK (ix s.sT k) s.aC.length (ix (ix s.sT k).aP k2)
                   ·rfl
                   ·exact absurd ((setOK_iff hact hnl hcan h0).1 hq) h
          rw[all_fail (xs:=(ix s.sT k).aP) (k:=k2) O hq];simp
         ·rw[rising_not (l:=(ix s.sT k).aP) (j:=k2- 1) O (by rw[show k2- 1+1=k2 by omega];exact h.2)];simp
       exact rE () [.tmp 2] J [bl false] ⟨.tmp J,tV⟩ (cA1 (fun x0=>rV [bl x0]) hr0) trivial eX
      ·try simp at hc7
       refine sk (eb (th (rg (bi J J (b_add i6) (mv (nl ?_))))))
       have hN0:(k2+1)≤(ix s.sT k).aP.length:=by
        first|omega|simp_all
       have hN1:(∀j,j<(k2+1)→setOK (ix s.sT k) s.aC.length (ix (ix s.sT k).aP j)=true)∧∀j,j+1<(k2+1)→ix (ix s.sT k).aP j<ix (ix s.sT k).aP (j+1):=by
        have hnl:(ix s.sT k).next.length=s.aC.length:=by omega
        have hcan:canIs u (ix s.sT k).next s.aC.length:=by rw[show s.aC.length=k1 by omega];exact hI1.2.2.1
        refine⟨fun j hj=> ?_,fun j hj=> ?_⟩
        ·by_cases e:j=k2
         ·subst e;exact(setOK_iff hact hnl hcan O).2 O
         ·exact hI2.1 j O
        ·by_cases e:j+1=k2
         ·have h3:=hc7.2 O
          rw[show k2- 1=j by omega] at h3;rw[e];exact h3
         ·exact hI2.2 j O
       exact ln (k2+1) ⟨hN0,hN1⟩ dO ⟨id,id,id,id,id,id,id,id,id,id,tV⟩ ⟨rI,rI,tV⟩
     ·try simp at hc6
      refine ex (xt_ (xt_ (xb (eb (th (rg (bi J J (b_add i6) (mv (nl ?_)))))))))
      have hN0:(k+1)≤s.sT.length:=by
       first|omega|simp_all
      have hN1:(s.sT.take (k+1)).all (fun x=>stateOK x (s.sT.length:Int) s.aC.length)=true:=by
       rw[all_take_succ O,hI0]
       have hnl:(ix s.sT k).next.length=s.aC.length:=by omega
       have hk1:k1=s.aC.length:=by omega
       have hk2:k2=(ix s.sT k).aP.length:=by omega
       have hall:=hI1.2.2.2
       rw[show k1=(ix s.sT k).next.length by omega,List.take_length] at hall
       unfold stateOK
       rw[hall,rising_of (fun j hj=>hI2.2 j O),all_of_ix (fun j hj=>hI2.1 j O)]
       simp;omega
      exact ln (k+1) ⟨hN0,hN1⟩ dO ⟨id,id,id,id,id,tV⟩ ⟨rI,tV⟩
  ·try simp at hc1
   refine ex (xt_ (xt_ (xb (th (sq (rg (ag (nl (th (rt ?_))))))))))
   have hr0:true=(specOK s):=by
    unfold specOK
    rw[show k=s.sT.length by omega,List.take_length] at hI0
    rw[hI0]
    simp[hc0];omega
   exact rE () [.tmp 2] J [bl true] ⟨.tmp J,tV⟩ (cA1 (fun x0=>rV [bl x0]) hr0) trivial eX
end prog2
end
section
open ref01 ref03 ref04 ref06 prog prog2 Part
theorem fn_args {P:Program} {f:FuncId} {args args':List AV} {Hi:Hp} {ι:Type} {res:Nat→ι→AV} {Ho:ι→Hp} (h:∀{w F vs},All2 w F args' vs→All2 w F args vs) (hf:AL.Fn P f args Hi res Ho):AL.Fn P f args' Hi res Ho:=fun w F vs hv hb hH=>hf w F vs (h hv) hb hH
namespace prog3
theorem In_ok (t:Int):
 Fn0 Tryz.prog 84 [int t] (clo 112 [fp [int t]]):=by
 refine fnI Tryz.func84 rfl rfl (fun w0 F0=> ?_)
 refine sq (rg (bx1 (key:=1) (φ:=int t) J fun b1=>(ag (nl (th (sq (rg (fzv 1 1 J J (mkf (ag (nl (th (rt ?_)))))))))))))
 exact rE () [.tmp 2] J [clo 112 [fp [int t]]] ⟨.tmp J,tV⟩ J trivial eX
end prog3
end
section
open ref01 ref03 ref04 ref06 prog prog2 prog3 Part
attribute [local semireducible] andp any in
theorem andp_any {q:Prop} (hq:q) {w:World} {F:Fz} {v:Value}:(andp q any).p w F v:=⟨hq,tV⟩
theorem subH1 {x:HA} {H:Hp}:SubH [(0,x)] ((0,x)::H):=⟨by rw[lkH_same];exact rI,tV⟩
theorem shr_pos {t a:Nat} (ht:t<2^63) (h:0<t>>>a):a≤62:=by
 rw[Nat.shiftRight_eq_div_pow] at h
 rcases Nat.lt_or_ge 62 a with h1|h1
 ·have h2:2^63≤2^a:=Nat.pow_le_pow_right O O
  rw[Nat.div_eq_of_lt O] at h
  omega
 ·exact h1
theorem listOf_stop {t:Int} {a:Nat} (h:t.toNat>>>a=0):∀j,listOf (a+j) t=listOf a t
 |0=>rfl
 |j+1=>by
  rw[show a+(j+1)=a+j+1 by omega,listOf_succ,listOf_stop h j]
  have:has t ((a+j:Nat):Int)=false:=by
   unfold has
   rw[Int.toNat_natCast,Nat.testBit_eq_decide_div_mod_eq]
   rw[Nat.shiftRight_eq_div_pow] at h
   have h2:t.toNat/2^ (a+j)=0:=by
    rw[Nat.pow_add,←Nat.div_div_eq_div_mul,h,Nat.zero_div]
   rw[h2];rfl
  rw[this];simp
theorem listOf_pre (t:Int) (a:Nat):∀j,∃q,listOf (a+j) t=listOf a t++q
 |0=>⟨[],by simp⟩
 |j+1=>by
  obtain⟨q,hq⟩:=listOf_pre t a j
  rw[show a+(j+1)=a+j+1 by omega,listOf_succ,hq,List.append_assoc]
  exact⟨_,rfl⟩
theorem listOf_at {t:Int} {a:Nat} (h:has t (a:Int)=true) (ha:a≤62):(listOf 63 t)[(listOf a t).length]?=some (a:Int):=by
 obtain⟨q,hq⟩:=listOf_pre t (a+1) (62- a)
 rw[show a+1+(62- a)=63 by omega] at hq
 rw[hq,listOf_succ,if_pos h]
 simp
namespace prog4
theorem InIt (t:Int) (h0:0≤t) (h1:t<2^63):
 It Tryz.prog 112 [fp [int t]] nE (listOf 63 t):=by
 intro y Y Z hlaw hz hY0
 refine fnI Tryz.func112 rfl rfl (fun w0 F0=> ?_)
 refine sq (rg (ag (nl (th (bk ?_)))))
 have hI0_0:Y (listOf 0 t).length hz∧0≤63:=by
  exact⟨hY0,O⟩
 refine lp (κ:=Nat × HA) (fun p=> [(0,eqv y),(1,fp [int t]),(3,int (p.1:Int))]) (fun p=> [(0,p.2)]) (fun p=>Y (listOf p.1 t).length p.2∧p.1≤63) (fun p=>64- p.1) ⟨0,hz⟩ hI0_0 ⟨id,id,id,tV⟩ subH1 ?_
 intro⟨a,hh⟩ hG0
 have hI0:Y (listOf a t).length hh∧a≤63:=hG0
 show Ct _ _ _ _ [(0,eqv y),(1,fp [int t]),(3,int (a:Int))] [(0,hh)] _
 refine sq (sq (rg (lF J J T.one3 (mv (bi J J (b_shrI O O O) (bi J J b_gtr (nl (th ?_))))))))
 refine cd J (fun hc0=> ?_) (fun hc0=> ?_)
 ·skip
  have hc0:0<t.toNat>>>a:=by have h5:=of_decide_eq_true hc0;rw[Int.toNat_natCast] at h5;omega
  have ha62:=shr_pos (t:=t.toNat) O hc0
  refine sk (th (sq (bk (sq (rg (lF J J T.one3 (mv (bi J J (b_shrI O O O) (bi J J (b_and1 (m:=(t.toNat>>>a)) (Nat.lt_of_le_of_lt (Nat.shiftRight_le _ _) O)) (bi J J b_eql (mv ?_)))))))))))
  rcases Bool.eq_false_or_eq_true (decide ((((t.toNat>>>a)&&&1:Nat):Int)=1)) with hg0|hg0
  ·have hg0':=hg0
   try simp at hg0'
   have hha:has t (a:Int)=true:=by unfold has;rw[Int.toNat_natCast,has_eq];exact hg0
   have hxa:=listOf_at hha ha62
   refine gy rfl rfl rfl hg0 (mv (gy rfl rfl rfl hg0 (mv (gy rfl rfl rfl hg0 (callV (Hi:= [(0,hh)]) rfl (hlaw _ hh (a:Int) hI0.1 hxa) subH1 fun N bh=>oan 18 rfl fun hres=>(gy rfl rfl rfl hg0 (no rfl (pkT rfl hg0 rfl (nl (th ?_))))))))))
   refine cd J (fun hc1=> ?_) (fun hc1=> ?_)
   ·try simp at hc1
    refine rt (rb (rt_ (rt_ (rb ?_))))
    exact r0 bh.2 rfl (fun _=>andp_any (.inr (hres.2 hc1))) subH1 (.inr rfl)
   ·try simp at hc1
    refine sk (eb (th (rg (mv (bi J J (b_add i6) (ag (nl ?_)))))))
    have hN0:Y (listOf (a+1) t).length bh.2∧(a+1)≤63:=by
     refine⟨?_,O⟩
     rw[listOf_succ,hha];simpa using hres.1 hc1
    exact ln (⟨a+1,bh.2⟩:Nat × HA) hN0 dO ⟨id,id,id,tV⟩ subH1
  ·have hg0':=hg0
   try simp at hg0'
   have hha:has t (a:Int)=false:=by unfold has;rw[Int.toNat_natCast,has_eq];exact hg0
   refine gn rfl rfl rfl hg0 rfl rfl (gn rfl rfl rfl hg0 rfl rfl (gn rfl rfl rfl hg0 rfl rfl (gn rfl rfl rfl hg0 rfl rfl (pkF rfl hg0 rfl (nl (th ?_))))))
   refine cd J (fun hc1=> ?_) (fun hc1=> ?_)
   ·try simp at hc1
    skip
   ·try simp at hc1
    refine sk (eb (th (rg (mv (bi J J (b_add i6) (ag (nl ?_)))))))
    have hN0:Y (listOf (a+1) t).length hh∧(a+1)≤63:=by
     refine⟨?_,O⟩
     rw[listOf_succ,hha];simpa using hI0.1
    exact ln (⟨a+1,hh⟩:Nat × HA) hN0 dO ⟨id,id,id,tV⟩ subH1
 ·skip
  have hc0:t.toNat>>>a=0:=by have h5:=of_decide_eq_false hc0;rw[Int.toNat_natCast] at h5;exact Nat.eq_zero_of_not_pos (fun h=>h5 (Int.natCast_pos.2 h))
  refine ex (xt_ (xt_ (xb ?_)))
  exact r0 hh rfl (fun _=>andp_any (.inl (by have e:=listOf_stop hc0 (63- a);rw[show a+(63- a)=63 by omega] at e;rw[e];exact hI0.1))) subH1 (.inl rfl)
end prog4
end
section
open ref01 ref03 ref04 ref06 prog prog2 prog3 Part
attribute [local semireducible] eqv in
theorem eqv_rfl {x:Value} {w:World} {F:Fz}:(eqv x).p w F x:=rfl
namespace prog5
end prog5
end
end Go.Proofs.YtcjemmihcplgdaaGreat
