/- The walks of the functions and the plain laws. Own texts of this claim, packed: Mksearch, MkMergeM, MkBisM, MkBisM2, MkBisM3, MkBisM4, MkTurnM, MkBisM5, MkWalkM, Mkrefw, Mkprog12, Mkprog13, Mkstarts, Mkprog15, MkStepM. -/
import Derived.Test.YtnlfjojfgghchaaGreatDoorX03
import Derived.Test.YtnlfjojfgghchaaGreatDoorX05
import Derived.Test.YtnlfjojfgghchaaGreatDoorX04
import Derived.Test.YtnlfjojfgghchaaGreatDoorX02
set_option linter.all false
namespace Go.Proofs.YtnlfjojfgghchaaGreatDoor
open AL Go
set_option maxRecDepth 100000
section
open ref01 ref03
def bsP (l:List Int) (t:Int):Nat:=(l.takeWhile fun y=>decide (y<t)).length
theorem LB {p:Int→Bool}:∀{l:List Int} {i:Nat},i≤l.length→(∀k,k<i→p (ix l k)=true)→(i<l.length→p (ix l i)=false)→(l.takeWhile p).length=i
 | [],i,h,_,_=>by have:i=0:=by simpa using h
                  subst this;rfl
 |y::l,0,_,_,h=>by
  have h1:p y=false:=h (by simp)
  simp[List.takeWhile_cons,h1]
 |y::l,i+1,hi,h,h'=>by
  have h1:p y=true:=h 0 O
  have h2:=LB (p:=p) (l:=l) (i:=i) (by simpa using hi) (fun k hk=>h (k+1) O) (fun hl=>h' (by simpa using hl))
  simp[List.takeWhile_cons,h1,h2]
theorem CB {l:List Int} (h:rising l=true) {i j:Nat} (hij:i<j) (hj:j<l.length):ix l i<ix l j:=by
 have hst:∀k,i+(k+1)<l.length→ix l i<ix l (i+(k+1)):=fun k=>by
  induction k with
  |zero=>
   intro hk
   unfold rising at h
   have:=List.all_eq_true.1 h i (List.mem_range.2 O)
   simpa using this
  |succ k ih=>
   intro hk
   have h1:=ih O
   unfold rising at h
   have:=List.all_eq_true.1 h (i+(k+1)) (List.mem_range.2 O)
   have h2:ix l (i+(k+1))<ix l (i+(k+1)+1):=by simpa using this
   rw[show i+(k+1+1)=i+(k+1)+1 by omega]
   omega
 have:=hst (j- i- 1) O
 rwa [show i+(j- i- 1+1)=j by omega] at this
theorem LC {l:List Int} (h:rising l=true) {t:Int} {i:Nat} (h1:∀k,k<i→ix l k<t) (h2:∀k,i≤k→k<l.length→t≤ix l k):(decide ((i:Int)<(l.length:Int))&&decide (ix l i=t))=decide (t∈l):=by
 by_cases hm:t∈l
 ·rw[decide_eq_true hm]
  obtain⟨k,hk,e⟩:=List.getElem_of_mem hm
  rw[←aD hk] at e
  have hki:i≤k:=by
   rcases Nat.lt_or_ge k i with h3|h3
   ·have:=h1 k h3;omega
   ·exact h3
  have hil:i<l.length:=by omega
  have:ix l i=t:=by
   rcases Nat.lt_or_ge i k with h3|h3
   ·have g1:=CB h h3 hk
    have g2:=h2 i (Nat.le_refl _) hil
    omega
   ·have:i=k:=by omega
    subst this;exact e
  rw[decide_eq_true O,decide_eq_true this];rfl
 ·rw[decide_eq_false hm]
  by_cases hil:i<l.length
  ·rw[decide_eq_false (p:=ix l i=t) (fun e=>hm (by rw[←e,aD hil];exact List.getElem_mem hil))];simp
  ·rw[decide_eq_false O];rfl
namespace T
theorem LD:Ent Tryz.prog 175:=aN kR
theorem Vf:Ent Tryz.prog 163:=aN kR
theorem LF:Ent Tryz.prog 164:=aN kR
theorem Vg:Ent Tryz.prog 136:=aN kR
end T
namespace search
theorem HV (x:Int):
 Fn0 Tryz.prog 175 [int x] (bl false):=by
 refine fnI Tryz.func175 rfl rfl (fun w0 F0=> ?_)
 refine sq (rg (ag (nl (th (sq (rg (mv (mv (bi J J fI (ag (nl (th (rt ?_)))))))))))))
 have hr0:(decide (x≠x))=false:=by
  first|rfl|simp_all|omega
 exact rE () [.tmp 2] J [bl (decide (x≠x))] ⟨.tmp J,tV⟩ (cA1 (fun x0=>rV [bl x0]) hr0) trivial eX
theorem HX (x:Int):
 Fn0 Tryz.prog 164 [int x] (bl false):=by
 refine fnI Tryz.func164 rfl rfl (fun w0 F0=> ?_)
 refine sq (rg (ag (nl (th (sq (rg (mv (mv (bi J J fI (ag (nl (th (rt ?_)))))))))))))
 have hr0:(decide (x≠x))=false:=by
  first|rfl|simp_all|omega
 exact rE () [.tmp 2] J [bl (decide (x≠x))] ⟨.tmp J,tV⟩ (cA1 (fun x0=>rV [bl x0]) hr0) trivial eX
theorem Sc (x y:Int):
 Fn0 Tryz.prog 163 [int x,int y] (bl (decide (x<y))):=by
 refine fnI Tryz.func163 rfl rfl (fun w0 F0=> ?_)
 refine sq (rg (ag (nl (th (sq (rg (mv (bB (φs:= [int x]) (φ:=bl false) ⟨J,tV⟩ (search.HV _) T.LD (mv ?_)))))))))
 apply cZ (t:=7) (pd:=11) rfl
 rotate_left
 ·intro hg0 fin
  exact gy J J J hg0 (mv (gy J J J hg0 (bB (φs:= [int y]) (φ:=bl false) ⟨J,tV⟩ (search.HV _) T.LD (gy J J J hg0 (no J (pkT J hg0 J (drp (X:= [(10,_),(9,_),(8,_)]) ⟨J,J,J,tV⟩ fin)))))))
 ·intro hg0 fin
  exact gn J J J hg0 J J (gn J J J hg0 J J (gn J J J hg0 J J (pkF J hg0 J (drp (X:= [(10,_),(9,_),(8,_)]) ⟨J,J,J,tV⟩ fin))))
 refine mv ?_
 apply gOr (t:=12) (pd:=16) rfl
 rotate_left
 ·intro hg1 fin
  have hg1':=hg1
  try simp at hg1'
  exact gy J J J hg1 (mv (gy J J J hg1 (mv (gy J J J hg1 (bi J J aO (pkF J hg1 J (drp (X:= [(15,_),(14,_),(13,_)]) ⟨J,J,J,tV⟩ fin)))))))
 ·intro hg1 fin
  exact gn J J J hg1 J J (gn J J J hg1 J J (gn J J J hg1 J J (pkT J hg1 J (drp (X:= [(15,_),(14,_),(13,_)]) ⟨J,J,J,tV⟩ fin))))
 refine ag (nl (th (rt ?_)))
 have hr0:((false&&(!false))||(decide (x<y)))=(decide (x<y)):=by
  simp
 exact rE () [.tmp 4] J [bl ((false&&(!false))||(decide (x<y)))] ⟨.tmp J,tV⟩ (cA1 (fun x0=>rV [bl x0]) hr0) trivial eX
theorem LG (l:List Int) (hr:rising l=true) (t:Int):
 Fn0 Tryz.prog 136 [ints l,int t] (tup [int (bsP l t:Int),bl (decide (t∈l))]):=by
 refine fnI Tryz.func136 rfl rfl (fun w0 F0=> ?_)
 refine fcC (aV 0 J) (fun hm0=> ?_)
 refine sq (rg (ag (ag (nl (th (sq (rg (mv (lnF J T.aX (ag (nl (th (sq (rg (mv (ag (ag (nl (th (sq (bk ?_)))))))))))))))))))))
 have hI0_0:0≤l.length∧l.length≤l.length∧(∀k,k<0→ix l k<t)∧(∀k,l.length≤k→k<l.length→t≤ix l k):=by
  exact⟨Nat.zero_le _,Nat.le_refl _,fun k hk=>by omega,fun k hk hl=>by omega⟩
 refine lp (κ:=Nat × Nat) (fun p=> [(0,sl 1 nE l),(1,int t),(4,int 0),(5,bl false),(6,int (l.length:Int)),(7,int (p.1:Int)),(8,int (p.2:Int))]) (fun p=> []) (fun p=>p.1≤p.2∧p.2≤l.length∧(∀k,k<p.1→ix l k<t)∧(∀k,p.2≤k→k<l.length→t≤ix l k)) (fun p=>p.2- p.1) ⟨0,l.length⟩ hI0_0 ⟨id,id,id,id,id,id,id,tV⟩ trivial ?_
 intro⟨i,j⟩ hG0
 have hI0:i≤j∧j≤l.length∧(∀k,k<i→ix l k<t)∧(∀k,j≤k→k<l.length→t≤ix l k):=hG0
 show Ct _ _ _ _ [(0,sl 1 nE l),(1,int t),(4,int 0),(5,bl false),(6,int (l.length:Int)),(7,int (i:Int)),(8,int (j:Int))] [] _
 obtain⟨hij,hjl,hlo,hhi⟩:=hI0
 refine sq (sq (rg (mv (mv (bi J J aO (nl (th ?_)))))))
 refine cd J (fun hc0=> ?_) (fun hc0=> ?_)
 ·try simp at hc0
  refine sk (th (bk (sq (rg (mv (mv (bi J J (aG i6) (cv J T.kd3 T.Bu (mQ ⟨O,O⟩) (bi J J (Sb O) (cv J T.Bu T.kd3 (oN ⟨O,O⟩) (ag (nl (th (sq (rg (mv (mv (iF J J T.aX O gB (lF J J T.aF (mv (bB (φs:= [int (ix l ((i+j)/2)),int t]) (φ:=bl (decide ((ix l ((i+j)/2))<t))) ⟨J,J,tV⟩ (search.Sc _ _) T.Vf (nl (th ?_)))))))))))))))))))))))
  refine cd J (fun hc1=> ?_) (fun hc1=> ?_)
  ·try simp at hc1
   refine rg (mv (bi J J (aG i6) (ag (nl (eb ?_)))))
   have hN0:((i+j)/2+1)≤j∧j≤l.length∧(∀k,k<((i+j)/2+1)→ix l k<t)∧(∀k,j≤k→k<l.length→t≤ix l k):=by
    refine⟨O,O,fun k hk=> ?_,hhi⟩
    by_cases e:k=(i+j)/2
    ·subst e;exact hc1
    ·have:=CB hr (i:=k) (j:=(i+j)/2) O O
     omega
   exact ln (⟨(i+j)/2+1,j⟩:Nat × Nat) hN0 dO ⟨id,id,id,id,id,id,id,tV⟩ trivial
  ·try simp at hc1
   refine rg (mv (ag (nl (eb ?_))))
   have hN0:i≤((i+j)/2)∧((i+j)/2)≤l.length∧(∀k,k<i→ix l k<t)∧(∀k,((i+j)/2)≤k→k<l.length→t≤ix l k):=by
    refine⟨O,O,hlo,fun k hk hl=> ?_⟩
    by_cases e:k=(i+j)/2
    ·subst e;omega
    ·have:=CB hr (i:=(i+j)/2) (j:=k) O hl
     omega
   exact ln (⟨i,(i+j)/2⟩:Nat × Nat) hN0 dO ⟨id,id,id,id,id,id,id,tV⟩ trivial
 ·try simp at hc0
  refine ex (xt_ (xt_ (xb (th (sq (rg (mv (mv (mv (bi J J aO (mv ?_)))))))))))
  apply cZ (t:=35) (pd:=53) rfl
  rotate_left
  ·intro hg0 fin
   have hg0':=hg0
   try simp at hg0'
   refine gy rfl rfl rfl hg0 (mv (gy rfl rfl rfl hg0 (mv (gy rfl rfl rfl hg0 (iF rfl rfl T.aX O gB (gy rfl rfl rfl hg0 (lF rfl rfl T.aF (gy rfl rfl rfl hg0 (mv (gy rfl rfl rfl hg0 (bi rfl rfl dZ (gy rfl rfl rfl hg0 (mv ?_)))))))))))))
   apply gOr (t:=42) (pd:=52) rfl
   rotate_left
   ·intro hg1 fin
    have hg1':=hg1
    try simp at hg1'
    refine gy rfl rfl rfl hg1 (mv (gy rfl rfl rfl hg1 (mv (gy rfl rfl rfl hg1 (iF rfl rfl T.aX O gB (gy rfl rfl rfl hg1 (lF rfl rfl T.aF (gy rfl rfl rfl hg1 (bB (φs:= [int (ix l i)]) (φ:=bl false) ⟨rfl,tV⟩ (search.HX _) T.LF (gy rfl rfl rfl hg1 (mv ?_)))))))))))
    apply cZ (t:=48) (pd:=51) rfl
    rotate_left
    ·intro hg2 fin
     exact gy J J J hg2 (mv (gy J J J hg2 (bB (φs:= [int t]) (φ:=bl false) ⟨J,tV⟩ (search.HX _) T.LF (gy J J J hg1 (pkT J hg2 J (drp (X:= [(50,_),(49,_)]) ⟨J,J,tV⟩ fin))))))
    ·intro hg2 fin
     exact gn J J J hg2 J J (gn J J J hg2 J J (gy J J J hg1 (pkF J hg2 J (drp (X:= [(50,_),(49,_)]) ⟨J,J,tV⟩ fin))))
    exact gy J J J hg0 (pkF J hg1 J (drp (X:= [(51,_),(48,_),(47,_),(46,_),(45,_),(44,_),(43,_)]) ⟨J,J,J,J,J,J,J,tV⟩ fin))
   ·intro hg1 fin
    exact gn J J J hg1 J J (gn J J J hg1 J J (gn J J J hg1 J J (gn J J J hg1 J J (gn J J J hg1 J J (gn J J J hg1 J J (gu J J J J J (gu J J J J J (gn J J J hg1 J J (gy J J J hg0 (pkT J hg1 J (drp (X:= [(51,_),(50,_),(49,_),(48,_),(47,_),(46,_),(45,_),(44,_),(43,_)]) ⟨J,J,J,J,J,J,J,J,J,tV⟩ fin)))))))))))
   exact pkT rfl hg0 rfl (drp (X:= [(52,_),(42,_),(41,_),(40,_),(39,_),(38,_),(37,_),(36,_)]) ⟨rfl,rfl,rfl,rfl,rfl,rfl,rfl,rfl,tV⟩ fin)
  ·intro hg0 fin
   exact gn J J J hg0 J J (gn J J J hg0 J J (gn J J J hg0 J J (gn J J J hg0 J J (gn J J J hg0 J J (gn J J J hg0 J J (gn J J J hg0 J J (gu J J J J J (gu J J J J J (gu J J J J J (gu J J J J J (gu J J J J J (gu J J J J J (gu J J J J J (gu J J J J J (gu J J J J J (gn J J J hg0 J J (pkF J hg0 J (drp (X:= [(52,_),(51,_),(50,_),(49,_),(48,_),(47,_),(46,_),(45,_),(44,_),(43,_),(42,_),(41,_),(40,_),(39,_),(38,_),(37,_),(36,_)]) ⟨J,J,J,J,J,J,J,J,J,J,J,J,J,J,J,J,J,tV⟩ fin))))))))))))))))))
  refine ag (ag (nl (th (rt ?_))))
  have hr0:((i:Int):Int)=(bsP l t:Int):=by
   have:i=j:=by omega
   subst this
   unfold bsP
   rw[LB O (fun k hk=>by simpa using hlo k hk) (fun hil=>by simpa using hhi i (Nat.le_refl _) hil)]
  have hr1:((decide ((i:Int)<(l.length:Int)))&&((decide ((ix l i)=t))||(false&&false)))=(decide (t∈l)):=by
   have:i=j:=by omega
   subst this
   rw[←LC hr hlo hhi]
   simp
  exact rE () [.tmp 4,.tmp 5] J [int (i:Int),bl ((decide ((i:Int)<(l.length:Int)))&&((decide ((ix l i)=t))||(false&&false)))] ⟨.tmp J,.tmp J,tV⟩ (cA2 (fun x0 x1=>rV [int x0,bl x1]) hr0 hr1) trivial eX
theorem nY (x:SA) (hr:rising x.aP=true) (t:Int):
 Fn0 Tryz.prog 97 [state x,int t] (bl (decide (t∈x.aP))):=by
 refine fnI Tryz.func97 rfl rfl (fun w0 F0=> ?_)
 refine fcC (bW 0 J) (fun hS0=> ?_)
 obtain⟨hxa0,hxn0⟩:=qU hS0
 refine sq (rg (bx (key:=2) (cs:= [sl 1 nE x.aP,sl 1 nE x.next]) J fun b2=>(ag (nl (th (sq (rg (fP J T.cK (lP J J J T.bD (mv (bB (φs:= [sl 1 nE x.aP,int t]) (φ:=tup [int (bsP x.aP t:Int),bl (decide (t∈x.aP))]) ⟨J,J,tV⟩ (search.LG _ aS _) T.Vg (mv (xt J J (xt J J (ag (ag (nl (th (sq (rg (mv (ag (nl (th (rt ?_)))))))))))))))))))))))))
 exact rE () [.tmp 4] J [bl (decide (t∈x.aP))] ⟨.tmp J,tV⟩ J trivial eX
end search
end
section
open ref01 ref03 ref04 ref06 Part Rungs LeftM TrimM Itoa Keys RoundM
namespace MergeM
theorem nI {l:List Int} (h:rising l=true):l.Pairwise (· < ·):=by
 rw[List.pairwise_iff_getElem]
 intro i j hi hj hij
 have hstep:∀k,i+k<l.length→ix l i≤ix l (i+k)∧(0<k→ix l i<ix l (i+k)):=fun k=>by
  induction k with
  |zero=>exact fun _=>⟨Int.le_refl _,fun h=>by omega⟩
  |succ k ih=>
   intro hk
   have h1:=ih O
   have h2:=Dl h (i:=i+k) O
   rw[show i+(k+1)=i+k+1 by omega]
   exact⟨O,fun _=>by omega⟩
 have:=(hstep (j- i) O).2 O
 rw[show i+(j- i)=j by omega,aD hi,aD hj] at this
 exact this
theorem xS {l:List Int} (h:l.Pairwise (· < ·)):rising l=true:=by
 unfold rising
 rw[List.all_eq_true]
 intro i hi
 have hi:=List.mem_range.1 hi
 rw[decide_eq_true_eq,aD O,aD O]
 exact List.pairwise_iff_getElem.1 h i (i+1) O O O
theorem mD {s:SS} (hs:oK s) {x:Nat} (hx:x<s.sT.length):rising (keep s x)=true:=
 xS ((nI (hs.st x hx).rise).filter _)
theorem vW {s:SS} {x:Int} {a:Nat} (ha:a<s.aC.length):ix (iZ s x) a=if has (aZ (keep s x.toNat)) (a:Int) then dV (aL s) (ix (ix s.sT x.toNat).next a) else-1:=bS ha
theorem iB {s:SS} (hs:oK s) {i:Nat} (hi:i<(aL s).length):0≤ix (aL s) i∧ix (aL s) i<(s.sT.length:Int):=(show okQ s.sT.length (aL s) from xK hs).1 i hi
theorem nZ {s:SS} (hs:oK s):(aL s).length≤s.sT.length:=(show okQ s.sT.length (aL s) from xK hs).le
noncomputable abbrev tS (s:SS):SS:=⟨s.aC,(aL s).map (fM s)⟩
theorem kC (s:SS):(tS s).sT.length=(aL s).length:=by simp
theorem mK {s:SS} {i:Nat} (hi:i<(aL s).length):ix (tS s).sT i=fM s (ix (aL s) i):=by
 rw[aD (by rw[kC];exact hi),aD hi];simp
theorem QV {s:SS} (hs:oK s):oK (tS s):=by
 have hop:=mV s
 have hol:=nZ hs
 have hf1:=hs.few1
 have hn8:=hs.n8
 refine⟨hs.acts,hs.n8,by rw[kC];exact hop,by rw[kC];omega,fun k hk=> ?_⟩
 rw[kC] at hk ⊢
 rw[mK hk]
 have hb:=iB hs hk
 have hx:(ix (aL s) k).toNat<s.sT.length:=by omega
 have hkb:=Sa hs (ix (aL s) k).toNat
 refine⟨by simp[fM,iZ],fun a ha=> ?_,fun i hi=>hkb.1 _ (iJ hi),fun i hi a ha=> ?_,mD hs hx⟩
 ·show-1≤ix (iZ s _) a∧ix (iZ s _) a<_
  rw[vW (s:=s) ha]
  split
  ·have:=gW (aL s) (ix (ix s.sT (ix (aL s) k).toNat).next a)
   omega
  ·omega
 ·have hh:has (aZ (keep s (ix (aL s) k).toNat)) (a:Int)=true:=(dE _ _).2 ⟨_,iJ hi,ha⟩
  have hg:=kV hs hx hh
  have hal:a<s.aC.length:=by have:=(hs.st _ hx).len;omega
  refine⟨hal,?_⟩
  show 0≤ix (iZ s _) a
  rw[vW hal,if_pos hh]
  exact(gW _ _).1
open Classical in
theorem jJ {s:SS} {x:Nat} (hx:x<s.sT.length):ix (hOl s) x=true↔Hol s x:=by
 unfold hOl;rw[bS hx];simp
theorem Bz {s:SS} {x:Nat} (hx:¬x<s.sT.length):ix (hOl s) x=false:=by
 have:(hOl s)[x]?=none:=List.getElem?_eq_none (by rw[nT];omega)
 unfold ix
 rw[List.getD_eq_getElem?_getD,this];rfl
theorem yY {s:SS} {x:Nat} (hx:x<s.sT.length) (h:ix (hOl s) x=false):keep s x≠[]:=fun he=>by
 have hH:¬Hol s x:=fun hh=>by rw[(jJ hx).2 hh] at h;cases h
 refine hH (nS s x hx (fun i hi=> ?_))
 rw[kF h,List.filter_eq_nil_iff] at he
 have h1:=he _ (iJ hi)
 simp only [Bool.not_eq_true',Bool.not_eq_false] at h1
 obtain⟨a,h2,h3,h4,h5⟩:=jG.1 h1
 refine⟨a,h2,h3,h4,?_⟩
 by_cases hb:(ix (ix s.sT x).next a).toNat<s.sT.length
 ·exact(jJ hb).1 h5
 ·rw[Bz hb] at h5;cases h5
theorem xT {s:SS} (hs:oK s) (h0:ix (hOl s) 0=false) {i:Nat} (hi:i<(aL s).length):ix (hOl s) (ix (aL s) i).toNat=false:=
 vU hs h0 _ _ (iJ hi)
theorem xU {s:SS} (hs:oK s) (h0:ix (hOl s) 0=false) (i:Nat):ix (hOl (tS s)) i=false:=by
 by_cases hi:i<(tS s).sT.length
 ·cases hv:ix (hOl (tS s)) i with
  |false=>rfl
  |true=>
   have h:=(jJ hi).1 hv
   exfalso
   refine h (fun _=>False) (fun x hx hc=> ?_)
   rw[kC] at hx
   have hb:=iB hs hx
   have hne:=yY (s:=s) (x:=(ix (aL s) x).toNat) O (xT hs h0 hx)
   have hl:0<(ix (tS s).sT x).aP.length:=by rw[mK hx];exact List.length_pos_iff.2 hne
   obtain⟨_,_,_,_,h⟩:=hc 0 hl
   exact h
 ·exact Bz hi
theorem HY {s:SS} (hs:oK s) (h0:ix (hOl s) 0=false) {i:Nat} (hi:i<(aL s).length):keep (tS s) i=keep s (ix (aL s) i).toNat:=by
 rw[kF (xU hs h0 i),mK hi]
 show(keep s _).filter _=_
 rw[List.filter_eq_self]
 intro t _
 rw[Bool.not_eq_true']
 cases hf:eH (fM s (ix (aL s) i)) t (hOl (tS s)) with
 |false=>rfl
 |true=>
  obtain⟨a,_,_,_,h⟩:=jG.1 hf
  rw[xU hs h0] at h;cases h
theorem LH {y:Int}:∀(ks l:List Int),y∈l→y∈visit l ks:=fun ks l h=>(fZ ks l).subset h
theorem tL {y:Int} (h0:0≤y):∀(ks l:List Int),y∈ks→y∈visit l ks
 |k::ks,l,h=>by
  rw[jL,List.foldl_cons]
  rcases List.mem_cons.1 h with rfl|h
  ·refine LH ks _ ?_
   unfold kB
   by_cases hc:l.contains y=true
   ·rw[hc];simp;exact List.contains_iff_mem.1 hc
   ·simp only [Bool.not_eq_true] at hc
    rw[hc,if_pos (by simp[h0])];simp
  ·exact tL h0 ks _ h
theorem oC {s:SS} (hs:oK s) {i:Nat} (hi:i<(aL s).length) {a:Nat} (ha:has (aZ (keep s (ix (aL s) i).toNat)) (a:Int)=true):ix (ix s.sT (ix (aL s) i).toNat).next a∈aL s:=by
 have hol:=nZ hs
 have hi2:i<(bq (aW s) i).length:=by
  rcases Nat.lt_or_ge i (bq (aW s) i).length with h|h
  ·exact h
  ·have he:=Bs hs h O
   have:(aL s).length≤i:=by show(order (aW s)).length≤i;rw[←he];exact h
   omega
 have hp:=mU hs (i:=i) O
 have hix:ix (aL s) i=ix (bq (aW s) i) i:=nG hp hi2
 have hp1:=mU hs (i:=i+1) O
 rw[Cx hs hi2] at hp1
 refine hp1.subset ?_
 have hb:=iB hs hi
 have hg:=kV hs (x:=(ix (aL s) i).toNat) O ha
 rw[←hix]
 have hn8:=hs.n8
 have hl:=(hs.st (ix (aL s) i).toNat O).len
 refine tL hg.2.1 _ _ (List.mem_map.2 ⟨(a:Int),eP.2 ⟨a,rfl,O,ha⟩,by rw[Int.toNat_natCast]⟩)
def mat (cl from_:List Int) (n:Nat):Nat→List Int
 |0=>List.replicate n (-1)
 |k+1=>(mat cl from_ n k).set (ix from_ k).toNat (ix cl k)
end MergeM
end
section
open ref01 ref03 ref04 ref06 Part Rungs LeftM TrimM Itoa Keys RoundM MergeM
namespace BisM
abbrev acc (T:SS) (x:Nat):List Int:=(ix T.sT x).aP
abbrev nxt (T:SS) (x:Nat):List Int:=(ix T.sT x).next
def QX (R:Nat→Nat→Prop) (k j:Int):Prop:=(k<0↔j<0)∧(0≤k→R k.toNat j.toNat)
structure Bis (T U:SS) (R:Nat→Nat→Prop):Prop where
 acc:∀{x y},R x y→acc T x=acc U y
 len:∀{x y},R x y→(nxt T x).length=(nxt U y).length
 nxt:∀{x y},R x y→∀a,a<(nxt T x).length→QX R (ix (nxt T x) a) (ix (nxt U y) a)
def Sim2 (T U:SS) (x y:Nat):Prop:=∃R,Bis T U R∧R x y
theorem Oh (T:SS) (x:Nat):Sim2 T T x x:=
 ⟨Eq,⟨fun h=>by rw[h],fun h=>by rw[h],fun {x y} h a ha=>by subst h;exact⟨Iff.rfl,fun _=>rfl⟩⟩,rfl⟩
theorem Sim2.symm {T U:SS} {x y:Nat} (h:Sim2 T U x y):Sim2 U T y x:=by
 obtain⟨R,hR,hxy⟩:=h
 refine⟨fun a b=>R b a,⟨fun h=>(hR.acc h).symm,fun h=>(hR.len h).symm,fun {a b} h i hi=> ?_⟩,hxy⟩
 obtain⟨h1,h2⟩:=hR.nxt h i (by rw[hR.len h];exact hi)
 exact⟨h1.symm,fun h0=>h2 O⟩
theorem Sim2.trans {T U V:SS} {x y z:Nat} (h:Sim2 T U x y) (h':Sim2 U V y z):Sim2 T V x z:=by
 obtain⟨R,hR,hxy⟩:=h
 obtain⟨S,hS,hyz⟩:=h'
 refine⟨fun a c=> ∃b,R a b∧S b c,⟨fun⟨b,h1,h2⟩=>(hR.acc h1).trans (hS.acc h2),fun⟨b,h1,h2⟩=>(hR.len h1).trans (hS.len h2),fun {a c} ⟨b,h1,h2⟩ i hi=> ?_⟩,y,hxy,hyz⟩
 obtain⟨g1,g2⟩:=hR.nxt h1 i hi
 obtain⟨g3,g4⟩:=hS.nxt h2 i (by rw[←hR.len h1];exact hi)
 exact⟨g1.trans g3,fun h0=>⟨_,g2 h0,g4 O⟩⟩
theorem CC (T U:SS):Bis T U (Sim2 T U):=by
 refine⟨fun⟨R,hR,h⟩=>hR.acc h,fun⟨R,hR,h⟩=>hR.len h,fun {x y} ⟨R,hR,h⟩ a ha=> ?_⟩
 obtain⟨h1,h2⟩:=hR.nxt h a ha
 exact⟨h1,fun h0=>⟨R,hR,h2 h0⟩⟩
theorem Fv {s:SS} (hs:oK s) (h0:ix (hOl s) 0=false):aW (tS s)=tS s:=by
 unfold aW
 congr 1
 apply List.ext_getElem
 ·simp
 ·intro i h1 h2
  simp only [List.length_map,List.length_range] at h1
  rw[List.getElem_map,List.getElem_range]
  have hi:i<(aL s).length:=by simpa using h1
  have hk:=HY hs h0 hi
  have e:(List.map (fM s) (aL s))[i]=ix (tS s).sT i:=(aD (by rw[kC];exact hi)).symm
  rw[e]
  unfold vS
  rw[hk,mK hi]
  unfold fM
  congr 1
  unfold cut iZ
  have hl:(List.map (fun(a:Nat)=>if has (aZ (keep s (ix (aL s) i).toNat)) (a:Int)=true then dV (aL s) (ix (ix s.sT (ix (aL s) i).toNat).next a) else-1) (List.range s.aC.length)).length=s.aC.length:=by simp
  show List.map _ (List.range (List.map _ (List.range _)).length)=_
  rw[List.length_map,List.length_range]
  refine List.map_congr_left (fun a ha=> ?_)
  have ha:=List.mem_range.1 ha
  rw[bS ha]
  split
  ·rfl
  ·rfl
theorem Vh {s:SS} (hs:oK s) (h0:ix (hOl s) 0=false) {i:Nat} (hi:i<(aL s).length):Sim2 (tS s) (aW s) i (ix (aL s) i).toNat:=by
 refine⟨fun a b=>a<(aL s).length∧b=(ix (aL s) a).toNat,⟨fun {a b} ⟨ha,hb⟩=> ?_,fun {a b} ⟨ha,hb⟩=> ?_,fun {a b} ⟨ha,hb⟩ k hk=> ?_⟩,hi,rfl⟩
 ·subst hb
  have hbd:=iB hs ha
  show(ix (tS s).sT a).aP=(ix (aW s).sT _).aP
  rw[mK ha,fY O]
  rfl
 ·subst hb
  have hbd:=iB hs ha
  show(ix (tS s).sT a).next.length=(ix (aW s).sT _).next.length
  rw[mK ha,lL hs O]
  simp[fM,iZ]
 ·subst hb
  have hbd:=iB hs ha
  have hx:(ix (aL s) a).toNat<s.sT.length:=by omega
  have hk':k<s.aC.length:=by
   have:(nxt (tS s) a).length=s.aC.length:=by show(ix (tS s).sT a).next.length=_;rw[mK ha];simp[fM,iZ]
   omega
  have e1:ix (nxt (tS s) a) k=ix (iZ s (ix (aL s) a)) k:=by show ix (ix (tS s).sT a).next k=_;rw[mK ha];rfl
  have e2:ix (nxt (aW s) (ix (aL s) a).toNat) k=ix (cut (ix s.sT (ix (aL s) a).toNat) (aZ (keep s (ix (aL s) a).toNat))) k:=by show ix (ix (aW s).sT _).next k=_;rw[fY hx];rfl
  rw[e1,e2,vW hk',xJ (by rw[(hs.st _ hx).len];exact hk')]
  by_cases hh:has (aZ (keep s (ix (aL s) a).toNat)) (k:Int)=true
  ·rw[if_pos hh,if_pos hh]
   have hg:=kV hs hx hh
   obtain⟨p1,p2⟩:=kG (oC hs ha hh)
   have p0:=(gW (aL s) (ix (ix s.sT (ix (aL s) a).toNat).next k)).1
   refine⟨⟨fun h=>by omega,fun h=>by omega⟩,fun _=>⟨O,by rw[p2]⟩⟩
  ·rw[if_neg hh,if_neg hh]
   exact⟨Iff.rfl,fun h=>by omega⟩
end BisM
end
section
open ref01 ref03 ref04 ref06 Part Rungs LeftM TrimM Itoa Keys RoundM MergeM BisM
namespace BisM2
noncomputable abbrev cnt (s:SS) (k:Nat):Nat:=(qV (alike (aW (tS s)) (itR (tS s) (tS s).sT.length).1) k).2.length
theorem rU (s:SS):ix (aL s) 0=0:=by
 have h:=tG (aW s) 0 (aW s).sT.length
 rw[Nat.zero_add] at h
 exact nG h (j:=0) (by show 0< [(0:Int)].length;simp)
end BisM2
end
section
open ref01 ref03 ref04 ref06 Part Rungs LeftM TrimM Itoa Keys RoundM MergeM BisM BisM2
namespace BisM3
def rg (c:Nat):List Int:=(List.range c).map fun(k:Nat)=>(k:Int)
theorem xV (c:Nat):(rg c).length=c:=by simp[rg]
theorem Es {c k:Nat} (h:k<c):ix (rg c) k=(k:Int):=bS h
theorem Sg (c:Nat):rg (c+1)=rg c++ [(c:Int)]:=by unfold rg;rw[List.range_succ,List.map_append];rfl
theorem Vi {c:Nat} {y:Int}:y∈rg c↔0≤y∧y<(c:Int):=by
 unfold rg
 rw[List.mem_map]
 constructor
 ·rintro⟨k,hk,rfl⟩
  have:=List.mem_range.1 hk
  omega
 ·rintro⟨h0,h1⟩
  exact⟨y.toNat,List.mem_range.2 O,O⟩
theorem tM {l:List Int} {k:Int} (h:k<0∨k∈l):kB l k=l:=by
 unfold kB
 rw[if_neg]
 simp only [Bool.and_eq_true,decide_eq_true_eq,Bool.not_eq_true',not_and,Bool.not_eq_false]
 intro h0
 rcases h with h|h
 ·omega
 ·exact List.contains_iff_mem.2 h
theorem vX {l:List Int} {k:Int} (h0:0≤k) (h:k∉l):kB l k=l++ [k]:=by
 unfold kB
 rw[if_pos]
 simp only [Bool.and_eq_true,decide_eq_true_eq,Bool.not_eq_true']
 refine⟨h0,?_⟩
 cases hc:l.contains k with
 |false=>rfl
 |true=>exact absurd (List.contains_iff_mem.1 hc) h
theorem BA (l ks:List Int) (k:Int):visit l (k::ks)=visit (kB l k) ks:=rfl
theorem tN (l ks:List Int) (k:Int):visit l (ks++ [k])=kB (visit l ks) k:=by rw[jL,List.foldl_append];rfl
theorem zM {g:Int→Int} (hg:∀k,0≤g k):∀(ks l:List Int),visit [] ((visit l ks).map g)=visit (visit [] (l.map g)) (ks.map fun k=>if 0≤k then g k else k)
 | [],_=>rfl
 |k::ks,l=>by
  rw[BA,zM hg ks,List.map_cons,BA]
  congr 1
  by_cases hk:k<0∨k∈l
  ·rw[tM hk]
   by_cases h0:k<0
   ·rw[if_neg O,tM (.inl h0)]
   ·rw[if_pos O,tM (.inr (tL (hg k) _ _ (List.mem_map.2 ⟨k,hk.resolve_left h0,rfl⟩)))]
  ·have h0:0≤k:=by have:=fun h=>hk (.inl h);omega
   rw[vX h0 (fun h=>hk (.inr h)),if_pos h0,List.map_append,List.map_cons,List.map_nil,tN]
theorem Hc {α:Type} {l m:List α} (h:l<+:m):l=m.take l.length:=by
 obtain⟨t,rfl⟩:=h
 simp
noncomputable abbrev qn (s:SS) (i:Nat):Nat:=(bq (aW s) i).length
theorem HZ {s:SS} (hs:oK s) {i:Nat} (hi:i≤s.sT.length):bq (aW s) i=(aL s).take (qn s i):=Hc (mU hs hi)
theorem QZ {s:SS} (hs:oK s) {i:Nat} (hi:i≤s.sT.length):qn s i≤(aL s).length:=(mU hs hi).length_le
theorem Ra {s:SS} (hs:oK s) {i:Nat} (hi:i<(aL s).length):i<qn s i:=by
 have hol:=nZ hs
 rcases Nat.lt_or_ge i (qn s i) with h|h
 ·exact h
 ·have he:=Bs hs h O
  have:(aL s).length≤i:=by show(order (aW s)).length≤i;rw[←he];exact h
  omega
structure Num (A:SS):Prop where
 ord:order A=rg A.sT.length
 pos:0<A.sT.length
 nx:∀x,x<A.sT.length→∀a,a<(nxt A x).length→ -1≤ix (nxt A x) a∧ix (nxt A x) a<(A.sT.length:Int)
 red:∀{x y},x<A.sT.length→y<A.sT.length→Sim2 A A x y→x=y
end BisM3
end
section
open ref01 ref03 ref04 ref06 Part Rungs LeftM TrimM Itoa Keys RoundM MergeM BisM BisM2 BisM3
namespace BisM4
theorem CE {α β:Type} [Inhabited α] [Inhabited β] {f:α→β} {l:List α} {k:Nat} (h:k<l.length):ix (l.map f) k=f (ix l k):=by
 rw[aD (by simpa using h),aD h,List.getElem_map]
theorem rW {s:SS} {x:Nat} (h:ix (hOl s) x=true):keep s x= []:=by
 unfold keep
 rw[List.filter_eq_nil_iff]
 intro t _
 rw[h];simp
theorem Fw (a:Nat):has (aZ []) (a:Int)=false:=by
 cases h:has (aZ []) (a:Int) with
 |false=>rfl
 |true=>
  obtain⟨t,ht,_⟩:=(dE [] a).1 h
  cases ht
theorem Ia {s t:SS} (hs:oK s) (ht:oK t) (ha:s.aC.length=t.aC.length) {x y:Nat} (hx:x<s.sT.length) (hy:y<t.sT.length) (h1:ix (hOl s) x=true) (h2:ix (hOl t) y=true):Sim2 (aW s) (aW t) x y:=by
 refine⟨fun a b=>a=x∧b=y,⟨fun {a b} ⟨e1,e2⟩=> ?_,fun {a b} ⟨e1,e2⟩=> ?_,fun {a b} ⟨e1,e2⟩ k hk=> ?_⟩,rfl,rfl⟩
 ·subst e1;subst e2
  show(ix (aW s).sT _).aP=(ix (aW t).sT _).aP
  rw[fY hx,fY hy]
  show keep s _=keep t _
  rw[rW h1,rW h2]
 ·subst e1;subst e2
  show(ix (aW s).sT _).next.length=(ix (aW t).sT _).next.length
  rw[lL hs hx,lL ht hy,ha]
 ·subst e1;subst e2
  have hk1:k<s.aC.length:=by
   have:k<(ix (aW s).sT a).next.length:=hk
   rwa [lL hs hx] at this
  have f1:ix (nxt (aW s) a) k= -1:=by
   show ix (ix (aW s).sT a).next k= -1
   rw[fY hx]
   show ix (cut _ (aZ (keep s a))) k= -1
   rw[rW h1,xJ (by rw[(hs.st _ hx).len];exact hk1),Fw];rfl
  have f2:ix (nxt (aW t) b) k= -1:=by
   show ix (ix (aW t).sT b).next k= -1
   rw[fY hy]
   show ix (cut _ (aZ (keep t b))) k= -1
   rw[rW h2,xJ (by rw[(ht.st _ hy).len];omega),Fw];rfl
  show QX _ (ix (nxt (aW s) a) k) (ix (nxt (aW t) b) k)
  rw[f1,f2]
  exact⟨Iff.rfl,fun h=>by omega⟩
theorem yZ {s t:SS} {x y:Nat} (hx:x<s.sT.length) (hy:y<t.sT.length) (h1:ix (hOl s) x=true) (h2:ix (hOl t) y=false):¬Sim2 (aW s) (aW t) x y:=fun h=>by
 have:=(CC _ _).acc h
 have e:keep s x=keep t y:=by
  have h':(ix (aW s).sT x).aP=(ix (aW t).sT y).aP:=this
  rw[fY hx,fY hy] at h'
  exact h'
 rw[rW h1] at e
 exact yY hy h2 e.symm
theorem vY {l:List ByteArray} (h:bV l=true):oK (nothing l):=by
 have hn:=gG h
 refine⟨h,hn,Nat.le_refl _,by show 1≤10000;omega,fun k hk=> ?_⟩
 have:k=0:=by have:k<1:=hk;omega
 subst this
 refine⟨by show(List.replicate _ _).length=_;simp[nothing],fun a ha=> ?_,fun i hi=> ?_,fun i hi=> ?_,rfl⟩
 ·have e:ix (ix (nothing l).sT 0).next a= -1:=by
   show ix (List.replicate l.length (-1:Int)) a= -1
   have ha:a<l.length:=ha
   rw[aD (by simpa using ha)];simp
  rw[e]
  show-1≤(-1:Int)∧(-1:Int)<((1:Nat):Int)
  omega
 ·exact absurd hi (Nat.not_lt_zero i)
 ·exact absurd hi (Nat.not_lt_zero i)
theorem uW (l:List ByteArray):ix (hOl (nothing l)) 0=true:=by
 refine(jJ (by show 0<1;omega)).2 (nS _ 0 (by show 0<1;omega) (fun i hi=>absurd hi (Nat.not_lt_zero i)))
end BisM4
end
section
open ref01 ref03 ref04 ref06 MergeM Rungs
namespace TurnM
theorem Si {α β:Type} [Inhabited α] [Inhabited β] {f:α→β} {l:List α} {k:Nat} (h:k<l.length):ix (l.map f) k=f (ix l k):=by
 rw[aD (by simpa using h),aD h,List.getElem_map]
end TurnM
end
section
open ref01 ref03 ref04 ref06 Part Rungs LeftM TrimM Itoa Keys RoundM MergeM BisM BisM2 BisM3 BisM4 TurnM
namespace BisM5
theorem iN {s:SS} {x:Nat} (hx:x<s.sT.length):acc (aW s) x=keep s x:=by
 show(ix (aW s).sT x).aP=_
 rw[fY hx];rfl
theorem kW {s:SS} (hs:oK s) {x:Nat} (hx:x<s.sT.length) {a:Nat} (ha:a<s.aC.length):ix (nxt (aW s) x) a=if has (aZ (keep s x)) (a:Int)=true then ix (nxt s x) a else-1:=by
 show ix (ix (aW s).sT x).next a=_
 rw[fY hx]
 exact xJ (by rw[(hs.st x hx).len];exact ha)
theorem hO {s:SS} (hs:oK s) {x:Nat} (hx:x<s.sT.length):(nxt (aW s) x).length=s.aC.length:=lL hs hx
theorem BC:∀{l m:List Int},l.Pairwise (· < ·)→m.Pairwise (· < ·)→(∀u,u∈l↔u∈m)→l=m
 | [],[],_,_,_=>rfl
 | [],y::m,_,_,h=>absurd ((h y).2 (by simp)) (by simp)
 |x::l,[],_,_,h=>absurd ((h x).1 (by simp)) (by simp)
 |x::l,y::m,hl,hm,h=>by
  have e:x=y:=by
   have h1:=(h x).1 (by simp)
   have h2:=(h y).2 (by simp)
   rcases List.mem_cons.1 h1 with h1|h1
   ·exact h1
   ·rcases List.mem_cons.1 h2 with h2|h2
    ·exact h2.symm
    ·have g1:=(List.pairwise_cons.1 hm).1 x h1
     have g2:=(List.pairwise_cons.1 hl).1 y h2
     omega
  subst e
  congr 1
  refine BC (List.pairwise_cons.1 hl).2 (List.pairwise_cons.1 hm).2 (fun u=>⟨fun hu=> ?_,fun hu=> ?_⟩)
  ·rcases List.mem_cons.1 ((h u).1 (List.mem_cons_of_mem _ hu)) with h1|h1
   ·have:=(List.pairwise_cons.1 hl).1 u hu;omega
   ·exact h1
  ·rcases List.mem_cons.1 ((h u).2 (List.mem_cons_of_mem _ hu)) with h1|h1
   ·have:=(List.pairwise_cons.1 hm).1 u hu;omega
   ·exact h1
structure Ref (T t:SS) (R:Nat→Nat→Prop):Prop where
 bd:∀{x y},R x y→x<T.sT.length∧y<t.sT.length
 acc:∀{x y},R x y→∀u∈acc T x,u∈acc t y
 nxt:∀{x y},R x y→∀a:Nat,has (aZ (BisM.acc T x)) (a:Int)=true→R (ix (nxt T x) a).toNat (ix (nxt t y) a).toNat
def mX (s t:SS):Prop:=ix (hOl s) 0=true∨∃R,Ref (tS s) t R∧R 0 0
theorem rX {s:SS} {i:Nat} (hi:i<(aL s).length):acc (tS s) i=keep s (ix (aL s) i).toNat:=by
 show(ix (tS s).sT i).aP=_
 rw[mK hi];rfl
theorem JM {s:SS} {i:Nat} (hi:i<(aL s).length) {a:Nat} (ha:a<s.aC.length):ix (nxt (tS s) i) a=if has (aZ (keep s (ix (aL s) i).toNat)) (a:Int)=true then dV (aL s) (ix (ix s.sT (ix (aL s) i).toNat).next a) else-1:=by
 show ix (ix (tS s).sT i).next a=_
 rw[mK hi]
 exact vW ha
theorem tO {s t:SS} (hs:oK s) (ht:oK t) (h0:ix (hOl s) 0=false) {R:Nat→Nat→Prop} (hR:Ref (tS s) t R) {x y:Nat} (h:R x y):ix (hOl t) y=false:=by
 have hy:=(hR.bd h).2
 cases hv:ix (hOl t) y with
 |false=>rfl
 |true=>
  exfalso
  refine(jJ hy).1 hv (fun y=> ∀x,¬R x y) (fun y hy hc x hxy=> ?_) x h
  have hx:=(hR.bd hxy).1
  rw[kC] at hx
  have hb:=iB hs hx
  have hne:acc (tS s) x≠[]:=by rw[rX hx];exact yY O (xT hs h0 hx)
  obtain⟨u,hu⟩:=List.exists_mem_of_ne_nil _ hne
  obtain⟨i,hi,e⟩:=pX (hR.acc hxy u hu)
  obtain⟨a,ha,_,hh,hH⟩:=hc i hi
  have e':ix (ix t.sT y).aP i=u:=e
  rw[e'] at hh
  exact hH _ (hR.nxt hxy a ((dE _ _).2 ⟨u,hu,hh⟩))
theorem vZ {s t:SS} (hs:oK s) (ht:oK t) (h0:ix (hOl s) 0=false) {R:Nat→Nat→Prop} (hR:Ref (tS s) t R) {i y:Nat} (h:R i y) {u:Int} (hu:u∈keep s (ix (aL s) i).toNat):u∈keep t y:=by
 have hi:=(hR.bd h).1
 rw[kC] at hi
 rw[kF (tO hs ht h0 hR h),List.mem_filter]
 have hu':u∈acc (tS s) i:=by rw[rX hi];exact hu
 refine⟨hR.acc h u hu',?_⟩
 rw[Bool.not_eq_true']
 cases hf:eH (ix t.sT y) u (hOl t) with
 |false=>rfl
 |true=>
  obtain⟨a,_,_,hh,hv⟩:=jG.1 hf
  have:=tO hs ht h0 hR (hR.nxt h a ((dE _ _).2 ⟨u,hu',hh⟩))
  have hv':ix (hOl t) (ix (nxt t y) a).toNat=true:=hv
  rw[this] at hv';cases hv'
theorem Fx {s t:SS} (hs:oK s) (ht:oK t) (ha:s.aC=t.aC) (h1:ix (hOl s) 0=false) (h2:ix (hOl t) 0=false) (h:Sim2 (aW s) (aW t) 0 0):∃R,Ref (tS s) t R∧R 0 0:=by
 have hbis:=CC (aW s) (aW t)
 have hop:=mV s
 have f:=ht.few0
 refine⟨fun i y=>i<(aL s).length∧y<t.sT.length∧Sim2 (aW s) (aW t) (ix (aL s) i).toNat y,⟨fun {i y} ⟨hi,hy,_⟩=>⟨by rw[kC];exact hi,hy⟩,fun {i y} ⟨hi,hy,hS⟩ u hu=> ?_,fun {i y} ⟨hi,hy,hS⟩ a hh=> ?_⟩,O,O,by rw[rU];exact h⟩
 ·have hb:=iB hs hi
  rw[rX hi] at hu
  have:=hbis.acc hS
  rw[iN O,iN hy] at this
  rw[this] at hu
  exact(List.mem_filter.1 hu).1
 ·have hb:=iB hs hi
  have hx:(ix (aL s) i).toNat<s.sT.length:=by omega
  rw[rX hi] at hh
  have hg:=kV hs hx hh
  have hal:a<s.aC.length:=by have:=(hs.st _ hx).len;omega
  have hacc:=hbis.acc hS
  rw[iN hx,iN hy] at hacc
  have hL:=hbis.nxt hS a (by rw[hO hs hx];exact hal)
  rw[kW hs hx hal,kW ht hy (by rw[←ha];exact hal),←hacc,if_pos hh,if_pos hh] at hL
  obtain⟨p1,p2⟩:=kG (oC hs hi hh)
  have p0:=(gW (aL s) (ix (ix s.sT (ix (aL s) i).toNat).next a)).1
  rw[JM hi hal,if_pos hh]
  have hg2:0≤ix (nxt s (ix (aL s) i).toNat) a:=hg.2.1
  have hy2:=((ht.st y hy).nx a (by rw[←ha];exact hal)).2
  have hyn:0≤ix (nxt t y) a:=by
   have:=hL.1
   omega
  refine⟨O,by show(ix (ix t.sT y).next a).toNat<_;omega,?_⟩
  rw[p2]
  exact hL.2 hg2
theorem rG {s t:SS} (hs:oK s) (ht:oK t) (ha:s.aC=t.aC):(mX s t∧mX t s)↔Sim2 (aW s) (aW t) 0 0:=by
 have f1:=hs.few0
 have f2:=ht.few0
 cases h1:ix (hOl s) 0 with
 |true=>
  cases h2:ix (hOl t) 0 with
  |true=>exact⟨fun _=>Ia hs ht (by rw[ha]) O O h1 h2,fun _=>⟨.inl h1,.inl h2⟩⟩
  |false=>
   refine⟨fun⟨_,h⟩=> ?_,fun h=>absurd h (yZ O O h1 h2)⟩
   exfalso
   rcases h with h|⟨R,hR,h⟩
   ·rw[h2] at h;cases h
   ·have:=tO ht hs h2 hR h
    rw[h1] at this;cases this
 |false=>
  cases h2:ix (hOl t) 0 with
  |true=>
   refine⟨fun⟨h,_⟩=> ?_,fun h=>absurd h.symm (yZ O O h2 h1)⟩
   exfalso
   rcases h with h|⟨R,hR,h⟩
   ·rw[h1] at h;cases h
   ·have:=tO hs ht h1 hR h
    rw[h2] at this;cases this
  |false=>
   refine⟨fun⟨g1,g2⟩=> ?_,fun h=>⟨.inr (Fx hs ht ha h1 h2 h),.inr (Fx ht hs ha.symm h2 h1 h.symm)⟩⟩
   obtain⟨R1,hR1,r1⟩:=g1.resolve_left (by simp[h1])
   obtain⟨R2,hR2,r2⟩:=g2.resolve_left (by simp[h2])
   have hop1:=mV s
   have hop2:=mV t
   refine⟨fun X Y=> ∃i j,i<(aL s).length∧j<(aL t).length∧X=(ix (aL s) i).toNat∧Y=(ix (aL t) j).toNat∧R1 i Y∧R2 j X,⟨?_,?_,?_⟩,0,0,O,O,by rw[rU];rfl,by rw[rU];rfl,r1,r2⟩
   ·rintro X Y ⟨i,j,hi,hj,rfl,rfl,q1,q2⟩
    have b1:=iB hs hi
    have b2:=iB ht hj
    rw[iN O,iN O]
    exact BC (nI (mD hs O)) (nI (mD ht O)) (fun u=>⟨fun hu=>vZ hs ht h1 hR1 q1 hu,fun hu=>vZ ht hs h2 hR2 q2 hu⟩)
   ·rintro X Y ⟨i,j,hi,hj,rfl,rfl,q1,q2⟩
    have b1:=iB hs hi
    have b2:=iB ht hj
    rw[hO hs O,hO ht O,ha]
   ·rintro X Y ⟨i,j,hi,hj,rfl,rfl,q1,q2⟩ a hal
    have b1:=iB hs hi
    have b2:=iB ht hj
    have hx:(ix (aL s) i).toNat<s.sT.length:=by omega
    have hy:(ix (aL t) j).toNat<t.sT.length:=by omega
    rw[hO hs hx] at hal
    have hacc:keep s (ix (aL s) i).toNat=keep t (ix (aL t) j).toNat:=BC (nI (mD hs hx)) (nI (mD ht hy)) (fun u=>⟨fun hu=>vZ hs ht h1 hR1 q1 hu,fun hu=>vZ ht hs h2 hR2 q2 hu⟩)
    rw[kW hs hx hal,kW ht hy (by rw[←ha];exact hal),←hacc]
    by_cases hh:has (aZ (keep s (ix (aL s) i).toNat)) (a:Int)=true
    ·rw[if_pos hh,if_pos hh]
     have hh2:has (aZ (keep t (ix (aL t) j).toNat)) (a:Int)=true:=by rw[←hacc];exact hh
     have k1:=kV hs hx hh
     have k2:=kV ht hy hh2
     have n1:0≤ix (nxt s (ix (aL s) i).toNat) a:=k1.2.1
     have n2:0≤ix (nxt t (ix (aL t) j).toNat) a:=k2.2.1
     refine⟨⟨fun h=>by omega,fun h=>by omega⟩,fun _=> ?_⟩
     obtain⟨p1,p2⟩:=kG (oC hs hi hh)
     have p0:=(gW (aL s) (ix (ix s.sT (ix (aL s) i).toNat).next a)).1
     obtain⟨o1,o2⟩:=kG (oC ht hj hh2)
     have o0:=(gW (aL t) (ix (ix t.sT (ix (aL t) j).toNat).next a)).1
     have e1:=hR1.nxt q1 a (by rw[rX hi];exact hh)
     have e2:=hR2.nxt q2 a (by rw[rX hj];exact hh2)
     rw[JM hi hal,if_pos hh] at e1
     rw[JM hj (by rw[←ha];exact hal),if_pos hh2] at e2
     exact⟨_,_,O,O,by rw[p2],by rw[o2],e1,e2⟩
    ·rw[if_neg hh,if_neg hh]
     exact⟨Iff.rfl,fun h=>by omega⟩
end BisM5
end
section
open ref01 ref03 ref04 ref06 Part Rungs LeftM TrimM RoundM BisM BisM5
namespace WalkM
structure Mt where
 s:Int
 t:Int
 before:Int
 action:Int
deriving Inhabited,DecidableEq
def dN (m:Mt):Int × Int:=(m.s,m.t)
def blV (b:Bool):AV:=bl b
def qI (mm:List ((Int × Int) × Bool)) (q:List Mt):Prop:=∀p,bP mm p=if p∈q.map dN then some true else none
theorem Fy {mm:List ((Int × Int) × Bool)} {q:List Mt} (h:qI mm q) (p:Int × Int):(bP mm p).getD false=decide (p∈q.map dN):=by
 rw[h p]
 by_cases hp:p∈q.map dN
 ·rw[if_pos hp,decide_eq_true hp];rfl
 ·rw[if_neg hp,decide_eq_false hp];rfl
theorem Dz {mm:List ((Int × Int) × Bool)} {q:List Mt} (h:qI mm q) (m:Mt):qI (cD mm (dN m) true) (q++ [m]):=by
 intro p
 rw[nA,h p,List.map_append,List.map_cons,List.map_nil]
 by_cases e:dN m=p
 ·rw[if_pos e,if_pos (by rw[e];simp)]
 ·rw[if_neg e]
  have:p∈q.map dN++ [dN m]↔p∈q.map dN:=by
   rw[List.mem_append]
   exact⟨fun h=>h.resolve_right (fun h=>e (List.mem_singleton.1 h).symm),.inl⟩
  by_cases hp:p∈q.map dN
  ·rw[if_pos hp,if_pos (this.2 hp)]
  ·rw[if_neg hp,if_neg (fun h=>hp (this.1 h))]
structure JN (T t:SS) (q:List Mt):Prop where
 ne:0<q.length
 hd:ix q 0=⟨0,0,-1,0⟩
 bd:∀m∈q,0≤m.s∧m.s<(T.sT.length:Int)∧0≤m.t∧m.t<(t.sT.length:Int)
 nd:(q.map dN).Nodup
 back:∀k,0<k→k<q.length→∃(b a:Nat),(ix q k).before=(b:Int)∧(ix q k).action=(a:Int)∧b<k∧has (aZ (acc T (ix q b).s.toNat)) (a:Int)=true∧(ix q k).s=ix (nxt T (ix q b).s.toNat) a∧(ix q k).t=ix (nxt t (ix q b).t.toNat) a
 all:∀R,Ref T t R→R 0 0→∀m∈q,R m.s.toNat m.t.toNat
def Oi (T t:SS) (q:List Mt) (k:Nat):Prop:=
 (∀u∈acc T (ix q k).s.toNat,u∈acc t (ix q k).t.toNat)∧∀a:Nat,has (aZ (acc T (ix q k).s.toNat)) (a:Int)=true→(ix (nxt T (ix q k).s.toNat) a,ix (nxt t (ix q k).t.toNat) a)∈q.map dN
theorem oU {l m:List Mt} {j:Nat} (h:j<l.length):ix (l++m) j=ix l j:=by
 rw[aD (by simp;omega),aD h,List.getElem_append_left h]
theorem Oj {l:List Mt} {x:Mt}:ix (l++ [x]) l.length=x:=by
 rw[aD (by simp)];simp
theorem tP {T:SS} (hT:oK T) {x:Nat} (hx:x<T.sT.length) {a:Nat} (h:has (aZ (acc T x)) (a:Int)=true):a<T.aC.length∧0≤ix (nxt T x) a∧ix (nxt T x) a<(T.sT.length:Int):=by
 obtain⟨u,hu,hh⟩:=(dE _ _).1 h
 obtain⟨i,hi,e⟩:=pX hu
 have hst:=hT.st x hx
 have e':ix (ix T.sT x).aP i=u:=e
 obtain⟨g1,g2⟩:=hst.go i hi a (by rw[e'];exact hh)
 exact⟨g1,g2,(hst.nx a g1).2⟩
def Vj (T t:SS):Prop:=∃R,Ref T t R∧R 0 0
structure YA (T t:SS) (z:List Mt × Int × Int):Prop where
 q:JN T t z.1
 yes:z.2.1<0→Vj T t∧∀k,k<z.1.length→Oi T t z.1 k
 no:0≤z.2.1→¬Vj T t∧z.2.1<(z.1.length:Int)∧z.2.2∈acc T (ix z.1 z.2.1.toNat).s.toNat∧z.2.2∉acc t (ix z.1 z.2.1.toNat).t.toNat
end WalkM
end
section
open ref01 ref03 ref04 ref06 prog prog2 prog3 prog4 prog5 search Part Rungs LeftM TrimM RoundM BisM BisM5 WalkM
abbrev goP (T t:SS) (m:Mt) (a:Nat):Int × Int:=(ix (ix T.sT m.s.toNat).next a,ix (ix t.sT m.t.toNat).next a)
structure Mid (T t:SS) (q:List Mt) (i:Nat) (cn:Int) (m:Nat) (q2:List Mt) (mm2:List ((Int × Int) × Bool)):Prop where
 qi:JN T t q2
 sm:qI mm2 q2
 pre:q<+:q2
 dn:∀k,k<i→Oi T t q2 k
 al:∀a:Nat,(a:Int)∈(aK 63 cn).take m→goP T t (ix q i) a∈q2.map dN
theorem LJ:qI (cD [] (0,0) true) [⟨0,0,-1,0⟩]:=Dz (q:= []) (mm:= []) (fun p=>rfl) ⟨0,0,-1,0⟩
namespace refw
end refw
end
section
open ref01 ref03 ref04 ref06 prog prog2 prog3 prog4 prog5 prog6 prog7 prog8 prog9 prog10 prog11 Part Rungs LeftM TrimM Itoa Keys RoundM MergeM
namespace prog12
end prog12
end
section
open ref01 ref03 ref04 ref06 prog prog2 prog3 prog4 prog5 prog6 prog7 prog8 prog9 prog10 prog11 prog12 Part Rungs LeftM TrimM Itoa Keys RoundM MergeM
namespace prog13
end prog13
end
section
open ref01 ref03 ref04 ref06 prog2 Part TurnM
def Vk (n:Int) (l:List Int):Bool:=decide ((l.length:Int)≤10000)&&l.all fun a=>decide (0≤a)&&decide (a<n)
def BD (s:SS) (x a:Int):Int:=if x<0 then-1 else ix (ix s.sT x.toNat).next a.toNat
def goS (s:SS) (l:List Int):Int:=l.foldl (BD s) 0
namespace starts
end starts
end
section
open ref01 ref03 ref04 ref06 prog prog2 prog3 prog10 prog11 prog12 prog13 starts Part TurnM Itoa
def Yq (p:Int→Bool) (l:List Int):Int:=if l.any p=true then(l.findIdx p:Int) else-1
namespace prog15
end prog15
end
section
open ref01 ref03 ref04 ref06 prog15 starts Part Rungs LeftM TrimM RoundM BisM BisM5 WalkM
namespace StepM
def upF (q:List Mt):Nat→Nat→List Int
 |0,_=> []
 |n+1,k=>if 0≤(ix q k).before then(ix q k).action::upF q n (ix q k).before.toNat else []
def LK (q:List Mt):Prop:=∀k,k<q.length→0≤(ix q k).before→(ix q k).before<(k:Int)
def mE (q:List Mt) (k:Nat):List Int:=(upF q (k+1) k).reverse
inductive Runs (T:SS):List Int→Nat→Prop
 |nil:Runs T [] 0
 |snoc {w:List Int} {x a:Nat}:Runs T w x→has (aZ (acc T x)) (a:Int)=true→Runs T (w++ [(a:Int)]) (ix (nxt T x) a).toNat
def xAt (T:SS) (w:List Int) (j:Nat):Int:=(w.take j).foldl (BD T) 0
theorem FA {T:SS} {w v:List Int} {j:Nat} (h:j≤w.length):xAt T (w++v) j=xAt T w j:=by
 unfold xAt;rw[List.take_append_of_le_length h]
theorem Sj (T:SS) (w:List Int):xAt T w w.length=goS T w:=by unfold xAt goS;rw[List.take_length]
theorem Ol (T:SS) (w:List Int) (a:Int):goS T (w++ [a])=BD T (goS T w) a:=by unfold goS;rw[List.foldl_append];rfl
theorem LL {T:SS} {x:Int} (h:0≤x) (a:Nat):BD T x (a:Int)=ix (nxt T x.toNat) a:=by unfold BD;rw[if_neg O];rfl
theorem Runs.lt {T:SS} (hT:oK T) {w:List Int} {x:Nat} (h:Runs T w x):x<T.sT.length:=by
 induction h with
 |nil=>have:=hT.few0;omega
 |snoc h ha ih=>have:=(tP hT ih ha);omega
theorem Runs.go {T:SS} (hT:oK T) {w:List Int} {x:Nat} (h:Runs T w x):goS T w=(x:Int):=by
 induction h with
 |nil=>rfl
 |snoc h ha ih=>
  have:=tP hT (h.lt hT) ha
  rw[Ol,ih,LL O,Int.toNat_natCast];omega
def Xm (T:SS) (w:List Int):Prop:=∀j,j<w.length→0≤xAt T w j∧xAt T w j<(T.sT.length:Int)∧∃a:Nat,ix w j=(a:Int)∧has (aZ (acc T (xAt T w j).toNat)) (a:Int)=true
theorem Om {l m:List Int} {j:Nat} (h:j<l.length):ix (l++m) j=ix l j:=by
 rw[aD (by simp;omega),aD h,List.getElem_append_left h]
theorem Oo {l:List Int} {x:Int}:ix (l++ [x]) l.length=x:=by rw[aD (by simp)];simp
theorem Runs.alive {T:SS} (hT:oK T) {w:List Int} {x:Nat} (h:Runs T w x):Xm T w:=by
 induction h with
 |nil=>intro j hj;simp at hj
 | @snoc w x a h ha ih=>
   intro j hj
   by_cases e:j<w.length
   ·rw[FA O,Om e];exact ih j e
   ·have:j=w.length:=by simp at hj;omega
    subst this
    have hlt:=h.lt hT
    rw[FA (Nat.le_refl _),Sj,h.go hT,Oo]
    exact⟨O,O,a,rfl,by rw[Int.toNat_natCast];exact ha⟩
def Xn (x:SA) (a:Int):Int:=ix x.aP (Yq (fun u=>has u a) x.aP).toNat
def qX (T:SS) (w:List Int) (j:Nat):Int × Int:=(xAt T w j,Xn (ix T.sT (xAt T w j).toNat) (ix w j))
def Et (T:SS) (w:List Int) (u:Int):List (Int × Int):=(List.range w.length).map (qX T w)++ [(xAt T w w.length,u)]
end StepM
end
end Go.Proofs.YtnlfjojfgghchaaGreatDoor
