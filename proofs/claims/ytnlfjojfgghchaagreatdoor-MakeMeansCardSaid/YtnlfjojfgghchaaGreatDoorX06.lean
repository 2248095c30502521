/- The walks of the functions and the plain laws. Own texts of this claim, packed: Mksearch, MkMergeM, MkBisM, MkBisM2, MkBisM3, MkBisM4, MkTurnM, MkBisM5, MkWalkM, Mkrefw, Mkprog12, Mkprog13, Mkstarts, Mkprog15, MkStepM. -/
import Derived.Test.YtnlfjojfgghchaaGreatDoorX03
import Derived.Test.YtnlfjojfgghchaaGreatDoorX05
import Derived.Test.YtnlfjojfgghchaaGreatDoorX04
import Derived.Test.YtnlfjojfgghchaaGreatDoorX02
set_option linter.all false
namespace Go.Proofs.YtnlfjojfgghchaaGreatDoor
open AL Go
set_option maxRecDepth 100000
section
open ref01 ref03
def bsP (l:List Int) (t:Int):Nat:=(l.takeWhile fun y=>decide (y<t)).length
theorem Mq {p:Int→Bool}:∀{l:List Int} {i:Nat},i≤l.length→(∀k,k<i→p (ix l k)=true)→(i<l.length→p (ix l i)=false)→(l.takeWhile p).length=i
 | [],i,h,_,_=>by have:i=0:=by simpa using h
                  subst this;rfl
 |y::l,0,_,_,h=>by
  have h1:p y=false:=h (by simp)
  simp[List.takeWhile_cons,h1]
 |y::l,i+1,hi,h,h'=>by
  have h1:p y=true:=h 0 O
  have h2:=Mq (p:=p) (l:=l) (i:=i) (by simpa using hi) (fun k hk=>h (k+1) O) (fun hl=>h' (by simpa using hl))
  simp[List.takeWhile_cons,h1,h2]
theorem Dh {l:List Int} (h:rising l=true) {i j:Nat} (hij:i<j) (hj:j<l.length):ix l i<ix l j:=by
 have hst:∀k,i+(k+1)<l.length→ix l i<ix l (i+(k+1)):=fun k=>by
  induction k with
  |zero=>
   intro hk
   unfold rising at h
   have:=List.all_eq_true.1 h i (List.mem_range.2 O)
   simpa using this
  |succ k ih=>
   intro hk
   have h1:=ih O
   unfold rising at h
   have:=List.all_eq_true.1 h (i+(k+1)) (List.mem_range.2 O)
   have h2:ix l (i+(k+1))<ix l (i+(k+1)+1):=by simpa using this
   rw[show i+(k+1+1)=i+(k+1)+1 by omega]
   omega
 have:=hst (j- i- 1) O
 rwa [show i+(j- i- 1+1)=j by omega] at this
theorem Mr {l:List Int} (h:rising l=true) {t:Int} {i:Nat} (h1:∀k,k<i→ix l k<t) (h2:∀k,i≤k→k<l.length→t≤ix l k):(decide ((i:Int)<(l.length:Int))&&decide (ix l i=t))=decide (t∈l):=by
 by_cases hm:t∈l
 ·rw[decide_eq_true hm]
  obtain⟨k,hk,e⟩:=List.getElem_of_mem hm
  rw[←aG hk] at e
  have hki:i≤k:=by
   rcases Nat.lt_or_ge k i with h3|h3
   ·have:=h1 k h3;omega
   ·exact h3
  have hil:i<l.length:=by omega
  have:ix l i=t:=by
   rcases Nat.lt_or_ge i k with h3|h3
   ·have g1:=Dh h h3 hk
    have g2:=h2 i (Nat.le_refl _) hil
    omega
   ·have:i=k:=by omega
    subst this;exact e
  rw[decide_eq_true O,decide_eq_true this];rfl
 ·rw[decide_eq_false hm]
  by_cases hil:i<l.length
  ·rw[decide_eq_false (p:=ix l i=t) (fun e=>hm (by rw[←e,aG hil];exact List.getElem_mem hil))];simp
  ·rw[decide_eq_false O];rfl
namespace T
theorem Ms:Ent Tryz.prog 175:=aR kR
theorem Vp:Ent Tryz.prog 163:=aR kR
theorem Mu:Ent Tryz.prog 164:=aR kR
theorem Vq:Ent Tryz.prog 136:=aR kR
end T
namespace search
theorem IY (x:Int):
 Fn0 Tryz.prog 175 [int x] (bl false):=by
 refine fnI Tryz.func175 rfl rfl (fun w0 F0=> ?_)
 refine sq (rg (ag (nl (th (sq (rg (mv (mv (bi J J fV (ag (nl (th (rt ?_)))))))))))))
 have hr0:(decide (x≠x))=false:=by
  first|rfl|simp_all|omega
 exact rE () [.tmp 2] J [bl (decide (x≠x))] ⟨.tmp J,tV⟩ (cA1 (fun x0=>rV [bl x0]) hr0) trivial eX
theorem IZ (x:Int):
 Fn0 Tryz.prog 164 [int x] (bl false):=by
 refine fnI Tryz.func164 rfl rfl (fun w0 F0=> ?_)
 refine sq (rg (ag (nl (th (sq (rg (mv (mv (bi J J fV (ag (nl (th (rt ?_)))))))))))))
 have hr0:(decide (x≠x))=false:=by
  first|rfl|simp_all|omega
 exact rE () [.tmp 2] J [bl (decide (x≠x))] ⟨.tmp J,tV⟩ (cA1 (fun x0=>rV [bl x0]) hr0) trivial eX
theorem SG (x y:Int):
 Fn0 Tryz.prog 163 [int x,int y] (bl (decide (x<y))):=by
 refine fnI Tryz.func163 rfl rfl (fun w0 F0=> ?_)
 refine sq (rg (ag (nl (th (sq (rg (mv (bI (φs:= [int x]) (φ:=bl false) ⟨J,tV⟩ (search.IY _) T.Ms (mv ?_)))))))))
 apply fT (t:=7) (pd:=11) rfl
 rotate_left
 ·intro hg0 fin
  exact gy J J J hg0 (mv (gy J J J hg0 (bI (φs:= [int y]) (φ:=bl false) ⟨J,tV⟩ (search.IY _) T.Ms (gy J J J hg0 (no J (pkT J hg0 J (drp (X:= [(10,_),(9,_),(8,_)]) ⟨J,J,J,tV⟩ fin)))))))
 ·intro hg0 fin
  exact gn J J J hg0 J J (gn J J J hg0 J J (gn J J J hg0 J J (pkF J hg0 J (drp (X:= [(10,_),(9,_),(8,_)]) ⟨J,J,J,tV⟩ fin))))
 refine mv ?_
 apply gOr (t:=12) (pd:=16) rfl
 rotate_left
 ·intro hg1 fin
  have hg1':=hg1
  try simp at hg1'
  exact gy J J J hg1 (mv (gy J J J hg1 (mv (gy J J J hg1 (bi J J aZ (pkF J hg1 J (drp (X:= [(15,_),(14,_),(13,_)]) ⟨J,J,J,tV⟩ fin)))))))
 ·intro hg1 fin
  exact gn J J J hg1 J J (gn J J J hg1 J J (gn J J J hg1 J J (pkT J hg1 J (drp (X:= [(15,_),(14,_),(13,_)]) ⟨J,J,J,tV⟩ fin))))
 refine ag (nl (th (rt ?_)))
 have hr0:((false&&(!false))||(decide (x<y)))=(decide (x<y)):=by
  simp
 exact rE () [.tmp 4] J [bl ((false&&(!false))||(decide (x<y)))] ⟨.tmp J,tV⟩ (cA1 (fun x0=>rV [bl x0]) hr0) trivial eX
theorem Mv (l:List Int) (hr:rising l=true) (t:Int):
 Fn0 Tryz.prog 136 [ints l,int t] (tup [int (bsP l t:Int),bl (decide (t∈l))]):=by
 refine fnI Tryz.func136 rfl rfl (fun w0 F0=> ?_)
 refine fcC (bL 0 J) (fun hm0=> ?_)
 refine sq (rg (ag (ag (nl (th (sq (rg (mv (lnF J T.aT (ag (nl (th (sq (rg (mv (ag (ag (nl (th (sq (bk ?_)))))))))))))))))))))
 have hI0_0:0≤l.length∧l.length≤l.length∧(∀k,k<0→ix l k<t)∧(∀k,l.length≤k→k<l.length→t≤ix l k):=by
  exact⟨Nat.zero_le _,Nat.le_refl _,fun k hk=>by omega,fun k hk hl=>by omega⟩
 refine lp (κ:=Nat × Nat) (fun p=> [(0,sl 1 nE l),(1,int t),(4,int 0),(5,bl false),(6,int (l.length:Int)),(7,int (p.1:Int)),(8,int (p.2:Int))]) (fun p=> []) (fun p=>p.1≤p.2∧p.2≤l.length∧(∀k,k<p.1→ix l k<t)∧(∀k,p.2≤k→k<l.length→t≤ix l k)) (fun p=>p.2- p.1) ⟨0,l.length⟩ hI0_0 ⟨id,id,id,id,id,id,id,tV⟩ trivial ?_
 intro⟨i,j⟩ hG0
 have hI0:i≤j∧j≤l.length∧(∀k,k<i→ix l k<t)∧(∀k,j≤k→k<l.length→t≤ix l k):=hG0
 show Ct _ _ _ _ [(0,sl 1 nE l),(1,int t),(4,int 0),(5,bl false),(6,int (l.length:Int)),(7,int (i:Int)),(8,int (j:Int))] [] _
 obtain⟨hij,hjl,hlo,hhi⟩:=hI0
 refine sq (sq (rg (mv (mv (bi J J aZ (nl (th ?_)))))))
 refine cd J (fun hc0=> ?_) (fun hc0=> ?_)
 ·try simp at hc0
  refine sk (th (bk (sq (rg (mv (mv (bi J J (aM i6) (cv J T.kd3 T.Cc (mR ⟨O,O⟩) (bi J J (SF O) (cv J T.Cc T.kd3 (oO ⟨O,O⟩) (ag (nl (th (sq (rg (mv (mv (iF J J T.aT O gB (lF J J T.aH (mv (bI (φs:= [int (ix l ((i+j)/2)),int t]) (φ:=bl (decide ((ix l ((i+j)/2))<t))) ⟨J,J,tV⟩ (search.SG _ _) T.Vp (nl (th ?_)))))))))))))))))))))))
  refine cd J (fun hc1=> ?_) (fun hc1=> ?_)
  ·try simp at hc1
   refine rg (mv (bi J J (aM i6) (ag (nl (eb ?_)))))
   have hN0:((i+j)/2+1)≤j∧j≤l.length∧(∀k,k<((i+j)/2+1)→ix l k<t)∧(∀k,j≤k→k<l.length→t≤ix l k):=by
    refine⟨O,O,fun k hk=> ?_,hhi⟩
    by_cases e:k=(i+j)/2
    ·subst e;exact hc1
    ·have:=Dh hr (i:=k) (j:=(i+j)/2) O O
     omega
   exact ln (⟨(i+j)/2+1,j⟩:Nat × Nat) hN0 dO ⟨id,id,id,id,id,id,id,tV⟩ trivial
  ·try simp at hc1
   refine rg (mv (ag (nl (eb ?_))))
   have hN0:i≤((i+j)/2)∧((i+j)/2)≤l.length∧(∀k,k<i→ix l k<t)∧(∀k,((i+j)/2)≤k→k<l.length→t≤ix l k):=by
    refine⟨O,O,hlo,fun k hk hl=> ?_⟩
    by_cases e:k=(i+j)/2
    ·subst e;omega
    ·have:=Dh hr (i:=(i+j)/2) (j:=k) O hl
     omega
   exact ln (⟨i,(i+j)/2⟩:Nat × Nat) hN0 dO ⟨id,id,id,id,id,id,id,tV⟩ trivial
 ·try simp at hc0
  refine ex (xt_ (xt_ (xb (th (sq (rg (mv (mv (mv (bi J J aZ (mv ?_)))))))))))
  apply fT (t:=35) (pd:=53) rfl
  rotate_left
  ·intro hg0 fin
   have hg0':=hg0
   try simp at hg0'
   refine gy rfl rfl rfl hg0 (mv (gy rfl rfl rfl hg0 (mv (gy rfl rfl rfl hg0 (iF rfl rfl T.aT O gB (gy rfl rfl rfl hg0 (lF rfl rfl T.aH (gy rfl rfl rfl hg0 (mv (gy rfl rfl rfl hg0 (bi rfl rfl gF (gy rfl rfl rfl hg0 (mv ?_)))))))))))))
   apply gOr (t:=42) (pd:=52) rfl
   rotate_left
   ·intro hg1 fin
    have hg1':=hg1
    try simp at hg1'
    refine gy rfl rfl rfl hg1 (mv (gy rfl rfl rfl hg1 (mv (gy rfl rfl rfl hg1 (iF rfl rfl T.aT O gB (gy rfl rfl rfl hg1 (lF rfl rfl T.aH (gy rfl rfl rfl hg1 (bI (φs:= [int (ix l i)]) (φ:=bl false) ⟨rfl,tV⟩ (search.IZ _) T.Mu (gy rfl rfl rfl hg1 (mv ?_)))))))))))
    apply fT (t:=48) (pd:=51) rfl
    rotate_left
    ·intro hg2 fin
     exact gy J J J hg2 (mv (gy J J J hg2 (bI (φs:= [int t]) (φ:=bl false) ⟨J,tV⟩ (search.IZ _) T.Mu (gy J J J hg1 (pkT J hg2 J (drp (X:= [(50,_),(49,_)]) ⟨J,J,tV⟩ fin))))))
    ·intro hg2 fin
     exact gn J J J hg2 J J (gn J J J hg2 J J (gy J J J hg1 (pkF J hg2 J (drp (X:= [(50,_),(49,_)]) ⟨J,J,tV⟩ fin))))
    exact gy J J J hg0 (pkF J hg1 J (drp (X:= [(51,_),(48,_),(47,_),(46,_),(45,_),(44,_),(43,_)]) ⟨J,J,J,J,J,J,J,tV⟩ fin))
   ·intro hg1 fin
    exact gn J J J hg1 J J (gn J J J hg1 J J (gn J J J hg1 J J (gn J J J hg1 J J (gn J J J hg1 J J (gn J J J hg1 J J (gu J J J J J (gu J J J J J (gn J J J hg1 J J (gy J J J hg0 (pkT J hg1 J (drp (X:= [(51,_),(50,_),(49,_),(48,_),(47,_),(46,_),(45,_),(44,_),(43,_)]) ⟨J,J,J,J,J,J,J,J,J,tV⟩ fin)))))))))))
   exact pkT rfl hg0 rfl (drp (X:= [(52,_),(42,_),(41,_),(40,_),(39,_),(38,_),(37,_),(36,_)]) ⟨rfl,rfl,rfl,rfl,rfl,rfl,rfl,rfl,tV⟩ fin)
  ·intro hg0 fin
   exact gn J J J hg0 J J (gn J J J hg0 J J (gn J J J hg0 J J (gn J J J hg0 J J (gn J J J hg0 J J (gn J J J hg0 J J (gn J J J hg0 J J (gu J J J J J (gu J J J J J (gu J J J J J (gu J J J J J (gu J J J J J (gu J J J J J (gu J J J J J (gu J J J J J (gu J J J J J (gn J J J hg0 J J (pkF J hg0 J (drp (X:= [(52,_),(51,_),(50,_),(49,_),(48,_),(47,_),(46,_),(45,_),(44,_),(43,_),(42,_),(41,_),(40,_),(39,_),(38,_),(37,_),(36,_)]) ⟨J,J,J,J,J,J,J,J,J,J,J,J,J,J,J,J,J,tV⟩ fin))))))))))))))))))
  refine ag (ag (nl (th (rt ?_))))
  have hr0:((i:Int):Int)=(bsP l t:Int):=by
   have:i=j:=by omega
   subst this
   unfold bsP
   rw[Mq O (fun k hk=>by simpa using hlo k hk) (fun hil=>by simpa using hhi i (Nat.le_refl _) hil)]
  have hr1:((decide ((i:Int)<(l.length:Int)))&&((decide ((ix l i)=t))||(false&&false)))=(decide (t∈l)):=by
   have:i=j:=by omega
   subst this
   rw[←Mr hr hlo hhi]
   simp
  exact rE () [.tmp 4,.tmp 5] J [int (i:Int),bl ((decide ((i:Int)<(l.length:Int)))&&((decide ((ix l i)=t))||(false&&false)))] ⟨.tmp J,.tmp J,tV⟩ (cA2 (fun x0 x1=>rV [int x0,bl x1]) hr0 hr1) trivial eX
theorem rC (x:SA) (hr:rising x.aP=true) (t:Int):
 Fn0 Tryz.prog 97 [state x,int t] (bl (decide (t∈x.aP))):=by
 refine fnI Tryz.func97 rfl rfl (fun w0 F0=> ?_)
 refine fcC (bW 0 J) (fun hS0=> ?_)
 obtain⟨hxa0,hxn0⟩:=BL hS0
 refine sq (rg (bx (key:=2) (cs:= [sl 1 nE x.aP,sl 1 nE x.next]) J fun b2=>(ag (nl (th (sq (rg (fP J T.cY (lP J J J T.bF (mv (bI (φs:= [sl 1 nE x.aP,int t]) (φ:=tup [int (bsP x.aP t:Int),bl (decide (t∈x.aP))]) ⟨J,J,tV⟩ (search.Mv _ aS _) T.Vq (mv (xt J J (xt J J (ag (ag (nl (th (sq (rg (mv (ag (nl (th (rt ?_)))))))))))))))))))))))))
 exact rE () [.tmp 4] J [bl (decide (t∈x.aP))] ⟨.tmp J,tV⟩ J trivial eX
end search
end
section
open ref01 ref03 ref04 ref06 Part Rungs LeftM TrimM Itoa Keys RoundM
namespace MergeM
theorem nJ {l:List Int} (h:rising l=true):l.Pairwise (· < ·):=by
 rw[List.pairwise_iff_getElem]
 intro i j hi hj hij
 have hstep:∀k,i+k<l.length→ix l i≤ix l (i+k)∧(0<k→ix l i<ix l (i+k)):=fun k=>by
  induction k with
  |zero=>exact fun _=>⟨Int.le_refl _,fun h=>by omega⟩
  |succ k ih=>
   intro hk
   have h1:=ih O
   have h2:=Ec h (i:=i+k) O
   rw[show i+(k+1)=i+k+1 by omega]
   exact⟨O,fun _=>by omega⟩
 have:=(hstep (j- i) O).2 O
 rw[show i+(j- i)=j by omega,aG hi,aG hj] at this
 exact this
theorem yA {l:List Int} (h:l.Pairwise (· < ·)):rising l=true:=by
 unfold rising
 rw[List.all_eq_true]
 intro i hi
 have hi:=List.mem_range.1 hi
 rw[decide_eq_true_eq,aG O,aG O]
 exact List.pairwise_iff_getElem.1 h i (i+1) O O O
theorem mF {s:SS} (hs:oK s) {x:Nat} (hx:x<s.sT.length):rising (keep s x)=true:=
 yA ((nJ (hs.st x hx).rise).filter _)
theorem wD {s:SS} {x:Int} {a:Nat} (ha:a<s.aC.length):ix (iQ s x) a=if has (aV (keep s x.toNat)) (a:Int) then dN (aJ s) (ix (ix s.sT x.toNat).next a) else-1:=cG ha
theorem gW {s:SS} (hs:oK s) {i:Nat} (hi:i<(aJ s).length):0≤ix (aJ s) i∧ix (aJ s) i<(s.sT.length:Int):=(show okQ s.sT.length (aJ s) from xR hs).1 i hi
theorem nZ {s:SS} (hs:oK s):(aJ s).length≤s.sT.length:=(show okQ s.sT.length (aJ s) from xR hs).le
noncomputable abbrev tS (s:SS):SS:=⟨s.aC,(aJ s).map (fM s)⟩
theorem kA (s:SS):(tS s).sT.length=(aJ s).length:=by simp
theorem mM {s:SS} {i:Nat} (hi:i<(aJ s).length):ix (tS s).sT i=fM s (ix (aJ s) i):=by
 rw[aG (by rw[kA];exact hi),aG hi];simp
theorem Rw {s:SS} (hs:oK s):oK (tS s):=by
 have hop:=kT s
 have hol:=nZ hs
 have hf1:=hs.few1
 have hn8:=hs.n8
 refine⟨hs.acts,hs.n8,by rw[kA];exact hop,by rw[kA];omega,fun k hk=> ?_⟩
 rw[kA] at hk ⊢
 rw[mM hk]
 have hb:=gW hs hk
 have hx:(ix (aJ s) k).toNat<s.sT.length:=by omega
 have hkb:=SE hs (ix (aJ s) k).toNat
 refine⟨by simp[fM,iQ],fun a ha=> ?_,fun i hi=>hkb.1 _ (gO hi),fun i hi a ha=> ?_,mF hs hx⟩
 ·show-1≤ix (iQ s _) a∧ix (iQ s _) a<_
  rw[wD (s:=s) ha]
  split
  ·have:=fZ (aJ s) (ix (ix s.sT (ix (aJ s) k).toNat).next a)
   omega
  ·omega
 ·have hh:has (aV (keep s (ix (aJ s) k).toNat)) (a:Int)=true:=(cO _ _).2 ⟨_,gO hi,ha⟩
  have hg:=kS hs hx hh
  have hal:a<s.aC.length:=by have:=(hs.st _ hx).len;omega
  refine⟨hal,?_⟩
  show 0≤ix (iQ s _) a
  rw[wD hal,if_pos hh]
  exact(fZ _ _).1
open Classical in
theorem kU {s:SS} {x:Nat} (hx:x<s.sT.length):ix (hOl s) x=true↔Hol s x:=by
 unfold hOl;rw[cG hx];simp
theorem Ce {s:SS} {x:Nat} (hx:¬x<s.sT.length):ix (hOl s) x=false:=by
 have:(hOl s)[x]?=none:=List.getElem?_eq_none (by rw[vW];omega)
 unfold ix
 rw[List.getD_eq_getElem?_getD,this];rfl
theorem zC {s:SS} {x:Nat} (hx:x<s.sT.length) (h:ix (hOl s) x=false):keep s x≠[]:=fun he=>by
 have hH:¬Hol s x:=fun hh=>by rw[(kU hx).2 hh] at h;cases h
 refine hH (vV s x hx (fun i hi=> ?_))
 rw[kC h,List.filter_eq_nil_iff] at he
 have h1:=he _ (gO hi)
 simp only [Bool.not_eq_true',Bool.not_eq_false] at h1
 obtain⟨a,h2,h3,h4,h5⟩:=kQ.1 h1
 refine⟨a,h2,h3,h4,?_⟩
 by_cases hb:(ix (ix s.sT x).next a).toNat<s.sT.length
 ·exact(kU hb).1 h5
 ·rw[Ce hb] at h5;cases h5
theorem yB {s:SS} (hs:oK s) (h0:ix (hOl s) 0=false) {i:Nat} (hi:i<(aJ s).length):ix (hOl s) (ix (aJ s) i).toNat=false:=
 vZ hs h0 _ _ (gO hi)
theorem yC {s:SS} (hs:oK s) (h0:ix (hOl s) 0=false) (i:Nat):ix (hOl (tS s)) i=false:=by
 by_cases hi:i<(tS s).sT.length
 ·cases hv:ix (hOl (tS s)) i with
  |false=>rfl
  |true=>
   have h:=(kU hi).1 hv
   exfalso
   refine h (fun _=>False) (fun x hx hc=> ?_)
   rw[kA] at hx
   have hb:=gW hs hx
   have hne:=zC (s:=s) (x:=(ix (aJ s) x).toNat) O (yB hs h0 hx)
   have hl:0<(ix (tS s).sT x).aP.length:=by rw[mM hx];exact List.length_pos_iff.2 hne
   obtain⟨_,_,_,_,h⟩:=hc 0 hl
   exact h
 ·exact Ce hi
theorem Ja {s:SS} (hs:oK s) (h0:ix (hOl s) 0=false) {i:Nat} (hi:i<(aJ s).length):keep (tS s) i=keep s (ix (aJ s) i).toNat:=by
 rw[kC (yC hs h0 i),mM hi]
 show(keep s _).filter _=_
 rw[List.filter_eq_self]
 intro t _
 rw[Bool.not_eq_true']
 cases hf:iP (fM s (ix (aJ s) i)) t (hOl (tS s)) with
 |false=>rfl
 |true=>
  obtain⟨a,_,_,_,h⟩:=kQ.1 hf
  rw[yC hs h0] at h;cases h
theorem Mw {y:Int}:∀(ks l:List Int),y∈l→y∈visit l ks:=fun ks l h=>(gV ks l).subset h
theorem tN {y:Int} (h0:0≤y):∀(ks l:List Int),y∈ks→y∈visit l ks
 |k::ks,l,h=>by
  rw[jF,List.foldl_cons]
  rcases List.mem_cons.1 h with rfl|h
  ·refine Mw ks _ ?_
   unfold jZ
   by_cases hc:l.contains y=true
   ·rw[hc];simp;exact List.contains_iff_mem.1 hc
   ·simp only [Bool.not_eq_true] at hc
    rw[hc,if_pos (by simp[h0])];simp
  ·exact tN h0 ks _ h
theorem oC {s:SS} (hs:oK s) {i:Nat} (hi:i<(aJ s).length) {a:Nat} (ha:has (aV (keep s (ix (aJ s) i).toNat)) (a:Int)=true):ix (ix s.sT (ix (aJ s) i).toNat).next a∈aJ s:=by
 have hol:=nZ hs
 have hi2:i<(bq (aQ s) i).length:=by
  rcases Nat.lt_or_ge i (bq (aQ s) i).length with h|h
  ·exact h
  ·have he:=Ca hs h O
   have:(aJ s).length≤i:=by show(order (aQ s)).length≤i;rw[←he];exact h
   omega
 have hp:=mU hs (i:=i) O
 have hix:ix (aJ s) i=ix (bq (aQ s) i) i:=nH hp hi2
 have hp1:=mU hs (i:=i+1) O
 rw[De hs hi2] at hp1
 refine hp1.subset ?_
 have hb:=gW hs hi
 have hg:=kS hs (x:=(ix (aJ s) i).toNat) O ha
 rw[←hix]
 have hn8:=hs.n8
 have hl:=(hs.st (ix (aJ s) i).toNat O).len
 refine tN hg.2.1 _ _ (List.mem_map.2 ⟨(a:Int),dZ.2 ⟨a,rfl,O,ha⟩,by rw[Int.toNat_natCast]⟩)
end MergeM
end
section
open ref01 ref03 ref04 ref06 Part Rungs LeftM TrimM Itoa Keys RoundM MergeM
namespace BisM
abbrev acc (T:SS) (x:Nat):List Int:=(ix T.sT x).aP
abbrev nxt (T:SS) (x:Nat):List Int:=(ix T.sT x).next
def Rx (R:Nat→Nat→Prop) (k j:Int):Prop:=(k<0↔j<0)∧(0≤k→R k.toNat j.toNat)
structure Bis (T U:SS) (R:Nat→Nat→Prop):Prop where
 acc:∀{x y},R x y→acc T x=acc U y
 len:∀{x y},R x y→(nxt T x).length=(nxt U y).length
 nxt:∀{x y},R x y→∀a,a<(nxt T x).length→Rx R (ix (nxt T x) a) (ix (nxt U y) a)
def Sim2 (T U:SS) (x y:Nat):Prop:=∃R,Bis T U R∧R x y
theorem Pg (T:SS) (x:Nat):Sim2 T T x x:=
 ⟨Eq,⟨fun h=>by rw[h],fun h=>by rw[h],fun {x y} h a ha=>by subst h;exact⟨Iff.rfl,fun _=>rfl⟩⟩,rfl⟩
theorem Sim2.symm {T U:SS} {x y:Nat} (h:Sim2 T U x y):Sim2 U T y x:=by
 obtain⟨R,hR,hxy⟩:=h
 refine⟨fun a b=>R b a,⟨fun h=>(hR.acc h).symm,fun h=>(hR.len h).symm,fun {a b} h i hi=> ?_⟩,hxy⟩
 obtain⟨h1,h2⟩:=hR.nxt h i (by rw[hR.len h];exact hi)
 exact⟨h1.symm,fun h0=>h2 O⟩
theorem Sim2.trans {T U V:SS} {x y z:Nat} (h:Sim2 T U x y) (h':Sim2 U V y z):Sim2 T V x z:=by
 obtain⟨R,hR,hxy⟩:=h
 obtain⟨S,hS,hyz⟩:=h'
 refine⟨fun a c=> ∃b,R a b∧S b c,⟨fun⟨b,h1,h2⟩=>(hR.acc h1).trans (hS.acc h2),fun⟨b,h1,h2⟩=>(hR.len h1).trans (hS.len h2),fun {a c} ⟨b,h1,h2⟩ i hi=> ?_⟩,y,hxy,hyz⟩
 obtain⟨g1,g2⟩:=hR.nxt h1 i hi
 obtain⟨g3,g4⟩:=hS.nxt h2 i (by rw[←hR.len h1];exact hi)
 exact⟨g1.trans g3,fun h0=>⟨_,g2 h0,g4 O⟩⟩
theorem Di (T U:SS):Bis T U (Sim2 T U):=by
 refine⟨fun⟨R,hR,h⟩=>hR.acc h,fun⟨R,hR,h⟩=>hR.len h,fun {x y} ⟨R,hR,h⟩ a ha=> ?_⟩
 obtain⟨h1,h2⟩:=hR.nxt h a ha
 exact⟨h1,fun h0=>⟨R,hR,h2 h0⟩⟩
theorem FZ {s:SS} (hs:oK s) (h0:ix (hOl s) 0=false):aQ (tS s)=tS s:=by
 unfold aQ
 congr 1
 apply List.ext_getElem
 ·simp
 ·intro i h1 h2
  simp only [List.length_map,List.length_range] at h1
  rw[List.getElem_map,List.getElem_range]
  have hi:i<(aJ s).length:=by simpa using h1
  have hk:=Ja hs h0 hi
  have e:(List.map (fM s) (aJ s))[i]=ix (tS s).sT i:=(aG (by rw[kA];exact hi)).symm
  rw[e]
  unfold vX
  rw[hk,mM hi]
  unfold fM
  congr 1
  unfold cut iQ
  have hl:(List.map (fun(a:Nat)=>if has (aV (keep s (ix (aJ s) i).toNat)) (a:Int)=true then dN (aJ s) (ix (ix s.sT (ix (aJ s) i).toNat).next a) else-1) (List.range s.aC.length)).length=s.aC.length:=by simp
  show List.map _ (List.range (List.map _ (List.range _)).length)=_
  rw[List.length_map,List.length_range]
  refine List.map_congr_left (fun a ha=> ?_)
  have ha:=List.mem_range.1 ha
  rw[cG ha]
  split
  ·rfl
  ·rfl
theorem Vr {s:SS} (hs:oK s) (h0:ix (hOl s) 0=false) {i:Nat} (hi:i<(aJ s).length):Sim2 (tS s) (aQ s) i (ix (aJ s) i).toNat:=by
 refine⟨fun a b=>a<(aJ s).length∧b=(ix (aJ s) a).toNat,⟨fun {a b} ⟨ha,hb⟩=> ?_,fun {a b} ⟨ha,hb⟩=> ?_,fun {a b} ⟨ha,hb⟩ k hk=> ?_⟩,hi,rfl⟩
 ·subst hb
  have hbd:=gW hs ha
  show(ix (tS s).sT a).aP=(ix (aQ s).sT _).aP
  rw[mM ha,fW O]
  rfl
 ·subst hb
  have hbd:=gW hs ha
  show(ix (tS s).sT a).next.length=(ix (aQ s).sT _).next.length
  rw[mM ha,lK hs O]
  simp[fM,iQ]
 ·subst hb
  have hbd:=gW hs ha
  have hx:(ix (aJ s) a).toNat<s.sT.length:=by omega
  have hk':k<s.aC.length:=by
   have:(nxt (tS s) a).length=s.aC.length:=by show(ix (tS s).sT a).next.length=_;rw[mM ha];simp[fM,iQ]
   omega
  have e1:ix (nxt (tS s) a) k=ix (iQ s (ix (aJ s) a)) k:=by show ix (ix (tS s).sT a).next k=_;rw[mM ha];rfl
  have e2:ix (nxt (aQ s) (ix (aJ s) a).toNat) k=ix (cut (ix s.sT (ix (aJ s) a).toNat) (aV (keep s (ix (aJ s) a).toNat))) k:=by show ix (ix (aQ s).sT _).next k=_;rw[fW hx];rfl
  rw[e1,e2,wD hk',xQ (by rw[(hs.st _ hx).len];exact hk')]
  by_cases hh:has (aV (keep s (ix (aJ s) a).toNat)) (k:Int)=true
  ·rw[if_pos hh,if_pos hh]
   have hg:=kS hs hx hh
   obtain⟨p1,p2⟩:=kD (oC hs ha hh)
   have p0:=(fZ (aJ s) (ix (ix s.sT (ix (aJ s) a).toNat).next k)).1
   refine⟨⟨fun h=>by omega,fun h=>by omega⟩,fun _=>⟨O,by rw[p2]⟩⟩
  ·rw[if_neg hh,if_neg hh]
   exact⟨Iff.rfl,fun h=>by omega⟩
end BisM
end
section
open ref01 ref03 ref04 ref06 Part Rungs LeftM TrimM Itoa Keys RoundM MergeM BisM
namespace BisM2
noncomputable abbrev cnt (s:SS) (k:Nat):Nat:=(qZ (alike (aQ (tS s)) (itR (tS s) (tS s).sT.length).1) k).2.length
theorem rX (s:SS):ix (aJ s) 0=0:=by
 have h:=tJ (aQ s) 0 (aQ s).sT.length
 rw[Nat.zero_add] at h
 exact nH h (j:=0) (by show 0< [(0:Int)].length;simp)
end BisM2
end
section
open ref01 ref03 ref04 ref06 Part Rungs LeftM TrimM Itoa Keys RoundM MergeM BisM BisM2
namespace BisM3
def rg (c:Nat):List Int:=(List.range c).map fun(k:Nat)=>(k:Int)
theorem yD (c:Nat):(rg c).length=c:=by simp[rg]
theorem EX {c k:Nat} (h:k<c):ix (rg c) k=(k:Int):=cG h
theorem SH (c:Nat):rg (c+1)=rg c++ [(c:Int)]:=by unfold rg;rw[List.range_succ,List.map_append];rfl
theorem Vs {c:Nat} {y:Int}:y∈rg c↔0≤y∧y<(c:Int):=by
 unfold rg
 rw[List.mem_map]
 constructor
 ·rintro⟨k,hk,rfl⟩
  have:=List.mem_range.1 hk
  omega
 ·rintro⟨h0,h1⟩
  exact⟨y.toNat,List.mem_range.2 O,O⟩
theorem tO {l:List Int} {k:Int} (h:k<0∨k∈l):jZ l k=l:=by
 unfold jZ
 rw[if_neg]
 simp only [Bool.and_eq_true,decide_eq_true_eq,Bool.not_eq_true',not_and,Bool.not_eq_false]
 intro h0
 rcases h with h|h
 ·omega
 ·exact List.contains_iff_mem.2 h
theorem wE {l:List Int} {k:Int} (h0:0≤k) (h:k∉l):jZ l k=l++ [k]:=by
 unfold jZ
 rw[if_pos]
 simp only [Bool.and_eq_true,decide_eq_true_eq,Bool.not_eq_true']
 refine⟨h0,?_⟩
 cases hc:l.contains k with
 |false=>rfl
 |true=>exact absurd (List.contains_iff_mem.1 hc) h
theorem Cf (l ks:List Int) (k:Int):visit l (k::ks)=visit (jZ l k) ks:=rfl
theorem tP (l ks:List Int) (k:Int):visit l (ks++ [k])=jZ (visit l ks) k:=by rw[jF,List.foldl_append];rfl
theorem Ac {g:Int→Int} (hg:∀k,0≤g k):∀(ks l:List Int),visit [] ((visit l ks).map g)=visit (visit [] (l.map g)) (ks.map fun k=>if 0≤k then g k else k)
 | [],_=>rfl
 |k::ks,l=>by
  rw[Cf,Ac hg ks,List.map_cons,Cf]
  congr 1
  by_cases hk:k<0∨k∈l
  ·rw[tO hk]
   by_cases h0:k<0
   ·rw[if_neg O,tO (.inl h0)]
   ·rw[if_pos O,tO (.inr (tN (hg k) _ _ (List.mem_map.2 ⟨k,hk.resolve_left h0,rfl⟩)))]
  ·have h0:0≤k:=by have:=fun h=>hk (.inl h);omega
   rw[wE h0 (fun h=>hk (.inr h)),if_pos h0,List.map_append,List.map_cons,List.map_nil,tP]
theorem Ii {α:Type} {l m:List α} (h:l<+:m):l=m.take l.length:=by
 obtain⟨t,rfl⟩:=h
 simp
noncomputable abbrev qn (s:SS) (i:Nat):Nat:=(bq (aQ s) i).length
theorem Jb {s:SS} (hs:oK s) {i:Nat} (hi:i≤s.sT.length):bq (aQ s) i=(aJ s).take (qn s i):=Ii (mU hs hi)
theorem Ry {s:SS} (hs:oK s) {i:Nat} (hi:i≤s.sT.length):qn s i≤(aJ s).length:=(mU hs hi).length_le
theorem Rz {s:SS} (hs:oK s) {i:Nat} (hi:i<(aJ s).length):i<qn s i:=by
 have hol:=nZ hs
 rcases Nat.lt_or_ge i (qn s i) with h|h
 ·exact h
 ·have he:=Ca hs h O
  have:(aJ s).length≤i:=by show(order (aQ s)).length≤i;rw[←he];exact h
  omega
structure Num (A:SS):Prop where
 ord:order A=rg A.sT.length
 pos:0<A.sT.length
 nx:∀x,x<A.sT.length→∀a,a<(nxt A x).length→ -1≤ix (nxt A x) a∧ix (nxt A x) a<(A.sT.length:Int)
 red:∀{x y},x<A.sT.length→y<A.sT.length→Sim2 A A x y→x=y
end BisM3
end
section
open ref01 ref03 ref04 ref06 Part Rungs LeftM TrimM Itoa Keys RoundM MergeM BisM BisM2 BisM3
namespace BisM4
theorem Dj {α β:Type} [Inhabited α] [Inhabited β] {f:α→β} {l:List α} {k:Nat} (h:k<l.length):ix (l.map f) k=f (ix l k):=by
 rw[aG (by simpa using h),aG h,List.getElem_map]
theorem rY {s:SS} {x:Nat} (h:ix (hOl s) x=true):keep s x= []:=by
 unfold keep
 rw[List.filter_eq_nil_iff]
 intro t _
 rw[h];simp
theorem AC (a:Nat):has (aV []) (a:Int)=false:=by
 cases h:has (aV []) (a:Int) with
 |false=>rfl
 |true=>
  obtain⟨t,ht,_⟩:=(cO [] a).1 h
  cases ht
theorem Jc {s t:SS} (hs:oK s) (ht:oK t) (ha:s.aC.length=t.aC.length) {x y:Nat} (hx:x<s.sT.length) (hy:y<t.sT.length) (h1:ix (hOl s) x=true) (h2:ix (hOl t) y=true):Sim2 (aQ s) (aQ t) x y:=by
 refine⟨fun a b=>a=x∧b=y,⟨fun {a b} ⟨e1,e2⟩=> ?_,fun {a b} ⟨e1,e2⟩=> ?_,fun {a b} ⟨e1,e2⟩ k hk=> ?_⟩,rfl,rfl⟩
 ·subst e1;subst e2
  show(ix (aQ s).sT _).aP=(ix (aQ t).sT _).aP
  rw[fW hx,fW hy]
  show keep s _=keep t _
  rw[rY h1,rY h2]
 ·subst e1;subst e2
  show(ix (aQ s).sT _).next.length=(ix (aQ t).sT _).next.length
  rw[lK hs hx,lK ht hy,ha]
 ·subst e1;subst e2
  have hk1:k<s.aC.length:=by
   have:k<(ix (aQ s).sT a).next.length:=hk
   rwa [lK hs hx] at this
  have f1:ix (nxt (aQ s) a) k= -1:=by
   show ix (ix (aQ s).sT a).next k= -1
   rw[fW hx]
   show ix (cut _ (aV (keep s a))) k= -1
   rw[rY h1,xQ (by rw[(hs.st _ hx).len];exact hk1),AC];rfl
  have f2:ix (nxt (aQ t) b) k= -1:=by
   show ix (ix (aQ t).sT b).next k= -1
   rw[fW hy]
   show ix (cut _ (aV (keep t b))) k= -1
   rw[rY h2,xQ (by rw[(ht.st _ hy).len];omega),AC];rfl
  show Rx _ (ix (nxt (aQ s) a) k) (ix (nxt (aQ t) b) k)
  rw[f1,f2]
  exact⟨Iff.rfl,fun h=>by omega⟩
theorem zD {s t:SS} {x y:Nat} (hx:x<s.sT.length) (hy:y<t.sT.length) (h1:ix (hOl s) x=true) (h2:ix (hOl t) y=false):¬Sim2 (aQ s) (aQ t) x y:=fun h=>by
 have:=(Di _ _).acc h
 have e:keep s x=keep t y:=by
  have h':(ix (aQ s).sT x).aP=(ix (aQ t).sT y).aP:=this
  rw[fW hx,fW hy] at h'
  exact h'
 rw[rY h1] at e
 exact zC hy h2 e.symm
theorem wF {l:List ByteArray} (h:cZ l=true):oK (nothing l):=by
 have hn:=iX h
 refine⟨h,hn,Nat.le_refl _,by show 1≤10000;omega,fun k hk=> ?_⟩
 have:k=0:=by have:k<1:=hk;omega
 subst this
 refine⟨by show(List.replicate _ _).length=_;simp[nothing],fun a ha=> ?_,fun i hi=> ?_,fun i hi=> ?_,rfl⟩
 ·have e:ix (ix (nothing l).sT 0).next a= -1:=by
   show ix (List.replicate l.length (-1:Int)) a= -1
   have ha:a<l.length:=ha
   rw[aG (by simpa using ha)];simp
  rw[e]
  show-1≤(-1:Int)∧(-1:Int)<((1:Nat):Int)
  omega
 ·exact absurd hi (Nat.not_lt_zero i)
 ·exact absurd hi (Nat.not_lt_zero i)
theorem uY (l:List ByteArray):ix (hOl (nothing l)) 0=true:=by
 refine(kU (by show 0<1;omega)).2 (vV _ 0 (by show 0<1;omega) (fun i hi=>absurd hi (Nat.not_lt_zero i)))
end BisM4
end
section
open ref01 ref03 ref04 ref06 MergeM Rungs
namespace TurnM
theorem zE {α β:Type} [Inhabited α] [Inhabited β] {f:α→β} {l:List α} {k:Nat} (h:k<l.length):ix (l.map f) k=f (ix l k):=by
 rw[aG (by simpa using h),aG h,List.getElem_map]
end TurnM
end
section
open ref01 ref03 ref04 ref06 Part Rungs LeftM TrimM Itoa Keys RoundM MergeM BisM BisM2 BisM3 BisM4 TurnM
namespace BisM5
theorem jL {s:SS} {x:Nat} (hx:x<s.sT.length):acc (aQ s) x=keep s x:=by
 show(ix (aQ s).sT x).aP=_
 rw[fW hx];rfl
theorem oX {s:SS} (hs:oK s) {x:Nat} (hx:x<s.sT.length) {a:Nat} (ha:a<s.aC.length):ix (nxt (aQ s) x) a=if has (aV (keep s x)) (a:Int)=true then ix (nxt s x) a else-1:=by
 show ix (ix (aQ s).sT x).next a=_
 rw[fW hx]
 exact xQ (by rw[(hs.st x hx).len];exact ha)
theorem jQ {s:SS} (hs:oK s) {x:Nat} (hx:x<s.sT.length):(nxt (aQ s) x).length=s.aC.length:=lK hs hx
theorem Cg:∀{l m:List Int},l.Pairwise (· < ·)→m.Pairwise (· < ·)→(∀u,u∈l↔u∈m)→l=m
 | [],[],_,_,_=>rfl
 | [],y::m,_,_,h=>absurd ((h y).2 (by simp)) (by simp)
 |x::l,[],_,_,h=>absurd ((h x).1 (by simp)) (by simp)
 |x::l,y::m,hl,hm,h=>by
  have e:x=y:=by
   have h1:=(h x).1 (by simp)
   have h2:=(h y).2 (by simp)
   rcases List.mem_cons.1 h1 with h1|h1
   ·exact h1
   ·rcases List.mem_cons.1 h2 with h2|h2
    ·exact h2.symm
    ·have g1:=(List.pairwise_cons.1 hm).1 x h1
     have g2:=(List.pairwise_cons.1 hl).1 y h2
     omega
  subst e
  congr 1
  refine Cg (List.pairwise_cons.1 hl).2 (List.pairwise_cons.1 hm).2 (fun u=>⟨fun hu=> ?_,fun hu=> ?_⟩)
  ·rcases List.mem_cons.1 ((h u).1 (List.mem_cons_of_mem _ hu)) with h1|h1
   ·have:=(List.pairwise_cons.1 hl).1 u hu;omega
   ·exact h1
  ·rcases List.mem_cons.1 ((h u).2 (List.mem_cons_of_mem _ hu)) with h1|h1
   ·have:=(List.pairwise_cons.1 hm).1 u hu;omega
   ·exact h1
structure Ref (T t:SS) (R:Nat→Nat→Prop):Prop where
 bd:∀{x y},R x y→x<T.sT.length∧y<t.sT.length
 acc:∀{x y},R x y→∀u∈acc T x,u∈acc t y
 nxt:∀{x y},R x y→∀a:Nat,has (aV (BisM.acc T x)) (a:Int)=true→R (ix (nxt T x) a).toNat (ix (nxt t y) a).toNat
def rZ (s t:SS):Prop:=ix (hOl s) 0=true∨∃R,Ref (tS s) t R∧R 0 0
theorem qD {s:SS} {i:Nat} (hi:i<(aJ s).length):acc (tS s) i=keep s (ix (aJ s) i).toNat:=by
 show(ix (tS s).sT i).aP=_
 rw[mM hi];rfl
theorem EY {s:SS} {i:Nat} (hi:i<(aJ s).length) {a:Nat} (ha:a<s.aC.length):ix (nxt (tS s) i) a=if has (aV (keep s (ix (aJ s) i).toNat)) (a:Int)=true then dN (aJ s) (ix (ix s.sT (ix (aJ s) i).toNat).next a) else-1:=by
 show ix (ix (tS s).sT i).next a=_
 rw[mM hi]
 exact wD ha
theorem tQ {s t:SS} (hs:oK s) (ht:oK t) (h0:ix (hOl s) 0=false) {R:Nat→Nat→Prop} (hR:Ref (tS s) t R) {x y:Nat} (h:R x y):ix (hOl t) y=false:=by
 have hy:=(hR.bd h).2
 cases hv:ix (hOl t) y with
 |false=>rfl
 |true=>
  exfalso
  refine(kU hy).1 hv (fun y=> ∀x,¬R x y) (fun y hy hc x hxy=> ?_) x h
  have hx:=(hR.bd hxy).1
  rw[kA] at hx
  have hb:=gW hs hx
  have hne:acc (tS s) x≠[]:=by rw[qD hx];exact zC O (yB hs h0 hx)
  obtain⟨u,hu⟩:=List.exists_mem_of_ne_nil _ hne
  obtain⟨i,hi,e⟩:=mD (hR.acc hxy u hu)
  obtain⟨a,ha,_,hh,hH⟩:=hc i hi
  have e':ix (ix t.sT y).aP i=u:=e
  rw[e'] at hh
  exact hH _ (hR.nxt hxy a ((cO _ _).2 ⟨u,hu,hh⟩))
theorem wG {s t:SS} (hs:oK s) (ht:oK t) (h0:ix (hOl s) 0=false) {R:Nat→Nat→Prop} (hR:Ref (tS s) t R) {i y:Nat} (h:R i y) {u:Int} (hu:u∈keep s (ix (aJ s) i).toNat):u∈keep t y:=by
 have hi:=(hR.bd h).1
 rw[kA] at hi
 rw[kC (tQ hs ht h0 hR h),List.mem_filter]
 have hu':u∈acc (tS s) i:=by rw[qD hi];exact hu
 refine⟨hR.acc h u hu',?_⟩
 rw[Bool.not_eq_true']
 cases hf:iP (ix t.sT y) u (hOl t) with
 |false=>rfl
 |true=>
  obtain⟨a,_,_,hh,hv⟩:=kQ.1 hf
  have:=tQ hs ht h0 hR (hR.nxt h a ((cO _ _).2 ⟨u,hu',hh⟩))
  have hv':ix (hOl t) (ix (nxt t y) a).toNat=true:=hv
  rw[this] at hv';cases hv'
theorem Ga {s t:SS} (hs:oK s) (ht:oK t) (ha:s.aC=t.aC) (h1:ix (hOl s) 0=false) (h2:ix (hOl t) 0=false) (h:Sim2 (aQ s) (aQ t) 0 0):∃R,Ref (tS s) t R∧R 0 0:=by
 have hbis:=Di (aQ s) (aQ t)
 have hop:=kT s
 have f:=ht.few0
 refine⟨fun i y=>i<(aJ s).length∧y<t.sT.length∧Sim2 (aQ s) (aQ t) (ix (aJ s) i).toNat y,⟨fun {i y} ⟨hi,hy,_⟩=>⟨by rw[kA];exact hi,hy⟩,fun {i y} ⟨hi,hy,hS⟩ u hu=> ?_,fun {i y} ⟨hi,hy,hS⟩ a hh=> ?_⟩,O,O,by rw[rX];exact h⟩
 ·have hb:=gW hs hi
  rw[qD hi] at hu
  have:=hbis.acc hS
  rw[jL O,jL hy] at this
  rw[this] at hu
  exact(List.mem_filter.1 hu).1
 ·have hb:=gW hs hi
  have hx:(ix (aJ s) i).toNat<s.sT.length:=by omega
  rw[qD hi] at hh
  have hg:=kS hs hx hh
  have hal:a<s.aC.length:=by have:=(hs.st _ hx).len;omega
  have hacc:=hbis.acc hS
  rw[jL hx,jL hy] at hacc
  have hL:=hbis.nxt hS a (by rw[jQ hs hx];exact hal)
  rw[oX hs hx hal,oX ht hy (by rw[←ha];exact hal),←hacc,if_pos hh,if_pos hh] at hL
  obtain⟨p1,p2⟩:=kD (oC hs hi hh)
  have p0:=(fZ (aJ s) (ix (ix s.sT (ix (aJ s) i).toNat).next a)).1
  rw[EY hi hal,if_pos hh]
  have hg2:0≤ix (nxt s (ix (aJ s) i).toNat) a:=hg.2.1
  have hy2:=((ht.st y hy).nx a (by rw[←ha];exact hal)).2
  have hyn:0≤ix (nxt t y) a:=by
   have:=hL.1
   omega
  refine⟨O,by show(ix (ix t.sT y).next a).toNat<_;omega,?_⟩
  rw[p2]
  exact hL.2 hg2
theorem zF {s t:SS} (hs:oK s) (ht:oK t) (ha:s.aC=t.aC):(rZ s t∧rZ t s)↔Sim2 (aQ s) (aQ t) 0 0:=by
 have f1:=hs.few0
 have f2:=ht.few0
 cases h1:ix (hOl s) 0 with
 |true=>
  cases h2:ix (hOl t) 0 with
  |true=>exact⟨fun _=>Jc hs ht (by rw[ha]) O O h1 h2,fun _=>⟨.inl h1,.inl h2⟩⟩
  |false=>
   refine⟨fun⟨_,h⟩=> ?_,fun h=>absurd h (zD O O h1 h2)⟩
   exfalso
   rcases h with h|⟨R,hR,h⟩
   ·rw[h2] at h;cases h
   ·have:=tQ ht hs h2 hR h
    rw[h1] at this;cases this
 |false=>
  cases h2:ix (hOl t) 0 with
  |true=>
   refine⟨fun⟨h,_⟩=> ?_,fun h=>absurd h.symm (zD O O h2 h1)⟩
   exfalso
   rcases h with h|⟨R,hR,h⟩
   ·rw[h1] at h;cases h
   ·have:=tQ hs ht h1 hR h
    rw[h2] at this;cases this
  |false=>
   refine⟨fun⟨g1,g2⟩=> ?_,fun h=>⟨.inr (Ga hs ht ha h1 h2 h),.inr (Ga ht hs ha.symm h2 h1 h.symm)⟩⟩
   obtain⟨R1,hR1,r1⟩:=g1.resolve_left (by simp[h1])
   obtain⟨R2,hR2,r2⟩:=g2.resolve_left (by simp[h2])
   have hop1:=kT s
   have hop2:=kT t
   refine⟨fun X Y=> ∃i j,i<(aJ s).length∧j<(aJ t).length∧X=(ix (aJ s) i).toNat∧Y=(ix (aJ t) j).toNat∧R1 i Y∧R2 j X,⟨?_,?_,?_⟩,0,0,O,O,by rw[rX];rfl,by rw[rX];rfl,r1,r2⟩
   ·rintro X Y ⟨i,j,hi,hj,rfl,rfl,q1,q2⟩
    have b1:=gW hs hi
    have b2:=gW ht hj
    rw[jL O,jL O]
    exact Cg (nJ (mF hs O)) (nJ (mF ht O)) (fun u=>⟨fun hu=>wG hs ht h1 hR1 q1 hu,fun hu=>wG ht hs h2 hR2 q2 hu⟩)
   ·rintro X Y ⟨i,j,hi,hj,rfl,rfl,q1,q2⟩
    have b1:=gW hs hi
    have b2:=gW ht hj
    rw[jQ hs O,jQ ht O,ha]
   ·rintro X Y ⟨i,j,hi,hj,rfl,rfl,q1,q2⟩ a hal
    have b1:=gW hs hi
    have b2:=gW ht hj
    have hx:(ix (aJ s) i).toNat<s.sT.length:=by omega
    have hy:(ix (aJ t) j).toNat<t.sT.length:=by omega
    rw[jQ hs hx] at hal
    have hacc:keep s (ix (aJ s) i).toNat=keep t (ix (aJ t) j).toNat:=Cg (nJ (mF hs hx)) (nJ (mF ht hy)) (fun u=>⟨fun hu=>wG hs ht h1 hR1 q1 hu,fun hu=>wG ht hs h2 hR2 q2 hu⟩)
    rw[oX hs hx hal,oX ht hy (by rw[←ha];exact hal),←hacc]
    by_cases hh:has (aV (keep s (ix (aJ s) i).toNat)) (a:Int)=true
    ·rw[if_pos hh,if_pos hh]
     have hh2:has (aV (keep t (ix (aJ t) j).toNat)) (a:Int)=true:=by rw[←hacc];exact hh
     have k1:=kS hs hx hh
     have k2:=kS ht hy hh2
     have n1:0≤ix (nxt s (ix (aJ s) i).toNat) a:=k1.2.1
     have n2:0≤ix (nxt t (ix (aJ t) j).toNat) a:=k2.2.1
     refine⟨⟨fun h=>by omega,fun h=>by omega⟩,fun _=> ?_⟩
     obtain⟨p1,p2⟩:=kD (oC hs hi hh)
     have p0:=(fZ (aJ s) (ix (ix s.sT (ix (aJ s) i).toNat).next a)).1
     obtain⟨o1,o2⟩:=kD (oC ht hj hh2)
     have o0:=(fZ (aJ t) (ix (ix t.sT (ix (aJ t) j).toNat).next a)).1
     have e1:=hR1.nxt q1 a (by rw[qD hi];exact hh)
     have e2:=hR2.nxt q2 a (by rw[qD hj];exact hh2)
     rw[EY hi hal,if_pos hh] at e1
     rw[EY hj (by rw[←ha];exact hal),if_pos hh2] at e2
     exact⟨_,_,O,O,by rw[p2],by rw[o2],e1,e2⟩
    ·rw[if_neg hh,if_neg hh]
     exact⟨Iff.rfl,fun h=>by omega⟩
end BisM5
end
section
open ref01 ref03 ref04 ref06 Part Rungs LeftM TrimM RoundM BisM BisM5
namespace WalkM
structure Mt where
 s:Int
 t:Int
 before:Int
 action:Int
deriving Inhabited,DecidableEq
def dF (m:Mt):Int × Int:=(m.s,m.t)
def blV (b:Bool):AV:=bl b
def qR (mm:List ((Int × Int) × Bool)) (q:List Mt):Prop:=∀p,bJ mm p=if p∈q.map dF then some true else none
theorem Gb {mm:List ((Int × Int) × Bool)} {q:List Mt} (h:qR mm q) (p:Int × Int):(bJ mm p).getD false=decide (p∈q.map dF):=by
 rw[h p]
 by_cases hp:p∈q.map dF
 ·rw[if_pos hp,decide_eq_true hp];rfl
 ·rw[if_neg hp,decide_eq_false hp];rfl
theorem Es {mm:List ((Int × Int) × Bool)} {q:List Mt} (h:qR mm q) (m:Mt):qR (bQ mm (dF m) true) (q++ [m]):=by
 intro p
 rw[kO,h p,List.map_append,List.map_cons,List.map_nil]
 by_cases e:dF m=p
 ·rw[if_pos e,if_pos (by rw[e];simp)]
 ·rw[if_neg e]
  have:p∈q.map dF++ [dF m]↔p∈q.map dF:=by
   rw[List.mem_append]
   exact⟨fun h=>h.resolve_right (fun h=>e (List.mem_singleton.1 h).symm),.inl⟩
  by_cases hp:p∈q.map dF
  ·rw[if_pos hp,if_pos (this.2 hp)]
  ·rw[if_neg hp,if_neg (fun h=>hp (this.1 h))]
structure KA (T t:SS) (q:List Mt):Prop where
 ne:0<q.length
 hd:ix q 0=⟨0,0,-1,0⟩
 bd:∀m∈q,0≤m.s∧m.s<(T.sT.length:Int)∧0≤m.t∧m.t<(t.sT.length:Int)
 nd:(q.map dF).Nodup
 back:∀k,0<k→k<q.length→∃(b a:Nat),(ix q k).before=(b:Int)∧(ix q k).action=(a:Int)∧b<k∧has (aV (acc T (ix q b).s.toNat)) (a:Int)=true∧(ix q k).s=ix (nxt T (ix q b).s.toNat) a∧(ix q k).t=ix (nxt t (ix q b).t.toNat) a
 all:∀R,Ref T t R→R 0 0→∀m∈q,R m.s.toNat m.t.toNat
def Ph (T t:SS) (q:List Mt) (k:Nat):Prop:=
 (∀u∈acc T (ix q k).s.toNat,u∈acc t (ix q k).t.toNat)∧∀a:Nat,has (aV (acc T (ix q k).s.toNat)) (a:Int)=true→(ix (nxt T (ix q k).s.toNat) a,ix (nxt t (ix q k).t.toNat) a)∈q.map dF
theorem oY {l m:List Mt} {j:Nat} (h:j<l.length):ix (l++m) j=ix l j:=by
 rw[aG (by simp;omega),aG h,List.getElem_append_left h]
theorem Pi {l:List Mt} {x:Mt}:ix (l++ [x]) l.length=x:=by
 rw[aG (by simp)];simp
theorem oD {T:SS} (hT:oK T) {x:Nat} (hx:x<T.sT.length) {a:Nat} (h:has (aV (acc T x)) (a:Int)=true):a<T.aC.length∧0≤ix (nxt T x) a∧ix (nxt T x) a<(T.sT.length:Int):=by
 obtain⟨u,hu,hh⟩:=(cO _ _).1 h
 obtain⟨i,hi,e⟩:=mD hu
 have hst:=hT.st x hx
 have e':ix (ix T.sT x).aP i=u:=e
 obtain⟨g1,g2⟩:=hst.go i hi a (by rw[e'];exact hh)
 exact⟨g1,g2,(hst.nx a g1).2⟩
def Vt (T t:SS):Prop:=∃R,Ref T t R∧R 0 0
structure Yr (T t:SS) (z:List Mt × Int × Int):Prop where
 q:KA T t z.1
 yes:z.2.1<0→Vt T t∧∀k,k<z.1.length→Ph T t z.1 k
 no:0≤z.2.1→¬Vt T t∧z.2.1<(z.1.length:Int)∧z.2.2∈acc T (ix z.1 z.2.1.toNat).s.toNat∧z.2.2∉acc t (ix z.1 z.2.1.toNat).t.toNat
end WalkM
end
section
open ref01 ref03 ref04 ref06 prog prog2 prog3 prog4 prog5 search Part Rungs LeftM TrimM RoundM BisM BisM5 WalkM
abbrev goP (T t:SS) (m:Mt) (a:Nat):Int × Int:=(ix (ix T.sT m.s.toNat).next a,ix (ix t.sT m.t.toNat).next a)
structure Mid (T t:SS) (q:List Mt) (i:Nat) (cn:Int) (m:Nat) (q2:List Mt) (mm2:List ((Int × Int) × Bool)):Prop where
 qi:KA T t q2
 sm:qR mm2 q2
 pre:q<+:q2
 dn:∀k,k<i→Ph T t q2 k
 al:∀a:Nat,(a:Int)∈(aL 63 cn).take m→goP T t (ix q i) a∈q2.map dF
theorem Mx:qR (bQ [] (0,0) true) [⟨0,0,-1,0⟩]:=Es (q:= []) (mm:= []) (fun p=>rfl) ⟨0,0,-1,0⟩
namespace refw
end refw
end
section
open ref01 ref03 ref04 ref06 prog prog2 prog3 prog4 prog5 prog6 prog7 prog8 prog9 prog10 prog11 Part Rungs LeftM TrimM Itoa Keys RoundM MergeM
namespace prog12
end prog12
end
section
open ref01 ref03 ref04 ref06 prog prog2 prog3 prog4 prog5 prog6 prog7 prog8 prog9 prog10 prog11 prog12 Part Rungs LeftM TrimM Itoa Keys RoundM MergeM
namespace prog13
end prog13
end
section
open ref01 ref03 ref04 ref06 prog2 Part TurnM
def Vu (n:Int) (l:List Int):Bool:=decide ((l.length:Int)≤10000)&&l.all fun a=>decide (0≤a)&&decide (a<n)
def pU (s:SS) (x a:Int):Int:=if x<0 then-1 else ix (ix s.sT x.toNat).next a.toNat
def goS (s:SS) (l:List Int):Int:=l.foldl (pU s) 0
theorem SI {s:SS} {l:List Int} {k:Nat} (h:k<l.length):(l.take (k+1)).foldl (pU s) 0=pU s ((l.take k).foldl (pU s) 0) (ix l k):=by
 rw[bN h,List.foldl_append];rfl
namespace starts
end starts
end
section
open ref01 ref03 ref04 ref06 prog prog2 prog3 prog10 prog11 prog12 prog13 starts Part TurnM Itoa
def iH (p:Int→Bool) (l:List Int):Int:=if l.any p=true then(l.findIdx p:Int) else-1
theorem Gc {p:Int→Bool} {l:List Int} (h:∀k,k<l.length→p (ix l k)=false):iH p l= -1:=by
 unfold iH
 rw[if_neg]
 intro h2
 obtain⟨x,hx,hp⟩:=List.any_eq_true.1 h2
 obtain⟨k,hk,rfl⟩:=List.getElem_of_mem hx
 have:=h k hk
 rw[aG hk,hp] at this
 cases this
theorem Gd {p:Int→Bool} {l:List Int} {k:Nat} (hk:k<l.length) (hp:p (ix l k)=true) (h:∀j,j<k→p (ix l j)=false):iH p l=(k:Int):=by
 unfold iH
 rw[if_pos (List.any_eq_true.2 ⟨ix l k,Rungs.aO hk,hp⟩)]
 congr 1
 refine(List.findIdx_eq hk).2 ⟨by rw[←aG hk];exact hp,fun j hj=> ?_⟩
 have:=h j hj
 rw[aG O] at this
 simp[this]
theorem Dk {p:Int→Bool} {l:List Int}:decide (0≤iH p l)=l.any p:=by
 unfold iH
 split
 ·next h=>rw[h];simp
 ·next h=>simp at h ⊢;exact h
namespace prog15
end prog15
end
section
open ref01 ref03 ref04 ref06 prog15 starts Part Rungs LeftM TrimM RoundM BisM BisM5 WalkM
namespace StepM
def upF (q:List Mt):Nat→Nat→List Int
 |0,_=> []
 |n+1,k=>if 0≤(ix q k).before then(ix q k).action::upF q n (ix q k).before.toNat else []
def uZ (q:List Mt):Prop:=∀k,k<q.length→0≤(ix q k).before→(ix q k).before<(k:Int)
theorem Pj {q:List Mt} (hb:uZ q):∀(k n:Nat),k<n→k<q.length→upF q n k=upF q (k+1) k:=by
 intro k
 induction k using Nat.strongRecOn with
 |_ k ih=>
  intro n hn hk
  obtain⟨m,rfl⟩:∃m,n=m+1:=⟨n- 1,O⟩
  unfold upF
  by_cases h:0≤(ix q k).before
  ·have:=hb k hk h
   rw[if_pos h,if_pos h,ih _ O m O O,ih _ O k O O]
  ·rw[if_neg h,if_neg h]
def fX (q:List Mt) (k:Nat):List Int:=(upF q (k+1) k).reverse
theorem Ch {q:List Mt} {k:Nat} (h:(ix q k).before<0):fX q k= []:=by
 unfold fX upF;rw[if_neg O];rfl
theorem Ad {q:List Mt} (hb:uZ q) {k:Nat} (hk:k<q.length) (h:0≤(ix q k).before):fX q k=fX q (ix q k).before.toNat++ [(ix q k).action]:=by
 have:=hb k hk h
 unfold fX
 rw[upF,if_pos h,List.reverse_cons,Pj hb _ k O O]
theorem KC {q:List Mt} (hb:uZ q):∀k,k<q.length→(fX q k).length≤k:=by
 intro k
 induction k using Nat.strongRecOn with
 |_ k ih=>
  intro hk
  by_cases h:0≤(ix q k).before
  ·have h1:=hb k hk h
   have h2:=ih (ix q k).before.toNat O O
   rw[Ad hb hk h,List.length_append,List.length_singleton];omega
  ·rw[Ch O];simp
inductive Runs (T:SS):List Int→Nat→Prop
 |nil:Runs T [] 0
 |snoc {w:List Int} {x a:Nat}:Runs T w x→has (aV (acc T x)) (a:Int)=true→Runs T (w++ [(a:Int)]) (ix (nxt T x) a).toNat
def xAt (T:SS) (w:List Int) (j:Nat):Int:=(w.take j).foldl (pU T) 0
theorem Ge (T:SS) (w:List Int):xAt T w 0=0:=by simp[xAt]
theorem Gf {T:SS} {w:List Int} {j:Nat} (h:j<w.length):xAt T w (j+1)=pU T (xAt T w j) (ix w j):=SI h
theorem Gg {T:SS} {w v:List Int} {j:Nat} (h:j≤w.length):xAt T (w++v) j=xAt T w j:=by
 unfold xAt;rw[List.take_append_of_le_length h]
theorem Dl (T:SS) (w:List Int):xAt T w w.length=goS T w:=by unfold xAt goS;rw[List.take_length]
theorem Gh (T:SS) (w:List Int) (a:Int):goS T (w++ [a])=pU T (goS T w) a:=by unfold goS;rw[List.foldl_append];rfl
theorem yE {T:SS} {x:Int} (h:0≤x) (a:Nat):pU T x (a:Int)=ix (nxt T x.toNat) a:=by unfold pU;rw[if_neg O];rfl
theorem Runs.lt {T:SS} (hT:oK T) {w:List Int} {x:Nat} (h:Runs T w x):x<T.sT.length:=by
 induction h with
 |nil=>have:=hT.few0;omega
 |snoc h ha ih=>have:=(oD hT ih ha);omega
theorem Runs.go {T:SS} (hT:oK T) {w:List Int} {x:Nat} (h:Runs T w x):goS T w=(x:Int):=by
 induction h with
 |nil=>rfl
 |snoc h ha ih=>
  have:=oD hT (h.lt hT) ha
  rw[Gh,ih,yE O,Int.toNat_natCast];omega
def zG (T:SS) (w:List Int):Prop:=∀j,j<w.length→0≤xAt T w j∧xAt T w j<(T.sT.length:Int)∧∃a:Nat,ix w j=(a:Int)∧has (aV (acc T (xAt T w j).toNat)) (a:Int)=true
theorem Pk {l m:List Int} {j:Nat} (h:j<l.length):ix (l++m) j=ix l j:=by
 rw[aG (by simp;omega),aG h,List.getElem_append_left h]
theorem Pm {l:List Int} {x:Int}:ix (l++ [x]) l.length=x:=by rw[aG (by simp)];simp
theorem Runs.alive {T:SS} (hT:oK T) {w:List Int} {x:Nat} (h:Runs T w x):zG T w:=by
 induction h with
 |nil=>intro j hj;simp at hj
 | @snoc w x a h ha ih=>
   intro j hj
   by_cases e:j<w.length
   ·rw[Gg O,Pk e];exact ih j e
   ·have:j=w.length:=by simp at hj;omega
    subst this
    have hlt:=h.lt hT
    rw[Gg (Nat.le_refl _),Dl,h.go hT,Pm]
    exact⟨O,O,a,rfl,by rw[Int.toNat_natCast];exact ha⟩
theorem My {T:SS} (hT:oK T) {w:List Int} (h:zG T w) {j:Nat} (hj:j<w.length):0≤ix w j∧ix w j<(T.aC.length:Int):=by
 obtain⟨h1,h2,a,h3,h4⟩:=h j hj
 have:=oD hT (x:=(xAt T w j).toNat) O h4
 omega
theorem wH {T:SS} (hT:oK T) {w:List Int} (h:zG T w):∀j,j≤w.length→0≤xAt T w j∧xAt T w j<(T.sT.length:Int)
 |0,_=>by rw[Ge];have:=hT.few0;omega
 |j+1,hj=>by
  obtain⟨h1,h2,a,h3,h4⟩:=h j O
  have:=oD hT (x:=(xAt T w j).toNat) O h4
  rw[Gf O,h3,yE h1]
  omega
def Ci (x:SA) (a:Int):Int:=ix x.aP (iH (fun u=>has u a) x.aP).toNat
def mN (x:SA) (a:Int):Bool:=x.aP.any fun u=>has u a
theorem Gi {x:SA} {a:Nat} (h:has (aV x.aP) (a:Int)=true):mN x (a:Int)=true:=by
 obtain⟨u,hu,hh⟩:=(cO _ _).1 h
 exact List.any_eq_true.2 ⟨u,hu,hh⟩
theorem Jd {x:SA} {a:Int} (h:mN x a=true):0≤iH (fun u=>has u a) x.aP∧iH (fun u=>has u a) x.aP<(x.aP.length:Int)∧has (Ci x a) a=true:=by
 unfold mN at h
 have e:iH (fun u=>has u a) x.aP=((x.aP.findIdx fun u=>has u a:Nat):Int):=by unfold iH;rw[if_pos h]
 have hl:x.aP.findIdx (fun u=>has u a)<x.aP.length:=List.findIdx_lt_length.2 (List.any_eq_true.1 h)
 refine⟨O,O,?_⟩
 unfold Ci
 rw[e,Int.toNat_natCast,aG hl]
 exact List.findIdx_getElem (w:=hl)
theorem Pn {x:SA} {a:Int} (h:mN x a=true):Ci x a∈x.aP:=by
 obtain⟨h1,h2,_⟩:=Jd h
 exact aO O
def jR (T:SS) (w:List Int) (j:Nat):Int × Int:=(xAt T w j,Ci (ix T.sT (xAt T w j).toNat) (ix w j))
def kM (T:SS) (w:List Int) (u:Int):List (Int × Int):=(List.range w.length).map (jR T w)++ [(xAt T w w.length,u)]
theorem Mz (T:SS) (w:List Int) (u:Int):(kM T w u).length=w.length+1:=by simp[kM]
theorem MA {T:SS} (hT:oK T) {w:List Int} (h:zG T w) {u:Int} (hu:u∈acc T (goS T w).toNat):∀p∈kM T w u,0≤p.1∧p.1<(T.sT.length:Int)∧p.2∈acc T p.1.toNat:=by
 intro p hp
 unfold kM at hp
 rcases List.mem_append.1 hp with hp|hp
 ·obtain⟨j,hj,rfl⟩:=List.mem_map.1 hp
  rw[List.mem_range] at hj
  obtain⟨h1,h2,a,h3,h4⟩:=h j hj
  refine⟨h1,h2,Pn ?_⟩
  rw[h3];exact Gi h4
 ·have:p=(xAt T w w.length,u):=by simpa using hp
  subst this
  have:=wH hT h w.length (Nat.le_refl _)
  exact⟨this.1,this.2,by rw[Dl];exact hu⟩
end StepM
end
end Go.Proofs.YtnlfjojfgghchaaGreatDoor
