/- The walks of the functions and the plain laws. Own texts of this claim, packed: Zdsearch, ZdMergeM, ZdBisM, ZdBisM2, ZdBisM3, ZdBisM4, ZdTurnM, ZdBisM5, ZdWalkM, Zdrefw, Zdprog12, Zdprog13, Zdstarts, Zdprog15, ZdStepM. -/
import Derived.Test.YtcjemmihcplgdaaGreatDoorX03
import Derived.Test.YtcjemmihcplgdaaGreatDoorX06
import Derived.Test.YtcjemmihcplgdaaGreatDoorX05
import Derived.Test.YtcjemmihcplgdaaGreatDoorX02
import Derived.Test.YtcjemmihcplgdaaGreatDoorX04
set_option linter.all false
namespace Go.Proofs.YtcjemmihcplgdaaGreatDoor
open AL Go
set_option maxRecDepth 100000
section
open ref01 ref03
def bsP (l:List Int) (t:Int):Nat:=(l.takeWhile fun y=>decide (y<t)).length
theorem Mx {p:Int→Bool}:∀{l:List Int} {i:Nat},i≤l.length→(∀k,k<i→p (ix l k)=true)→(i<l.length→p (ix l i)=false)→(l.takeWhile p).length=i
 | [],i,h,_,_=>by have:i=0:=by simpa using h
                  subst this;rfl
 |y::l,0,_,_,h=>by
  have h1:p y=false:=h (by simp)
  simp[List.takeWhile_cons,h1]
 |y::l,i+1,hi,h,h'=>by
  have h1:p y=true:=h 0 O
  have h2:=Mx (p:=p) (l:=l) (i:=i) (by simpa using hi) (fun k hk=>h (k+1) O) (fun hl=>h' (by simpa using hl))
  simp[List.takeWhile_cons,h1,h2]
theorem Dn {l:List Int} (h:rising l=true) {i j:Nat} (hij:i<j) (hj:j<l.length):ix l i<ix l j:=by
 have hst:∀k,i+(k+1)<l.length→ix l i<ix l (i+(k+1)):=fun k=>by
  induction k with
  |zero=>
   intro hk
   unfold rising at h
   have:=List.all_eq_true.1 h i (List.mem_range.2 O)
   simpa using this
  |succ k ih=>
   intro hk
   have h1:=ih O
   unfold rising at h
   have:=List.all_eq_true.1 h (i+(k+1)) (List.mem_range.2 O)
   have h2:ix l (i+(k+1))<ix l (i+(k+1)+1):=by simpa using this
   rw[show i+(k+1+1)=i+(k+1)+1 by omega]
   omega
 have:=hst (j- i- 1) O
 rwa [show i+(j- i- 1+1)=j by omega] at this
theorem My {l:List Int} (h:rising l=true) {t:Int} {i:Nat} (h1:∀k,k<i→ix l k<t) (h2:∀k,i≤k→k<l.length→t≤ix l k):(decide ((i:Int)<(l.length:Int))&&decide (ix l i=t))=decide (t∈l):=by
 by_cases hm:t∈l
 ·rw[decide_eq_true hm]
  obtain⟨k,hk,e⟩:=List.getElem_of_mem hm
  rw[←aJ hk] at e
  have hki:i≤k:=by
   rcases Nat.lt_or_ge k i with h3|h3
   ·have:=h1 k h3;omega
   ·exact h3
  have hil:i<l.length:=by omega
  have:ix l i=t:=by
   rcases Nat.lt_or_ge i k with h3|h3
   ·have g1:=Dn h h3 hk
    have g2:=h2 i (Nat.le_refl _) hil
    omega
   ·have:i=k:=by omega
    subst this;exact e
  rw[decide_eq_true O,decide_eq_true this];rfl
 ·rw[decide_eq_false hm]
  by_cases hil:i<l.length
  ·rw[decide_eq_false (p:=ix l i=t) (fun e=>hm (by rw[←e,aJ hil];exact List.getElem_mem hil))];simp
  ·rw[decide_eq_false O];rfl
namespace T
theorem Mz:Ent Tryz.prog 220:=aG kR
theorem Uz:Ent Tryz.prog 196:=aG kR
theorem MA:Ent Tryz.prog 197:=aG kR
theorem UA:Ent Tryz.prog 164:=aG kR
end T
namespace search
theorem Jb (x:Int):
 Fn0 Tryz.prog 220 [int x] (bl false):=by
 refine fnI Tryz.func220 rfl rfl (fun w0 F0=> ?_)
 refine sq (rg (ag (nl (th (sq (rg (mv (mv (bi J J fS (ag (nl (th (rt ?_)))))))))))))
 have hr0:(decide (x≠x))=false:=by
  first|rfl|simp_all|omega
 exact rE () [.tmp 2] J [bl (decide (x≠x))] ⟨.tmp J,tV⟩ (cA1 (fun x0=>rV [bl x0]) hr0) trivial eX
theorem Jc (x:Int):
 Fn0 Tryz.prog 197 [int x] (bl false):=by
 refine fnI Tryz.func197 rfl rfl (fun w0 F0=> ?_)
 refine sq (rg (ag (nl (th (sq (rg (mv (mv (bi J J fS (ag (nl (th (rt ?_)))))))))))))
 have hr0:(decide (x≠x))=false:=by
  first|rfl|simp_all|omega
 exact rE () [.tmp 2] J [bl (decide (x≠x))] ⟨.tmp J,tV⟩ (cA1 (fun x0=>rV [bl x0]) hr0) trivial eX
theorem Sj (x y:Int):
 Fn0 Tryz.prog 196 [int x,int y] (bl (decide (x<y))):=by
 refine fnI Tryz.func196 rfl rfl (fun w0 F0=> ?_)
 refine sq (rg (ag (nl (th (sq (rg (mv (aO (φs:= [int x]) (φ:=bl false) ⟨J,tV⟩ (search.Jb _) T.Mz (mv ?_)))))))))
 apply eH (t:=7) (pd:=11) rfl
 rotate_left
 ·intro hg0 fin
  exact gy J J J hg0 (mv (gy J J J hg0 (aO (φs:= [int y]) (φ:=bl false) ⟨J,tV⟩ (search.Jb _) T.Mz (gy J J J hg0 (no J (pkT J hg0 J (drp (X:= [(10,_),(9,_),(8,_)]) ⟨J,J,J,tV⟩ fin)))))))
 ·intro hg0 fin
  exact gn J J J hg0 J J (gn J J J hg0 J J (gn J J J hg0 J J (pkF J hg0 J (drp (X:= [(10,_),(9,_),(8,_)]) ⟨J,J,J,tV⟩ fin))))
 refine mv ?_
 apply gOr (t:=12) (pd:=16) rfl
 rotate_left
 ·intro hg1 fin
  have hg1':=hg1
  try simp at hg1'
  exact gy J J J hg1 (mv (gy J J J hg1 (mv (gy J J J hg1 (bi J J aN (pkF J hg1 J (drp (X:= [(15,_),(14,_),(13,_)]) ⟨J,J,J,tV⟩ fin)))))))
 ·intro hg1 fin
  exact gn J J J hg1 J J (gn J J J hg1 J J (gn J J J hg1 J J (pkT J hg1 J (drp (X:= [(15,_),(14,_),(13,_)]) ⟨J,J,J,tV⟩ fin))))
 refine ag (nl (th (rt ?_)))
 have hr0:((false&&(!false))||(decide (x<y)))=(decide (x<y)):=by
  simp
 exact rE () [.tmp 4] J [bl ((false&&(!false))||(decide (x<y)))] ⟨.tmp J,tV⟩ (cA1 (fun x0=>rV [bl x0]) hr0) trivial eX
theorem MB (l:List Int) (hr:rising l=true) (t:Int):
 Fn0 Tryz.prog 164 [ints l,int t] (tup [int (bsP l t:Int),bl (decide (t∈l))]):=by
 refine fnI Tryz.func164 rfl rfl (fun w0 F0=> ?_)
 refine fcC (aL 0 J) (fun hm0=> ?_)
 refine sq (rg (ag (ag (nl (th (sq (rg (mv (lnF J T.aM (ag (nl (th (sq (rg (mv (ag (ag (nl (th (sq (bk ?_)))))))))))))))))))))
 have hI0_0:0≤l.length∧l.length≤l.length∧(∀k,k<0→ix l k<t)∧(∀k,l.length≤k→k<l.length→t≤ix l k):=by
  exact⟨Nat.zero_le _,Nat.le_refl _,fun k hk=>by omega,fun k hk hl=>by omega⟩
 refine lp (κ:=Nat × Nat) (fun p=> [(0,sl 1 nE l),(1,int t),(4,int 0),(5,bl false),(6,int (l.length:Int)),(7,int (p.1:Int)),(8,int (p.2:Int))]) (fun p=> []) (fun p=>p.1≤p.2∧p.2≤l.length∧(∀k,k<p.1→ix l k<t)∧(∀k,p.2≤k→k<l.length→t≤ix l k)) (fun p=>p.2- p.1) ⟨0,l.length⟩ hI0_0 ⟨id,id,id,id,id,id,id,tV⟩ trivial ?_
 intro⟨i,j⟩ hG0
 have hI0:i≤j∧j≤l.length∧(∀k,k<i→ix l k<t)∧(∀k,j≤k→k<l.length→t≤ix l k):=hG0
 show Ct _ _ _ _ [(0,sl 1 nE l),(1,int t),(4,int 0),(5,bl false),(6,int (l.length:Int)),(7,int (i:Int)),(8,int (j:Int))] [] _
 obtain⟨hij,hjl,hlo,hhi⟩:=hI0
 refine sq (sq (rg (mv (mv (bi J J aN (nl (th ?_)))))))
 refine cd J (fun hc0=> ?_) (fun hc0=> ?_)
 ·try simp at hc0
  refine sk (th (bk (sq (rg (mv (mv (bi J J (aK i6) (cv J T.kd3 T.Cz (nM ⟨O,O⟩) (bi J J (Si O) (cv J T.Cz T.kd3 (sR ⟨O,O⟩) (ag (nl (th (sq (rg (mv (mv (iF J J T.aM O gB (lF J J T.aF (mv (aO (φs:= [int (ix l ((i+j)/2)),int t]) (φ:=bl (decide ((ix l ((i+j)/2))<t))) ⟨J,J,tV⟩ (search.Sj _ _) T.Uz (nl (th ?_)))))))))))))))))))))))
  refine cd J (fun hc1=> ?_) (fun hc1=> ?_)
  ·try simp at hc1
   refine rg (mv (bi J J (aK i6) (ag (nl (eb ?_)))))
   have hN0:((i+j)/2+1)≤j∧j≤l.length∧(∀k,k<((i+j)/2+1)→ix l k<t)∧(∀k,j≤k→k<l.length→t≤ix l k):=by
    refine⟨O,O,fun k hk=> ?_,hhi⟩
    by_cases e:k=(i+j)/2
    ·subst e;exact hc1
    ·have:=Dn hr (i:=k) (j:=(i+j)/2) O O
     omega
   exact ln (⟨(i+j)/2+1,j⟩:Nat × Nat) hN0 dO ⟨id,id,id,id,id,id,id,tV⟩ trivial
  ·try simp at hc1
   refine rg (mv (ag (nl (eb ?_))))
   have hN0:i≤((i+j)/2)∧((i+j)/2)≤l.length∧(∀k,k<i→ix l k<t)∧(∀k,((i+j)/2)≤k→k<l.length→t≤ix l k):=by
    refine⟨O,O,hlo,fun k hk hl=> ?_⟩
    by_cases e:k=(i+j)/2
    ·subst e;omega
    ·have:=Dn hr (i:=(i+j)/2) (j:=k) O hl
     omega
   exact ln (⟨i,(i+j)/2⟩:Nat × Nat) hN0 dO ⟨id,id,id,id,id,id,id,tV⟩ trivial
 ·try simp at hc0
  refine ex (xt_ (xt_ (xb (th (sq (rg (mv (mv (mv (bi J J aN (mv ?_)))))))))))
  apply eH (t:=35) (pd:=53) rfl
  rotate_left
  ·intro hg0 fin
   have hg0':=hg0
   try simp at hg0'
   refine gy rfl rfl rfl hg0 (mv (gy rfl rfl rfl hg0 (mv (gy rfl rfl rfl hg0 (iF rfl rfl T.aM O gB (gy rfl rfl rfl hg0 (lF rfl rfl T.aF (gy rfl rfl rfl hg0 (mv (gy rfl rfl rfl hg0 (bi rfl rfl eF (gy rfl rfl rfl hg0 (mv ?_)))))))))))))
   apply gOr (t:=42) (pd:=52) rfl
   rotate_left
   ·intro hg1 fin
    have hg1':=hg1
    try simp at hg1'
    refine gy rfl rfl rfl hg1 (mv (gy rfl rfl rfl hg1 (mv (gy rfl rfl rfl hg1 (iF rfl rfl T.aM O gB (gy rfl rfl rfl hg1 (lF rfl rfl T.aF (gy rfl rfl rfl hg1 (aO (φs:= [int (ix l i)]) (φ:=bl false) ⟨rfl,tV⟩ (search.Jc _) T.MA (gy rfl rfl rfl hg1 (mv ?_)))))))))))
    apply eH (t:=48) (pd:=51) rfl
    rotate_left
    ·intro hg2 fin
     exact gy J J J hg2 (mv (gy J J J hg2 (aO (φs:= [int t]) (φ:=bl false) ⟨J,tV⟩ (search.Jc _) T.MA (gy J J J hg1 (pkT J hg2 J (drp (X:= [(50,_),(49,_)]) ⟨J,J,tV⟩ fin))))))
    ·intro hg2 fin
     exact gn J J J hg2 J J (gn J J J hg2 J J (gy J J J hg1 (pkF J hg2 J (drp (X:= [(50,_),(49,_)]) ⟨J,J,tV⟩ fin))))
    exact gy J J J hg0 (pkF J hg1 J (drp (X:= [(51,_),(48,_),(47,_),(46,_),(45,_),(44,_),(43,_)]) ⟨J,J,J,J,J,J,J,tV⟩ fin))
   ·intro hg1 fin
    exact gn J J J hg1 J J (gn J J J hg1 J J (gn J J J hg1 J J (gn J J J hg1 J J (gn J J J hg1 J J (gn J J J hg1 J J (gu J J J J J (gu J J J J J (gn J J J hg1 J J (gy J J J hg0 (pkT J hg1 J (drp (X:= [(51,_),(50,_),(49,_),(48,_),(47,_),(46,_),(45,_),(44,_),(43,_)]) ⟨J,J,J,J,J,J,J,J,J,tV⟩ fin)))))))))))
   exact pkT rfl hg0 rfl (drp (X:= [(52,_),(42,_),(41,_),(40,_),(39,_),(38,_),(37,_),(36,_)]) ⟨rfl,rfl,rfl,rfl,rfl,rfl,rfl,rfl,tV⟩ fin)
  ·intro hg0 fin
   exact gn J J J hg0 J J (gn J J J hg0 J J (gn J J J hg0 J J (gn J J J hg0 J J (gn J J J hg0 J J (gn J J J hg0 J J (gn J J J hg0 J J (gu J J J J J (gu J J J J J (gu J J J J J (gu J J J J J (gu J J J J J (gu J J J J J (gu J J J J J (gu J J J J J (gu J J J J J (gn J J J hg0 J J (pkF J hg0 J (drp (X:= [(52,_),(51,_),(50,_),(49,_),(48,_),(47,_),(46,_),(45,_),(44,_),(43,_),(42,_),(41,_),(40,_),(39,_),(38,_),(37,_),(36,_)]) ⟨J,J,J,J,J,J,J,J,J,J,J,J,J,J,J,J,J,tV⟩ fin))))))))))))))))))
  refine ag (ag (nl (th (rt ?_))))
  have hr0:((i:Int):Int)=(bsP l t:Int):=by
   have:i=j:=by omega
   subst this
   unfold bsP
   rw[Mx O (fun k hk=>by simpa using hlo k hk) (fun hil=>by simpa using hhi i (Nat.le_refl _) hil)]
  have hr1:((decide ((i:Int)<(l.length:Int)))&&((decide ((ix l i)=t))||(false&&false)))=(decide (t∈l)):=by
   have:i=j:=by omega
   subst this
   rw[←My hr hlo hhi]
   simp
  exact rE () [.tmp 4,.tmp 5] J [int (i:Int),bl ((decide ((i:Int)<(l.length:Int)))&&((decide ((ix l i)=t))||(false&&false)))] ⟨.tmp J,.tmp J,tV⟩ (cA2 (fun x0 x1=>rV [int x0,bl x1]) hr0 hr1) trivial eX
theorem oZ (x:SA) (hr:rising x.aP=true) (t:Int):
 Fn0 Tryz.prog 126 [state x,int t] (bl (decide (t∈x.aP))):=by
 refine fnI Tryz.func126 rfl rfl (fun w0 F0=> ?_)
 refine fcC (bO 0 J) (fun hS0=> ?_)
 obtain⟨hxa0,hxn0⟩:=kZ hS0
 refine sq (rg (bx (key:=2) (cs:= [sl 1 nE x.aP,sl 1 nE x.next]) J fun b2=>(ag (nl (th (sq (rg (fP J T.cM (lP J J J T.aV (mv (aO (φs:= [sl 1 nE x.aP,int t]) (φ:=tup [int (bsP x.aP t:Int),bl (decide (t∈x.aP))]) ⟨J,J,tV⟩ (search.MB _ aS _) T.UA (mv (xt J J (xt J J (ag (ag (nl (th (sq (rg (mv (ag (nl (th (rt ?_)))))))))))))))))))))))))
 exact rE () [.tmp 4] J [bl (decide (t∈x.aP))] ⟨.tmp J,tV⟩ J trivial eX
end search
end
section
open ref01 ref03 ref04 ref06 Part Rungs LeftM TrimM Itoa Keys RoundM
namespace MergeM
theorem qR {l:List Int} (h:rising l=true):l.Pairwise (· < ·):=by
 rw[List.pairwise_iff_getElem]
 intro i j hi hj hij
 have hstep:∀k,i+k<l.length→ix l i≤ix l (i+k)∧(0<k→ix l i<ix l (i+k)):=fun k=>by
  induction k with
  |zero=>exact fun _=>⟨Int.le_refl _,fun h=>by omega⟩
  |succ k ih=>
   intro hk
   have h1:=ih O
   have h2:=Eb h (i:=i+k) O
   rw[show i+(k+1)=i+k+1 by omega]
   exact⟨O,fun _=>by omega⟩
 have:=(hstep (j- i) O).2 O
 rw[show i+(j- i)=j by omega,aJ hi,aJ hj] at this
 exact this
theorem uC {l:List Int} (h:l.Pairwise (· < ·)):rising l=true:=by
 unfold rising
 rw[List.all_eq_true]
 intro i hi
 have hi:=List.mem_range.1 hi
 rw[decide_eq_true_eq,aJ O,aJ O]
 exact List.pairwise_iff_getElem.1 h i (i+1) O O O
theorem nC {s:SS} (hs:oK s) {x:Nat} (hx:x<s.sT.length):rising (keep s x)=true:=
 uC ((qR (hs.st x hx).rise).filter _)
theorem vV {s:SS} {x:Int} {a:Nat} (ha:a<s.aC.length):ix (jD s x) a=if has (aT (keep s x.toNat)) (a:Int) then gV (aH s) (ix (ix s.sT x.toNat).next a) else-1:=cY ha
theorem hO {s:SS} (hs:oK s) {i:Nat} (hi:i<(aH s).length):0≤ix (aH s) i∧ix (aH s) i<(s.sT.length:Int):=(show okQ s.sT.length (aH s) from tY hs).1 i hi
theorem pF {s:SS} (hs:oK s):(aH s).length≤s.sT.length:=(show okQ s.sT.length (aH s) from tY hs).le
noncomputable abbrev tS (s:SS):SS:=⟨s.aC,(aH s).map (eL s)⟩
theorem iJ (s:SS):(tS s).sT.length=(aH s).length:=by simp
theorem nJ {s:SS} {i:Nat} (hi:i<(aH s).length):ix (tS s).sT i=eL s (ix (aH s) i):=by
 rw[aJ (by rw[iJ];exact hi),aJ hi];simp
theorem Ky {s:SS} (hs:oK s):oK (tS s):=by
 have hop:=iU s
 have hol:=pF hs
 have hf1:=hs.few1
 have hn8:=hs.n8
 refine⟨hs.acts,hs.n8,by rw[iJ];exact hop,by rw[iJ];omega,fun k hk=> ?_⟩
 rw[iJ] at hk ⊢
 rw[nJ hk]
 have hb:=hO hs hk
 have hx:(ix (aH s) k).toNat<s.sT.length:=by omega
 have hkb:=Sg hs (ix (aH s) k).toNat
 refine⟨by simp[eL,jD],fun a ha=> ?_,fun i hi=>hkb.1 _ (gA hi),fun i hi a ha=> ?_,nC hs hx⟩
 ·show-1≤ix (jD s _) a∧ix (jD s _) a<_
  rw[vV (s:=s) ha]
  split
  ·have:=jW (aH s) (ix (ix s.sT (ix (aH s) k).toNat).next a)
   omega
  ·omega
 ·have hh:has (aT (keep s (ix (aH s) k).toNat)) (a:Int)=true:=(bR _ _).2 ⟨_,gA hi,ha⟩
  have hg:=jY hs hx hh
  have hal:a<s.aC.length:=by have:=(hs.st _ hx).len;omega
  refine⟨hal,?_⟩
  show 0≤ix (jD s _) a
  rw[vV hal,if_pos hh]
  exact(jW _ _).1
open Classical in
theorem iK {s:SS} {x:Nat} (hx:x<s.sT.length):ix (hOl s) x=true↔Hol s x:=by
 unfold hOl;rw[cY hx];simp
theorem vW {s:SS} {x:Nat} (hx:¬x<s.sT.length):ix (hOl s) x=false:=by
 have:(hOl s)[x]?=none:=List.getElem?_eq_none (by rw[mO];omega)
 unfold ix
 rw[List.getD_eq_getElem?_getD,this];rfl
theorem zA {s:SS} {x:Nat} (hx:x<s.sT.length) (h:ix (hOl s) x=false):keep s x≠[]:=fun he=>by
 have hH:¬Hol s x:=fun hh=>by rw[(iK hx).2 hh] at h;cases h
 refine hH (oQ s x hx (fun i hi=> ?_))
 rw[jL h,List.filter_eq_nil_iff] at he
 have h1:=he _ (gA hi)
 simp only [Bool.not_eq_true',Bool.not_eq_false] at h1
 obtain⟨a,h2,h3,h4,h5⟩:=iI.1 h1
 refine⟨a,h2,h3,h4,?_⟩
 by_cases hb:(ix (ix s.sT x).next a).toNat<s.sT.length
 ·exact(iK hb).1 h5
 ·rw[vW hb] at h5;cases h5
theorem xS {s:SS} (hs:oK s) (h0:ix (hOl s) 0=false) {i:Nat} (hi:i<(aH s).length):ix (hOl s) (ix (aH s) i).toNat=false:=
 vU hs h0 _ _ (gA hi)
theorem uD {s:SS} (hs:oK s) (h0:ix (hOl s) 0=false) (i:Nat):ix (hOl (tS s)) i=false:=by
 by_cases hi:i<(tS s).sT.length
 ·cases hv:ix (hOl (tS s)) i with
  |false=>rfl
  |true=>
   have h:=(iK hi).1 hv
   exfalso
   refine h (fun _=>False) (fun x hx hc=> ?_)
   rw[iJ] at hx
   have hb:=hO hs hx
   have hne:=zA (s:=s) (x:=(ix (aH s) x).toNat) O (xS hs h0 hx)
   have hl:0<(ix (tS s).sT x).aP.length:=by rw[nJ hx];exact List.length_pos_iff.2 hne
   obtain⟨_,_,_,_,h⟩:=hc 0 hl
   exact h
 ·exact vW hi
theorem Jd {s:SS} (hs:oK s) (h0:ix (hOl s) 0=false) {i:Nat} (hi:i<(aH s).length):keep (tS s) i=keep s (ix (aH s) i).toNat:=by
 rw[jL (uD hs h0 i),nJ hi]
 show(keep s _).filter _=_
 rw[List.filter_eq_self]
 intro t _
 rw[Bool.not_eq_true']
 cases hf:falls (eL s (ix (aH s) i)) t (hOl (tS s)) with
 |false=>rfl
 |true=>
  obtain⟨a,_,_,_,h⟩:=iI.1 hf
  rw[uD hs h0] at h;cases h
theorem MC {y:Int}:∀(ks l:List Int),y∈l→y∈visit l ks:=fun ks l h=>(oW ks l).subset h
theorem xT {y:Int} (h0:0≤y):∀(ks l:List Int),y∈ks→y∈visit l ks
 |k::ks,l,h=>by
  rw[kH,List.foldl_cons]
  rcases List.mem_cons.1 h with rfl|h
  ·refine MC ks _ ?_
   unfold lQ
   by_cases hc:l.contains y=true
   ·rw[hc];simp;exact List.contains_iff_mem.1 hc
   ·simp only [Bool.not_eq_true] at hc
    rw[hc,if_pos (by simp[h0])];simp
  ·exact xT h0 ks _ h
theorem lI {s:SS} (hs:oK s) {i:Nat} (hi:i<(aH s).length) {a:Nat} (ha:has (aT (keep s (ix (aH s) i).toNat)) (a:Int)=true):ix (ix s.sT (ix (aH s) i).toNat).next a∈aH s:=by
 have hol:=pF hs
 have hi2:i<(bq (aB s) i).length:=by
  rcases Nat.lt_or_ge i (bq (aB s) i).length with h|h
  ·exact h
  ·have he:=Cy hs h O
   have:(aH s).length≤i:=by show(order (aB s)).length≤i;rw[←he];exact h
   omega
 have hp:=nQ hs (i:=i) O
 have hix:ix (aH s) i=ix (bq (aB s) i) i:=nZ hp hi2
 have hp1:=nQ hs (i:=i+1) O
 rw[Di hs hi2] at hp1
 refine hp1.subset ?_
 have hb:=hO hs hi
 have hg:=jY hs (x:=(ix (aH s) i).toNat) O ha
 rw[←hix]
 have hn8:=hs.n8
 have hl:=(hs.st (ix (aH s) i).toNat O).len
 refine xT hg.2.1 _ _ (List.mem_map.2 ⟨(a:Int),cQ.2 ⟨a,rfl,O,ha⟩,by rw[Int.toNat_natCast]⟩)
def mat (cl from_:List Int) (n:Nat):Nat→List Int
 |0=>List.replicate n (-1)
 |k+1=>(mat cl from_ n k).set (ix from_ k).toNat (ix cl k)
end MergeM
end
section
open ref01 ref03 ref04 ref06 Part Rungs LeftM TrimM Itoa Keys RoundM MergeM
namespace BisM
abbrev acc (T:SS) (x:Nat):List Int:=(ix T.sT x).aP
abbrev nxt (T:SS) (x:Nat):List Int:=(ix T.sT x).next
def Re (R:Nat→Nat→Prop) (k j:Int):Prop:=(k<0↔j<0)∧(0≤k→R k.toNat j.toNat)
structure Bis (T U:SS) (R:Nat→Nat→Prop):Prop where
 acc:∀{x y},R x y→acc T x=acc U y
 len:∀{x y},R x y→(nxt T x).length=(nxt U y).length
 nxt:∀{x y},R x y→∀a,a<(nxt T x).length→Re R (ix (nxt T x) a) (ix (nxt U y) a)
def Sim2 (T U:SS) (x y:Nat):Prop:=∃R,Bis T U R∧R x y
theorem Pd (T:SS) (x:Nat):Sim2 T T x x:=
 ⟨Eq,⟨fun h=>by rw[h],fun h=>by rw[h],fun {x y} h a ha=>by subst h;exact⟨Iff.rfl,fun _=>rfl⟩⟩,rfl⟩
theorem Sim2.symm {T U:SS} {x y:Nat} (h:Sim2 T U x y):Sim2 U T y x:=by
 obtain⟨R,hR,hxy⟩:=h
 refine⟨fun a b=>R b a,⟨fun h=>(hR.acc h).symm,fun h=>(hR.len h).symm,fun {a b} h i hi=> ?_⟩,hxy⟩
 obtain⟨h1,h2⟩:=hR.nxt h i (by rw[hR.len h];exact hi)
 exact⟨h1.symm,fun h0=>h2 O⟩
theorem Sim2.trans {T U V:SS} {x y z:Nat} (h:Sim2 T U x y) (h':Sim2 U V y z):Sim2 T V x z:=by
 obtain⟨R,hR,hxy⟩:=h
 obtain⟨S,hS,hyz⟩:=h'
 refine⟨fun a c=> ∃b,R a b∧S b c,⟨fun⟨b,h1,h2⟩=>(hR.acc h1).trans (hS.acc h2),fun⟨b,h1,h2⟩=>(hR.len h1).trans (hS.len h2),fun {a c} ⟨b,h1,h2⟩ i hi=> ?_⟩,y,hxy,hyz⟩
 obtain⟨g1,g2⟩:=hR.nxt h1 i hi
 obtain⟨g3,g4⟩:=hS.nxt h2 i (by rw[←hR.len h1];exact hi)
 exact⟨g1.trans g3,fun h0=>⟨_,g2 h0,g4 O⟩⟩
theorem sI (T U:SS):Bis T U (Sim2 T U):=by
 refine⟨fun⟨R,hR,h⟩=>hR.acc h,fun⟨R,hR,h⟩=>hR.len h,fun {x y} ⟨R,hR,h⟩ a ha=> ?_⟩
 obtain⟨h1,h2⟩:=hR.nxt h a ha
 exact⟨h1,fun h0=>⟨R,hR,h2 h0⟩⟩
theorem AW {s:SS} (hs:oK s) (h0:ix (hOl s) 0=false):aB (tS s)=tS s:=by
 unfold aB
 congr 1
 apply List.ext_getElem
 ·simp
 ·intro i h1 h2
  simp only [List.length_map,List.length_range] at h1
  rw[List.getElem_map,List.getElem_range]
  have hi:i<(aH s).length:=by simpa using h1
  have hk:=Jd hs h0 hi
  have e:(List.map (eL s) (aH s))[i]=ix (tS s).sT i:=(aJ (by rw[iJ];exact hi)).symm
  rw[e]
  unfold lB
  rw[hk,nJ hi]
  unfold eL
  congr 1
  unfold cut jD
  have hl:(List.map (fun(a:Nat)=>if has (aT (keep s (ix (aH s) i).toNat)) (a:Int)=true then gV (aH s) (ix (ix s.sT (ix (aH s) i).toNat).next a) else-1) (List.range s.aC.length)).length=s.aC.length:=by simp
  show List.map _ (List.range (List.map _ (List.range _)).length)=_
  rw[List.length_map,List.length_range]
  refine List.map_congr_left (fun a ha=> ?_)
  have ha:=List.mem_range.1 ha
  rw[cY ha]
  split
  ·rfl
  ·rfl
theorem UB {s:SS} (hs:oK s) (h0:ix (hOl s) 0=false) {i:Nat} (hi:i<(aH s).length):Sim2 (tS s) (aB s) i (ix (aH s) i).toNat:=by
 refine⟨fun a b=>a<(aH s).length∧b=(ix (aH s) a).toNat,⟨fun {a b} ⟨ha,hb⟩=> ?_,fun {a b} ⟨ha,hb⟩=> ?_,fun {a b} ⟨ha,hb⟩ k hk=> ?_⟩,hi,rfl⟩
 ·subst hb
  have hbd:=hO hs ha
  show(ix (tS s).sT a).aP=(ix (aB s).sT _).aP
  rw[nJ ha,gR O]
  rfl
 ·subst hb
  have hbd:=hO hs ha
  show(ix (tS s).sT a).next.length=(ix (aB s).sT _).next.length
  rw[nJ ha,jC hs O]
  simp[eL,jD]
 ·subst hb
  have hbd:=hO hs ha
  have hx:(ix (aH s) a).toNat<s.sT.length:=by omega
  have hk':k<s.aC.length:=by
   have:(nxt (tS s) a).length=s.aC.length:=by show(ix (tS s).sT a).next.length=_;rw[nJ ha];simp[eL,jD]
   omega
  have e1:ix (nxt (tS s) a) k=ix (jD s (ix (aH s) a)) k:=by show ix (ix (tS s).sT a).next k=_;rw[nJ ha];rfl
  have e2:ix (nxt (aB s) (ix (aH s) a).toNat) k=ix (cut (ix s.sT (ix (aH s) a).toNat) (aT (keep s (ix (aH s) a).toNat))) k:=by show ix (ix (aB s).sT _).next k=_;rw[gR hx];rfl
  rw[e1,e2,vV hk',xK (by rw[(hs.st _ hx).len];exact hk')]
  by_cases hh:has (aT (keep s (ix (aH s) a).toNat)) (k:Int)=true
  ·rw[if_pos hh,if_pos hh]
   have hg:=jY hs hx hh
   obtain⟨p1,p2⟩:=oC (lI hs ha hh)
   have p0:=(jW (aH s) (ix (ix s.sT (ix (aH s) a).toNat).next k)).1
   refine⟨⟨fun h=>by omega,fun h=>by omega⟩,fun _=>⟨O,by rw[p2]⟩⟩
  ·rw[if_neg hh,if_neg hh]
   exact⟨Iff.rfl,fun h=>by omega⟩
end BisM
end
section
open ref01 ref03 ref04 ref06 Part Rungs LeftM TrimM Itoa Keys RoundM MergeM BisM
namespace BisM2
noncomputable abbrev cnt (s:SS) (k:Nat):Nat:=(rR (alike (aB (tS s)) (itR (tS s) (tS s).sT.length).1) k).2.length
theorem mE (s:SS):ix (aH s) 0=0:=by
 have h:=tZ (aB s) 0 (aB s).sT.length
 rw[Nat.zero_add] at h
 exact nZ h (j:=0) (by show 0< [(0:Int)].length;simp)
end BisM2
end
section
open ref01 ref03 ref04 ref06 Part Rungs LeftM TrimM Itoa Keys RoundM MergeM BisM BisM2
namespace BisM3
def rg (c:Nat):List Int:=(List.range c).map fun(k:Nat)=>(k:Int)
theorem xU (c:Nat):(rg c).length=c:=by simp[rg]
theorem Fe {c k:Nat} (h:k<c):ix (rg c) k=(k:Int):=cY h
theorem Sk (c:Nat):rg (c+1)=rg c++ [(c:Int)]:=by unfold rg;rw[List.range_succ,List.map_append];rfl
theorem UC {c:Nat} {y:Int}:y∈rg c↔0≤y∧y<(c:Int):=by
 unfold rg
 rw[List.mem_map]
 constructor
 ·rintro⟨k,hk,rfl⟩
  have:=List.mem_range.1 hk
  omega
 ·rintro⟨h0,h1⟩
  exact⟨y.toNat,List.mem_range.2 O,O⟩
theorem xV {l:List Int} {k:Int} (h:k<0∨k∈l):lQ l k=l:=by
 unfold lQ
 rw[if_neg]
 simp only [Bool.and_eq_true,decide_eq_true_eq,Bool.not_eq_true',not_and,Bool.not_eq_false]
 intro h0
 rcases h with h|h
 ·omega
 ·exact List.contains_iff_mem.2 h
theorem CC {l:List Int} {k:Int} (h0:0≤k) (h:k∉l):lQ l k=l++ [k]:=by
 unfold lQ
 rw[if_pos]
 simp only [Bool.and_eq_true,decide_eq_true_eq,Bool.not_eq_true']
 refine⟨h0,?_⟩
 cases hc:l.contains k with
 |false=>rfl
 |true=>exact absurd (List.contains_iff_mem.1 hc) h
theorem CD (l ks:List Int) (k:Int):visit l (k::ks)=visit (lQ l k) ks:=rfl
theorem Er (l ks:List Int) (k:Int):visit l (ks++ [k])=lQ (visit l ks) k:=by rw[kH,List.foldl_append];rfl
theorem Ap {g:Int→Int} (hg:∀k,0≤g k):∀(ks l:List Int),visit [] ((visit l ks).map g)=visit (visit [] (l.map g)) (ks.map fun k=>if 0≤k then g k else k)
 | [],_=>rfl
 |k::ks,l=>by
  rw[CD,Ap hg ks,List.map_cons,CD]
  congr 1
  by_cases hk:k<0∨k∈l
  ·rw[xV hk]
   by_cases h0:k<0
   ·rw[if_neg O,xV (.inl h0)]
   ·rw[if_pos O,xV (.inr (xT (hg k) _ _ (List.mem_map.2 ⟨k,hk.resolve_left h0,rfl⟩)))]
  ·have h0:0≤k:=by have:=fun h=>hk (.inl h);omega
   rw[CC h0 (fun h=>hk (.inr h)),if_pos h0,List.map_append,List.map_cons,List.map_nil,Er]
theorem Iu {α:Type} {l m:List α} (h:l<+:m):l=m.take l.length:=by
 obtain⟨t,rfl⟩:=h
 simp
noncomputable abbrev qn (s:SS) (i:Nat):Nat:=(bq (aB s) i).length
theorem Je {s:SS} (hs:oK s) {i:Nat} (hi:i≤s.sT.length):bq (aB s) i=(aH s).take (qn s i):=Iu (nQ hs hi)
theorem Rf {s:SS} (hs:oK s) {i:Nat} (hi:i≤s.sT.length):qn s i≤(aH s).length:=(nQ hs hi).length_le
theorem Rg {s:SS} (hs:oK s) {i:Nat} (hi:i<(aH s).length):i<qn s i:=by
 have hol:=pF hs
 rcases Nat.lt_or_ge i (qn s i) with h|h
 ·exact h
 ·have he:=Cy hs h O
  have:(aH s).length≤i:=by show(order (aB s)).length≤i;rw[←he];exact h
  omega
structure Num (A:SS):Prop where
 ord:order A=rg A.sT.length
 pos:0<A.sT.length
 nx:∀x,x<A.sT.length→∀a,a<(nxt A x).length→ -1≤ix (nxt A x) a∧ix (nxt A x) a<(A.sT.length:Int)
 red:∀{x y},x<A.sT.length→y<A.sT.length→Sim2 A A x y→x=y
end BisM3
end
section
open ref01 ref03 ref04 ref06 Part Rungs LeftM TrimM Itoa Keys RoundM MergeM BisM BisM2 BisM3
namespace BisM4
theorem tD {s:SS} {x:Nat} (h:ix (hOl s) x=true):keep s x= []:=by
 unfold keep
 rw[List.filter_eq_nil_iff]
 intro t _
 rw[h];simp
theorem AX (a:Nat):has (aT []) (a:Int)=false:=by
 cases h:has (aT []) (a:Int) with
 |false=>rfl
 |true=>
  obtain⟨t,ht,_⟩:=(bR [] a).1 h
  cases ht
theorem Jf {s t:SS} (hs:oK s) (ht:oK t) (ha:s.aC.length=t.aC.length) {x y:Nat} (hx:x<s.sT.length) (hy:y<t.sT.length) (h1:ix (hOl s) x=true) (h2:ix (hOl t) y=true):Sim2 (aB s) (aB t) x y:=by
 refine⟨fun a b=>a=x∧b=y,⟨fun {a b} ⟨e1,e2⟩=> ?_,fun {a b} ⟨e1,e2⟩=> ?_,fun {a b} ⟨e1,e2⟩ k hk=> ?_⟩,rfl,rfl⟩
 ·subst e1;subst e2
  show(ix (aB s).sT _).aP=(ix (aB t).sT _).aP
  rw[gR hx,gR hy]
  show keep s _=keep t _
  rw[tD h1,tD h2]
 ·subst e1;subst e2
  show(ix (aB s).sT _).next.length=(ix (aB t).sT _).next.length
  rw[jC hs hx,jC ht hy,ha]
 ·subst e1;subst e2
  have hk1:k<s.aC.length:=by
   have:k<(ix (aB s).sT a).next.length:=hk
   rwa [jC hs hx] at this
  have f1:ix (nxt (aB s) a) k= -1:=by
   show ix (ix (aB s).sT a).next k= -1
   rw[gR hx]
   show ix (cut _ (aT (keep s a))) k= -1
   rw[tD h1,xK (by rw[(hs.st _ hx).len];exact hk1),AX];rfl
  have f2:ix (nxt (aB t) b) k= -1:=by
   show ix (ix (aB t).sT b).next k= -1
   rw[gR hy]
   show ix (cut _ (aT (keep t b))) k= -1
   rw[tD h2,xK (by rw[(ht.st _ hy).len];omega),AX];rfl
  show Re _ (ix (nxt (aB s) a) k) (ix (nxt (aB t) b) k)
  rw[f1,f2]
  exact⟨Iff.rfl,fun h=>by omega⟩
theorem Jg {s t:SS} {x y:Nat} (hx:x<s.sT.length) (hy:y<t.sT.length) (h1:ix (hOl s) x=true) (h2:ix (hOl t) y=false):¬Sim2 (aB s) (aB t) x y:=fun h=>by
 have:=(sI _ _).acc h
 have e:keep s x=keep t y:=by
  have h':(ix (aB s).sT x).aP=(ix (aB t).sT y).aP:=this
  rw[gR hx,gR hy] at h'
  exact h'
 rw[tD h1] at e
 exact zA hy h2 e.symm
theorem jE {l:List ByteArray} (h:bM l=true):oK (nothing l):=by
 have hn:=fG h
 refine⟨h,hn,Nat.le_refl _,by show 1≤10000;omega,fun k hk=> ?_⟩
 have:k=0:=by have:k<1:=hk;omega
 subst this
 refine⟨by show(List.replicate _ _).length=_;simp[nothing],fun a ha=> ?_,fun i hi=> ?_,fun i hi=> ?_,rfl⟩
 ·have e:ix (ix (nothing l).sT 0).next a= -1:=by
   show ix (List.replicate l.length (-1:Int)) a= -1
   have ha:a<l.length:=ha
   rw[aJ (by simpa using ha)];simp
  rw[e]
  show-1≤(-1:Int)∧(-1:Int)<((1:Nat):Int)
  omega
 ·exact absurd hi (Nat.not_lt_zero i)
 ·exact absurd hi (Nat.not_lt_zero i)
theorem eP (l:List ByteArray):ix (hOl (nothing l)) 0=true:=by
 refine(iK (by show 0<1;omega)).2 (oQ _ 0 (by show 0<1;omega) (fun i hi=>absurd hi (Nat.not_lt_zero i)))
end BisM4
end
section
open ref01 ref03 ref04 ref06 MergeM Rungs
namespace TurnM
theorem Dp {α β:Type} [Inhabited α] [Inhabited β] {f:α→β} {l:List α} {k:Nat} (h:k<l.length):ix (l.map f) k=f (ix l k):=by
 rw[aJ (by simpa using h),aJ h,List.getElem_map]
end TurnM
end
section
open ref01 ref03 ref04 ref06 Part Rungs LeftM TrimM Itoa Keys RoundM MergeM BisM BisM2 BisM3 BisM4 TurnM
namespace BisM5
theorem gU {s:SS} {x:Nat} (hx:x<s.sT.length):acc (aB s) x=keep s x:=by
 show(ix (aB s).sT x).aP=_
 rw[gR hx];rfl
theorem kI {s:SS} (hs:oK s) {x:Nat} (hx:x<s.sT.length) {a:Nat} (ha:a<s.aC.length):ix (nxt (aB s) x) a=if has (aT (keep s x)) (a:Int)=true then ix (nxt s x) a else-1:=by
 show ix (ix (aB s).sT x).next a=_
 rw[gR hx]
 exact xK (by rw[(hs.st x hx).len];exact ha)
theorem gT {s:SS} (hs:oK s) {x:Nat} (hx:x<s.sT.length):(nxt (aB s) x).length=s.aC.length:=jC hs hx
theorem xW:∀{l m:List Int},l.Pairwise (· < ·)→m.Pairwise (· < ·)→(∀u,u∈l↔u∈m)→l=m
 | [],[],_,_,_=>rfl
 | [],y::m,_,_,h=>absurd ((h y).2 (by simp)) (by simp)
 |x::l,[],_,_,h=>absurd ((h x).1 (by simp)) (by simp)
 |x::l,y::m,hl,hm,h=>by
  have e:x=y:=by
   have h1:=(h x).1 (by simp)
   have h2:=(h y).2 (by simp)
   rcases List.mem_cons.1 h1 with h1|h1
   ·exact h1
   ·rcases List.mem_cons.1 h2 with h2|h2
    ·exact h2.symm
    ·have g1:=(List.pairwise_cons.1 hm).1 x h1
     have g2:=(List.pairwise_cons.1 hl).1 y h2
     omega
  subst e
  congr 1
  refine xW (List.pairwise_cons.1 hl).2 (List.pairwise_cons.1 hm).2 (fun u=>⟨fun hu=> ?_,fun hu=> ?_⟩)
  ·rcases List.mem_cons.1 ((h u).1 (List.mem_cons_of_mem _ hu)) with h1|h1
   ·have:=(List.pairwise_cons.1 hl).1 u hu;omega
   ·exact h1
  ·rcases List.mem_cons.1 ((h u).2 (List.mem_cons_of_mem _ hu)) with h1|h1
   ·have:=(List.pairwise_cons.1 hm).1 u hu;omega
   ·exact h1
structure Ref (T t:SS) (R:Nat→Nat→Prop):Prop where
 bd:∀{x y},R x y→x<T.sT.length∧y<t.sT.length
 acc:∀{x y},R x y→∀u∈acc T x,u∈acc t y
 nxt:∀{x y},R x y→∀a:Nat,has (aT (BisM.acc T x)) (a:Int)=true→R (ix (nxt T x) a).toNat (ix (nxt t y) a).toNat
def dA (s t:SS):Prop:=ix (hOl s) 0=true∨∃R,Ref (tS s) t R∧R 0 0
theorem kA {s:SS} {i:Nat} (hi:i<(aH s).length):acc (tS s) i=keep s (ix (aH s) i).toNat:=by
 show(ix (tS s).sT i).aP=_
 rw[nJ hi];rfl
theorem zB {s:SS} {i:Nat} (hi:i<(aH s).length) {a:Nat} (ha:a<s.aC.length):ix (nxt (tS s) i) a=if has (aT (keep s (ix (aH s) i).toNat)) (a:Int)=true then gV (aH s) (ix (ix s.sT (ix (aH s) i).toNat).next a) else-1:=by
 show ix (ix (tS s).sT i).next a=_
 rw[nJ hi]
 exact vV ha
theorem oF {s t:SS} (hs:oK s) (ht:oK t) (h0:ix (hOl s) 0=false) {R:Nat→Nat→Prop} (hR:Ref (tS s) t R) {x y:Nat} (h:R x y):ix (hOl t) y=false:=by
 have hy:=(hR.bd h).2
 cases hv:ix (hOl t) y with
 |false=>rfl
 |true=>
  exfalso
  refine(iK hy).1 hv (fun y=> ∀x,¬R x y) (fun y hy hc x hxy=> ?_) x h
  have hx:=(hR.bd hxy).1
  rw[iJ] at hx
  have hb:=hO hs hx
  have hne:acc (tS s) x≠[]:=by rw[kA hx];exact zA O (xS hs h0 hx)
  obtain⟨u,hu⟩:=List.exists_mem_of_ne_nil _ hne
  obtain⟨i,hi,e⟩:=oT (hR.acc hxy u hu)
  obtain⟨a,ha,_,hh,hH⟩:=hc i hi
  have e':ix (ix t.sT y).aP i=u:=e
  rw[e'] at hh
  exact hH _ (hR.nxt hxy a ((bR _ _).2 ⟨u,hu,hh⟩))
theorem pS {s t:SS} (hs:oK s) (ht:oK t) (h0:ix (hOl s) 0=false) {R:Nat→Nat→Prop} (hR:Ref (tS s) t R) {i y:Nat} (h:R i y) {u:Int} (hu:u∈keep s (ix (aH s) i).toNat):u∈keep t y:=by
 have hi:=(hR.bd h).1
 rw[iJ] at hi
 rw[jL (oF hs ht h0 hR h),List.mem_filter]
 have hu':u∈acc (tS s) i:=by rw[kA hi];exact hu
 refine⟨hR.acc h u hu',?_⟩
 rw[Bool.not_eq_true']
 cases hf:falls (ix t.sT y) u (hOl t) with
 |false=>rfl
 |true=>
  obtain⟨a,_,_,hh,hv⟩:=iI.1 hf
  have:=oF hs ht h0 hR (hR.nxt h a ((bR _ _).2 ⟨u,hu',hh⟩))
  have hv':ix (hOl t) (ix (nxt t y) a).toNat=true:=hv
  rw[this] at hv';cases hv'
theorem Gj {s t:SS} (hs:oK s) (ht:oK t) (ha:s.aC=t.aC) (h1:ix (hOl s) 0=false) (h2:ix (hOl t) 0=false) (h:Sim2 (aB s) (aB t) 0 0):∃R,Ref (tS s) t R∧R 0 0:=by
 have hbis:=sI (aB s) (aB t)
 have hop:=iU s
 have f:=ht.few0
 refine⟨fun i y=>i<(aH s).length∧y<t.sT.length∧Sim2 (aB s) (aB t) (ix (aH s) i).toNat y,⟨fun {i y} ⟨hi,hy,_⟩=>⟨by rw[iJ];exact hi,hy⟩,fun {i y} ⟨hi,hy,hS⟩ u hu=> ?_,fun {i y} ⟨hi,hy,hS⟩ a hh=> ?_⟩,O,O,by rw[mE];exact h⟩
 ·have hb:=hO hs hi
  rw[kA hi] at hu
  have:=hbis.acc hS
  rw[gU O,gU hy] at this
  rw[this] at hu
  exact(List.mem_filter.1 hu).1
 ·have hb:=hO hs hi
  have hx:(ix (aH s) i).toNat<s.sT.length:=by omega
  rw[kA hi] at hh
  have hg:=jY hs hx hh
  have hal:a<s.aC.length:=by have:=(hs.st _ hx).len;omega
  have hacc:=hbis.acc hS
  rw[gU hx,gU hy] at hacc
  have hL:=hbis.nxt hS a (by rw[gT hs hx];exact hal)
  rw[kI hs hx hal,kI ht hy (by rw[←ha];exact hal),←hacc,if_pos hh,if_pos hh] at hL
  obtain⟨p1,p2⟩:=oC (lI hs hi hh)
  have p0:=(jW (aH s) (ix (ix s.sT (ix (aH s) i).toNat).next a)).1
  rw[zB hi hal,if_pos hh]
  have hg2:0≤ix (nxt s (ix (aH s) i).toNat) a:=hg.2.1
  have hy2:=((ht.st y hy).nx a (by rw[←ha];exact hal)).2
  have hyn:0≤ix (nxt t y) a:=by
   have:=hL.1
   omega
  refine⟨O,by show(ix (ix t.sT y).next a).toNat<_;omega,?_⟩
  rw[p2]
  exact hL.2 hg2
theorem zC {s t:SS} (hs:oK s) (ht:oK t) (ha:s.aC=t.aC):(dA s t∧dA t s)↔Sim2 (aB s) (aB t) 0 0:=by
 have f1:=hs.few0
 have f2:=ht.few0
 cases h1:ix (hOl s) 0 with
 |true=>
  cases h2:ix (hOl t) 0 with
  |true=>exact⟨fun _=>Jf hs ht (by rw[ha]) O O h1 h2,fun _=>⟨.inl h1,.inl h2⟩⟩
  |false=>
   refine⟨fun⟨_,h⟩=> ?_,fun h=>absurd h (Jg O O h1 h2)⟩
   exfalso
   rcases h with h|⟨R,hR,h⟩
   ·rw[h2] at h;cases h
   ·have:=oF ht hs h2 hR h
    rw[h1] at this;cases this
 |false=>
  cases h2:ix (hOl t) 0 with
  |true=>
   refine⟨fun⟨h,_⟩=> ?_,fun h=>absurd h.symm (Jg O O h2 h1)⟩
   exfalso
   rcases h with h|⟨R,hR,h⟩
   ·rw[h1] at h;cases h
   ·have:=oF hs ht h1 hR h
    rw[h2] at this;cases this
  |false=>
   refine⟨fun⟨g1,g2⟩=> ?_,fun h=>⟨.inr (Gj hs ht ha h1 h2 h),.inr (Gj ht hs ha.symm h2 h1 h.symm)⟩⟩
   obtain⟨R1,hR1,r1⟩:=g1.resolve_left (by simp[h1])
   obtain⟨R2,hR2,r2⟩:=g2.resolve_left (by simp[h2])
   have hop1:=iU s
   have hop2:=iU t
   refine⟨fun X Y=> ∃i j,i<(aH s).length∧j<(aH t).length∧X=(ix (aH s) i).toNat∧Y=(ix (aH t) j).toNat∧R1 i Y∧R2 j X,⟨?_,?_,?_⟩,0,0,O,O,by rw[mE];rfl,by rw[mE];rfl,r1,r2⟩
   ·rintro X Y ⟨i,j,hi,hj,rfl,rfl,q1,q2⟩
    have b1:=hO hs hi
    have b2:=hO ht hj
    rw[gU O,gU O]
    exact xW (qR (nC hs O)) (qR (nC ht O)) (fun u=>⟨fun hu=>pS hs ht h1 hR1 q1 hu,fun hu=>pS ht hs h2 hR2 q2 hu⟩)
   ·rintro X Y ⟨i,j,hi,hj,rfl,rfl,q1,q2⟩
    have b1:=hO hs hi
    have b2:=hO ht hj
    rw[gT hs O,gT ht O,ha]
   ·rintro X Y ⟨i,j,hi,hj,rfl,rfl,q1,q2⟩ a hal
    have b1:=hO hs hi
    have b2:=hO ht hj
    have hx:(ix (aH s) i).toNat<s.sT.length:=by omega
    have hy:(ix (aH t) j).toNat<t.sT.length:=by omega
    rw[gT hs hx] at hal
    have hacc:keep s (ix (aH s) i).toNat=keep t (ix (aH t) j).toNat:=xW (qR (nC hs hx)) (qR (nC ht hy)) (fun u=>⟨fun hu=>pS hs ht h1 hR1 q1 hu,fun hu=>pS ht hs h2 hR2 q2 hu⟩)
    rw[kI hs hx hal,kI ht hy (by rw[←ha];exact hal),←hacc]
    by_cases hh:has (aT (keep s (ix (aH s) i).toNat)) (a:Int)=true
    ·rw[if_pos hh,if_pos hh]
     have hh2:has (aT (keep t (ix (aH t) j).toNat)) (a:Int)=true:=by rw[←hacc];exact hh
     have k1:=jY hs hx hh
     have k2:=jY ht hy hh2
     have n1:0≤ix (nxt s (ix (aH s) i).toNat) a:=k1.2.1
     have n2:0≤ix (nxt t (ix (aH t) j).toNat) a:=k2.2.1
     refine⟨⟨fun h=>by omega,fun h=>by omega⟩,fun _=> ?_⟩
     obtain⟨p1,p2⟩:=oC (lI hs hi hh)
     have p0:=(jW (aH s) (ix (ix s.sT (ix (aH s) i).toNat).next a)).1
     obtain⟨o1,o2⟩:=oC (lI ht hj hh2)
     have o0:=(jW (aH t) (ix (ix t.sT (ix (aH t) j).toNat).next a)).1
     have e1:=hR1.nxt q1 a (by rw[kA hi];exact hh)
     have e2:=hR2.nxt q2 a (by rw[kA hj];exact hh2)
     rw[zB hi hal,if_pos hh] at e1
     rw[zB hj (by rw[←ha];exact hal),if_pos hh2] at e2
     exact⟨_,_,O,O,by rw[p2],by rw[o2],e1,e2⟩
    ·rw[if_neg hh,if_neg hh]
     exact⟨Iff.rfl,fun h=>by omega⟩
end BisM5
end
section
open ref01 ref03 ref04 ref06 Part Rungs LeftM TrimM RoundM BisM BisM5
namespace WalkM
structure Mt where
 s:Int
 t:Int
 before:Int
 action:Int
deriving Inhabited,DecidableEq
def kS:Mt→List AV:=fun m=> [int m.s,int m.t,int m.before,int m.action]
instance (m:Mt):OneAll (kS m):=inferInstanceAs (OneAll [int m.s,int m.t,int m.before,int m.action])
def cZ (m:Mt):Int × Int:=(m.s,m.t)
def blV (b:Bool):AV:=bl b
def mF (mm:List ((Int × Int) × Bool)) (q:List Mt):Prop:=∀p,cX mm p=if p∈q.map cZ then some true else none
theorem vX {mm:List ((Int × Int) × Bool)} {q:List Mt} (h:mF mm q) (p:Int × Int):(cX mm p).getD false=decide (p∈q.map cZ):=by
 rw[h p]
 by_cases hp:p∈q.map cZ
 ·rw[if_pos hp,decide_eq_true hp];rfl
 ·rw[if_neg hp,decide_eq_false hp];rfl
theorem xX {mm:List ((Int × Int) × Bool)} {q:List Mt} (h:mF mm q) (m:Mt):mF (dI mm (cZ m) true) (q++ [m]):=by
 intro p
 rw[xA,h p,List.map_append,List.map_cons,List.map_nil]
 by_cases e:cZ m=p
 ·rw[if_pos e,if_pos (by rw[e];simp)]
 ·rw[if_neg e]
  have:p∈q.map cZ++ [cZ m]↔p∈q.map cZ:=by
   rw[List.mem_append]
   exact⟨fun h=>h.resolve_right (fun h=>e (List.mem_singleton.1 h).symm),.inl⟩
  by_cases hp:p∈q.map cZ
  ·rw[if_pos hp,if_pos (this.2 hp)]
  ·rw[if_neg hp,if_neg (fun h=>hp (this.1 h))]
structure lS (T t:SS) (q:List Mt):Prop where
 ne:0<q.length
 hd:ix q 0=⟨0,0,-1,0⟩
 bd:∀m∈q,0≤m.s∧m.s<(T.sT.length:Int)∧0≤m.t∧m.t<(t.sT.length:Int)
 nd:(q.map cZ).Nodup
 back:∀k,0<k→k<q.length→∃(b a:Nat),(ix q k).before=(b:Int)∧(ix q k).action=(a:Int)∧b<k∧has (aT (acc T (ix q b).s.toNat)) (a:Int)=true∧(ix q k).s=ix (nxt T (ix q b).s.toNat) a∧(ix q k).t=ix (nxt t (ix q b).t.toNat) a
 all:∀R,Ref T t R→R 0 0→∀m∈q,R m.s.toNat m.t.toNat
def pT (T t:SS) (q:List Mt) (k:Nat):Prop:=
 (∀u∈acc T (ix q k).s.toNat,u∈acc t (ix q k).t.toNat)∧∀a:Nat,has (aT (acc T (ix q k).s.toNat)) (a:Int)=true→(ix (nxt T (ix q k).s.toNat) a,ix (nxt t (ix q k).t.toNat) a)∈q.map cZ
theorem iV {l m:List Mt} {j:Nat} (h:j<l.length):ix (l++m) j=ix l j:=by
 rw[aJ (by simp;omega),aJ h,List.getElem_append_left h]
theorem Gk {l:List Mt} {x:Mt}:ix (l++ [x]) l.length=x:=by
 rw[aJ (by simp)];simp
theorem UD {T t:SS} (hT:oK T) (ht:oK t):lS T t [⟨0,0,-1,0⟩]:=by
 have f1:=hT.few0
 have f2:=ht.few0
 refine⟨by simp,rfl,fun m hm=> ?_,by simp,fun k h1 h2=> ?_,fun R hR h m hm=> ?_⟩
 ·have:m=⟨0,0,-1,0⟩:=by simpa using hm
  subst this
  show 0≤(0:Int)∧(0:Int)<_∧0≤(0:Int)∧(0:Int)<_
  omega
 ·simp at h2;omega
 ·have:m=⟨0,0,-1,0⟩:=by simpa using hm
  subst this;exact h
theorem jR {T:SS} (hT:oK T) {x:Nat} (hx:x<T.sT.length) {a:Nat} (h:has (aT (acc T x)) (a:Int)=true):a<T.aC.length∧0≤ix (nxt T x) a∧ix (nxt T x) a<(T.sT.length:Int):=by
 obtain⟨u,hu,hh⟩:=(bR _ _).1 h
 obtain⟨i,hi,e⟩:=oT hu
 have hst:=hT.st x hx
 have e':ix (ix T.sT x).aP i=u:=e
 obtain⟨g1,g2⟩:=hst.go i hi a (by rw[e'];exact hh)
 exact⟨g1,g2,(hst.nx a g1).2⟩
theorem vD {T t:SS} (hT:oK T) (ht:oK t) {x y:Nat} (hx:x<T.sT.length) (hy:y<t.sT.length) (hall:∀u∈acc T x,u∈acc t y) {a:Nat} (h:has (aT (acc T x)) (a:Int)=true):a<t.aC.length∧0≤ix (nxt t y) a∧ix (nxt t y) a<(t.sT.length:Int):=by
 obtain⟨u,hu,hh⟩:=(bR _ _).1 h
 exact jR ht hy ((bR _ _).2 ⟨u,hall u hu,hh⟩)
theorem UE {T t:SS} (hT:oK T) (ht:oK t) {q:List Mt} (h:lS T t q) {i:Nat} (hi:i<q.length) (hall:∀u∈acc T (ix q i).s.toNat,u∈acc t (ix q i).t.toNat) {a:Nat} (ha:has (aT (acc T (ix q i).s.toNat)) (a:Int)=true)
 (hn:(ix (nxt T (ix q i).s.toNat) a,ix (nxt t (ix q i).t.toNat) a)∉q.map cZ):lS T t (q++ [⟨ix (nxt T (ix q i).s.toNat) a,ix (nxt t (ix q i).t.toNat) a,(i:Int),(a:Int)⟩]):=by
 have hb:=h.bd _ (aZ hi)
 have g1:=jR hT (x:=(ix q i).s.toNat) O ha
 have g2:=vD hT ht (x:=(ix q i).s.toNat) (y:=(ix q i).t.toNat) O O hall ha
 refine⟨by simp,by rw[iV h.ne];exact h.hd,fun m hm=> ?_,?_,fun k h1 h2=> ?_,fun R hR h0 m hm=> ?_⟩
 ·rcases List.mem_append.1 hm with hm|hm
  ·exact h.bd m hm
  ·have:m=_:=List.mem_singleton.1 hm
   subst this
   exact⟨g1.2.1,g1.2.2,g2.2.1,g2.2.2⟩
 ·rw[List.map_append,List.nodup_append]
  exact⟨h.nd,by simp,fun p hp p' hp' e=>hn (by
   have:p'=_:=List.mem_singleton.1 hp'
   rw[e,this] at hp;exact hp)⟩
 ·simp at h2
  by_cases e:k=q.length
  ·subst e
   refine⟨i,a,?_⟩
   rw[Gk,iV hi]
   exact⟨rfl,rfl,hi,ha,rfl,rfl⟩
  ·obtain⟨b,a',p1,p2,p3,p4⟩:=h.back k h1 O
   refine⟨b,a',?_⟩
   rw[iV O,iV O]
   exact⟨p1,p2,p3,p4⟩
 ·rcases List.mem_append.1 hm with hm|hm
  ·exact h.all R hR h0 m hm
  ·have:m=_:=List.mem_singleton.1 hm
   subst this
   exact hR.nxt (h.all R hR h0 _ (aZ hi)) a ha
theorem MD {T t:SS} {q:List Mt} {m:Mt} {k:Nat} (hk:k<q.length) (h:pT T t q k):pT T t (q++ [m]) k:=by
 unfold pT
 rw[iV hk]
 exact⟨h.1,fun a ha=>by rw[List.map_append];exact List.mem_append_left _ (h.2 a ha)⟩
theorem q_len {T t:SS} {q:List Mt} (h:lS T t q):q.length≤T.sT.length*t.sT.length:=by
 have key:∀(n m:Nat) (l:List (Int × Int)),l.Nodup→(∀p∈l,0≤p.1∧p.1<(n:Int)∧0≤p.2∧p.2<(m:Int))→l.length≤n*m:=by
  intro n m l hnd hb
  have h1:(l.map fun p=>p.1.toNat*m+p.2.toNat).Nodup:=by
   rw[List.nodup_iff_pairwise_ne,List.pairwise_map]
   refine List.Pairwise.imp_of_mem ?_ hnd
   intro a b ha hb' hne e
   have b1:=hb a ha
   have b2:=hb b hb'
   have hm:0<m:=by omega
   have e1:a.1.toNat=b.1.toNat:=by
    have:=congrArg (· /m) e
    simp only [Nat.mul_comm _ m] at this
    rw[Nat.mul_add_div hm,Nat.mul_add_div hm,Nat.div_eq_of_lt O,Nat.div_eq_of_lt O] at this
    omega
   have e2:a.2.toNat=b.2.toNat:=by rw[e1] at e;omega
   exact hne (Prod.ext O O)
  have h2:∀x∈(l.map fun p=>p.1.toNat*m+p.2.toNat),x∈List.range (n*m):=fun x hx=>by
   obtain⟨p,hp,rfl⟩:=List.mem_map.1 hx
   have b1:=hb p hp
   rw[List.mem_range]
   have:(p.1.toNat+1)*m≤n*m:=Nat.mul_le_mul_right m O
   rw[Nat.add_mul] at this
   omega
  have h3:=List.Nodup.length_le_of_subset h1 h2
  simpa using h3
 have:=key T.sT.length t.sT.length (q.map cZ) h.nd (fun p hp=>by
  obtain⟨m,hm,rfl⟩:=List.mem_map.1 hp
  exact h.bd m hm)
 simpa using this
def Gl (T t:SS):Prop:=∃R,Ref T t R∧R 0 0
theorem Pe {T t:SS} {q:List Mt} (h:lS T t q) (hd:∀k,k<q.length→pT T t q k):Gl T t:=by
 have hat:∀{x y:Nat},((x:Int),(y:Int))∈q.map cZ→∃k,k<q.length∧(ix q k).s=(x:Int)∧(ix q k).t=(y:Int):=fun {x y} hm=>by
  obtain⟨m,hm,e⟩:=List.mem_map.1 hm
  obtain⟨k,hk,rfl⟩:=List.getElem_of_mem hm
  unfold cZ at e
  simp only [Prod.mk.injEq] at e
  exact⟨k,hk,by rw[aJ hk];exact e.1,by rw[aJ hk];exact e.2⟩
 refine⟨fun x y=>((x:Int),(y:Int))∈q.map cZ,⟨fun {x y} hm=> ?_,fun {x y} hm u hu=> ?_,fun {x y} hm a ha=> ?_⟩,?_⟩
 ·obtain⟨k,hk,e1,e2⟩:=hat hm
  have:=h.bd _ (aZ hk)
  omega
 ·obtain⟨k,hk,e1,e2⟩:=hat hm
  have:=(hd k hk).1
  rw[e1,e2,Int.toNat_natCast,Int.toNat_natCast] at this
  exact this u hu
 ·obtain⟨k,hk,e1,e2⟩:=hat hm
  have h2:=(hd k hk).2 a
  rw[e1,e2,Int.toNat_natCast,Int.toNat_natCast] at h2
  have h3:=h2 ha
  obtain⟨m,hm',e⟩:=List.mem_map.1 h3
  have hb:=h.bd m hm'
  unfold cZ at e
  simp only [Prod.mk.injEq] at e
  rw[Int.toNat_of_nonneg O,Int.toNat_of_nonneg O]
  exact h3
 ·have:=aZ (l:=q) h.ne
  rw[h.hd] at this
  exact List.mem_map.2 ⟨_,this,rfl⟩
structure ME (T t:SS) (z:List Mt × Int × Int):Prop where
 q:lS T t z.1
 yes:z.2.1<0→Gl T t∧∀k,k<z.1.length→pT T t z.1 k
 no:0≤z.2.1→¬Gl T t∧z.2.1<(z.1.length:Int)∧z.2.2∈acc T (ix z.1 z.2.1.toNat).s.toNat∧z.2.2∉acc t (ix z.1 z.2.1.toNat).t.toNat
theorem Sl {T t:SS} {q:List Mt} (h:lS T t q) {i:Nat} (hi:i<q.length) {u:Int} (hu:u∈acc T (ix q i).s.toNat) (hn:u∉acc t (ix q i).t.toNat):ME T t (q,(i:Int),u):=
 ⟨h,fun h0=>by have h0:(i:Int)<0:=h0
               omega,fun _=>⟨fun⟨R,hR,h0⟩=>hn (hR.acc (h.all R hR h0 _ (aZ hi)) u hu),by show(i:Int)<(q.length:Int);omega,by show u∈acc T (ix q (i:Int).toNat).s.toNat∧u∉acc t (ix q (i:Int).toNat).t.toNat;rw[Int.toNat_natCast];exact⟨hu,hn⟩⟩⟩
end WalkM
end
section
open ref01 ref03 ref04 ref06 prog prog2 prog3 prog4 prog5 search Part Rungs LeftM TrimM RoundM BisM BisM5 WalkM
theorem Iw {l:List Int} {k:Nat} {u:Int} (hk:k<l.length) (h:u∈l.take (k+1)):u∈l.take k∨u=ix l k:=by
 rw[bL hk,List.mem_append] at h
 exact h.imp id (fun h=>by simpa using h)
theorem MF {q r:List Mt} {k:Nat} (h:q<+:r) (hk:k<q.length):ix r k=ix q k:=by
 obtain⟨u,rfl⟩:=h
 exact iV hk
abbrev goP (T t:SS) (m:Mt) (a:Nat):Int × Int:=(ix (ix T.sT m.s.toNat).next a,ix (ix t.sT m.t.toNat).next a)
structure Mid (T t:SS) (q:List Mt) (i:Nat) (cn:Int) (m:Nat) (q2:List Mt) (mm2:List ((Int × Int) × Bool)):Prop where
 qi:lS T t q2
 sm:mF mm2 q2
 pre:q<+:q2
 dn:∀k,k<i→pT T t q2 k
 al:∀a:Nat,(a:Int)∈(listOf 63 cn).take m→goP T t (ix q i) a∈q2.map cZ
theorem Es:mF (dI [] (0,0) true) [⟨0,0,-1,0⟩]:=xX (q:= []) (mm:= []) (fun p=>rfl) ⟨0,0,-1,0⟩
theorem Gm {l:List Int} {m:Nat} {x y:Int} (hx:l[m]?=some x) (h:y∈l.take (m+1)):y∈l.take m∨y=x:=by
 rw[List.take_add_one,hx,List.mem_append] at h
 exact h.imp id (fun h=>by simpa using h)
theorem Pf {T t:SS} (hT:oK T) (ht:oK t) {q:List Mt} {i:Nat} {cn:Int} {m:Nat} {q2:List Mt} {mm2:List ((Int × Int) × Bool)} (h:Mid T t q i cn m q2 mm2) (hi:i<q.length) (hcn:cn=aT (acc T (ix q i).s.toNat)) (hall:∀u∈acc T (ix q i).s.toNat,u∈acc t (ix q i).t.toNat)
 {a:Nat} (hx:(listOf 63 cn)[m]?=some (a:Int)) (hn:(cX mm2 (goP T t (ix q i) a)).getD false=false):Mid T t q i cn (m+1) (q2++ [⟨(goP T t (ix q i) a).1,(goP T t (ix q i) a).2,(i:Int),(a:Int)⟩]) (dI mm2 (goP T t (ix q i) a) true):=by
 obtain⟨a',e,_,hha⟩:=listOf_get hx
 have e:a'=a:=by omega
 subst e
 have hl:=h.pre.length_le
 have hqi:=MF h.pre hi
 have hn':goP T t (ix q i) a'∉q2.map cZ:=by
  rw[vX h.sm] at hn
  simpa using hn
 have hp:=UE hT ht h.qi (i:=i) O (by rw[hqi];exact hall) (a:=a') (by rw[hqi,←hcn];exact hha) (by rw[hqi];exact hn')
 rw[hqi] at hp
 refine⟨hp,xX h.sm ⟨(goP T t (ix q i) a').1,(goP T t (ix q i) a').2,(i:Int),(a':Int)⟩,h.pre.trans (List.prefix_append _ _),fun k hk=>MD O (h.dn k hk),fun b hb=> ?_⟩
 rw[List.map_append,List.mem_append]
 rcases Gm hx hb with h1|h1
 ·exact .inl (h.al b h1)
 ·have:b=a':=by omega
  subst this
  exact .inr (List.mem_singleton.2 rfl)
theorem Pg {T t:SS} {q:List Mt} {i:Nat} {cn:Int} {m:Nat} {q2:List Mt} {mm2:List ((Int × Int) × Bool)} (h:Mid T t q i cn m q2 mm2)
 {a:Nat} (hx:(listOf 63 cn)[m]?=some (a:Int)) (hn:(cX mm2 (goP T t (ix q i) a)).getD false=true):Mid T t q i cn (m+1) q2 mm2:=by
 refine⟨h.qi,h.sm,h.pre,h.dn,fun b hb=> ?_⟩
 rcases Gm hx hb with h1|h1
 ·exact h.al b h1
 ·have:b=a:=by omega
  subst this
  rw[vX h.sm] at hn
  simpa using hn
theorem mid_end {T t:SS} (hT:oK T) {q:List Mt} {i:Nat} {cn:Int} {q2:List Mt} {mm2:List ((Int × Int) × Bool)} (hq:lS T t q) (h:Mid T t q i cn (listOf 63 cn).length q2 mm2) (hi:i<q.length) (hcn:cn=aT (acc T (ix q i).s.toNat)) (hall:∀u∈acc T (ix q i).s.toNat,u∈acc t (ix q i).t.toNat):
 lS T t q2∧mF mm2 q2∧i+1≤q2.length∧∀k,k<i+1→pT T t q2 k:=by
 have hl:=h.pre.length_le
 refine⟨h.qi,h.sm,O,fun k hk=> ?_⟩
 by_cases e:k=i
 ·subst e
  have hqi:=MF h.pre hi
  have hb:=hq.bd _ (aZ hi)
  unfold pT
  rw[hqi]
  refine⟨hall,fun a ha=>h.al a ?_⟩
  rw[List.take_length,hcn]
  have:=(jR hT (x:=(ix q k).s.toNat) O ha).1
  have h8:=hT.n8
  exact cQ.2 ⟨a,rfl,O,ha⟩
 ·exact h.dn k O
namespace T
theorem Gn:pL Tryz.prog 270 235 4 dL fB:=Ep Tryz.underlying270 Tryz.underlying235 kR (by decide+kernel) kR kR ⟨rfl,rfl,by kernel_rfl,by kernel_rfl⟩ ⟨rfl,rfl,by kernel_rfl,by kernel_rfl⟩ kR kR
theorem UF:∀w F,∃u,(zeroValue 4).run Tryz.prog w= .ok u w∧(blV false).p w F u:=AA (v:= .bool false) kR _ (fun _ _=>Dg)
theorem Xo:dM Tryz.prog 230 [.slice none 0 0]:=cC kR
theorem Rh:fW Tryz.prog 235 [(0,1),(1,1)] [.int .i64 0,.int .i64 0]:=fI kR kR
theorem Xp:dM Tryz.prog 270 [.map none]:=cC kR
theorem Gp:dF Tryz.prog 270:=dH kR
theorem Ri:fW Tryz.prog 237 [(0,2),(2,1),(3,1)] [.int .i64 0,.int .i64 0,.int .i64 0,.int .i64 0]:=fI kR kR
theorem Kz:eG Tryz.prog 230 237 4 32 [.int .i64 0,.int .i64 0,.int .i64 0,.int .i64 0]:=fU kR kR
theorem mG:dF Tryz.prog 230:=dH kR
theorem vY:IsSlice Tryz.prog 230 237 4:=dW kR
theorem AY:cW Tryz.prog 237 0 0:=cB kR
theorem vF:fH Tryz.prog 235 2:=fT kR
theorem UG:dM Tryz.prog 235 [.int .i64 0,.int .i64 0]:=cC kR
theorem Gq:cW Tryz.prog 235 0 0:=cB kR
theorem Gr:cW Tryz.prog 235 1 1:=cB kR
theorem Gs:Ent Tryz.prog 126:=aG kR
end T
namespace refw
theorem Sm (s t:SS) (hT:oK s) (ht:oK t):
 AL.Fn Tryz.prog 190 [spec s,spec t] [] (ι:= { z:List Mt × Int × Int//ME s t z }) (fun _ i=>tup [sl 4 kS i.1.1,int i.1.2.1,int i.1.2.2]) (fun _=> []):=by
 refine fnI Tryz.func190 rfl rfl (fun w0 F0=> ?_)
 have f1:=hT.few1;have f2:=ht.few1;have f3:=hT.n8;have hmm:s.sT.length*t.sT.length≤10000*10000:=Nat.mul_le_mul f1 f2
 refine fcC (bO 0 J) (fun hS0=> ?_)
 obtain⟨hsa0,hss0,hse0⟩:=sLn hS0
 refine fcC (bO 1 J) (fun hS1=> ?_)
 obtain⟨hsa1,hss1,hse1⟩:=sLn hS1
 refine sq (rg (bx (key:=2) (cs:= [sl 1 rE_ s.aC,sl 2 sE s.sT]) J fun b2=>(bx (key:=3) (cs:= [sl 1 rE_ t.aC,sl 2 sE t.sT]) J fun b3=>(al (key:=4) T.Xo (eC eZ) fun b4=>(ag (ag (nl (th (sq (rg (mkm (key:=17) (kE:=dL) (dom:=fB) (vE:=blV) fun b17=>(bd (css:= []) T.Rh (eC (eC eZ)) trivial (AL.insert (q:=(0,0)) (u:=true) J J lH J T.Gn ⟨⟨O,O⟩,⟨O,O⟩⟩ (mv (al (key:=7) T.Xp (eC eZ) fun b7=>(sP (φ:=mpv 17 b17) J J J T.Gp J (nl (th (sq (rg (bd (css:= [(2,_)]) T.Ri (eC (eC (eC (eC eZ)))) ⟨J,J,p1 (φ:=int (-1)) J,tV⟩ (bsO 21 (enc:=kS) (xs:= [⟨0,0,(-1),0⟩]) (css:= [[int 0,int 0,int (-1),int 0]]) T.Kz ⟨J,J,pA (cs:= [int 0,int 0,int (-1),int 0]) J,tV⟩ J J J J fun v21=>(bY J J J J T.mG J (nl (th (sq (sq (rg (al (key:=8) T.z3 (eC eZ) fun b8=>(sP (φ:=int 0) J J J T.aF J (nl (th (bk ?_)))))))))))))))))))))))))))))))))
 have hI0_0:lS s t ([⟨0,0,(-1),0⟩]:List Mt)∧mF (dI ([]:List ((Int × Int) × Bool)) (0,0) true) ([⟨0,0,(-1),0⟩]:List Mt)∧0≤([⟨0,0,(-1),0⟩]:List Mt).length∧∀k,k<0→pT s t ([⟨0,0,(-1),0⟩]:List Mt) k:=by
  exact⟨UD hT ht,Es,by simp,fun k hk=>absurd hk O⟩
 refine lp (κ:=Nat × Nat × Value × (List Mt) × (List ((Int × Int) × Bool))) (fun p=> [(2,ptr 2 b2 0),(3,ptr 3 b3 0),(4,ptr 4 b4 0),(7,ptr 7 b7 0),(8,ptr 8 p.2.1 0)]) (fun p=> [(2,cell b2 [sl 1 rE_ s.aC,sl 2 sE s.sT]),(3,cell b3 [sl 1 rE_ t.aC,sl 2 sE t.sT]),(4,cell b4 [osl 21 p.2.2.1]),(7,cell b7 [mpv 17 b17]),(8,cell p.2.1 [int (p.1:Int)]),(17,mp b17 dL fB blV p.2.2.2.2),(21,own p.2.2.1 237 4 kS p.2.2.2.1)]) (fun p=>lS s t p.2.2.2.1∧mF p.2.2.2.2 p.2.2.2.1∧p.1≤p.2.2.2.1.length∧∀k,k<p.1→pT s t p.2.2.2.1 k) (fun p=>s.sT.length*t.sT.length- p.1) ⟨0,b8,v21,([⟨0,0,(-1),0⟩]:List Mt),dI ([]:List ((Int × Int) × Bool)) (0,0) true⟩ hI0_0 ⟨id,id,id,id,id,tV⟩ ⟨rI,rI,rI,rI,rI,rI,rI,tV⟩ ?_
 intro⟨i,c8,v,q,mm⟩ hG0
 have hI0:lS s t q∧mF mm q∧i≤q.length∧∀k,k<i→pT s t q k:=hG0
 show Ct _ _ _ _ [(2,ptr 2 b2 0),(3,ptr 3 b3 0),(4,ptr 4 b4 0),(7,ptr 7 b7 0),(8,ptr 8 c8 0)] [(2,cell b2 [sl 1 rE_ s.aC,sl 2 sE s.sT]),(3,cell b3 [sl 1 rE_ t.aC,sl 2 sE t.sT]),(4,cell b4 [osl 21 v]),(7,cell b7 [mpv 17 b17]),(8,cell c8 [int (i:Int)]),(17,mp b17 dL fB blV mm),(21,own v 237 4 kS q)] _
 obtain⟨hq,hsm,hil,hdone⟩:=hI0
 have hql:=WalkM.q_len hq
 refine sq (sq (rg (lP J J J T.aF (lP J J J T.mG (lnO J J T.vY (bi J J aN (nl (th ?_))))))))
 refine cd J (fun hc0=> ?_) (fun hc0=> ?_)
 ·try simp at hc0
  have hbd:=hq.bd _ (aZ (l:=q) (i:=i) O)
  have hsx:=hT.st (ix q i).s.toNat O
  have hsy:=ht.st (ix q i).t.toNat O
  have hacl:=hsx.acl
  have hxl:=hsx.len
  have hyl:=hsy.len
  have hyn:=ht.n8
  refine sk (th (sq (bk (sq (rg (lP J J J T.mG (lP J J J T.aF (iO J J J T.vY O O (fO J T.AY (lOA J J gB T.vF (by decide) (al (key:=9) T.UG (eC (eC eZ)) fun b9=>(sPA (cs':= [int (ix q i).s,int (ix q i).t]) J J J T.vF J J (nl (th (sq ?_)))))))))))))))
  refine drH (nh:=16) [0,1,0,4,15,31,0,64,0,256,960,1984,0,0,12351,32767] [(none,[]),(none,[2]),(none,[]),(none,[9]),(none,[]),(none,[]),(none,[]),(none,[3]),(none,[]),(none,[9]),(none,[]),(none,[]),(some 10,[]),(some 11,[]),(some 10,[10]),(some 11,[11])] T.mixed kR kR ?_
  refine stv (d:=33) (fun β0=>ptr 2 b2 1) [] J bH (fun β0 _ _ _ _ gq gh kq=>fP (gq.1.trans J) T.aY kq) ?_
  refine stv (d:=34) (fun β0=>sl 2 sE s.sT) [2] J bH (fun β0 _ _ _ _ gq gh kq=>lP (gq.1.trans J) (gh.1.trans J) J T.bI kq) ?_
  refine stv (d:=35) (fun β0=>ptr 9 b9 0) [] J bH (fun β0 _ _ _ _ gq gh kq=>fP (gq.1.trans J) T.Gq kq) ?_
  refine stv (d:=36) (fun β0=>int (ix q i).s) [9] J bH (fun β0 _ _ _ _ gq gh kq=>lP (gq.1.trans J) (gh.1.trans J) J T.aF kq) ?_
  refine stv (d:=37) (fun β0=>fp [sl 1 nE (ix s.sT (ix q i).s.toNat).aP,sl 1 nE (ix s.sT (ix q i).s.toNat).next]) [] J bH (fun β0 _ _ _ _ gq gh kq=>iF (gq.1.trans J) (gq.2.1.trans J) T.bU O gB kq) ?_
  refine stv (d:=38) (fun β0=>agg [sl 1 nE (ix s.sT (ix q i).s.toNat).aP,sl 1 nE (ix s.sT (ix q i).s.toNat).next]) [] J bH (fun β0 _ _ _ _ gq gh kq=>lFA (gq.1.trans J) T.cP (Nat.le_of_ble_eq_true J) kq) ?_
  refine stv (d:=39) (fun β0=>ptr 3 b3 1) [] J bH (fun β0 _ _ _ _ gq gh kq=>fP (gq.1.trans J) T.aY kq) ?_
  refine stv (d:=40) (fun β0=>sl 2 sE t.sT) [3] J bH (fun β0 _ _ _ _ gq gh kq=>lP (gq.1.trans J) (gh.1.trans J) J T.bI kq) ?_
  refine stv (d:=41) (fun β0=>ptr 9 b9 1) [] J bH (fun β0 _ _ _ _ gq gh kq=>fP (gq.1.trans J) T.Gr kq) ?_
  refine stv (d:=42) (fun β0=>int (ix q i).t) [9] J bH (fun β0 _ _ _ _ gq gh kq=>lP (gq.1.trans J) (gh.1.trans J) J T.aF kq) ?_
  refine stv (d:=43) (fun β0=>fp [sl 1 nE (ix t.sT (ix q i).t.toNat).aP,sl 1 nE (ix t.sT (ix q i).t.toNat).next]) [] J bH (fun β0 _ _ _ _ gq gh kq=>iF (gq.1.trans J) (gq.2.1.trans J) T.bU O gB kq) ?_
  refine stv (d:=44) (fun β0=>agg [sl 1 nE (ix t.sT (ix q i).t.toNat).aP,sl 1 nE (ix t.sT (ix q i).t.toNat).next]) [] J bH (fun β0 _ _ _ _ gq gh kq=>lFA (gq.1.trans J) T.cP (Nat.le_of_ble_eq_true J) kq) ?_
  refine sta 10 T.z81 (eC (eC eZ)) ?_
  refine sta 11 T.z81 (eC (eC eZ)) ?_
  refine stw 10 (fun β0=>cell (gbk (β0 12)) [sl 1 nE (ix s.sT (ix q i).s.toNat).aP,sl 1 nE (ix s.sT (ix q i).s.toNat).next]) [10] J (fun β β' hb=>by first|rw[hb 12 J]|(dsimp only;rw[hb 12 J])) (fun β0 _ _ _ _ gq gh kq=>sPA (cs':= [sl 1 nE (ix s.sT (ix q i).s.toNat).aP,sl 1 nE (ix s.sT (ix q i).s.toNat).next]) (gq.1.trans J) (gh.1.trans J) (gq.2.1.trans J) T.cP J J kq) ?_
  refine stw 11 (fun β0=>cell (gbk (β0 13)) [sl 1 nE (ix t.sT (ix q i).t.toNat).aP,sl 1 nE (ix t.sT (ix q i).t.toNat).next]) [11] J (fun β β' hb=>by first|rw[hb 13 J]|(dsimp only;rw[hb 13 J])) (fun β0 _ _ _ _ gq gh kq=>sPA (cs':= [sl 1 nE (ix t.sT (ix q i).t.toNat).aP,sl 1 nE (ix t.sT (ix q i).t.toNat).next]) (gq.1.trans J) (gh.1.trans J) (gq.2.1.trans J) T.cP J J kq) ?_
  refine pnH fun β0=>(nl (th (sq (rg (ag (nl (th (sq (sq (rg (fP J T.cM (lP J J J T.aV (fc (aL 46 J) fun hm46=>(lnF J T.aM (mv (nl (th (bk ?_))))))))))))))))))
  have hI1_0:0≤(ix s.sT (ix q i).s.toNat).aP.length:=by
   first|omega|simp
  have hI1_1:(0:Int)=aT ((ix s.sT (ix q i).s.toNat).aP.take 0)∧0≤(0:Int)∧(0:Int)<256∧∀u∈(ix s.sT (ix q i).s.toNat).aP.take 0,u∈(ix t.sT (ix q i).t.toNat).aP:=by
   exact⟨rfl,O,O,fun u hu=>by cases hu⟩
  refine lp (κ:=Nat × Int) (fun p=> [(2,ptr 2 b2 0),(3,ptr 3 b3 0),(4,ptr 4 b4 0),(7,ptr 7 b7 0),(8,ptr 8 c8 0),(10,ptr 10 (gbk (β0 12)) 0),(11,ptr 11 (gbk (β0 13)) 0),(12,int p.2),(46,sl 1 nE (ix s.sT (ix q i).s.toNat).aP),(47,int ((ix s.sT (ix q i).s.toNat).aP.length:Int)),(48,int (p.1:Int))]) (fun p=> [(2,cell b2 [sl 1 rE_ s.aC,sl 2 sE s.sT]),(3,cell b3 [sl 1 rE_ t.aC,sl 2 sE t.sT]),(4,cell b4 [osl 21 v]),(7,cell b7 [mpv 17 b17]),(8,cell c8 [int (i:Int)]),(9,cell b9 [int (ix q i).s,int (ix q i).t]),(10,cell (gbk (β0 12)) [sl 1 nE (ix s.sT (ix q i).s.toNat).aP,sl 1 nE (ix s.sT (ix q i).s.toNat).next]),(11,cell (gbk (β0 13)) [sl 1 nE (ix t.sT (ix q i).t.toNat).aP,sl 1 nE (ix t.sT (ix q i).t.toNat).next]),(17,mp b17 dL fB blV mm),(21,own v 237 4 kS q)]) (fun p=>(p.1≤(ix s.sT (ix q i).s.toNat).aP.length)∧(p.2=aT ((ix s.sT (ix q i).s.toNat).aP.take p.1)∧0≤p.2∧p.2<256∧∀u∈(ix s.sT (ix q i).s.toNat).aP.take p.1,u∈(ix t.sT (ix q i).t.toNat).aP)) (fun p=>(ix s.sT (ix q i).s.toNat).aP.length- p.1) ⟨0,(0:Int)⟩ ⟨hI1_0,hI1_1⟩ ⟨id,id,id,id,id,id,id,id,id,id,id,tV⟩ ⟨rI,rI,rI,rI,rI,rI,rI,rI,rI,rI,tV⟩ ?_
  intro⟨k1,cn⟩ hG1
  obtain⟨hk1,hI1⟩:(k1≤(ix s.sT (ix q i).s.toNat).aP.length)∧(cn=aT ((ix s.sT (ix q i).s.toNat).aP.take k1)∧0≤cn∧cn<256∧∀u∈(ix s.sT (ix q i).s.toNat).aP.take k1,u∈(ix t.sT (ix q i).t.toNat).aP):=hG1
  show Ct _ _ _ _ [(2,ptr 2 b2 0),(3,ptr 3 b3 0),(4,ptr 4 b4 0),(7,ptr 7 b7 0),(8,ptr 8 c8 0),(10,ptr 10 (gbk (β0 12)) 0),(11,ptr 11 (gbk (β0 13)) 0),(12,int cn),(46,sl 1 nE (ix s.sT (ix q i).s.toNat).aP),(47,int ((ix s.sT (ix q i).s.toNat).aP.length:Int)),(48,int (k1:Int))] [(2,cell b2 [sl 1 rE_ s.aC,sl 2 sE s.sT]),(3,cell b3 [sl 1 rE_ t.aC,sl 2 sE t.sT]),(4,cell b4 [osl 21 v]),(7,cell b7 [mpv 17 b17]),(8,cell c8 [int (i:Int)]),(9,cell b9 [int (ix q i).s,int (ix q i).t]),(10,cell (gbk (β0 12)) [sl 1 nE (ix s.sT (ix q i).s.toNat).aP,sl 1 nE (ix s.sT (ix q i).s.toNat).next]),(11,cell (gbk (β0 13)) [sl 1 nE (ix t.sT (ix q i).t.toNat).aP,sl 1 nE (ix t.sT (ix q i).t.toNat).next]),(17,mp b17 dL fB blV mm),(21,own v 237 4 kS q)] _
  refine sq (rg (bi J J aN (nl (th (sq ?_)))))
  refine cd J (fun hc1=> ?_) (fun hc1=> ?_)
  ·try simp at hc1
   have hkb:=hsx.ac k1 O
   refine sk (th (sq (bk (sq (rg (iF J J T.aM O gB (lF J J T.aF (ag (nl (th (sq (sq (rg (lPA J J T.cP J (mv (aO (φs:= [agg [sl 1 nE (ix t.sT (ix q i).t.toNat).aP,sl 1 nE (ix t.sT (ix q i).t.toNat).next],int (ix (ix s.sT (ix q i).s.toNat).aP k1)]) (φ:=bl (decide ((ix (ix s.sT (ix q i).s.toNat).aP k1)∈(ix t.sT (ix q i).t.toNat).aP))) ⟨J,J,tV⟩ (search.oZ (ix t.sT (ix q i).t.toNat) (ht.st _ O).rise (ix (ix s.sT (ix q i).s.toNat).aP k1)) T.Gs (no J (nl (th ?_)))))))))))))))))))
   refine cd J (fun hc2=> ?_) (fun hc2=> ?_)
   ·try simp at hc2
    have hnin:ix (ix s.sT (ix q i).s.toNat).aP k1∉(ix t.sT (ix q i).t.toNat).aP:=by simpa using hc2
    refine sq ?_
    refine drH (nh:=6) [0,0,0,1,11,31] [(none,[4]),(none,[8]),(none,[]),(some 4,[4,21]),(none,[]),(none,[])] T.mixed kR kR ?_
    refine stv (d:=56) (fun β1=>osl 21 v) [4] J bH (fun β1 _ _ _ _ gq gh kq=>lP (gq.1.trans J) (gh.1.trans J) J T.mG kq) ?_
    refine stv (d:=57) (fun β1=>int (i:Int)) [8] J bH (fun β1 _ _ _ _ gq gh kq=>lP (gq.1.trans J) (gh.1.trans J) J T.aF kq) ?_
    refine stv (d:=58) (fun β1=>int (ix (ix s.sT (ix q i).s.toNat).aP k1)) [] J bH (fun β1 _ _ _ _ gq gh kq=>mv' (gq.1.trans J) kq) ?_
    refine stw 4 (fun β1=>cell b4 [osl 21 v]) [4,21] J bH (fun β1 _ _ _ _ gq gh kq=>bY (gq.1.trans J) (gh.1.trans J) (gq.2.1.trans J) (gh.2.1.trans J) T.mG J kq) ?_
    refine stv (d:=5) (fun β1=>int (i:Int)) [] J bH (fun β1 _ _ _ _ gq gh kq=>ag' (gq.1.trans J) kq) ?_
    refine stv (d:=6) (fun β1=>int (ix (ix s.sT (ix q i).s.toNat).aP k1)) [] J bH (fun β1 _ _ _ _ gq gh kq=>ag' (gq.1.trans J) kq) ?_
    refine pnH fun β1=>(nl (th (rt (rt_ (rb (rt_ (rt_ (rb (rt_ (rb (rt_ (rt_ (rb (rt_ ?_))))))))))))))
    refine Xk 4 21 0 rfl rfl rfl rfl ?_
    exact rE ⟨(q,(i:Int),ix (ix s.sT (ix q i).s.toNat).aP k1),Sl hq O (gA O) hnin⟩ [.cell 4 230,.tmp 5,.tmp 6] J [sl 4 kS q,int (i:Int),int (ix (ix s.sT (ix q i).s.toNat).aP k1)] ⟨.one J J T.mG J,.tmp J,.tmp J,tV⟩ J trivial eX
   ·try simp at hc2
    have hin:ix (ix s.sT (ix q i).s.toNat).aP k1∈(ix t.sT (ix q i).t.toNat).aP:=by simpa using hc2
    refine sk (th (rg (mv (mv (bi J J (rO O O O O) (ag (nl (eb (th (rg (bi J J (aK i6) (mv (nl ?_)))))))))))))
    have hN0:(k1+1)≤(ix s.sT (ix q i).s.toNat).aP.length:=by
     first|omega|simp_all
    have hN1:((cn.toNat|||(ix (ix s.sT (ix q i).s.toNat).aP k1).toNat:Nat):Int)=aT ((ix s.sT (ix q i).s.toNat).aP.take (k1+1))∧0≤((cn.toNat|||(ix (ix s.sT (ix q i).s.toNat).aP k1).toNat:Nat):Int)∧((cn.toNat|||(ix (ix s.sT (ix q i).s.toNat).aP k1).toNat:Nat):Int)<256∧∀u∈(ix s.sT (ix q i).s.toNat).aP.take (k1+1),u∈(ix t.sT (ix q i).t.toNat).aP:=by
     refine⟨?_,O,kG hI1.2.2.1 hkb.2,fun u hu=> ?_⟩
     ·rw[bL O,gQ,←hI1.1]
     ·rcases Iw O hu with h|h
      ·exact hI1.2.2.2 u h
      ·rw[h];exact hin
    exact ln (⟨k1+1,((cn.toNat|||(ix (ix s.sT (ix q i).s.toNat).aP k1).toNat:Nat):Int)⟩:Nat × Int) ⟨hN0,hN1⟩ dO ⟨id,id,id,id,id,id,id,id,id,id,id,tV⟩ ⟨rI,rI,rI,rI,rI,rI,rI,rI,rI,rI,tV⟩
  ·try simp at hc1
   have hcn:cn=aT (ix s.sT (ix q i).s.toNat).aP:=by rw[hI1.1,show k1=(ix s.sT (ix q i).s.toNat).aP.length by omega,List.take_length]
   have hall:∀u∈acc s (ix q i).s.toNat,u∈acc t (ix q i).t.toNat:=fun u hu=>hI1.2.2.2 u (by rw[show k1=(ix s.sT (ix q i).s.toNat).aP.length by omega,List.take_length];exact hu)
   refine ex (xt_ (xt_ (xb (th (sq (rg (mv (aO (φs:= [int cn]) (φ:=clo 162 [fp [int cn]]) ⟨J,tV⟩ (prog3.qI cn) T.tA (nl (th (bk ?_)))))))))))
   have hR0:Mid s t q i cn 0 q mm:=by
    exact⟨hq,hsm,List.prefix_rfl,hdone,fun a ha=>by cases ha⟩
   refine rf (κ:=Value × (List Mt) × (List ((Int × Int) × Bool))) 900 (fun p=> [(2,cell b2 [sl 1 rE_ s.aC,sl 2 sE s.sT]),(3,cell b3 [sl 1 rE_ t.aC,sl 2 sE t.sT]),(4,cell b4 [osl 21 p.1]),(7,cell b7 [mpv 17 b17]),(8,cell c8 [int (i:Int)]),(9,cell b9 [int (ix q i).s,int (ix q i).t]),(10,cell (gbk (β0 12)) [sl 1 nE (ix s.sT (ix q i).s.toNat).aP,sl 1 nE (ix s.sT (ix q i).s.toNat).next]),(11,cell (gbk (β0 13)) [sl 1 nE (ix t.sT (ix q i).t.toNat).aP,sl 1 nE (ix t.sT (ix q i).t.toNat).next]),(17,mp b17 dL fB blV p.2.2),(21,own p.1 237 4 kS p.2.1)]) (fun iR p=>Mid s t q i cn iR p.2.1 p.2.2) (fun c p=>False) J (AK cn O O) T.tB J (fun _=>J) (fun _=>J) ⟨v,q,mm⟩ hR0 ⟨rI,rI,rI,rI,rI,rI,rI,rI,rI,rI,tV⟩ ?_ ?_ (fun k h=>h.elim) (fun id k h=>h.elim) (fun c k h=>h.elim)
   ·intro m0 ⟨v2,q2,mm2⟩ x0 hG0 hx0 l R w1 M1 F1 hRd
    have hR0:Mid s t q i cn m0 q2 mm2:=hG0
    show Ct _ _ _ _ _ ((900,obj l (.loop R)):: [(2,cell b2 [sl 1 rE_ s.aC,sl 2 sE s.sT]),(3,cell b3 [sl 1 rE_ t.aC,sl 2 sE t.sT]),(4,cell b4 [osl 21 v2]),(7,cell b7 [mpv 17 b17]),(8,cell c8 [int (i:Int)]),(9,cell b9 [int (ix q i).s,int (ix q i).t]),(10,cell (gbk (β0 12)) [sl 1 nE (ix s.sT (ix q i).s.toNat).aP,sl 1 nE (ix s.sT (ix q i).s.toNat).next]),(11,cell (gbk (β0 13)) [sl 1 nE (ix t.sT (ix q i).t.toNat).aP,sl 1 nE (ix t.sT (ix q i).t.toNat).next]),(17,mp b17 dL fB blV mm2),(21,own v2 237 4 kS q2)]) _
    obtain⟨a,rfl,ha63,hha⟩:=listOf_get hx0
    have hha2:=hha
    rw[hcn] at hha2
    have g1:=jR hT (x:=(ix q i).s.toNat) O hha2
    have g2:=vD hT ht (x:=(ix q i).s.toNat) (y:=(ix q i).t.toNat) O O hall hha2
    obtain⟨g1a,g1b,g1c⟩:=g1
    obtain⟨g2a,g2b,g2c⟩:=g2
    dsimp only [nxt] at g1b g1c g2b g2c
    have hq2l:=WalkM.q_len hR0.qi
    refine rg (ag (nl (aq hRd J (bk (sq ?_)))))
    refine drH (nh:=13) [0,1,0,7,15,0,32,0,224,480,1023,0,4095] [(none,[]),(none,[10]),(none,[]),(none,[]),(none,[]),(none,[]),(none,[11]),(none,[]),(none,[]),(none,[]),(none,[]),(some 16,[]),(some 16,[16])] T.mixed kR kR ?_
    refine stv (d:=66) (fun β2=>ptr 10 (gbk (β0 12)) 1) [] J bH (fun β2 _ _ _ _ gq gh kq=>fP (gq.1.trans J) T.bQ kq) ?_
    refine stv (d:=67) (fun β2=>sl 1 nE (ix s.sT (ix q i).s.toNat).next) [10] J bH (fun β2 _ _ _ _ gq gh kq=>lP (gq.1.trans J) (gh.1.trans J) J T.aV kq) ?_
    refine stv (d:=68) (fun β2=>int (a:Int)) [] J bH (fun β2 _ _ _ _ gq gh kq=>mv' (gq.1.trans J) kq) ?_
    refine stv (d:=69) (fun β2=>fp [int (ix (ix s.sT (ix q i).s.toNat).next a)]) [] J bH (fun β2 _ _ _ _ gq gh kq=>iF (gq.1.trans J) (gq.2.1.trans J) T.aM O gB kq) ?_
    refine stv (d:=70) (fun β2=>int (ix (ix s.sT (ix q i).s.toNat).next a)) [] J bH (fun β2 _ _ _ _ gq gh kq=>lF (gq.1.trans J) J T.aF kq) ?_
    refine stv (d:=71) (fun β2=>ptr 11 (gbk (β0 13)) 1) [] J bH (fun β2 _ _ _ _ gq gh kq=>fP (gq.1.trans J) T.bQ kq) ?_
    refine stv (d:=72) (fun β2=>sl 1 nE (ix t.sT (ix q i).t.toNat).next) [11] J bH (fun β2 _ _ _ _ gq gh kq=>lP (gq.1.trans J) (gh.1.trans J) J T.aV kq) ?_
    refine stv (d:=73) (fun β2=>int (a:Int)) [] J bH (fun β2 _ _ _ _ gq gh kq=>mv' (gq.1.trans J) kq) ?_
    refine stv (d:=74) (fun β2=>fp [int (ix (ix t.sT (ix q i).t.toNat).next a)]) [] J bH (fun β2 _ _ _ _ gq gh kq=>iF (gq.1.trans J) (gq.2.1.trans J) T.aM O gB kq) ?_
    refine stv (d:=75) (fun β2=>int (ix (ix t.sT (ix q i).t.toNat).next a)) [] J bH (fun β2 _ _ _ _ gq gh kq=>lF (gq.1.trans J) J T.aF kq) ?_
    refine stv (d:=76) (fun β2=>agg [int (ix (ix s.sT (ix q i).s.toNat).next a),int (ix (ix t.sT (ix q i).t.toNat).next a)]) [] J bH (fun β2 _ _ _ _ gq gh kq=>bd (css:= [(0,_),(1,_)]) T.Rh (eC (eC eZ)) ⟨J,J,p1 (φ:=int (ix (ix s.sT (ix q i).s.toNat).next a)) (by exact(gq.1.trans J)),⟨J,J,p1 (φ:=int (ix (ix t.sT (ix q i).t.toNat).next a)) (by exact(gq.2.1.trans J)),tV⟩⟩ kq) ?_
    refine sta 16 T.UG (eC (eC eZ)) ?_
    refine stw 16 (fun β2=>cell (gbk (β2 11)) [int (ix (ix s.sT (ix q i).s.toNat).next a),int (ix (ix t.sT (ix q i).t.toNat).next a)]) [16] J (fun β β' hb=>by first|rw[hb 11 J]|(dsimp only;rw[hb 11 J])) (fun β2 _ _ _ _ gq gh kq=>sPA (cs':= [int (ix (ix s.sT (ix q i).s.toNat).next a),int (ix (ix t.sT (ix q i).t.toNat).next a)]) (gq.1.trans J) (gh.1.trans J) (gq.2.1.trans J) T.vF J J kq) ?_
    refine pnH fun β2=>(nl (th (sq (rg (lP J J J T.Gp (lPA J J T.vF J (lookup (z:=false) (q:=(ix (ix s.sT (ix q i).s.toNat).next a,ix (ix t.sT (ix q i).t.toNat).next a)) J J lH T.Gn ⟨⟨O,O⟩,⟨O,O⟩⟩ T.UF (no J (nl (th ?_))))))))))
    refine cd J (fun hc3=> ?_) (fun hc3=> ?_)
    ·try simp at hc3
     refine sq (rg (lP J J J T.Gp (lPA J J T.vF J (mapUpdate (q:=(ix (ix s.sT (ix q i).s.toNat).next a,ix (ix t.sT (ix q i).t.toNat).next a)) (u:=true) J J lH J T.Gn ⟨⟨O,O⟩,⟨O,O⟩⟩ (nl (th (rg (lP J J J T.mG (lPA J J T.vF J (lP J J J T.aF (mv (bd (css:= [(0,_),(2,_),(3,_)]) T.Ri (eC (eC (eC (eC eZ)))) ⟨J,J,pA (cs:= [int (ix (ix s.sT (ix q i).s.toNat).next a),int (ix (ix t.sT (ix q i).t.toNat).next a)]) J,⟨J,J,p1 (φ:=int (i:Int)) J,⟨J,J,p1 (φ:=int (a:Int)) J,tV⟩⟩⟩ (bsE (enc:=kS) (xs:= [⟨(ix (ix s.sT (ix q i).s.toNat).next a),(ix (ix t.sT (ix q i).t.toNat).next a),(i:Int),(a:Int)⟩]) (css:= [[int (ix (ix s.sT (ix q i).s.toNat).next a),int (ix (ix t.sT (ix q i).t.toNat).next a),int (i:Int),int (a:Int)]]) T.Kz ⟨J,J,pA (cs:= [int (ix (ix s.sT (ix q i).s.toNat).next a),int (ix (ix t.sT (ix q i).t.toNat).next a),int (i:Int),int (a:Int)]) J,tV⟩ J J J J (ap (key:=21) (zs:= [⟨(ix (ix s.sT (ix q i).s.toNat).next a),(ix (ix t.sT (ix q i).t.toNat).next a),(i:Int),(a:Int)⟩]) cH J J J T.Kz (by unfold aU at*;simp;omega) (by unfold aU at*;simp;omega) fun v89=>(bY J J J J T.mG J (nl (eb ?_)))))))))))))))))
     have hN0:Mid s t q i cn (m0+1) (q2++ [⟨(ix (ix s.sT (ix q i).s.toNat).next a),(ix (ix t.sT (ix q i).t.toNat).next a),(i:Int),(a:Int)⟩]) (dI mm2 (ix (ix s.sT (ix q i).s.toNat).next a,ix (ix t.sT (ix q i).t.toNat).next a) true):=by
      exact Pf hT ht hR0 O hcn hall hx0 (by simpa using hc3)
     exact rqN ⟨v89,q2++ [⟨(ix (ix s.sT (ix q i).s.toNat).next a),(ix (ix t.sT (ix q i).t.toNat).next a),(i:Int),(a:Int)⟩],dI mm2 (ix (ix s.sT (ix q i).s.toNat).next a,ix (ix t.sT (ix q i).t.toNat).next a) true⟩ hN0 ⟨rI,rI,rI,rI,rI,rI,rI,rI,rI,rI,rI,tV⟩
    ·try simp at hc3
     refine sk (eb ?_)
     have hN0:Mid s t q i cn (m0+1) q2 mm2:=by
      exact Pg hR0 hx0 (by simpa using hc3)
     exact rqN ⟨v2,q2,mm2⟩ hN0 ⟨rI,rI,rI,rI,rI,rI,rI,rI,rI,rI,rI,tV⟩
   ·intro⟨v2,q2,mm2⟩ hG0
    have hR0:Mid s t q i cn (listOf 63 cn).length q2 mm2:=hG0
    show At _ _ _ _ [(2,cell b2 [sl 1 rE_ s.aC,sl 2 sE s.sT]),(3,cell b3 [sl 1 rE_ t.aC,sl 2 sE t.sT]),(4,cell b4 [osl 21 v2]),(7,cell b7 [mpv 17 b17]),(8,cell c8 [int (i:Int)]),(9,cell b9 [int (ix q i).s,int (ix q i).t]),(10,cell (gbk (β0 12)) [sl 1 nE (ix s.sT (ix q i).s.toNat).aP,sl 1 nE (ix s.sT (ix q i).s.toNat).next]),(11,cell (gbk (β0 13)) [sl 1 nE (ix t.sT (ix q i).t.toNat).aP,sl 1 nE (ix t.sT (ix q i).t.toNat).next]),(17,mp b17 dL fB blV mm2),(21,own v2 237 4 kS q2)]
    refine eb (eb (th (sq (sq (rg (lP rfl rfl rfl T.aF (nl (th (rg (al (key:=8) T.z3 (eC eZ) fun b8=>(sP (φ:=int (i:Int)) rfl rfl rfl T.aF rfl (nl (th (rg (lP rfl rfl rfl T.aF (bi rfl rfl (aK i6) (sP (φ:=int ((i+1:Nat):Int)) rfl rfl rfl T.aF rfl (nl ?_))))))))))))))))))
    have hN0:lS s t q2∧mF mm2 q2∧(i+1)≤q2.length∧∀k,k<(i+1)→pT s t q2 k:=by
     exact mid_end hT hq hR0 O hcn hall
    exact ln (⟨i+1,b8,v2,q2,mm2⟩:Nat × Nat × Value × (List Mt) × (List ((Int × Int) × Bool))) hN0 dO ⟨id,id,id,id,id,tV⟩ ⟨rI,rI,rI,rI,rI,rI,rI,tV⟩
 ·try simp at hc0
  refine ex (xt_ (xt_ (xb (th (sq (rg (lP J J J T.mG (fz 21 91 J J (sP (φ:=sl 4 kS q) J J J T.mG J (ag (ag (nl (th (rt ?_))))))))))))))
  exact rE ⟨(q,-1,0),⟨hq,fun _=>⟨Pe hq (fun k hk=>hdone k O),fun k hk=>hdone k (by have hk:k<q.length:=hk;omega)⟩,fun h=>absurd (show(0:Int)≤ -1 from h) (by decide)⟩⟩ [.cell 4 230,.tmp 5,.tmp 6] J [sl 4 kS q,int (-1),int 0] ⟨.one J J T.mG J,.tmp J,.tmp J,tV⟩ J trivial eX
end refw
end
section
open ref01 ref03 ref04 ref06 prog prog2 prog3 prog4 prog5 prog6 prog7 prog8 prog9 prog10 prog11 Part Rungs LeftM TrimM Itoa Keys RoundM MergeM
namespace prog12
end prog12
end
section
open ref01 ref03 ref04 ref06 prog prog2 prog3 prog4 prog5 prog6 prog7 prog8 prog9 prog10 prog11 prog12 Part Rungs LeftM TrimM Itoa Keys RoundM MergeM
noncomputable def errOf (s:SS):Int:=if aX s=true then 0 else 30
namespace prog13
end prog13
end
section
open ref01 ref03 ref04 ref06 prog2 Part TurnM
def iA (n:Int) (l:List Int):Bool:=decide ((l.length:Int)≤10000)&&l.all fun a=>decide (0≤a)&&decide (a<n)
theorem sJ {n:Int} {l:List Int} (h:iA n l=true) {k:Nat} (hk:k<l.length):0≤ix l k∧ix l k<n:=by
 unfold iA at h
 simp only [Bool.and_eq_true,decide_eq_true_eq] at h
 have:=List.all_eq_true.1 h.2 (ix l k) (Rungs.aZ hk)
 simpa using this
def stepS (s:SS) (x a:Int):Int:=if x<0 then-1 else ix (ix s.sT x.toNat).next a.toNat
def goS (s:SS) (l:List Int):Int:=l.foldl (stepS s) 0
theorem Dq {s:SS} {l:List Int} {k:Nat} (h:k<l.length):(l.take (k+1)).foldl (stepS s) 0=stepS s ((l.take k).foldl (stepS s) 0) (ix l k):=by
 rw[bL h,List.foldl_append];rfl
theorem MG {s:SS}:∀(l:List Int) {x:Int},x<0→l≠[]→l.foldl (stepS s) x= -1
 | [],_,_,h=>absurd rfl h
 | [a],x,hx,_=>by show stepS s x a= -1;unfold stepS;rw[if_pos hx]
 |a::b::l,x,hx,_=>by
  show(b::l).foldl (stepS s) (stepS s x a)= -1
  exact MG (b::l) (by unfold stepS;rw[if_pos hx];omega) (by simp)
theorem UH {s:SS} {l:List Int} {k:Nat} (hk:k<l.length) (h:(l.take k).foldl (stepS s) 0<0):goS s l= -1:=by
 unfold goS
 rw[←List.take_append_drop k l,List.foldl_append]
 exact MG _ h (by intro e;have:=congrArg List.length e;simp at this;omega)
theorem Rj {s:SS} (hs:oK s) {l:List Int} (hl:∀k,k<l.length→0≤ix l k∧ix l k<(s.aC.length:Int)):∀k,k≤l.length→ -1≤(l.take k).foldl (stepS s) 0∧(l.take k).foldl (stepS s) 0<(s.sT.length:Int)
 |0,_=>by have:=hs.few0;simp;omega
 |k+1,h=>by
  rw[Dq O]
  have ih:=Rj hs hl k O
  have hn:=hs.few0
  generalize (l.take k).foldl (stepS s) 0=c at ih
  unfold stepS
  split
  ·omega
  ·have h2:=(hs.st c.toNat O).nx (ix l k).toNat (by have:=hl k O;omega)
   omega
namespace starts
end starts
end
section
open ref01 ref03 ref04 ref06 prog prog2 prog3 prog10 prog11 prog12 prog13 starts Part TurnM Itoa
def KA (p:Int→Bool):AV:=pf Tryz.prog (fun _:Int=>True) (fun x=> [int x]) (fun x=>bl (p x))
def gJ (p:Int→Bool) (l:List Int):Int:=if l.any p=true then(l.findIdx p:Int) else-1
theorem AZ {p:Int→Bool} {l:List Int} (h:∀k,k<l.length→p (ix l k)=false):gJ p l= -1:=by
 unfold gJ
 rw[if_neg]
 intro h2
 obtain⟨x,hx,hp⟩:=List.any_eq_true.1 h2
 obtain⟨k,hk,rfl⟩:=List.getElem_of_mem hx
 have:=h k hk
 rw[aJ hk,hp] at this
 cases this
theorem Ba {p:Int→Bool} {l:List Int} {k:Nat} (hk:k<l.length) (hp:p (ix l k)=true) (h:∀j,j<k→p (ix l j)=false):gJ p l=(k:Int):=by
 unfold gJ
 rw[if_pos (List.any_eq_true.2 ⟨ix l k,Rungs.aZ hk,hp⟩)]
 congr 1
 refine(List.findIdx_eq hk).2 ⟨by rw[←aJ hk];exact hp,fun j hj=> ?_⟩
 have:=h j hj
 rw[aJ O] at this
 simp[this]
theorem zD {p:Int→Bool} {l:List Int}:decide (0≤gJ p l)=l.any p:=by
 unfold gJ
 split
 ·next h=>rw[h];simp
 ·next h=>simp at h ⊢;exact h
theorem Ph {n:Int} {l:List Int}:(decide ((l.length:Int)≤10000)&& !l.any fun a=>decide (a<0)||decide (n≤a))=iA n l:=by
 unfold iA
 congr 1
 rw[List.not_any_eq_all_not]
 congr 1
 funext a
 by_cases h1:a<0<;>by_cases h2:n≤a<;>simp[h1,h2]<;>omega
namespace T
theorem UI:Ent Tryz.prog 121:=aG kR
theorem MH:Ent Tryz.prog 158:=aG kR
theorem UJ:Ent Tryz.prog 120:=aG kR
end T
namespace prog15
theorem Pi (a:Int) (al:List ByteArray):
 Fn0 Tryz.prog 121 [int a,fp [strs al]] (bl (decide (a<0)||decide ((al.length:Int)≤a))):=by
 refine fnI Tryz.func121 rfl rfl (fun w0 F0=> ?_)
 refine sq (rg (ag (nl (th (sq (rg (mv (bi J J aN (mv ?_)))))))))
 apply gOr (t:=6) (pd:=11) rfl
 rotate_left
 ·intro hg0 fin
  have hg0':=hg0
  try simp at hg0'
  exact gy J J J hg0 (mv (gy J J J hg0 (lF J J T.cV (gy J J J hg0 (fc (aL 8 J) fun hm8=>(lnF J T.eS (gy J J J hg0 (bi J J eT (pkF J hg0 J (drp (X:= [(10,_),(9,_),(8,_),(7,_)]) ⟨J,J,J,J,tV⟩ fin))))))))))
 ·intro hg0 fin
  exact gn J J J hg0 J J (gn J J J hg0 J J (gn J J J hg0 J J (gn J J J hg0 J J (pkT J hg0 J (drp (X:= [(10,_),(9,_),(8,_),(7,_)]) ⟨J,J,J,J,tV⟩ fin)))))
 refine ag (nl (th (rt ?_)))
 have hr0:((decide (a<0))||(decide ((al.length:Int)≤a)))=(decide (a<0)||decide ((al.length:Int)≤a)):=by
  rfl
 exact rE () [.tmp 3] J [bl ((decide (a<0))||(decide ((al.length:Int)≤a)))] ⟨.tmp J,tV⟩ (cA1 (fun x0=>rV [bl x0]) hr0) trivial eX
theorem Gt (l:List Int) (pq:Int→Bool):
 Fn0 Tryz.prog 158 [ints l,KA pq] (int (gJ pq l)):=by
 refine fnI Tryz.func158 rfl rfl (fun w0 F0=> ?_)
 refine fcC (aL 0 J) (fun hm0=> ?_)
 refine sq (rg (ag (nl (th (sq (sq (rg (mv (lnF J T.aM (mv (nl (th (bk ?_)))))))))))))
 have hI0_0:0≤l.length:=by
  first|omega|simp
 have hI0_1:∀j,j<0→pq (ix l j)=false:=by
  intro j hj;omega
 refine lp (κ:=Nat) (fun p=> [(0,sl 1 nE l),(1,KA pq),(7,int (l.length:Int)),(8,int (p:Int))]) (fun p=> []) (fun p=>(p≤l.length)∧(∀j,j<p→pq (ix l j)=false)) (fun p=>l.length- p) 0 ⟨hI0_0,hI0_1⟩ ⟨id,id,id,id,tV⟩ trivial ?_
 intro k hG0
 obtain⟨hk0,hI0⟩:(k≤l.length)∧(∀j,j<k→pq (ix l j)=false):=hG0
 refine sq (rg (bi J J aN (nl (th (sq ?_)))))
 refine cd J (fun hc0=> ?_) (fun hc0=> ?_)
 ·try simp at hc0
  refine sk (th (sq (bk (sq (rg (mv (ag (nl (th (sq (rg (mv (mv (mv (iF J J T.aM O gB (lF J J T.aF (Kb J (ix l k) trivial J (nl (th ?_)))))))))))))))))))
  refine cd J (fun hc1=> ?_) (fun hc1=> ?_)
  ·try simp at hc1
   refine sq (rg (mv (ag (nl (th (rt (rb (rt_ (rt_ (rb (rt_ ?_)))))))))))
   have hr0:((k:Int):Int)=(gJ pq l):=by
    exact(Ba O hc1 hI0).symm
   exact rE () [.tmp 4] J [int (k:Int)] ⟨.tmp J,tV⟩ (cA1 (fun x0=>rV [int x0]) hr0) trivial eX
  ·try simp at hc1
   refine sk (eb (th (rg (bi J J (aK i6) (mv (nl ?_))))))
   have hN0:(k+1)≤l.length:=by
    first|omega|simp_all
   have hN1:∀j,j<(k+1)→pq (ix l j)=false:=by
    intro j hj
    by_cases e:j=k
    ·subst e;simpa using hc1
    ·exact hI0 j O
   exact ln (k+1) ⟨hN0,hN1⟩ dO ⟨id,id,id,id,tV⟩ trivial
 ·try simp at hc0
  refine ex (xt_ (xt_ (xb (th (sq (rg (ag (nl (th (rt ?_))))))))))
  have hr0:((-1):Int)=(gJ pq l):=by
   exact(AZ (fun j hj=>hI0 j O)).symm
  exact rE () [.tmp 4] J [int (-1)] ⟨.tmp J,tV⟩ (cA1 (fun x0=>rV [int x0]) hr0) trivial eX
theorem CE (l:List Int) (pq:Int→Bool):
 Fn0 Tryz.prog 120 [ints l,KA pq] (bl (l.any pq)):=by
 refine fnI Tryz.func120 rfl rfl (fun w0 F0=> ?_)
 refine fcC (aL 0 J) (fun hm0=> ?_)
 refine sq (rg (ag (nl (th (sq (rg (mv (mv (aO (φs:= [sl 1 nE l,KA pq]) (φ:=int (gJ pq l)) ⟨J,J,tV⟩ (prog15.Gt _ _) T.MH (bi J J eT (ag (nl (th (rt ?_))))))))))))))
 have hr0:(decide (0≤(gJ pq l)))=(l.any pq):=by
  exact zD
 exact rE () [.tmp 4] J [bl (decide (0≤(gJ pq l)))] ⟨.tmp J,tV⟩ (cA1 (fun x0=>rV [bl x0]) hr0) trivial eX
theorem Gu (l:List Int) (al:List ByteArray):Fn0 Tryz.prog 120 [ints l,clo 121 [fp [strs al]]] (bl (l.any (fun a=>decide (a<0)||decide ((al.length:Int)≤a)))):=by
 refine pO (fun {w F vs} h=> ?_) (CE l (fun a=>decide (a<0)||decide ((al.length:Int)≤a)))
 match vs,h with
 | [_,_],⟨h1,h2,_⟩=>exact⟨h1,Ce T.UI (fun a _=>Pi a al) h2,tV⟩
theorem Pj (al:List ByteArray) (l:List Int):
 Fn0 Tryz.prog 66 [strs al,ints l] (bl (iA (al.length:Int) l)):=by
 refine fnI Tryz.func66 rfl rfl (fun w0 F0=> ?_)
 refine fcC (aL 0 J) (fun hm0=> ?_)
 refine fcC (aL 1 J) (fun hm1=> ?_)
 refine sq (rg (bx1 (key:=2) (φ:=sl 1 rE_ al) J fun b2=>(ag (nl (th (sq (rg (fzv 2 2 J J (mv (lnF J T.aM (bi J J qF (mv ?_))))))))))))
 apply eH (t:=8) (pd:=13) rfl
 rotate_left
 ·intro hg0 fin
  have hg0':=hg0
  try simp at hg0'
  exact gy J J J hg0 (mv (gy J J J hg0 (mkf (gy J J J hg0 (aO (φs:= [sl 1 nE l,clo 121 [fp [sl 1 rE_ al]]]) (φ:=bl (l.any (fun a=>decide (a<0)||decide ((al.length:Int)≤a)))) ⟨J,J,tV⟩ (Gu l al) T.UJ (gy J J J hg0 (no J (pkT J hg0 J (drp (X:= [(12,_),(11,_),(10,_),(9,_)]) ⟨J,J,J,J,tV⟩ fin)))))))))
 ·intro hg0 fin
  exact gn J J J hg0 J J (gn J J J hg0 J J (gn J J J hg0 J J (gn J J J hg0 J J (pkF J hg0 J (drp (X:= [(12,_),(11,_),(10,_),(9,_)]) ⟨J,J,J,J,tV⟩ fin)))))
 refine ag (nl (th (rt ?_)))
 have hr0:((decide ((l.length:Int)≤10000))&&(!(l.any (fun a=>decide (a<0)||decide ((al.length:Int)≤a)))))=(iA (al.length:Int) l):=by
  exact Ph
 exact rE () [.tmp 4] J [bl ((decide ((l.length:Int)≤10000))&&(!(l.any (fun a=>decide (a<0)||decide ((al.length:Int)≤a)))))] ⟨.tmp J,tV⟩ (cA1 (fun x0=>rV [bl x0]) hr0) trivial eX
theorem Et (s:SS) (hs:oK s) (l:List Int) (hl:∀k,k<l.length→0≤ix l k∧ix l k<(s.aC.length:Int)):
 Fn0 Tryz.prog 69 [spec s,ints l] (tup [int (if goS s l<0 then 0 else goS s l),bl (decide (0≤goS s l))]):=by
 refine fnI Tryz.func69 rfl rfl (fun w0 F0=> ?_)
 have hf0:=hs.few0
 refine fcC (bO 0 J) (fun hS0=> ?_)
 obtain⟨hsa0,hss0,hse0⟩:=sLn hS0
 refine fcC (aL 1 J) (fun hm1=> ?_)
 refine sq (rg (bx (key:=2) (cs:= [sl 1 rE_ s.aC,sl 2 sE s.sT]) J fun b2=>(ag (ag (nl (th (sq (rg (ag (nl (th (sq (sq (rg (mv (lnF J T.aM (mv (nl (th (bk ?_))))))))))))))))))))
 have hI0_0:0≤l.length:=by
  first|omega|simp
 have hI0_1:(0:Int)=(l.take 0).foldl (stepS s) 0∧0≤(0:Int):=by
  exact⟨rfl,O⟩
 refine lp (κ:=Nat × Int) (fun p=> [(2,ptr 2 b2 0),(6,int p.2),(9,sl 1 nE l),(10,int (l.length:Int)),(11,int (p.1:Int))]) (fun p=> [(2,cell b2 [sl 1 rE_ s.aC,sl 2 sE s.sT])]) (fun p=>(p.1≤l.length)∧(p.2=(l.take p.1).foldl (stepS s) 0∧0≤p.2)) (fun p=>l.length- p.1) ⟨0,(0:Int)⟩ ⟨hI0_0,hI0_1⟩ ⟨id,id,id,id,id,tV⟩ ⟨rI,tV⟩ ?_
 intro⟨k,cur⟩ hG0
 obtain⟨hk0,hI0⟩:(k≤l.length)∧(cur=(l.take k).foldl (stepS s) 0∧0≤cur):=hG0
 show Ct _ _ _ _ [(2,ptr 2 b2 0),(6,int cur),(9,sl 1 nE l),(10,int (l.length:Int)),(11,int (k:Int))] [(2,cell b2 [sl 1 rE_ s.aC,sl 2 sE s.sT])] _
 have hbd:=Rj hs hl k O
 rw[←hI0.1] at hbd
 refine sq (rg (bi J J aN (nl (th (sq ?_)))))
 refine cd J (fun hc0=> ?_) (fun hc0=> ?_)
 ·try simp at hc0
  have hl0:=hl k O
  have hst:=hs.st cur.toNat O
  have hsl:=hst.len
  have hcur:(l.take (k+1)).foldl (stepS s) 0=ix (ix s.sT cur.toNat).next (ix l k).toNat:=by rw[Dq O,←hI0.1];unfold stepS;rw[if_neg O]
  refine sk (th (sq (bk (sq (rg (iF J J T.aM O gB (lF J J T.aF (ag (nl (th (sq (rg (fP J T.aY (lP J J J T.bI (mv (iF J J T.bU O gB (fF J T.bQ (lF J J T.aV (mv (iF J J T.aM O gB (lF J J T.aF (ag (nl (th (sq (rg (mv (bi J J aN (nl (th ?_))))))))))))))))))))))))))))))
  refine cd J (fun hc1=> ?_) (fun hc1=> ?_)
  ·try simp at hc1
   have hng:goS s l<0:=by
    by_cases e:k+1<l.length
    ·rw[UH e (by rw[hcur];omega)];omega
    ·unfold goS;rw[←List.take_length (l:=l),show l.length=k+1 by omega,hcur];omega
   refine sq (rg (ag (ag (nl (th (rt (rb (rt_ (rt_ (rb (rt_ ?_)))))))))))
   have hr0:(0:Int)=(if goS s l<0 then 0 else goS s l):=by
    rw[if_pos hng]
   have hr1:false=(decide (0≤goS s l)):=by
    rw[decide_eq_false O]
   exact rE () [.tmp 4,.tmp 5] J [int 0,bl false] ⟨.tmp J,.tmp J,tV⟩ (cA2 (fun x0 x1=>rV [int x0,bl x1]) hr0 hr1) trivial eX
  ·try simp at hc1
   refine sk (eb (th (rg (bi J J (aK i6) (mv (nl ?_))))))
   have hN0:(k+1)≤l.length:=by
    first|omega|simp_all
   have hN1:(ix (ix s.sT cur.toNat).next (ix l k).toNat)=(l.take (k+1)).foldl (stepS s) 0∧0≤(ix (ix s.sT cur.toNat).next (ix l k).toNat):=by
    exact⟨hcur.symm,O⟩
   exact ln (⟨k+1,ix (ix s.sT cur.toNat).next (ix l k).toNat⟩:Nat × Int) ⟨hN0,hN1⟩ dO ⟨id,id,id,id,id,tV⟩ ⟨rI,tV⟩
 ·try simp at hc0
  refine ex (xt_ (xt_ (xb (th (sq (rg (mv (ag (ag (nl (th (rt ?_))))))))))))
  have hr0:(cur:Int)=(if goS s l<0 then 0 else goS s l):=by
   have hg:goS s l=cur:=by unfold goS;rw[hI0.1,show k=l.length by omega,List.take_length]
   rw[hg,if_neg O]
  have hr1:true=(decide (0≤goS s l)):=by
   have hg:goS s l=cur:=by unfold goS;rw[hI0.1,show k=l.length by omega,List.take_length]
   rw[hg,decide_eq_true O]
  exact rE () [.tmp 4,.tmp 5] J [int cur,bl true] ⟨.tmp J,.tmp J,tV⟩ (cA2 (fun x0 x1=>rV [int x0,bl x1]) hr0 hr1) trivial eX
end prog15
end
section
open ref01 ref03 ref04 ref06 prog15 starts Part Rungs LeftM TrimM RoundM BisM BisM5 WalkM
namespace StepM
def upF (q:List Mt):Nat→Nat→List Int
 |0,_=> []
 |n+1,k=>if 0≤(ix q k).before then(ix q k).action::upF q n (ix q k).before.toNat else []
def tE (q:List Mt):Prop:=∀k,k<q.length→0≤(ix q k).before→(ix q k).before<(k:Int)
theorem Pk {q:List Mt} (hb:tE q):∀(k n:Nat),k<n→k<q.length→upF q n k=upF q (k+1) k:=by
 intro k
 induction k using Nat.strongRecOn with
 |_ k ih=>
  intro n hn hk
  obtain⟨m,rfl⟩:∃m,n=m+1:=⟨n- 1,O⟩
  unfold upF
  by_cases h:0≤(ix q k).before
  ·have:=hb k hk h
   rw[if_pos h,if_pos h,ih _ O m O O,ih _ O k O O]
  ·rw[if_neg h,if_neg h]
def eD (q:List Mt) (k:Nat):List Int:=(upF q (k+1) k).reverse
theorem CF {q:List Mt} {k:Nat} (h:(ix q k).before<0):eD q k= []:=by
 unfold eD upF;rw[if_neg O];rfl
theorem Aq {q:List Mt} (hb:tE q) {k:Nat} (hk:k<q.length) (h:0≤(ix q k).before):eD q k=eD q (ix q k).before.toNat++ [(ix q k).action]:=by
 have:=hb k hk h
 unfold eD
 rw[upF,if_pos h,List.reverse_cons,Pk hb _ k O O]
theorem KC {q:List Mt} (hb:tE q):∀k,k<q.length→(eD q k).length≤k:=by
 intro k
 induction k using Nat.strongRecOn with
 |_ k ih=>
  intro hk
  by_cases h:0≤(ix q k).before
  ·have h1:=hb k hk h
   have h2:=ih (ix q k).before.toNat O O
   rw[Aq hb hk h,List.length_append,List.length_singleton];omega
  ·rw[CF O];simp
inductive Runs (T:SS):List Int→Nat→Prop
 |nil:Runs T [] 0
 |snoc {w:List Int} {x a:Nat}:Runs T w x→has (aT (acc T x)) (a:Int)=true→Runs T (w++ [(a:Int)]) (ix (nxt T x) a).toNat
def xAt (T:SS) (w:List Int) (j:Nat):Int:=(w.take j).foldl (stepS T) 0
theorem vZ (T:SS) (w:List Int):xAt T w 0=0:=by simp[xAt]
theorem Bb {T:SS} {w:List Int} {j:Nat} (h:j<w.length):xAt T w (j+1)=stepS T (xAt T w j) (ix w j):=Dq h
theorem Gv {T:SS} {w v:List Int} {j:Nat} (h:j≤w.length):xAt T (w++v) j=xAt T w j:=by
 unfold xAt;rw[List.take_append_of_le_length h]
theorem Dr (T:SS) (w:List Int):xAt T w w.length=goS T w:=by unfold xAt goS;rw[List.take_length]
theorem Bc (T:SS) (w:List Int) (a:Int):goS T (w++ [a])=stepS T (goS T w) a:=by unfold goS;rw[List.foldl_append];rfl
theorem qU {T:SS} {x:Int} (h:0≤x) (a:Nat):stepS T x (a:Int)=ix (nxt T x.toNat) a:=by unfold stepS;rw[if_neg O];rfl
theorem Runs.lt {T:SS} (hT:oK T) {w:List Int} {x:Nat} (h:Runs T w x):x<T.sT.length:=by
 induction h with
 |nil=>have:=hT.few0;omega
 |snoc h ha ih=>have:=(jR hT ih ha);omega
theorem Runs.go {T:SS} (hT:oK T) {w:List Int} {x:Nat} (h:Runs T w x):goS T w=(x:Int):=by
 induction h with
 |nil=>rfl
 |snoc h ha ih=>
  have:=jR hT (h.lt hT) ha
  rw[Bc,ih,qU O,Int.toNat_natCast];omega
def uE (T:SS) (w:List Int):Prop:=∀j,j<w.length→0≤xAt T w j∧xAt T w j<(T.sT.length:Int)∧∃a:Nat,ix w j=(a:Int)∧has (aT (acc T (xAt T w j).toNat)) (a:Int)=true
theorem Gw {l m:List Int} {j:Nat} (h:j<l.length):ix (l++m) j=ix l j:=by
 rw[aJ (by simp;omega),aJ h,List.getElem_append_left h]
theorem Gx {l:List Int} {x:Int}:ix (l++ [x]) l.length=x:=by rw[aJ (by simp)];simp
theorem Runs.alive {T:SS} (hT:oK T) {w:List Int} {x:Nat} (h:Runs T w x):uE T w:=by
 induction h with
 |nil=>intro j hj;simp at hj
 | @snoc w x a h ha ih=>
   intro j hj
   by_cases e:j<w.length
   ·rw[Gv O,Gw e];exact ih j e
   ·have:j=w.length:=by simp at hj;omega
    subst this
    have hlt:=h.lt hT
    rw[Gv (Nat.le_refl _),Dr,h.go hT,Gx]
    exact⟨O,O,a,rfl,by rw[Int.toNat_natCast];exact ha⟩
theorem Gy {T t:SS} {q:List Mt} (h:lS T t q):tE q:=fun k hk h0=>by
 rcases Nat.eq_zero_or_pos k with e|e
 ·subst e;rw[h.hd] at h0
  have h0:(0:Int)≤ -1:=h0
  omega
 ·obtain⟨b,a,e1,e2,e3,_⟩:=h.back k e hk
  rw[e1];omega
theorem UK {T t:SS} {q:List Mt} (h:lS T t q):∀k,k<q.length→Runs T (eD q k) (ix q k).s.toNat∧goS t (eD q k)=(ix q k).t:=by
 intro k
 induction k using Nat.strongRecOn with
 |_ k ih=>
  intro hk
  rcases Nat.eq_zero_or_pos k with e|e
  ·subst e
   rw[CF (by rw[h.hd];show(-1:Int)<0;omega),h.hd]
   exact⟨.nil,rfl⟩
  ·obtain⟨b,a,e1,e2,e3,e4,e5,e6⟩:=h.back k e hk
   have hw:=Aq (Gy h) hk (by rw[e1];omega)
   rw[e1,Int.toNat_natCast,e2] at hw
   obtain⟨g1,g2⟩:=ih b e3 O
   have hb:=h.bd _ (aZ (l:=q) (i:=b) O)
   rw[hw,e5,e6]
   exact⟨.snoc g1 e4,by rw[Bc,g2,qU O]⟩
theorem Eu {T:SS} (hT:oK T) {w:List Int} (h:uE T w) {j:Nat} (hj:j<w.length):0≤ix w j∧ix w j<(T.aC.length:Int):=by
 obtain⟨h1,h2,a,h3,h4⟩:=h j hj
 have:=jR hT (x:=(xAt T w j).toNat) O h4
 omega
theorem wA {T:SS} (hT:oK T) {w:List Int} (h:uE T w):∀j,j≤w.length→0≤xAt T w j∧xAt T w j<(T.sT.length:Int)
 |0,_=>by rw[vZ];have:=hT.few0;omega
 |j+1,hj=>by
  obtain⟨h1,h2,a,h3,h4⟩:=h j O
  have:=jR hT (x:=(xAt T w j).toNat) O h4
  rw[Bb O,h3,qU h1]
  omega
def rT (x:SA) (a:Int):Int:=ix x.aP (gJ (fun u=>has u a) x.aP).toNat
def mQ (x:SA) (a:Int):Bool:=x.aP.any fun u=>has u a
theorem Bd {x:SA} {a:Nat} (h:has (aT x.aP) (a:Int)=true):mQ x (a:Int)=true:=by
 obtain⟨u,hu,hh⟩:=(bR _ _).1 h
 exact List.any_eq_true.2 ⟨u,hu,hh⟩
theorem Dt {x:SA} {a:Int} (h:mQ x a=true):0≤gJ (fun u=>has u a) x.aP∧gJ (fun u=>has u a) x.aP<(x.aP.length:Int)∧has (rT x a) a=true:=by
 unfold mQ at h
 have e:gJ (fun u=>has u a) x.aP=((x.aP.findIdx fun u=>has u a:Nat):Int):=by unfold gJ;rw[if_pos h]
 have hl:x.aP.findIdx (fun u=>has u a)<x.aP.length:=List.findIdx_lt_length.2 (List.any_eq_true.1 h)
 refine⟨O,O,?_⟩
 unfold rT
 rw[e,Int.toNat_natCast,aJ hl]
 exact List.findIdx_getElem (w:=hl)
theorem Pm {x:SA} {a:Int} (h:mQ x a=true):rT x a∈x.aP:=by
 obtain⟨h1,h2,_⟩:=Dt h
 exact aZ O
def kB (T:SS) (w:List Int) (j:Nat):Int × Int:=(xAt T w j,rT (ix T.sT (xAt T w j).toNat) (ix w j))
def bS (T:SS) (w:List Int) (u:Int):List (Int × Int):=(List.range w.length).map (kB T w)++ [(xAt T w w.length,u)]
theorem oG (T:SS) (w:List Int) (u:Int):(bS T w u).length=w.length+1:=by simp[bS]
theorem qV {T:SS} (hT:oK T) {w:List Int} (h:uE T w) {u:Int} (hu:u∈acc T (goS T w).toNat):∀p∈bS T w u,0≤p.1∧p.1<(T.sT.length:Int)∧p.2∈acc T p.1.toNat:=by
 intro p hp
 unfold bS at hp
 rcases List.mem_append.1 hp with hp|hp
 ·obtain⟨j,hj,rfl⟩:=List.mem_map.1 hp
  rw[List.mem_range] at hj
  obtain⟨h1,h2,a,h3,h4⟩:=h j hj
  refine⟨h1,h2,Pm ?_⟩
  rw[h3];exact Bd h4
 ·have:p=(xAt T w w.length,u):=by simpa using hp
  subst this
  have:=wA hT h w.length (Nat.le_refl _)
  exact⟨this.1,this.2,by rw[Dr];exact hu⟩
theorem Be {T:SS} {w:List Int} {u:Int} {j:Nat} (hj:j<w.length):ix (bS T w u) j=kB T w j:=by
 unfold bS
 rw[aJ (by simp;omega),List.getElem_append_left (by simpa using hj)];simp
theorem xY {T:SS} {w:List Int} {u:Int}:ix (bS T w u) w.length=(xAt T w w.length,u):=by
 unfold bS
 rw[aJ (by simp),List.getElem_append_right (by simp)];simp
end StepM
end
end Go.Proofs.YtcjemmihcplgdaaGreatDoor
