/- The walks of the functions and the plain laws. Own texts of this claim, packed: MkTrimI, MkQuoM, MkFailM, MkDivM. -/
import Derived.Test.YtnlfjojfgghchaaGreatDoorX15
set_option linter.all false
namespace Go.Proofs.YtnlfjojfgghchaaGreatDoor
open AL Go
set_option maxRecDepth 100000
section
namespace TrimI
open ref01 ref03 ref04 ref06 Part Rungs LeftM TrimM RoundM MergeM BisM BisM2 BisM3 BisM4 BisM5 BisM6 divr divd
theorem Ae:∀m,visit [] (rg m)=rg m
 |0=>rfl
 |m+1=>by rw[RL,tO,Ae m,vZ O (fun h=>by have:=(UM.1 h).2;omega)]
theorem Io {s:SS} {m:Nat} (hm:m≤(aM s).length):((aM s).take m).map (dR (aM s))=rg m:=by
 apply List.ext_getElem
 ·simp[BisM3.rg];omega
 ·intro i h1 h2
  simp only [List.length_map,List.length_take] at h1
  rw[List.getElem_map,List.getElem_take]
  have hi:i<(aM s).length:=by omega
  have:=HO (pS (aA s)) hi
  rw[aF hi] at this
  rw[←aF h2,Es O]
  exact this
theorem Sr {s:SS} (hs:oK s) {i:Nat} (hi:i<(aM s).length):((ix (aA s).sT (ix (aM s) i).toNat).next.map fun k=>if 0≤k then dR (aM s) k else k)=(ix (tS s).sT i).next:=by
 have hbd:=gZ hs hi
 have hx:(ix (aM s) i).toNat<s.sT.length:=by omega
 have hl:=(hs.st _ hx).len
 rw[mU hi,fX hx]
 show(cut (ix s.sT _) (aV (keep s _))).map _=iV s _
 unfold cut iV
 rw[List.map_map,hl]
 refine List.map_congr_left (fun a ha=> ?_)
 show(if 0≤(if _ then _ else _:Int) then dR _ (if _ then _ else _) else(if _ then _ else _))=(if _ then _ else _)
 by_cases hh:has (aV (keep s (ix (aM s) i).toNat)) (a:Int)=true
 ·rw[if_pos hh]
  have hg:=kJ hs hx hh
  rw[if_pos hg.2.1,if_pos hh]
 ·rw[if_neg hh,if_neg hh];rfl
theorem Vk {s:SS} (hs:oK s) {i:Nat} (hi:i<(aM s).length):rg (qn s (i+1))=visit (rg (qn s i)) (ix (tS s).sT i).next:=by
 have hol:=oJ hs
 have hgt:=QI hs hi
 have hix:ix (bq (aA s) i) i=ix (aM s) i:=(nO (nB hs (i:=i) O) hgt).symm
 have hstep:bq (aA s) (i+1)=visit (bq (aA s) i) (ix (aA s).sT (ix (aM s) i).toNat).next:=by
  show(if i<(bq (aA s) i).length then _ else _)=_
  rw[if_pos hgt,hix]
 rw[←Ae (qn s (i+1)),←Ae (qn s i),←Io (QH hs (i:=i+1) O),←Io (QH hs (i:=i) O),←HU hs (i:=i+1) O,←HU hs (i:=i) O,hstep,
  zH (g:=dR (aM s)) (fun k=>(fZ _ k).1),Sr hs hi]
theorem Vl {s:SS} (hs:oK s):∀i,i≤(aM s).length→bq (tS s) i=rg (qn s i)
 |0,_=>rfl
 |i+1,hi=>by
  have ih:=Vl hs i O
  have hgt:=QI hs (i:=i) O
  show(if i<(bq (tS s) i).length then _ else _)=_
  rw[ih,xP,if_pos hgt,Es hgt,Int.toNat_natCast,Vk hs O]
theorem Ip {s:SS} (hs:oK s):order (tS s)=rg (aM s).length:=by
 have hol:=oJ hs
 have e:bq (aA s) (aM s).length=aM s:=by
  refine Bp hs ?_ hol
  exact(nB hs hol).length_le
 unfold order
 rw[kL,Vl hs _ (Nat.le_refl _)]
 show rg (bq (aA s) (aM s).length).length=_
 rw[e]
theorem Xa {s:SS} (hs:oK s) (h0:ix (hOl s) 0=false):tS (tS s)=tS s:=by
 have ho:aM (tS s)=rg (aM s).length:=by
  show order (aA (tS s))=_
  rw[Fy hs h0,Ip hs]
 have hT:=QE hs
 show(⟨s.aC,(aM (tS s)).map (eY (tS s))⟩:SS)=⟨s.aC,(aM s).map (eY s)⟩
 congr 1
 rw[ho]
 apply List.ext_getElem
 ·simp[BisM3.rg]
 ·intro i h1 h2
  simp only [List.length_map,xP] at h1
  have hi:i<(aM s).length:=h1
  have e1:(rg (aM s).length)[i]'(by rw[xP];exact h1)=(i:Int):=by rw[←aF (by rw[xP];exact h1)];exact Es h1
  rw[List.getElem_map,e1]
  have e2:(List.map (eY s) (aM s))[i]=ix (tS s).sT i:=(aF (by rw[kL];exact hi)).symm
  rw[e2]
  have hk:=HT hs h0 hi
  unfold eY iV
  rw[Int.toNat_natCast,hk,ho]
  have e3:ix (tS s).sT i=⟨keep s (ix (aM s) i).toNat,iV s (ix (aM s) i)⟩:=mU hi
  rw[e3]
  congr 1
  unfold iV
  refine List.map_congr_left fun a ha=> ?_
  have ha:a<s.aC.length:=List.mem_range.1 ha
  by_cases hh:has (aV (keep s (ix (aM s) i).toNat)) (a:Int)=true
  ·rw[if_pos hh,if_pos hh,cB ha,if_pos hh]
   obtain⟨p1,_⟩:=kN (oL hs hi hh)
   have p0:=(fZ (aM s) (ix (ix s.sT (ix (aM s) i).toNat).next a)).1
   have hnd:(rg (aM s).length).Nodup:=by
    have:=pS (tS s)
    rwa [Ip hs] at this
   have hq:=HO hnd (i:=(dR (aM s) (ix (ix s.sT (ix (aM s) i).toNat).next a)).toNat) (by rw[xP];omega)
   rw[Es O,Int.toNat_of_nonneg p0] at hq
   exact hq
  ·rw[if_neg hh,if_neg hh]
theorem DI {s:SS} (hs:oK s):(tR (tR s).1).1=(tR s).1:=by
 cases h:ix (hOl s) 0 with
 |true=>rw[eR h];show(tR (nothing s.aC)).1=_;rw[eR (uW _)];rfl
 |false=>
  rw[dV h]
  show(tR (tS s)).1=tS s
  rw[dV (xO hs h 0)]
  exact Xa hs h
theorem sL {s:SS} (hs:oK s):Sim2 (aA (tR s).1) (aA s) 0 0:=by
 cases h:ix (hOl s) 0 with
 |true=>
  rw[eR h]
  have f:=hs.few0
  have g:=(wA hs.acts).few0
  exact HV (wA hs.acts) hs rfl O O (uW _) h
 |false=>
  rw[dV h]
  have hop:=nC s
  have:=UL hs h (i:=0) O
  show Sim2 (aA (tS s)) (aA s) 0 0
  rw[Fy hs h]
  rw[sB] at this
  exact this
theorem FM {s:SS} (hs:oK s):jN s s:=((uX hs hs rfl).2 (Ob _ _)).1
theorem FN {s d:SS} (hs:oK s) (hd:oK d) (ha:s.aC=d.aC) (h:jN s d∧jN d s):jN (tR s).1 d∧jN d (tR s).1:=
 (uX (mA hs) hd ((qD s).trans ha)).2 ((sL hs).trans ((uX hs hd ha).1 h))
theorem Af {s:SS} (hs:oK s):(tR s).1.sT.length≤s.sT.length:=by
 cases h:ix (hOl s) 0 with
 |true=>rw[eR h];have:=hs.few0;show 1≤_;omega
 |false=>rw[dV h];show((aM s).map _).length≤_;rw[List.length_map];exact oJ hs
end TrimI
end
section
namespace QuoM
open ref01 ref03 ref04 ref06 Part Rungs LeftM TrimM RoundM MergeM BisM BisM4 BisM5 WitM JudgM LevM divr divs divd divf ChsM BisS TrimI
section
variable {α:Type} [DecidableEq α] [Inhabited α]
def dL (l:List α) (p:α):List α:=if p∈l then l else l++ [p]
def kD (A:α→List Int) (N:α→Nat→α) (p:α) (ks:List Int) (l:List α):List α:=ks.foldl (fun l a=>dL l (N p a.toNat)) l
def dP (A:α→List Int) (p:α):List Int:=aL 63 (aV (A p))
def rF (A:α→List Int) (N:α→Nat→α) (l:List α) (p:α):List α:=kD A N p (dP A p) l
def iX (A:α→List Int) (N:α→Nat→α):Nat→Nat→List α→List α
 |0,_,l=>l
 |f+1,i,l=>if i<l.length then iX A N f (i+1) (rF A N l (ix l i)) else l
theorem pV (l:List α) (p:α):l<+:dL l p:=by
 unfold dL
 split
 ·exact List.prefix_rfl
 ·exact List.prefix_append _ _
theorem wE (l:List α) (p:α):p∈dL l p:=by
 unfold dL
 split
 ·assumption
 ·simp
theorem iP (A:α→List Int) (N:α→Nat→α) (p:α):∀(ks:List Int) (l:List α),l<+:kD A N p ks l
 | [],l=>List.prefix_rfl
 |a::ks,l=>(pV l _).trans (iP A N p ks _)
theorem LX (A:α→List Int) (N:α→Nat→α) (p:α) (ks:List Int) (a:Int) (l:List α):kD A N p (ks++ [a]) l=dL (kD A N p ks l) (N p a.toNat):=by
 unfold kD;rw[List.foldl_append];rfl
theorem FO (A:α→List Int) (N:α→Nat→α) (p:α):∀(ks:List Int) (l:List α) (a:Int),a∈ks→N p a.toNat∈kD A N p ks l
 | [],l,a,h=>nomatch h
 |b::ks,l,a,h=>by
  rcases List.mem_cons.1 h with rfl|h
  ·exact(iP A N p ks _).subset (wE l _)
  ·exact FO A N p ks _ a h
theorem BK (A:α→List Int) (N:α→Nat→α):∀(f i:Nat) (l:List α),l<+:iX A N f i l
 |0,i,l=>List.prefix_rfl
 |f+1,i,l=>by
  unfold iX
  split
  ·exact(iP A N _ _ l).trans (BK A N f (i+1) _)
  ·exact List.prefix_rfl
structure qQ (A:α→List Int) (N:α→Nat→α) (ok:α→Prop) (z:α) (i:Nat) (l:List α):Prop where
 nd:l.Nodup
 ne:0<l.length
 hd:ix l 0=z
 ok:∀p∈l,ok p
 dn:∀j,j<i→j<l.length→∀a∈dP A (ix l j),N (ix l j) a.toNat∈l
theorem lJ {l m:List α} (h:l<+:m) {j:Nat} (hj:j<l.length):ix m j=ix l j:=by
 obtain⟨t,rfl⟩:=h
 unfold ix
 rw[List.getD_eq_getElem?_getD,List.getD_eq_getElem?_getD,List.getElem?_append_left hj]
theorem yU {l:List α} {p:α} (h:l.Nodup):(dL l p).Nodup:=by
 unfold dL
 split
 ·exact h
 ·next g=>
  rw[List.nodup_append]
  refine⟨h,by simp,fun a ha b hb e=> ?_⟩
  rw[List.mem_singleton.1 hb] at e
  subst e;exact g ha
theorem CK {l:List α} {p q:α} (h:q∈dL l p):q∈l∨q=p:=by
 unfold dL at h
 split at h
 ·exact .inl h
 ·rcases List.mem_append.1 h with h|h
  ·exact .inl h
  ·exact .inr (List.mem_singleton.1 h)
theorem Iq (A:α→List Int) (N:α→Nat→α) (p:α):∀(ks:List Int) (l:List α),l.Nodup→(kD A N p ks l).Nodup
 | [],l,h=>h
 |a::ks,l,h=>Iq A N p ks _ (yU h)
theorem Ir (A:α→List Int) (N:α→Nat→α) (p:α):∀(ks:List Int) (l:List α) (q:α),q∈kD A N p ks l→q∈l∨∃a∈ks,q=N p a.toNat
 | [],l,q,h=> .inl h
 |a::ks,l,q,h=>by
  rcases Ir A N p ks _ q h with h|⟨b,hb,e⟩
  ·rcases CK h with h|h
   ·exact .inl h
   ·exact .inr ⟨a,List.mem_cons_self,h⟩
  ·exact .inr ⟨b,List.mem_cons_of_mem _ hb,e⟩
variable {A:α→List Int} {N:α→Nat→α} {ok:α→Prop} {z:α}
theorem LY (hok:∀p,ok p→∀a∈dP A p,ok (N p a.toNat)) {i:Nat} {l:List α} (h:qQ A N ok z i l) (hi:i<l.length):qQ A N ok z (i+1) (rF A N l (ix l i)):=by
 have hp:=iP A N (ix l i) (dP A (ix l i)) l
 refine⟨Iq A N _ _ l h.nd,Nat.lt_of_lt_of_le h.ne hp.length_le,(lJ hp h.ne).trans h.hd,fun p hq=> ?_,fun j hj hl a ha=> ?_⟩
 ·rcases Ir A N _ _ l p hq with g|⟨a,ha,rfl⟩
  ·exact h.ok p g
  ·exact hok _ (h.ok _ (aX hi)) a ha
 ·have hjl:j<l.length:=by omega
  have e:ix (rF A N l (ix l i)) j=ix l j:=lJ hp hjl
  rw[e] at ha ⊢
  by_cases g:j<i
  ·exact hp.subset (h.dn j g hjl a ha)
  ·have:j=i:=by omega
   subst this
   exact FO A N _ _ l a ha
theorem FP (hok:∀p,ok p→∀a∈dP A p,ok (N p a.toNat)):∀(f i:Nat) (l:List α),i≤l.length→qQ A N ok z i l→∃j,j≤(iX A N f i l).length∧qQ A N ok z j (iX A N f i l)∧(j=(iX A N f i l).length∨j=i+f)
 |0,i,l,hi,h=>⟨i,hi,h,.inr O⟩
 |f+1,i,l,hi,h=>by
  unfold iX
  split
  ·next g=>
   have hp:=iP A N (ix l i) (dP A (ix l i)) l
   obtain⟨j,h1,h2,h3⟩:=FP hok f (i+1) _ (by have:=hp.length_le;show _≤(rF A N l (ix l i)).length;unfold rF;omega) (LY hok h g)
   exact⟨j,h1,h2,O⟩
  ·next g=>exact⟨i,hi,h,.inl O⟩
theorem OG (hok:∀p,ok p→∀a∈dP A p,ok (N p a.toNat)) {B:Nat} (hB:∀l:List α,l.Nodup→(∀p∈l,ok p)→l.length≤B) {l:List α} (h:qQ A N ok z 0 l) {f:Nat} (hf:B≤f):qQ A N ok z (iX A N f 0 l).length (iX A N f 0 l):=by
 obtain⟨j,h1,h2,h3⟩:=FP hok f 0 l O h
 have:=hB _ h2.nd h2.ok
 have e:j=(iX A N f 0 l).length:=by omega
 rwa [e] at h2
def ofL (A:α→List Int) (N:α→Nat→α) (n:Nat) (L:List α) (p:α):SA:=⟨A p,(List.range n).map fun(a:Nat)=>if has (aV (A p)) (a:Int)=true then(L.idxOf (N p a):Int) else-1⟩
theorem Su (hn:∀p,ok p→∀a:Nat,has (aV (A p)) (a:Int)=true→a<63) {n:Nat} {L:List α} (h:qQ A N ok z L.length L) (acts:List ByteArray):pI A N n z L ⟨acts,L.map (ofL A N n L)⟩:=by
 have hat:∀i,i<L.length→ix (L.map (ofL A N n L)) i=ofL A N n L (ix L i):=fun i hi=>TurnM.RO hi
 refine⟨by simp,h.nd,h.ne,h.hd,fun i hi=> ?_,fun i hi=> ?_,fun i hi a ha=> ?_,fun i hi a ha hh=> ?_⟩
 ·show(ix (L.map (ofL A N n L)) i).aP=_
  rw[hat i hi];rfl
 ·show(ix (L.map (ofL A N n L)) i).next.length=_
  rw[hat i hi];simp[ofL]
 ·show ix (ix (L.map (ofL A N n L)) i).next a=_
  rw[hat i hi]
  exact cB ha
 ·have:=h.dn i hi hi (a:Int) (eB.2 ⟨a,rfl,hn _ (h.ok _ (aX hi)) a hh,hh⟩)
  rwa [Int.toNat_natCast] at this
theorem Sv {n:Nat} {L:List α} {D:SS} (hD:pI A N n z L D) (hact:bZ D.aC=true) (hn:D.aC.length=n) (hl:L.length≤10000) (hb:∀p∈L,∀u∈A p,0≤u∧u<256) (hg:∀p∈L,∀a:Nat,has (aV (A p)) (a:Int)=true→a<n) (hr:∀p∈L,rising (A p)=true):oK D:=by
 have n8:=gF hact
 refine⟨hact,n8,by rw[hD.len];exact hD.ne,by rw[hD.len];exact hl,fun k hk=> ?_⟩
 rw[hD.len] at hk
 have hm:ix L k∈L:=aX hk
 have ea:(ix D.sT k).aP=A (ix L k):=hD.acc k hk
 have en:(ix D.sT k).next.length=n:=hD.nl k hk
 have ex:∀a,a<n→ix (ix D.sT k).next a=if has (aV (A (ix L k))) (a:Int)=true then(L.idxOf (N (ix L k) a):Int) else-1:=hD.nx k hk
 refine⟨by rw[en,hn],fun a ha=> ?_,fun i hi=> ?_,fun i hi a ha=> ?_,by rw[ea];exact hr _ hm⟩
 ·rw[ex a O]
  by_cases hh:has (aV (A (ix L k))) (a:Int)=true
  ·rw[if_pos hh]
   have:=List.idxOf_lt_length_of_mem (hD.cl k hk a O hh)
   rw[hD.len];omega
  ·rw[if_neg hh];omega
 ·rw[ea] at hi ⊢
  exact hb _ hm _ (aX hi)
 ·rw[ea] at hi ha
  have hh:has (aV (A (ix L k))) (a:Int)=true:=(cU _ _).2 ⟨_,aX hi,ha⟩
  have:=hg _ hm a hh
  rw[ex a this,if_pos hh]
  omega
end
abbrev pix (l:List PP) (p:PP):Nat:= @List.idxOf PP instBEqOfDecidableEq p l
theorem vA {α:Type} [DecidableEq α] {l:List α} {p:α} (h:p∈l):l.idxOf p<l.length:=List.idxOf_lt_length_of_mem h
theorem sM {α:Type} [DecidableEq α] [Inhabited α] {l:List α} {p:α} (h:p∈l):ix l (l.idxOf p)=p:=by rw[aF (vA h)];exact List.getElem_idxOf _
theorem Sw {α:Type} [DecidableEq α] {l r:List α} {p:α} (h:p∈l):(l++r).idxOf p=l.idxOf p:=by rw[List.idxOf_append,if_pos h]
theorem Sx {α:Type} [DecidableEq α] {l:List α} {p:α} (h:p∉l):(l++ [p]).idxOf p=l.length:=by rw[List.idxOf_append,if_neg h];simp
theorem OH {α:Type} [DecidableEq α] {l:List α} {p:α} (h:p∉l):l.idxOf p=l.length:=List.idxOf_eq_length h
theorem FQ {α:Type} [DecidableEq α] [Inhabited α] {l:List α} {p:α} {k:Nat} (hk:k<l.length) (h:ix l k=p):l.idxOf p≤k:=by
 rcases Nat.lt_or_ge k (l.idxOf p) with g|g
 ·have hf:=List.not_of_lt_findIdx (p:=(· ==p)) (xs:=l) (i:=k) (by unfold List.idxOf at g;exact g)
  rw[aF hk] at h
  simp[h] at hf
 ·exact g
def bes:PP:=(-1,-1)
def cD (n:Nat):List Int:=(List.range (2^n)).map fun(x:Nat)=>(x:Int)
def qA (t s:SS) (p:PP):List Int:=if p=bes then cD t.aC.length else(cD t.aC.length).filter (WU (ix t.sT p.1.toNat) (ix s.sT p.2.toNat))
def qN (t s:SS) (p:PP) (a:Nat):PP:=if p≠bes∧0≤ix (nxt s p.2.toNat) a then(ix (nxt t p.1.toNat) a,ix (nxt s p.2.toNat) a) else bes
def qOk (t s:SS) (p:PP):Prop:=p=bes∨(0≤p.1∧p.1<(t.sT.length:Int)∧0≤p.2∧p.2<(s.sT.length:Int))
theorem wF {n:Nat} {u:Int}:u∈cD n↔0≤u∧u<((2^n:Nat):Int):=by
 unfold cD
 rw[List.mem_map]
 constructor
 ·rintro⟨k,hk,rfl⟩
  have:=List.mem_range.1 hk
  omega
 ·rintro⟨h0,h1⟩
  exact⟨u.toNat,List.mem_range.2 O,O⟩
theorem LZ (n:Nat):(cD n).Pairwise (· < ·):=by
 unfold cD
 rw[List.pairwise_map]
 exact List.pairwise_lt_range.imp fun h=>by omega
theorem Sy {n:Nat} {u:Int} (h:u∈cD n) {a:Nat} (ha:has u (a:Int)=true):a<n:=by
 have hu:=wF.1 h
 unfold has at ha
 rw[Int.toNat_natCast] at ha
 have h7:2^a≤u.toNat:=Nat.ge_two_pow_of_testBit ha
 exact(Nat.pow_lt_pow_iff_right (a:=2) O).1 O
theorem rM {u o:Int} {a:Nat}:has (cC u o) (a:Int)=(has u (a:Int)&&has o (a:Int)):=by
 unfold has cC
 rw[Int.toNat_natCast,Int.toNat_natCast,Nat.testBit_and]
def qL (t s:SS):List PP:=iX (qA t s) (qN t s) (t.sT.length*s.sT.length+1) 0 [(0,0)]
def XX (t s:SS):SS:=⟨t.aC,(qL t s).map (ofL (qA t s) (qN t s) t.aC.length (qL t s))⟩
end QuoM
end
section
namespace FailM
open ref01 ref03 ref04 ref06 prog15 starts Part Rungs LeftM TrimM RoundM BisM BisM5 BisM6 WalkM StepM WitM JudgM LevM divs QuoM
abbrev T3:=Int × Int × Int
structure M5 where
 x:Int
 t:Int
 s:Int
 before:Int
 action:Int
deriving Inhabited,DecidableEq
def tri (m:M5):T3:=(m.x,m.t,m.s)
def XY (m:M5):Mt:=⟨m.s,m.t,m.before,m.action⟩
def JQ (mm:List (T3 × Bool)) (l:List T3):Prop:=∀p,bO mm p=if p∈l then some true else none
def JR (x:aB) (t s:SS) (p:T3):Prop:=∃o∈acc s p.2.2.toNat,cC (bQ x p.1.toNat) o∉acc t p.2.1.toNat
def nx3 (t s:SS) (p:T3) (e:PP):T3:=(e.2,ix (nxt t p.2.1.toNat) e.1.toNat,ix (nxt s p.2.2.toNat) e.1.toNat)
inductive FR (x:aB) (t s:SS):T3→Prop
 |zero:FR x t s (0,0,0)
 |step {p:T3} {e:PP}:FR x t s p→¬JR x t s p→e∈edg x p.1.toNat→0≤ix (nxt s p.2.2.toNat) e.1.toNat→FR x t s (nx3 t s p e)
def QM (x:aB) (t s:SS):Prop:=∀p,FR x t s p→¬JR x t s p
variable {x:aB} {t s:SS}
structure QF (x:aB) (t s:SS) (q:List M5):Prop where
 ne:0<q.length
 hd:ix q 0=⟨0,0,0,-1,0⟩
 nd:(q.map tri).Nodup
 rch:∀m∈q,FR x t s (tri m)
 back:∀k,0<k→k<q.length→∃(b:Nat) (e:PP),(ix q k).before=(b:Int)∧(ix q k).action=e.1∧b<k∧¬JR x t s (tri (ix q b))∧e∈edg x (ix q b).x.toNat∧0≤ix (nxt s (ix q b).s.toNat) e.1.toNat∧tri (ix q k)=nx3 t s (tri (ix q b)) e
def Xb (x:aB) (t s:SS) (q:List M5) (k:Nat):Prop:=
 ¬JR x t s (tri (ix q k))∧∀e∈edg x (ix q k).x.toNat,0≤ix (nxt s (ix q k).s.toNat) e.1.toNat→nx3 t s (tri (ix q k)) e∈q.map tri
structure Yr (x:aB) (t s:SS) (q:List M5) (i k:Nat) (q2:List M5) (mm2:List (T3 × Bool)):Prop where
 qi:QF x t s q2
 sm:JQ mm2 (q2.map tri)
 pre:q<+:q2
 dn:∀j,j<i→Xb x t s q2 j
 al:∀e∈(edg x (ix q i).x.toNat).take k,0≤ix (nxt s (ix q i).s.toNat) e.1.toNat→nx3 t s (tri (ix q i)) e∈q2.map tri
variable {q q2:List M5} {i k:Nat} {mm mm2:List (T3 × Bool)}
abbrev QO (q:List M5) (k:Nat):List Int:=mP (q.map XY) k
structure Yi (x:aB) (t s:SS) (z:List Int × Int × Bool):Prop where
 none:z.2.2=false→z.1= []∧z.2.1=0∧QM x t s
 some:z.2.2=true→∃q i,QF x t s q∧i<q.length∧z.1=QO q i∧z.2.1∈acc s (ix q i).s.toNat∧cC (bQ x (ix q i).x.toNat) z.2.1∉acc t (ix q i).t.toNat
end FailM
end
section
namespace DivM
open ref01 ref03 ref04 ref06 Part Rungs LeftM TrimM RoundM MergeM BisM BisM2 BisM4 BisM5 BisM6 WalkM WitM JudgM JudgM2 LevM divr divs divd dive divg divw divv refj sysw ChsM BisS TrimI ValidM WitSat WitVal QuoM
theorem BL {n a:Nat} (v:Int) (h:a<n):ix (List.replicate n v) a=v:=by rw[aF (by simpa using h)];simp
noncomputable def Vm (t s:SS):SS × Bool:=
 if ix (hOl s) 0=true then(qC t.aC,true)
 else if (qL t (tR s).1).length≤500 then((tR (XX t (tR s).1)).1,true) else(⟨[],[]⟩,false)
noncomputable def JS (t s:SS):SS × Int:=
 if Ev t s=0 then(if (Vm t s).2=true then((Vm t s).1,0) else(⟨[],[]⟩,2)) else(⟨[],[]⟩,Ev t s)
structure Ys (t s D:SS):Prop where
 acts:D.aC=t.aC
 hol:ix (hOl s) 0=true→D=qC t.aC
 num:ix (hOl s) 0=false→∃l,pI (qA t (tR s).1) (qN t (tR s).1) t.aC.length (0,0) l D∧l.length≤t.sT.length*s.sT.length+1
structure Same (q D:SS):Prop where
 ok:oK q
 few:q.sT.length≤500
 acts:q.aC=D.aC
 trim:(tR q).1=q
 r1:jN q D
 r2:jN D q
theorem Iu {s t:SS} (h:jN s t):pH s t=true:=FK.2 h
theorem Ma {q D:SS} (h:Same q D):rH q D=true:=by
 unfold rH eqR nR
 rw[DG h.ok h.few,decide_eq_true h.acts,decide_eq_true h.trim.symm,Iu h.r1,Iu h.r2];rfl
structure Yj (t s:SS) (z:aB × Int):Prop where
 no:(JS t s).2≠0→z=(⟨[],[]⟩,(JS t s).2)
 yes:(JS t s).2=0→Vj (JS t s).1 z
theorem JU {q D:SS} (h:Same q D) (hD:oK D):ix (hOl q) 0=ix (hOl D) 0:=by
 have f1:=h.ok.few0
 have f2:=hD.few0
 have hs:=(uX h.ok hD h.acts).1 ⟨h.r1,h.r2⟩
 cases h1:ix (hOl q) 0<;>cases h2:ix (hOl D) 0
 ·rfl
 ·exact absurd hs.symm (yP O O h2 h1)
 ·exact absurd hs (yP O O h1 h2)
 ·rfl
end DivM
end
end Go.Proofs.YtnlfjojfgghchaaGreatDoor
