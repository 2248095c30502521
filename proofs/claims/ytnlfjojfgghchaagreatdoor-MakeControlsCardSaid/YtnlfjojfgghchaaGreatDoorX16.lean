/- The walks of the functions and the plain laws. Own texts of this claim, packed: MkGenW, MkQuoW, MkRefM, MkCompM, MkSevM, MkFitM, MkPartM, MkCompP, MkCrossM. -/
import Derived.Test.YtnlfjojfgghchaaGreatDoorX14
import Derived.Test.YtnlfjojfgghchaaGreatDoorX15
import Derived.Test.YtnlfjojfgghchaaGreatDoorX04
import Derived.Lib.SlicesCompact
set_option linter.all false
namespace Go.Proofs.YtnlfjojfgghchaaGreatDoor
open AL Go
set_option maxRecDepth 100000
section
namespace GenW
open ref01 ref03 ref04 ref06 Part Rungs LeftM TrimM RoundM MergeM BisM BisM5 WitM LevM divr divs divd divf ChsM BisS TrimI QuoM FailM DivM
abbrev pxa {α:Type} [DecidableEq α] (l:List α) (p:α):Nat:=l.idxOf p
theorem mY {α:Type} [DecidableEq α] {l L:List α} (h:l<+:L) {q:α} (hq:q∈l):pxa L q=pxa l q:=by
 obtain⟨r,rfl⟩:=h
 exact SI hq
theorem pG {α:Type} [DecidableEq α] {l:List α} {q:α} (hq:q∉l):pxa (l++ [q]) q=l.length:=SJ hq
theorem OK {α:Type} [DecidableEq α] (l:List α) (p:α):pxa (dL l p) p=pxa l p:=by
 unfold dL
 split
 ·rfl
 ·next g=>rw[pG g];exact(QuoM.OI g).symm
structure GS {α κ:Type} [DecidableEq α] (A:α→List Int) (N:α→Nat→α) (ok:α→Prop) (key:α→κ) (n F:Nat):Prop where
 inj:∀p q,ok p→ok q→key p=key q→p=q
 acts:∀p,ok p→∀a∈dS A p,ok (N p a.toNat)
 few:∀l:List α,l.Nodup→(∀p∈l,ok p)→l.length≤F
 hasn:∀p,ok p→∀a:Nat,has (aZ (A p)) (a:Int)=true→a<n
 n8:n≤8
section
variable {α κ:Type} [DecidableEq α] [Inhabited α] [DecidableEq κ] {A:α→List Int} {N:α→Nat→α} {ok:α→Prop} {key:α→κ} {n F:Nat} {z:α}
def Ex (ok:α→Prop) (key:α→κ) (mm:List (κ × Int)) (l:List α):Prop:=∀p,ok p→bP mm (key p)=if p∈l then some (pxa l p:Int) else none
theorem BR (hG:GS A N ok key n F) {mm:List (κ × Int)} {l:List α} (h:Ex ok key mm l) {p:α} (hp0:ok p) (hp:p∉l):Ex ok key (cD mm (key p) (l.length:Int)) (l++ [p]):=by
 intro q hq0
 rw[nA,h q hq0]
 by_cases e:p=q
 ·subst e
  rw[if_pos rfl,if_pos (by simp),pG hp]
 ·rw[if_neg (fun g=>e (hG.inj _ _ hp0 hq0 g))]
  have:q∈l++ [p]↔q∈l:=by
   rw[List.mem_append]
   exact⟨fun h=>h.resolve_right (fun h=>e (List.mem_singleton.1 h).symm),.inl⟩
  by_cases hq:q∈l
  ·rw[if_pos hq,if_pos (this.2 hq),mY (List.prefix_append l [p]) hq]
  ·rw[if_neg hq,if_neg (fun h=>hq (this.1 h))]
structure GW (A:α→List Int) (N:α→Nat→α) (ok:α→Prop) (key:α→κ) (n F:Nat) (L:List α) (i:Nat) (l:List α) (mm:List (κ × Int)) (aI:List SA):Prop where
 nd:l.Nodup
 okl:∀p∈l,ok p
 ne:0<l.length
 few:l.length≤500
 rn:jB A N (F- i) i l=L
 il:i≤l.length
 am:Ex ok key mm l
 out:aI=(l.take i).map (ofL A N n L)
theorem SL (hG:GS A N ok key n F) (hz:ok z):GW A N ok key n F (jB A N F 0 [z]) 0 [z] (cD ([]:List (κ × Int)) (key z) 0) []:=
 ⟨by simp,fun p hp=>by rw[List.mem_singleton.1 hp];exact hz,by simp,by simp,rfl,by simp,BR (l:= []) hG (fun p _=>by rw[if_neg (by simp)];rfl) hz (by simp),rfl⟩
structure GN (A:α→List Int) (N:α→Nat→α) (ok:α→Prop) (key:α→κ) (n:Nat) (L:List α) (i:Nat) (l:List α) (m:Nat) (l2:List α) (mm2:List (κ × Int)) (nx:List Int):Prop where
 nd:l2.Nodup
 okl:∀p∈l2,ok p
 few:l2.length≤500
 pre:l2=jU A N (ix l i) ((dS A (ix l i)).take m) l
 am:Ex ok key mm2 l2
 nx:nx=(List.range n).map fun(a:Nat)=>if ((dS A (ix l i)).take m).contains (a:Int) then(pxa L (N (ix l i) a):Int) else-1
variable {i m:Nat} {L l l2:List α} {mm mm2:List (κ × Int)} {aI:List SA} {nx:List Int}
theorem Rh (hG:GS A N ok key n F) (h:GW A N ok key n F L i l mm aI) (hi:i<l.length):i<F:=by
 have:=hG.few l h.nd h.okl
 omega
theorem SN (h:GW A N ok key n F L i l mm aI):GN A N ok key n L i l 0 l mm (List.replicate n (-1)):=by
 refine⟨h.nd,h.okl,h.few,rfl,h.am,?_⟩
 rw[List.take_zero]
 simp[List.map_const']
theorem Xt (h:GN A N ok key n L i l m l2 mm2 nx) (hi:i<l.length):ix l2 i=ix l i:=by
 rw[h.pre];exact lB (iP _ _ _ _ l) hi
theorem SP (hG:GS A N ok key n F) (h:GW A N ok key n F L i l mm aI) (hi:i<l.length):qX A N l (ix l i)<+:L:=by
 have hlt:=Rh hG h hi
 have hr:=h.rn
 rw[show F- i=(F- (i+1))+1 by omega] at hr
 unfold jB at hr
 rw[if_pos hi] at hr
 rw[←hr]
 exact BO _ _ _ _ _
theorem Ka (p:α) (ks:List Int) (m:Nat) (l:List α):jU A N p (ks.take m) l<+:jU A N p ks l:=by
 conv=>rhs;rw[←List.take_append_drop m ks]
 unfold jU
 rw[List.foldl_append]
 exact iP A N p _ _
theorem CL (hG:GS A N ok key n F) (hQ:GW A N ok key n F L i l mm aI) (h:GN A N ok key n L i l m l2 mm2 nx) (hi:i<l.length) {a:Nat} (ha:(dS A (ix l i))[m]?=some (a:Int)):dL l2 (N (ix l i) a)=jU A N (ix l i) ((dS A (ix l i)).take (m+1)) l∧dL l2 (N (ix l i) a)<+:L:=by
 obtain⟨hm,he⟩:=List.getElem?_eq_some_iff.1 ha
 have e:dL l2 (N (ix l i) a)=jU A N (ix l i) ((dS A (ix l i)).take (m+1)) l:=by
  rw[List.take_succ_eq_append_getElem hm,he,Mc,←h.pre,Int.toNat_natCast]
 refine⟨e,?_⟩
 rw[e]
 exact(Ka _ _ _ _).trans (SP hG hQ hi)
theorem Ri (h:GN A N ok key n L i l m l2 mm2 nx) {a:Nat} (ha:(dS A (ix l i))[m]?=some (a:Int)) (han:a<n) {v:Int} (hv:v=(pxa L (N (ix l i) a):Int)):
 nx.set a v=(List.range n).map fun(b:Nat)=>if ((dS A (ix l i)).take (m+1)).contains (b:Int) then(pxa L (N (ix l i) b):Int) else-1:=by
 obtain⟨hm,he⟩:=List.getElem?_eq_some_iff.1 ha
 have e:(dS A (ix l i)).take (m+1)=(dS A (ix l i)).take m++ [(a:Int)]:=by rw[List.take_succ_eq_append_getElem hm,he]
 rw[h.nx]
 refine lM han ?_ (fun y _ hne=> ?_)
 ·rw[e,if_pos (by simp),hv]
 ·rw[e]
  have:(((dS A (ix l i)).take m++ [(a:Int)]).contains (y:Int))=((dS A (ix l i)).take m).contains (y:Int):=by
   rw[Bool.eq_iff_iff,List.contains_iff_mem,List.contains_iff_mem,List.mem_append]
   constructor
   ·rintro(h|h)
    ·exact h
    ·simp at h;omega
   ·exact .inl
  rw[this]
theorem VC (hG:GS A N ok key n F) (hQ:GW A N ok key n F L i l mm aI) (h:GN A N ok key n L i l m l2 mm2 nx) (hi:i<l.length) {a:Nat} (hok:ok (N (ix l i) a)) (ha:(dS A (ix l i))[m]?=some (a:Int)) (han:a<n) {k:κ} (hk:k=key (N (ix l i) a)) (hs:(bP mm2 k).isSome=true):
 GN A N ok key n L i l (m+1) l2 mm2 (nx.set a ((bP mm2 k).getD 0)):=by
 subst hk
 obtain⟨e1,e2⟩:=CL hG hQ h hi ha
 have hin:N (ix l i) a∈l2:=by
  rw[h.am _ hok] at hs
  by_cases g:N (ix l i) a∈l2
  ·exact g
  ·rw[if_neg g] at hs;cases hs
 have hp:dL l2 (N (ix l i) a)=l2:=by unfold dL;rw[if_pos hin]
 rw[hp] at e1 e2
 refine⟨h.nd,h.okl,h.few,e1,h.am,Ri h ha han ?_⟩
 rw[h.am _ hok,if_pos hin,mY e2 hin];rfl
theorem VD (hG:GS A N ok key n F) (hQ:GW A N ok key n F L i l mm aI) (h:GN A N ok key n L i l m l2 mm2 nx) (hi:i<l.length) {a:Nat} (hok:ok (N (ix l i) a)) (ha:(dS A (ix l i))[m]?=some (a:Int)) (han:a<n) {k:κ} (hk:k=key (N (ix l i) a)) (hs:(bP mm2 k).isSome=false) (h5:l2.length≠500):
 GN A N ok key n L i l (m+1) (l2++ [N (ix l i) a]) (cD mm2 k (l2.length:Int)) (nx.set a (l2.length:Int)):=by
 subst hk
 obtain⟨e1,e2⟩:=CL hG hQ h hi ha
 have hnin:N (ix l i) a∉l2:=fun g=>by
  rw[h.am _ hok,if_pos g] at hs;cases hs
 have hp:dL l2 (N (ix l i) a)=l2++ [N (ix l i) a]:=by unfold dL;rw[if_neg hnin]
 have hf:=h.few
 have hnd:=zC (p:=N (ix l i) a) h.nd
 rw[hp] at e1 e2 hnd
 refine⟨hnd,fun p hp=> ?_,by simp;omega,e1,BR hG h.am hok hnin,Ri h ha han ?_⟩
 ·rcases List.mem_append.1 hp with g|g
  ·exact h.okl p g
  ·rw[List.mem_singleton.1 g];exact hok
 ·rw[mY e2 (by simp),pG hnin]
theorem SQ (hG:GS A N ok key n F) (hQ:GW A N ok key n F L i l mm aI) (h:GN A N ok key n L i l m l2 mm2 nx) (hi:i<l.length) {a:Nat} (hok:ok (N (ix l i) a)) (ha:(dS A (ix l i))[m]?=some (a:Int)) {k:κ} (hk:k=key (N (ix l i) a)) (hs:(bP mm2 k).isSome=false) (h5:(l2.length:Int)=500):500<L.length:=by
 subst hk
 obtain⟨e1,e2⟩:=CL hG hQ h hi ha
 have hnin:N (ix l i) a∉l2:=fun g=>by
  rw[h.am _ hok,if_pos g] at hs;cases hs
 have hp:dL l2 (N (ix l i) a)=l2++ [N (ix l i) a]:=by unfold dL;rw[if_neg hnin]
 rw[hp] at e2
 have:=e2.length_le
 simp at this
 omega
theorem VE (hG:GS A N ok key n F) (hQ:GW A N ok key n F L i l mm aI) (h:GN A N ok key n L i l (dS A (ix l i)).length l2 mm2 nx) (hi:i<l.length):GW A N ok key n F L (i+1) l2 mm2 (aI++ [⟨A (ix l i),nx⟩]):=by
 have hlt:=Rh hG hQ hi
 have hn:=hG.n8
 have hpre:l<+:l2:=by rw[h.pre];exact iP _ _ _ _ l
 have hr:=hQ.rn
 rw[show F- i=(F- (i+1))+1 by omega] at hr
 unfold jB at hr
 rw[if_pos hi] at hr
 have hl2:l2=qX A N l (ix l i):=by rw[h.pre,List.take_length];rfl
 have hle:=hpre.length_le
 refine⟨h.nd,h.okl,by have:=hQ.ne;omega,h.few,by rw[hl2];exact hr,O,h.am,?_⟩
 have e1:l2.take i=l.take i:=by
  obtain⟨r,rfl⟩:=hpre
  rw[List.take_append_of_le_length O]
 rw[bM O,List.map_append,e1,←hQ.out,Xt h hi]
 congr 1
 show [_]= [_]
 congr 1
 unfold ofL
 congr 1
 rw[h.nx,List.take_length]
 refine List.map_congr_left fun a ha=> ?_
 by_cases g:has (aZ (A (ix l i))) (a:Int)=true
 ·rw[if_pos g,if_pos (List.contains_iff_mem.2 (show(a:Int)∈dS A (ix l i) from eP.2 ⟨a,rfl,by have:=List.mem_range.1 ha;omega,g⟩))]
 ·rw[if_neg g,if_neg (fun hc=>g (by
   obtain⟨b,hb,_,hh⟩:=eP.1 (List.contains_iff_mem.1 hc)
   have:b=a:=by omega
   subst this;exact hh))]
theorem Iw (h:GW A N ok key n F L i l mm aI) (hi:l.length≤i):l=L∧aI=L.map (ofL A N n L):=by
 have hr:=h.rn
 have hil:=h.il
 have e:jB A N (F- i) i l=l:=by
  cases F- i with
  |zero=>rfl
  |succ f=>unfold jB;rw[if_neg O]
 rw[e] at hr
 refine⟨hr,?_⟩
 rw[h.out,List.take_of_length_le hi,hr]
theorem VF (h:GW A N ok key n F L i l mm aI) (hi:l.length≤i):L.length≤500:=by
 rw[←(Iw h hi).1];exact h.few
theorem VG (hG:GS A N ok key n F) (hz:ok z):qJ A N ok z (jB A N F 0 [z]).length (jB A N F 0 [z]):=by
 have h0:qJ A N ok z 0 [z]:=⟨by simp,by simp,rfl,fun p hp=>by rw[List.mem_singleton.1 hp];exact hz,fun j hj=>absurd hj O⟩
 exact OH hG.acts hG.few h0 (Nat.le_refl _)
theorem Mf (hG:GS A N ok key n F) {L:List α} (h:qJ A N ok z L.length L) (acts:List ByteArray):pF A N n z L ⟨acts,L.map (ofL A N n L)⟩:=
 SG (fun p hp a g=>by have:=hG.hasn p hp a g;have:=hG.n8;omega) h acts
structure HW (A:α→List Int) (N:α→Nat→α) (ok:α→Prop) (z:α) (n i:Nat) (l:List α) (aI:List SA):Prop where
 nd:l.Nodup
 okl:∀p∈l,ok p
 ne:0<l.length
 hd:ix l 0=z
 il:i≤l.length
 dn:∀j,j<i→∀a∈dS A (ix l j),N (ix l j) a.toNat∈l
 out:aI=(l.take i).map (ofL A N n l)
theorem SR (hz:ok z):HW A N ok z n 0 [z] []:=⟨by simp,fun p hp=>by rw[List.mem_singleton.1 hp];exact hz,by simp,rfl,by simp,fun j hj=>absurd hj O,rfl⟩
structure HN (A:α→List Int) (N:α→Nat→α) (ok:α→Prop) (i:Nat) (l:List α) (k:Nat) (l2:List α) (nx:List Int):Prop where
 nd:l2.Nodup
 okl:∀p∈l2,ok p
 pre:l<+:l2
 dn:∀a:Nat,a<k→has (aZ (A (ix l i))) (a:Int)=true→N (ix l i) a∈l2
 nx:nx=(List.range k).map fun(a:Nat)=>if has (aZ (A (ix l i))) (a:Int)=true then(pxa l2 (N (ix l i) a):Int) else-1
variable {k:Nat}
theorem SU (h:HW A N ok z n i l aI):HN A N ok i l 0 l []:=⟨h.nd,h.okl,List.prefix_rfl,fun a ha=>absurd ha O,rfl⟩
theorem VH (h:HN A N ok i l k l2 nx):nx.length=k:=by rw[h.nx];simp
theorem VI (hG:GS A N ok key n F) (h:HW A N ok z n i l aI):l.length≤F:=hG.few l h.nd h.okl
theorem SV (h:HN A N ok i l k l2 nx) (hh:has (aZ (A (ix l i))) (k:Int)=false):HN A N ok i l (k+1) l2 (nx++ [-1]):=by
 refine⟨h.nd,h.okl,h.pre,fun a ha g=> ?_,?_⟩
 ·by_cases e:a=k
  ·subst e;rw[hh] at g;cases g
  ·exact h.dn a O g
 ·rw[List.range_succ,List.map_append,←h.nx,List.map_cons,List.map_nil,if_neg (by simp[hh])]
theorem FO (h:HN A N ok i l k l2 nx) (hh:has (aZ (A (ix l i))) (k:Int)=true) (hok:ok (N (ix l i) k)) {v:Int} (hv:v=(pxa l2 (N (ix l i) k):Int)):HN A N ok i l (k+1) (dL l2 (N (ix l i) k)) (nx++ [v]):=by
 have hp:=pS l2 (N (ix l i) k)
 refine⟨zC h.nd,fun p hp=> ?_,h.pre.trans hp,fun a ha g=> ?_,?_⟩
 ·rcases CK hp with g|g
  ·exact h.okl p g
  ·rw[g];exact hok
 ·by_cases e:a=k
  ·subst e;exact wD _ _
  ·exact hp.subset (h.dn a O g)
 ·rw[List.range_succ,List.map_append,List.map_cons,List.map_nil,if_pos hh,h.nx,hv,OK]
  congr 1
  refine List.map_congr_left fun a ha=> ?_
  have ha:=List.mem_range.1 ha
  by_cases g:has (aZ (A (ix l i))) (a:Int)=true
  ·rw[if_pos g,if_pos g,mY hp (h.dn a ha g)]
  ·rw[if_neg g,if_neg g]
theorem OL (hp:l<+:l2) (hil:i≤l.length) (hdn:∀j,j<i→∀a∈dS A (ix l j),N (ix l j) a.toNat∈l) (hn:n≤8):(l2.take i).map (ofL A N n l2)=(l.take i).map (ofL A N n l):=by
 have e1:l2.take i=l.take i:=by
  obtain⟨r,rfl⟩:=hp
  rw[List.take_append_of_le_length hil]
 rw[e1]
 refine List.map_congr_left fun p hpm=> ?_
 obtain⟨j,hj,rfl⟩:=List.getElem_of_mem hpm
 have hj2:j<i∧j<l.length:=by simp at hj;omega
 have ep:(l.take i)[j]=ix l j:=by rw[List.getElem_take,aD hj2.2]
 rw[ep]
 unfold ofL
 congr 1
 refine List.map_congr_left fun a ha=> ?_
 by_cases g:has (aZ (A (ix l j))) (a:Int)=true
 ·have:=hdn j hj2.1 (a:Int) (eP.2 ⟨a,rfl,by have:=List.mem_range.1 ha;omega,g⟩)
  rw[Int.toNat_natCast] at this
  rw[if_pos g,if_pos g]
  exact congrArg Int.ofNat (mY hp this)
 ·rw[if_neg g,if_neg g]
theorem SX (hG:GS A N ok key n F) (hR:HW A N ok z n i l aI) (h:HN A N ok i l n l2 nx) (hi:i<l.length):HW A N ok z n (i+1) l2 (aI++ [⟨A (ix l i),nx⟩]):=by
 have hle:=h.pre.length_le
 have hne:=hR.ne
 refine⟨h.nd,h.okl,O,(lB h.pre hR.ne).trans hR.hd,O,fun j hj a ha=> ?_,?_⟩
 ·have hjl:j<l.length:=by omega
  rw[lB h.pre hjl] at ha ⊢
  by_cases e:j=i
  ·subst e
   obtain⟨b,rfl,_,hb⟩:=eP.1 ha
   rw[Int.toNat_natCast]
   exact h.dn b (hG.hasn _ (hR.okl _ (aQ hi)) b hb) hb
  ·exact h.pre.subset (hR.dn j O a ha)
 ·rw[bM O,List.map_append,OL h.pre hR.il hR.dn hG.n8,←hR.out,lB h.pre hi]
  congr 1
  show [_]= [_]
  congr 1
  unfold ofL
  congr 1
  rw[h.nx]
theorem SY (hG:GS A N ok key n F) (h:HW A N ok z n i l aI) (hi:l.length≤i) (acts:List ByteArray):pF A N n z l ⟨acts,aI⟩∧l.length≤F:=by
 have hil:=h.il
 have e:i=l.length:=by omega
 subst e
 have ho:=h.out
 rw[List.take_length] at ho
 have hw:qJ A N ok z l.length l:=⟨h.nd,h.ne,h.hd,h.okl,fun j hj _ a ha=>h.dn j hj a ha⟩
 have:=Mf hG hw acts
 rw[←ho] at this
 exact⟨this,VI hG h⟩
end
end GenW
end
section
namespace QuoW
open ref01 ref03 ref04 ref06 Part Rungs LeftM TrimM RoundM MergeM BisM BisM5 WitM LevM divr divs divd divf ChsM BisS TrimI QuoM FailM DivM
def k3 (p:PP):T3:=if p=bes then(1,0,0) else(0,p.1,p.2)
def VK (mm:List (T3 × Int)) (l:List PP):Prop:=∀p,bP mm (k3 p)=if p∈l then some (pix l p:Int) else none
section
variable {t T:SS}
structure QW (t T:SS) (i:Nat) (l:List PP) (mm:List (T3 × Int)) (aI:List SA):Prop where
 nd:l.Nodup
 ok:∀p∈l,qOk t T p
 ne:0<l.length
 few:l.length≤500
 rn:jB (qA t T) (qN t T) (t.sT.length*T.sT.length+1- i) i l=qL t T
 il:i≤l.length
 am:VK mm l
 out:aI=(l.take i).map (ofL (qA t T) (qN t T) t.aC.length (qL t T))
structure QN (t T:SS) (i:Nat) (l:List PP) (m:Nat) (l2:List PP) (mm2:List (T3 × Int)) (nx:List Int):Prop where
 nd:l2.Nodup
 ok:∀p∈l2,qOk t T p
 few:l2.length≤500
 pre:l2=jU (qA t T) (qN t T) (ix l i) ((dS (qA t T) (ix l i)).take m) l
 am:VK mm2 l2
 nx:nx=(List.range t.aC.length).map fun(a:Nat)=>if ((dS (qA t T) (ix l i)).take m).contains (a:Int) then(pix (qL t T) (qN t T (ix l i) a):Int) else-1
variable {i m:Nat} {l l2:List PP} {mm mm2:List (T3 × Int)} {aI:List SA} {nx:List Int}
end
end QuoW
end
section
namespace RefM
open ref01 ref03 ref04 ref06 Part Rungs LeftM TrimM RoundM MergeM BisM BisM5 JudgM2 WitM LevM divr divs divd divf ChsM BisS TrimI QuoM FailM DivM QuoW
section
variable {t T:SS}
structure RW (t T:SS) (i:Nat) (l:List PP) (aI:List SA):Prop where
 nd:l.Nodup
 ok:∀p∈l,qOk t T p
 two:2≤l.length
 h0:ix l 0=(0,0)
 h1:ix l 1=bes
 il:i≤l.length
 dn:∀j,j<i→∀a∈dS (qA t T) (ix l j),qN t T (ix l j) a.toNat∈l
 out:aI=(l.take i).map (ofL (qA t T) (qN t T) t.aC.length l)
structure RN (t T:SS) (i:Nat) (l:List PP) (k:Nat) (l2:List PP) (nx:List Int):Prop where
 nd:l2.Nodup
 ok:∀p∈l2,qOk t T p
 pre:l<+:l2
 dn:∀a:Nat,a<k→has (aZ (qA t T (ix l i))) (a:Int)=true→qN t T (ix l i) a∈l2
 nx:nx=(List.range k).map fun(a:Nat)=>if has (aZ (qA t T (ix l i))) (a:Int)=true then(pix l2 (qN t T (ix l i) a):Int) else-1
variable {i k:Nat} {l l2:List PP} {aI:List SA} {nx:List Int}
end
end RefM
end
section
namespace CompM
open ref01 ref03 ref04 ref06 Part Rungs LeftM TrimM RoundM MergeM BisM BisM4 BisM5 Keys WalkM WitM JudgM LevM divr divs divd dive divf divv judg ChsM BisS TrimI QuoM FailM DivM RefM GenW
def Mg (a b:List Int):List Int:=(bY 8).filter fun u=>a.any fun x=>b.any fun y=>decide (bQ x y=u)
def cA (s t:SS) (p:PP):List Int:=Mg (acc s p.1.toNat) (acc t p.2.toNat)
def cN (s t:SS) (p:PP) (a:Nat):PP:=(ix (nxt s p.1.toNat) a,ix (nxt t p.2.toNat) a)
def cOk (s t:SS) (p:PP):Prop:=0≤p.1∧p.1<(s.sT.length:Int)∧0≤p.2∧p.2<(t.sT.length:Int)
def pkey (p:PP):ByteArray:=mW p.1 [p.2]
theorem xN {s:SS} (hs:oK s) {x:Nat} (hx:x<s.sT.length):∀u∈acc s x,0≤u∧u<256:=fun u hu=>by
 obtain⟨i,hi,rfl⟩:=List.getElem_of_mem hu
 have hi2:i<(ix s.sT x).aP.length:=hi
 have:=(hs.st x hx).ac i hi2
 rw[aD hi2] at this
 exact this
def cL (s t:SS):List PP:=jB (cA s t) (cN s t) (s.sT.length*t.sT.length) 0 [(0,0)]
structure Yt (s t:SS) (l:List PP) (D:SS):Prop where
 numb:pF (cA s t) (cN s t) s.aC.length (0,0) l D
 ok:∀p∈l,cOk s t p
 acts:D.aC=s.aC
def CM (s t:SS):Prop:=ix (hOl s) 0=true∨ix (hOl t) 0=true
noncomputable instance (s t:SS):Decidable (CM s t):=Classical.propDecidable _
structure YM (s t D:SS):Prop where
 acts:D.aC=s.aC
 hol:CM s t→D=nothing s.aC
 num:¬CM s t→∃l,Yt (tR s).1 (tR t).1 l D∧l.length≤s.sT.length*t.sT.length
end CompM
end
section
namespace SevM
open ref01 ref03 ref04 ref06 Part Rungs LeftM TrimM RoundM MergeM BisM BisM2 BisM4 BisM5 Keys WalkM WitM JudgM LevM divr divs divd dive divf divv judg ChsM BisS TrimI QuoM FailM DivM RefM GenW CompM
end SevM
end
section
namespace FitM
open ref01 ref03 ref04 ref06 prog15 starts Part Rungs LeftM TrimM RoundM MergeM BisM BisM4 BisM5 BisM6 WalkM StepM WitM JudgM LevM LevM2 divr divs divd dive divg divw divv refj sysw ChsM BisS TrimI ValidM WitSat WitVal QuoM FailM DivM
structure YG (x:aA) (t s:SS) (v:Bool × aA):Prop where
 yes:v.1=true→v.2=⟨[],[]⟩∧(ix (hOl s) 0=true∨Re x t (tR s).1)
 no:v.1=false→ix (hOl s) 0=false∧∃q i u,QF x t (tS s) q∧i<q.length∧u∈acc (tS s) (ix q i).s.toNat∧bQ (bK x (ix q i).x.toNat) u∉acc t (ix q i).t.toNat∧BG (tS s) (Et (tS s) (Rf q i) u) v.2
def sK (m n:aA) (t:SS) (p:T3):Prop:=bQ (bK m p.1.toNat) (bK n p.2.1.toNat)∉acc t p.2.2.toNat
inductive lW (m n:aA) (t:SS):T3→Prop
 |zero:lW m n t (0,0,0)
 |step {p:T3} {d e:PP}:lW m n t p→¬sK m n t p→d∈edg m p.1.toNat→e∈edg n p.2.1.toNat→d.1=e.1→lW m n t (d.2,e.2,ix (nxt t p.2.2.toNat) d.1.toNat)
def lT (m n:aA) (t:SS):Prop:=∀p,lW m n t p→¬sK m n t p
theorem tQ (u o:Int):bQ u o=bQ o u:=by unfold bQ;rw[Nat.and_comm]
section
variable {x:aA} {t T:SS} {q:List M5} {i:Nat} {u:Int} {m:aA}
end
end FitM
end
section
namespace PartM
open ref01 ref03 ref04 ref06 prog15 starts Part Rungs LeftM TrimM RoundM MergeM BisM BisM4 BisM5 BisM6 WalkM StepM WitM JudgM JudgM2 divr divs divd dive divg divw divv refj sysw ChsM BisS TrimI ValidM WitSat WitVal FailM FitM
open QuoM (bY qA qN bes)
end PartM
end
section
namespace CompP
open ref01 ref03 ref04 ref06 prog15 starts Part Rungs LeftM TrimM RoundM MergeM BisM BisM4 BisM5 BisM6 WalkM StepM WitM JudgM JudgM2 divr divs divd dive divg divw divv refj sysw ChsM BisS TrimI ValidM WitSat WitVal FailM FitM PartM QuoM DivM RefM GenW CompM judg
theorem CN {D:SS} (hne:∀x,x<D.sT.length→0<(acc D x).length) {x:Nat} (hx:x<D.sT.length):ix (hOl D) x=false:=by
 cases e:ix (hOl D) x with
 |false=>rfl
 |true=>
  have hH:=(jJ hx).1 e
  exfalso
  refine hH (fun _=>False) (fun y hy hc=> ?_)
  obtain⟨_,_,_,_,h⟩:=hc 0 (hne y hy)
  exact h
theorem OM {D:SS} (hD:oK D) (hne:∀x,x<D.sT.length→0<(acc D x).length) {x:Nat} (hx:x<D.sT.length):keep D x=acc D x:=by
 rw[kF (CN hne hx)]
 refine List.filter_eq_self.2 fun u hu=> ?_
 rw[Bool.not_eq_true']
 cases hf:eH (ix D.sT x) u (hOl D) with
 |false=>rfl
 |true=>
  obtain⟨a,ha,h0,_,hv⟩:=jG.1 hf
  have hb:=((hD.st x hx).nx a (by have:=(hD.st x hx).len;omega)).2
  rw[CN hne O] at hv;cases hv
section
variable {S T:SS}
inductive Kb (S T:SS):List Int→PP→Prop
 |nil:Kb S T [] (0,0)
 |snoc {w:List Int} {p:PP} {a:Nat}:Kb S T w p→has (aZ (cA S T p)) (a:Int)=true→Kb S T (w++ [(a:Int)]) (cN S T p a)
end
def Rj (s t:SS) (w:List Int) (u:Int):Prop:=¬CM s t∧0≤goS (tR s).1 w∧0≤goS (tR t).1 w∧∃x∈acc (tR s).1 (goS (tR s).1 w).toNat,∃y∈acc (tR t).1 (goS (tR t).1 w).toNat,bQ x y=u
def cY (m:aA) (l:List Int) (a:Int):List Int:=((List.range m.sT.length).filter fun(x:Nat)=>l.any fun y=>(edg m y.toNat).any fun e=>decide (e.1=a)&&decide (e.2=(x:Int))).map fun(x:Nat)=>(x:Int)
theorem Aj {m:aA} {l:List Int} {a:Int} {x:Int}:x∈cY m l a↔∃k:Nat,x=(k:Int)∧k<m.sT.length∧∃y∈l,∃e∈edg m y.toNat,e.1=a∧e.2=(k:Int):=by
 unfold cY
 rw[List.mem_map]
 constructor
 ·rintro⟨k,hk,rfl⟩
  obtain⟨h1,h2⟩:=List.mem_filter.1 hk
  obtain⟨y,hy,h3⟩:=List.any_eq_true.1 h2
  obtain⟨e,he,h4⟩:=List.any_eq_true.1 h3
  simp only [Bool.and_eq_true,decide_eq_true_eq] at h4
  exact⟨k,rfl,List.mem_range.1 h1,y,hy,e,he,h4.1,h4.2⟩
 ·rintro⟨k,rfl,hk,y,hy,e,he,h1,h2⟩
  exact⟨k,List.mem_filter.2 ⟨List.mem_range.2 hk,List.any_eq_true.2 ⟨y,hy,List.any_eq_true.2 ⟨e,he,by simp[h1,h2]⟩⟩⟩,rfl⟩
end CompP
end
section
namespace CrossM
open ref01 ref03 ref04 ref06 Part Rungs LeftM TrimM RoundM MergeM BisM5 QuoM CompM divr divs
def fE (l:List Int):List Int:=l.mergeSort fun x y=>decide (x≤y)
theorem xZ {zs:List Int} {i:Nat} (hi:i<zs.length):zs.toArray[i]! =ix zs i:=by
 rw[aD hi,getElem!_pos _ i (by simpa using hi)];simp
theorem OO {zs:List Int} {x:Int}:x∈Lib.compact zs↔x∈zs:=by
 unfold Lib.compact Lib.compactUpTo
 rw[List.mem_map]
 constructor
 ·rintro⟨i,hi,rfl⟩
  have hi':i<zs.length:=List.mem_range.1 (List.mem_filter.1 hi).1
  rw[xZ hi'];exact aQ hi'
 ·intro hx
  obtain⟨i,hi,rfl⟩:=List.getElem_of_mem hx
  have key:∀i,i<zs.length→∃j,j∈(List.range zs.length).filter (Lib.keeps zs.toArray)∧ix zs j=ix zs i:=by
   intro i
   induction i with
   |zero=>intro hi;exact⟨0,List.mem_filter.2 ⟨List.mem_range.2 hi,by simp[Lib.keeps]⟩,rfl⟩
   |succ i ih=>
    intro hi
    by_cases e:ix zs (i+1)=ix zs i
    ·obtain⟨j,h1,h2⟩:=ih O
     exact⟨j,h1,h2.trans e.symm⟩
    ·refine⟨i+1,List.mem_filter.2 ⟨List.mem_range.2 hi,?_⟩,rfl⟩
     refine Lib.keeps_pos ?_
     rw[xZ hi,show i+1- 1=i from rfl,xZ O];exact e
  obtain⟨j,h1,h2⟩:=key i hi
  refine⟨j,h1,?_⟩
  rw[xZ (List.mem_range.1 (List.mem_filter.1 h1).1),h2,aD hi]
theorem Mh {zs:List Int} (h:zs.Pairwise (· ≤ ·)):(Lib.compact zs).Pairwise (· < ·):=by
 have hs:∀i j,i≤j→j<zs.length→ix zs i≤ix zs j:=fun i j hij hj=>by
  rcases Nat.lt_or_ge i j with g|g
  ·rw[aD O,aD hj]
   exact List.pairwise_iff_getElem.1 h i j O hj g
  ·have:i=j:=by omega
   subst this;exact Int.le_refl _
 unfold Lib.compact Lib.compactUpTo
 rw[List.pairwise_map]
 refine List.Pairwise.imp_of_mem (R:=(· < ·)) (fun {i j} hi hj hij=> ?_) (List.pairwise_lt_range.filter _)
 obtain⟨hi1,_⟩:=List.mem_filter.1 hi
 obtain⟨hj1,hj2⟩:=List.mem_filter.1 hj
 have hi1:=List.mem_range.1 hi1
 have hj1:=List.mem_range.1 hj1
 have hne:ix zs j≠ix zs (j- 1):=by
  unfold Lib.keeps at hj2
  have:=of_decide_eq_true hj2
  rcases this with g|g
  ·omega
  ·rwa [xZ hj1,xZ O] at g
 rw[xZ hi1,xZ hj1]
 have h1:=hs i (j- 1) O O
 have h2:=hs (j- 1) j O hj1
 omega
theorem VL (l:List Int):(fE l).Pairwise (· ≤ ·):=by
 have:=List.pairwise_mergeSort (le:=fun x y:Int=>decide (x≤y)) (fun a b c h1 h2=>by simp at*;omega) (fun a b=>by simp;omega) l
 exact this.imp fun h=>by simpa using h
structure YH (a b:List Int) (k m:Nat) (out:List Int):Prop where
 rise:out.Pairwise (· < ·)
 mem:∀u,u∈out↔(∃i,i<k∧∃j,j<b.length∧bQ (ix a i) (ix b j)=u)∨∃j,j<m∧bQ (ix a k) (ix b j)=u
end CrossM
end
end Go.Proofs.YtnlfjojfgghchaaGreatDoor
