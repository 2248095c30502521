/- The walks of the functions and the plain laws. Own texts of this claim, packed: MkGenW, MkQuoW, MkRefM, MkCompM, MkSevM, MkFitM, MkPartM, MkCompP, MkCrossM. -/
import Derived.Test.YtnlfjojfgghchaaGreatDoorX14
import Derived.Test.YtnlfjojfgghchaaGreatDoorX15
import Derived.Test.YtnlfjojfgghchaaGreatDoorX04
import Derived.Lib.SlicesCompact
set_option linter.all false
namespace Go.Proofs.YtnlfjojfgghchaaGreatDoor
open AL Go
set_option maxRecDepth 100000
section
namespace GenW
open ref01 ref03 ref04 ref06 Part Rungs LeftM TrimM RoundM MergeM BisM BisM5 WitM LevM divr divs divd divf ChsM BisS TrimI QuoM FailM DivM
abbrev pxa {α:Type} [DecidableEq α] (l:List α) (p:α):Nat:=l.idxOf p
theorem sX {α:Type} [DecidableEq α] {l L:List α} (h:l<+:L) {q:α} (hq:q∈l):pxa L q=pxa l q:=by
 obtain⟨r,rfl⟩:=h
 exact JL hq
theorem sY {α:Type} [DecidableEq α] {l:List α} {q:α} (hq:q∉l):pxa (l++ [q]) q=l.length:=JM hq
structure GS {α κ:Type} [DecidableEq α] (A:α→List Int) (N:α→Nat→α) (ok:α→Prop) (key:α→κ) (n F:Nat):Prop where
 inj:∀p q,ok p→ok q→key p=key q→p=q
 acts:∀p,ok p→∀a∈bY A p,ok (N p a.toNat)
 few:∀l:List α,l.Nodup→(∀p∈l,ok p)→l.length≤F
 hasn:∀p,ok p→∀a:Nat,has (aT (A p)) (a:Int)=true→a<n
 n8:n≤8
section
variable {α κ:Type} [DecidableEq α] [Inhabited α] [DecidableEq κ] {A:α→List Int} {N:α→Nat→α} {ok:α→Prop} {key:α→κ} {n F:Nat} {z:α}
def Ff (ok:α→Prop) (key:α→κ) (mm:List (κ × Int)) (l:List α):Prop:=∀p,ok p→bJ mm (key p)=if p∈l then some (pxa l p:Int) else none
theorem Cl (hG:GS A N ok key n F) {mm:List (κ × Int)} {l:List α} (h:Ff ok key mm l) {p:α} (hp0:ok p) (hp:p∉l):Ff ok key (bT mm (key p) (l.length:Int)) (l++ [p]):=by
 intro q hq0
 rw[lM,h q hq0]
 by_cases e:p=q
 ·subst e
  rw[if_pos rfl,if_pos (by simp),sY hp]
 ·rw[if_neg (fun g=>e (hG.inj _ _ hp0 hq0 g))]
  have:q∈l++ [p]↔q∈l:=by
   rw[List.mem_append]
   exact⟨fun h=>h.resolve_right (fun h=>e (List.mem_singleton.1 h).symm),.inl⟩
  by_cases hq:q∈l
  ·rw[if_pos hq,if_pos (this.2 hq),sX (List.prefix_append l [p]) hq]
  ·rw[if_neg hq,if_neg (fun h=>hq (this.1 h))]
structure GW (A:α→List Int) (N:α→Nat→α) (ok:α→Prop) (key:α→κ) (n F:Nat) (L:List α) (i:Nat) (l:List α) (mm:List (κ × Int)) (aD:List SA):Prop where
 nd:l.Nodup
 okl:∀p∈l,ok p
 ne:0<l.length
 few:l.length≤500
 rn:iB A N (F- i) i l=L
 il:i≤l.length
 am:Ff ok key mm l
 out:aD=(l.take i).map (ofL A N n L)
theorem JN (hG:GS A N ok key n F) (hz:ok z):GW A N ok key n F (iB A N F 0 [z]) 0 [z] (bT ([]:List (κ × Int)) (key z) 0) []:=
 ⟨by simp,fun p hp=>by rw[List.mem_singleton.1 hp];exact hz,by simp,by simp,rfl,by simp,Cl (l:= []) hG (fun p _=>by rw[if_neg (by simp)];rfl) hz (by simp),rfl⟩
structure GN (A:α→List Int) (N:α→Nat→α) (ok:α→Prop) (key:α→κ) (n:Nat) (L:List α) (i:Nat) (l:List α) (m:Nat) (l2:List α) (mm2:List (κ × Int)) (nx:List Int):Prop where
 nd:l2.Nodup
 okl:∀p∈l2,ok p
 few:l2.length≤500
 pre:l2=iE A N (ix l i) ((bY A (ix l i)).take m) l
 am:Ff ok key mm2 l2
 nx:nx=(List.range n).map fun(a:Nat)=>if ((bY A (ix l i)).take m).contains (a:Int) then(pxa L (N (ix l i) a):Int) else-1
variable {i m:Nat} {L l l2:List α} {mm mm2:List (κ × Int)} {aD:List SA} {nx:List Int}
theorem Rx (hG:GS A N ok key n F) (h:GW A N ok key n F L i l mm aD) (hi:i<l.length):i<F:=by
 have:=hG.few l h.nd h.okl
 omega
theorem JO (h:GW A N ok key n F L i l mm aD):GN A N ok key n L i l 0 l mm (List.replicate n (-1)):=by
 refine⟨h.nd,h.okl,h.few,rfl,h.am,?_⟩
 rw[List.take_zero]
 simp[List.map_const']
theorem WF (h:GN A N ok key n L i l m l2 mm2 nx) (hi:i<l.length):ix l2 i=ix l i:=by
 rw[h.pre];exact qO (fK _ _ _ _ l) hi
theorem Te (hG:GS A N ok key n F) (h:GW A N ok key n F L i l mm aD) (hi:i<l.length):oT A N l (ix l i)<+:L:=by
 have hlt:=Rx hG h hi
 have hr:=h.rn
 rw[show F- i=(F- (i+1))+1 by omega] at hr
 unfold iB at hr
 rw[if_pos hi] at hr
 rw[←hr]
 exact wU _ _ _ _ _
theorem Li (p:α) (ks:List Int) (m:Nat) (l:List α):iE A N p (ks.take m) l<+:iE A N p ks l:=by
 conv=>rhs;rw[←List.take_append_drop m ks]
 unfold iE
 rw[List.foldl_append]
 exact fK A N p _ _
theorem De (hG:GS A N ok key n F) (hQ:GW A N ok key n F L i l mm aD) (h:GN A N ok key n L i l m l2 mm2 nx) (hi:i<l.length) {a:Nat} (ha:(bY A (ix l i))[m]?=some (a:Int)):dL l2 (N (ix l i) a)=iE A N (ix l i) ((bY A (ix l i)).take (m+1)) l∧dL l2 (N (ix l i) a)<+:L:=by
 obtain⟨hm,he⟩:=List.getElem?_eq_some_iff.1 ha
 have e:dL l2 (N (ix l i) a)=iE A N (ix l i) ((bY A (ix l i)).take (m+1)) l:=by
  rw[List.take_succ_eq_append_getElem hm,he,Eo,←h.pre,Int.toNat_natCast]
 refine⟨e,?_⟩
 rw[e]
 exact(Li _ _ _ _).trans (Te hG hQ hi)
theorem Ry (h:GN A N ok key n L i l m l2 mm2 nx) {a:Nat} (ha:(bY A (ix l i))[m]?=some (a:Int)) (han:a<n) {v:Int} (hv:v=(pxa L (N (ix l i) a):Int)):
 nx.set a v=(List.range n).map fun(b:Nat)=>if ((bY A (ix l i)).take (m+1)).contains (b:Int) then(pxa L (N (ix l i) b):Int) else-1:=by
 obtain⟨hm,he⟩:=List.getElem?_eq_some_iff.1 ha
 have e:(bY A (ix l i)).take (m+1)=(bY A (ix l i)).take m++ [(a:Int)]:=by rw[List.take_succ_eq_append_getElem hm,he]
 rw[h.nx]
 refine nT han ?_ (fun y _ hne=> ?_)
 ·rw[e,if_pos (by simp),hv]
 ·rw[e]
  have:(((bY A (ix l i)).take m++ [(a:Int)]).contains (y:Int))=((bY A (ix l i)).take m).contains (y:Int):=by
   rw[Bool.eq_iff_iff,List.contains_iff_mem,List.contains_iff_mem,List.mem_append]
   constructor
   ·rintro(h|h)
    ·exact h
    ·simp at h;omega
   ·exact .inl
  rw[this]
theorem Ni (hG:GS A N ok key n F) (hQ:GW A N ok key n F L i l mm aD) (h:GN A N ok key n L i l m l2 mm2 nx) (hi:i<l.length) {a:Nat} (hok:ok (N (ix l i) a)) (ha:(bY A (ix l i))[m]?=some (a:Int)) (han:a<n) {k:κ} (hk:k=key (N (ix l i) a)) (hs:(bJ mm2 k).isSome=true):
 GN A N ok key n L i l (m+1) l2 mm2 (nx.set a ((bJ mm2 k).getD 0)):=by
 subst hk
 obtain⟨e1,e2⟩:=De hG hQ h hi ha
 have hin:N (ix l i) a∈l2:=by
  rw[h.am _ hok] at hs
  by_cases g:N (ix l i) a∈l2
  ·exact g
  ·rw[if_neg g] at hs;cases hs
 have hp:dL l2 (N (ix l i) a)=l2:=by unfold dL;rw[if_pos hin]
 rw[hp] at e1 e2
 refine⟨h.nd,h.okl,h.few,e1,h.am,Ry h ha han ?_⟩
 rw[h.am _ hok,if_pos hin,sX e2 hin];rfl
theorem Nj (hG:GS A N ok key n F) (hQ:GW A N ok key n F L i l mm aD) (h:GN A N ok key n L i l m l2 mm2 nx) (hi:i<l.length) {a:Nat} (hok:ok (N (ix l i) a)) (ha:(bY A (ix l i))[m]?=some (a:Int)) (han:a<n) {k:κ} (hk:k=key (N (ix l i) a)) (hs:(bJ mm2 k).isSome=false) (h5:l2.length≠500):
 GN A N ok key n L i l (m+1) (l2++ [N (ix l i) a]) (bT mm2 k (l2.length:Int)) (nx.set a (l2.length:Int)):=by
 subst hk
 obtain⟨e1,e2⟩:=De hG hQ h hi ha
 have hnin:N (ix l i) a∉l2:=fun g=>by
  rw[h.am _ hok,if_pos g] at hs;cases hs
 have hp:dL l2 (N (ix l i) a)=l2++ [N (ix l i) a]:=by unfold dL;rw[if_neg hnin]
 have hf:=h.few
 have hnd:=zV (p:=N (ix l i) a) h.nd
 rw[hp] at e1 e2 hnd
 refine⟨hnd,fun p hp=> ?_,by simp;omega,e1,Cl hG h.am hok hnin,Ry h ha han ?_⟩
 ·rcases List.mem_append.1 hp with g|g
  ·exact h.okl p g
  ·rw[List.mem_singleton.1 g];exact hok
 ·rw[sX e2 (by simp),sY hnin]
theorem JP (hG:GS A N ok key n F) (hQ:GW A N ok key n F L i l mm aD) (h:GN A N ok key n L i l m l2 mm2 nx) (hi:i<l.length) {a:Nat} (hok:ok (N (ix l i) a)) (ha:(bY A (ix l i))[m]?=some (a:Int)) {k:κ} (hk:k=key (N (ix l i) a)) (hs:(bJ mm2 k).isSome=false) (h5:(l2.length:Int)=500):500<L.length:=by
 subst hk
 obtain⟨e1,e2⟩:=De hG hQ h hi ha
 have hnin:N (ix l i) a∉l2:=fun g=>by
  rw[h.am _ hok,if_pos g] at hs;cases hs
 have hp:dL l2 (N (ix l i) a)=l2++ [N (ix l i) a]:=by unfold dL;rw[if_neg hnin]
 rw[hp] at e2
 have:=e2.length_le
 simp at this
 omega
theorem Nk (hG:GS A N ok key n F) (hQ:GW A N ok key n F L i l mm aD) (h:GN A N ok key n L i l (bY A (ix l i)).length l2 mm2 nx) (hi:i<l.length):GW A N ok key n F L (i+1) l2 mm2 (aD++ [⟨A (ix l i),nx⟩]):=by
 have hlt:=Rx hG hQ hi
 have hn:=hG.n8
 have hpre:l<+:l2:=by rw[h.pre];exact fK _ _ _ _ l
 have hr:=hQ.rn
 rw[show F- i=(F- (i+1))+1 by omega] at hr
 unfold iB at hr
 rw[if_pos hi] at hr
 have hl2:l2=oT A N l (ix l i):=by rw[h.pre,List.take_length];rfl
 have hle:=hpre.length_le
 refine⟨h.nd,h.okl,by have:=hQ.ne;omega,h.few,by rw[hl2];exact hr,O,h.am,?_⟩
 have e1:l2.take i=l.take i:=by
  obtain⟨r,rfl⟩:=hpre
  rw[List.take_append_of_le_length O]
 rw[bK O,List.map_append,e1,←hQ.out,WF h hi]
 congr 1
 show [_]= [_]
 congr 1
 unfold ofL
 congr 1
 rw[h.nx,List.take_length]
 refine List.map_congr_left fun a ha=> ?_
 by_cases g:has (aT (A (ix l i))) (a:Int)=true
 ·rw[if_pos g,if_pos (List.contains_iff_mem.2 (show(a:Int)∈bY A (ix l i) from eF.2 ⟨a,rfl,by have:=List.mem_range.1 ha;omega,g⟩))]
 ·rw[if_neg g,if_neg (fun hc=>g (by
   obtain⟨b,hb,_,hh⟩:=eF.1 (List.contains_iff_mem.1 hc)
   have:b=a:=by omega
   subst this;exact hh))]
theorem Df (h:GW A N ok key n F L i l mm aD) (hi:l.length≤i):l=L∧aD=L.map (ofL A N n L):=by
 have hr:=h.rn
 have hil:=h.il
 have e:iB A N (F- i) i l=l:=by
  cases F- i with
  |zero=>rfl
  |succ f=>unfold iB;rw[if_neg O]
 rw[e] at hr
 refine⟨hr,?_⟩
 rw[h.out,List.take_of_length_le hi,hr]
theorem Nl (h:GW A N ok key n F L i l mm aD) (hi:l.length≤i):L.length≤500:=by
 rw[←(Df h hi).1];exact h.few
theorem Vk (hG:GS A N ok key n F) (hz:ok z):pP A N ok z (iB A N F 0 [z]).length (iB A N F 0 [z]):=by
 have h0:pP A N ok z 0 [z]:=⟨by simp,by simp,rfl,fun p hp=>by rw[List.mem_singleton.1 hp];exact hz,fun j hj=>absurd hj O⟩
 exact GH hG.acts hG.few h0 (Nat.le_refl _)
theorem Vl (hG:GS A N ok key n F) {L:List α} (h:pP A N ok z L.length L) (acts:List ByteArray):uO A N n z L ⟨acts,L.map (ofL A N n L)⟩:=
 JJ (fun p hp a g=>by have:=hG.hasn p hp a g;have:=hG.n8;omega) h acts
structure HW (A:α→List Int) (N:α→Nat→α) (ok:α→Prop) (z:α) (n i:Nat) (l:List α) (aD:List SA):Prop where
 nd:l.Nodup
 okl:∀p∈l,ok p
 ne:0<l.length
 hd:ix l 0=z
 il:i≤l.length
 dn:∀j,j<i→∀a∈bY A (ix l j),N (ix l j) a.toNat∈l
 out:aD=(l.take i).map (ofL A N n l)
structure HN (A:α→List Int) (N:α→Nat→α) (ok:α→Prop) (i:Nat) (l:List α) (k:Nat) (l2:List α) (nx:List Int):Prop where
 nd:l2.Nodup
 okl:∀p∈l2,ok p
 pre:l<+:l2
 dn:∀a:Nat,a<k→has (aT (A (ix l i))) (a:Int)=true→N (ix l i) a∈l2
 nx:nx=(List.range k).map fun(a:Nat)=>if has (aT (A (ix l i))) (a:Int)=true then(pxa l2 (N (ix l i) a):Int) else-1
variable {k:Nat}
end
end GenW
end
section
namespace QuoW
open ref01 ref03 ref04 ref06 Part Rungs LeftM TrimM RoundM MergeM BisM BisM5 WitM LevM divr divs divd divf ChsM BisS TrimI QuoM FailM DivM
def k3 (p:PP):T3:=if p=bes then(1,0,0) else(0,p.1,p.2)
def jP:PP→List AV:=fun p=> [int (k3 p).1,int (k3 p).2.1,int (k3 p).2.2]
instance (p:PP):OneAll (jP p):=inferInstanceAs (OneAll [int (k3 p).1,int (k3 p).2.1,int (k3 p).2.2])
theorem yN:k3 bes=(1,0,0):=by unfold k3;rw[if_pos rfl]
theorem nB {p:PP} (h:p≠bes):k3 p=(0,p.1,p.2):=by unfold k3;rw[if_neg h]
theorem Lj {p:PP} (h:(k3 p).1=0):p≠bes:=fun e=>by rw[e,yN] at h;cases h
theorem WG {p:PP} (h:¬(k3 p).1=0):p=bes:=Classical.byContradiction fun e=>h (by rw[nB e])
theorem Vm {p q:PP} (h:k3 p=k3 q):p=q:=by
 by_cases h1:p=bes
 ·by_cases h2:q=bes
  ·rw[h1,h2]
  ·rw[h1,yN,nB h2] at h
   have:=congrArg Prod.fst h
   cases this
 ·by_cases h2:q=bes
  ·rw[h2,yN,nB h1] at h
   have:=congrArg Prod.fst h
   cases this
  ·rw[nB h1,nB h2] at h
   have h3:=congrArg Prod.snd h
   exact h3
def GK (mm:List (T3 × Int)) (l:List PP):Prop:=∀p,bJ mm (k3 p)=if p∈l then some (pix l p:Int) else none
theorem Dg {l L:List PP} (h:l<+:L) {q:PP} (hq:q∈l):pix L q=pix l q:=by
 obtain⟨r,rfl⟩:=h
 exact JL hq
theorem GL {l:List PP} {q:PP} (hq:q∉l):pix (l++ [q]) q=l.length:=JM hq
theorem Ep {mm:List (T3 × Int)} {l:List PP} (h:GK mm l) {p:PP} (hp:p∉l):GK (bT mm (k3 p) (l.length:Int)) (l++ [p]):=by
 intro q
 rw[lM,h q]
 by_cases e:p=q
 ·subst e
  rw[if_pos rfl,if_pos (by simp),GL hp]
 ·rw[if_neg (fun g=>e (Vm g))]
  have:q∈l++ [p]↔q∈l:=by
   rw[List.mem_append]
   exact⟨fun h=>h.resolve_right (fun h=>e (List.mem_singleton.1 h).symm),.inl⟩
  by_cases hq:q∈l
  ·rw[if_pos hq,if_pos (this.2 hq),Dg (List.prefix_append l [p]) hq]
  ·rw[if_neg hq,if_neg (fun h=>hq (this.1 h))]
theorem Nn:GK (bT ([]:List (T3 × Int)) (0,0,0) 0) [(0,0)]:=Ep (l:= []) (p:=(0,0)) (fun p=>by rw[if_neg (by simp)];rfl) (by simp)
section
variable {t T:SS}
structure QW (t T:SS) (i:Nat) (l:List PP) (mm:List (T3 × Int)) (aD:List SA):Prop where
 nd:l.Nodup
 ok:∀p∈l,qOk t T p
 ne:0<l.length
 few:l.length≤500
 rn:iB (qA t T) (qN t T) (t.sT.length*T.sT.length+1- i) i l=qL t T
 il:i≤l.length
 am:GK mm l
 out:aD=(l.take i).map (ofL (qA t T) (qN t T) t.aC.length (qL t T))
theorem Tf (ht:oK t) (hT:oK T):QW t T 0 [(0,0)] (bT ([]:List (T3 × Int)) (0,0,0) 0) []:=by
 have h:=Nh ht hT
 exact⟨h.nd,h.ok,h.ne,by simp,rfl,by simp,Nn,rfl⟩
structure QN (t T:SS) (i:Nat) (l:List PP) (m:Nat) (l2:List PP) (mm2:List (T3 × Int)) (nx:List Int):Prop where
 nd:l2.Nodup
 ok:∀p∈l2,qOk t T p
 few:l2.length≤500
 pre:l2=iE (qA t T) (qN t T) (ix l i) ((bY (qA t T) (ix l i)).take m) l
 am:GK mm2 l2
 nx:nx=(List.range t.aC.length).map fun(a:Nat)=>if ((bY (qA t T) (ix l i)).take m).contains (a:Int) then(pix (qL t T) (qN t T (ix l i) a):Int) else-1
variable {i m:Nat} {l l2:List PP} {mm mm2:List (T3 × Int)} {aD:List SA} {nx:List Int}
theorem Rz (h:QW t T i l mm aD) (hi:i<l.length):i<t.sT.length*T.sT.length+1:=by
 have:=Ru l h.nd h.ok
 omega
theorem Tg (h:QW t T i l mm aD):QN t T i l 0 l mm (List.replicate t.aC.length (-1)):=by
 refine⟨h.nd,h.ok,h.few,rfl,h.am,?_⟩
 rw[List.take_zero]
 simp[List.map_const']
theorem WH (h:QN t T i l m l2 mm2 nx) (hi:i<l.length):ix l2 i=ix l i:=by
 rw[h.pre];exact qO (fK _ _ _ _ l) hi
theorem Ti (h:QW t T i l mm aD) (hi:i<l.length):oT (qA t T) (qN t T) l (ix l i)<+:qL t T:=by
 have hlt:=Rz h hi
 have hr:=h.rn
 rw[show t.sT.length*T.sT.length+1- i=(t.sT.length*T.sT.length+1- (i+1))+1 by omega] at hr
 unfold iB at hr
 rw[if_pos hi] at hr
 rw[←hr]
 exact wU _ _ _ _ _
theorem Np (p:PP) (ks:List Int) (m:Nat) (l:List PP):iE (qA t T) (qN t T) p (ks.take m) l<+:iE (qA t T) (qN t T) p ks l:=by
 conv=>rhs;rw[←List.take_append_drop m ks]
 unfold iE
 rw[List.foldl_append]
 exact fK (qA t T) (qN t T) p _ _
theorem Dh (hQ:QW t T i l mm aD) (h:QN t T i l m l2 mm2 nx) (hi:i<l.length) {a:Nat} (ha:(bY (qA t T) (ix l i))[m]?=some (a:Int)):dL l2 (qN t T (ix l i) a)=iE (qA t T) (qN t T) (ix l i) ((bY (qA t T) (ix l i)).take (m+1)) l∧dL l2 (qN t T (ix l i) a)<+:qL t T:=by
 obtain⟨hm,he⟩:=List.getElem?_eq_some_iff.1 ha
 have e:dL l2 (qN t T (ix l i) a)=iE (qA t T) (qN t T) (ix l i) ((bY (qA t T) (ix l i)).take (m+1)) l:=by
  rw[List.take_succ_eq_append_getElem hm,he,Eo,←h.pre,Int.toNat_natCast]
 refine⟨e,?_⟩
 rw[e]
 exact(Np _ _ _ _).trans (Ti hQ hi)
theorem RA (h:QN t T i l m l2 mm2 nx) {a:Nat} (ha:(bY (qA t T) (ix l i))[m]?=some (a:Int)) (han:a<t.aC.length) {v:Int} (hv:v=(pix (qL t T) (qN t T (ix l i) a):Int)):
 nx.set a v=(List.range t.aC.length).map fun(b:Nat)=>if ((bY (qA t T) (ix l i)).take (m+1)).contains (b:Int) then(pix (qL t T) (qN t T (ix l i) b):Int) else-1:=by
 obtain⟨hm,he⟩:=List.getElem?_eq_some_iff.1 ha
 have e:(bY (qA t T) (ix l i)).take (m+1)=(bY (qA t T) (ix l i)).take m++ [(a:Int)]:=by rw[List.take_succ_eq_append_getElem hm,he]
 rw[h.nx]
 refine nT han ?_ (fun y _ hne=> ?_)
 ·rw[e,if_pos (by simp),hv]
 ·rw[e]
  have:(((bY (qA t T) (ix l i)).take m++ [(a:Int)]).contains (y:Int))=((bY (qA t T) (ix l i)).take m).contains (y:Int):=by
   rw[Bool.eq_iff_iff,List.contains_iff_mem,List.contains_iff_mem,List.mem_append]
   constructor
   ·rintro(h|h)
    ·exact h
    ·simp at h;omega
   ·exact .inl
  rw[this]
theorem Vn (hQ:QW t T i l mm aD) (h:QN t T i l m l2 mm2 nx) (hi:i<l.length) {a:Nat} (ha:(bY (qA t T) (ix l i))[m]?=some (a:Int)) (han:a<t.aC.length) {k:T3} (hk:k=k3 (qN t T (ix l i) a)) (hs:(bJ mm2 k).isSome=true):
 QN t T i l (m+1) l2 mm2 (nx.set a ((bJ mm2 k).getD 0)):=by
 subst hk
 obtain⟨e1,e2⟩:=Dh hQ h hi ha
 have hin:qN t T (ix l i) a∈l2:=by
  rw[h.am] at hs
  by_cases g:qN t T (ix l i) a∈l2
  ·exact g
  ·rw[if_neg g] at hs;cases hs
 have hp:dL l2 (qN t T (ix l i) a)=l2:=by unfold dL;rw[if_pos hin]
 rw[hp] at e1 e2
 refine⟨h.nd,h.ok,h.few,e1,h.am,RA h ha han ?_⟩
 rw[h.am,if_pos hin,Dg e2 hin];rfl
theorem Vo (hQ:QW t T i l mm aD) (h:QN t T i l m l2 mm2 nx) (hi:i<l.length) {a:Nat} (hok:qOk t T (qN t T (ix l i) a)) (ha:(bY (qA t T) (ix l i))[m]?=some (a:Int)) (han:a<t.aC.length) {k:T3} (hk:k=k3 (qN t T (ix l i) a)) (hs:(bJ mm2 k).isSome=false) (h5:l2.length≠500):
 QN t T i l (m+1) (l2++ [qN t T (ix l i) a]) (bT mm2 k (l2.length:Int)) (nx.set a (l2.length:Int)):=by
 subst hk
 obtain⟨e1,e2⟩:=Dh hQ h hi ha
 have hnin:qN t T (ix l i) a∉l2:=fun g=>by
  rw[h.am,if_pos g] at hs;cases hs
 have hp:dL l2 (qN t T (ix l i) a)=l2++ [qN t T (ix l i) a]:=by unfold dL;rw[if_neg hnin]
 have hf:=h.few
 have hnd:=zV (p:=qN t T (ix l i) a) h.nd
 rw[hp] at e1 e2 hnd
 refine⟨hnd,fun p hp=> ?_,by simp;omega,e1,Ep h.am hnin,RA h ha han ?_⟩
 ·rcases List.mem_append.1 hp with g|g
  ·exact h.ok p g
  ·rw[List.mem_singleton.1 g];exact hok
 ·rw[Dg e2 (by simp),GL hnin]
theorem Tj (hQ:QW t T i l mm aD) (h:QN t T i l m l2 mm2 nx) (hi:i<l.length) {a:Nat} (ha:(bY (qA t T) (ix l i))[m]?=some (a:Int)) {k:T3} (hk:k=k3 (qN t T (ix l i) a)) (hs:(bJ mm2 k).isSome=false) (h5:(l2.length:Int)=500):500<(qL t T).length:=by
 subst hk
 obtain⟨e1,e2⟩:=Dh hQ h hi ha
 have hnin:qN t T (ix l i) a∉l2:=fun g=>by
  rw[h.am,if_pos g] at hs;cases hs
 have hp:dL l2 (qN t T (ix l i) a)=l2++ [qN t T (ix l i) a]:=by unfold dL;rw[if_neg hnin]
 rw[hp] at e2
 have:=e2.length_le
 simp at this
 omega
theorem Vp (hn:t.aC.length≤8) (hQ:QW t T i l mm aD) (h:QN t T i l (bY (qA t T) (ix l i)).length l2 mm2 nx) (hi:i<l.length):QW t T (i+1) l2 mm2 (aD++ [⟨qA t T (ix l i),nx⟩]):=by
 have hlt:=Rz hQ hi
 have hpre:l<+:l2:=by rw[h.pre];exact fK _ _ _ _ l
 have hr:=hQ.rn
 rw[show t.sT.length*T.sT.length+1- i=(t.sT.length*T.sT.length+1- (i+1))+1 by omega] at hr
 unfold iB at hr
 rw[if_pos hi] at hr
 have hl2:l2=oT (qA t T) (qN t T) l (ix l i):=by rw[h.pre,List.take_length];rfl
 have hle:=hpre.length_le
 refine⟨h.nd,h.ok,by have:=hQ.ne;omega,h.few,by rw[hl2];exact hr,O,h.am,?_⟩
 have e1:l2.take i=l.take i:=by
  obtain⟨r,rfl⟩:=hpre
  rw[List.take_append_of_le_length O]
 rw[bK O,List.map_append,e1,←hQ.out,WH h hi]
 congr 1
 show [_]= [_]
 congr 1
 unfold ofL
 congr 1
 rw[h.nx,List.take_length]
 refine List.map_congr_left fun a ha=> ?_
 by_cases g:has (aT (qA t T (ix l i))) (a:Int)=true
 ·rw[if_pos g,if_pos (List.contains_iff_mem.2 (show(a:Int)∈bY (qA t T) (ix l i) from eF.2 ⟨a,rfl,by have:=List.mem_range.1 ha;omega,g⟩))]
 ·rw[if_neg g,if_neg (fun hc=>g (by
   obtain⟨b,hb,_,hh⟩:=eF.1 (List.contains_iff_mem.1 hc)
   have:b=a:=by omega
   subst this;exact hh))]
theorem Tk (h:QW t T i l mm aD) (hi:l.length≤i):l=qL t T∧aD=(eM t T).sT:=by
 have hr:=h.rn
 have hil:=h.il
 have e:iB (qA t T) (qN t T) (t.sT.length*T.sT.length+1- i) i l=l:=by
  cases t.sT.length*T.sT.length+1- i with
  |zero=>rfl
  |succ f=>unfold iB;rw[if_neg O]
 rw[e] at hr
 refine⟨hr,?_⟩
 rw[h.out,List.take_of_length_le hi,hr];rfl
end
end QuoW
end
section
namespace RefM
open ref01 ref03 ref04 ref06 Part Rungs LeftM TrimM RoundM MergeM BisM BisM5 JudgM2 WitM LevM divr divs divd divf ChsM BisS TrimI QuoM FailM DivM QuoW
section
variable {t T:SS}
structure RW (t T:SS) (i:Nat) (l:List PP) (aD:List SA):Prop where
 nd:l.Nodup
 ok:∀p∈l,qOk t T p
 two:2≤l.length
 h0:ix l 0=(0,0)
 h1:ix l 1=bes
 il:i≤l.length
 dn:∀j,j<i→∀a∈bY (qA t T) (ix l j),qN t T (ix l j) a.toNat∈l
 out:aD=(l.take i).map (ofL (qA t T) (qN t T) t.aC.length l)
structure RN (t T:SS) (i:Nat) (l:List PP) (k:Nat) (l2:List PP) (nx:List Int):Prop where
 nd:l2.Nodup
 ok:∀p∈l2,qOk t T p
 pre:l<+:l2
 dn:∀a:Nat,a<k→has (aT (qA t T (ix l i))) (a:Int)=true→qN t T (ix l i) a∈l2
 nx:nx=(List.range k).map fun(a:Nat)=>if has (aT (qA t T (ix l i))) (a:Int)=true then(pix l2 (qN t T (ix l i) a):Int) else-1
variable {i k:Nat} {l l2:List PP} {aD:List SA} {nx:List Int}
end
end RefM
end
section
namespace CompM
open ref01 ref03 ref04 ref06 Part Rungs LeftM TrimM RoundM MergeM BisM BisM4 BisM5 Keys WalkM WitM JudgM LevM divr divs divd dive divf divv judg ChsM BisS TrimI QuoM FailM DivM RefM GenW
def Nq (a b:List Int):List Int:=(bG 8).filter fun u=>a.any fun x=>b.any fun y=>decide (bS x y=u)
def cA (s t:SS) (p:PP):List Int:=Nq (acc s p.1.toNat) (acc t p.2.toNat)
def cN (s t:SS) (p:PP) (a:Nat):PP:=(ix (nxt s p.1.toNat) a,ix (nxt t p.2.toNat) a)
def cOk (s t:SS) (p:PP):Prop:=0≤p.1∧p.1<(s.sT.length:Int)∧0≤p.2∧p.2<(t.sT.length:Int)
def pkey (p:PP):ByteArray:=nJ p.1 [p.2]
theorem sI {s:SS} (hs:oK s) {x:Nat} (hx:x<s.sT.length):∀u∈acc s x,0≤u∧u<256:=fun u hu=>by
 obtain⟨i,hi,rfl⟩:=List.getElem_of_mem hu
 have hi2:i<(ix s.sT x).aP.length:=hi
 have:=(hs.st x hx).ac i hi2
 rw[aK hi2] at this
 exact this
def cL (s t:SS):List PP:=iB (cA s t) (cN s t) (s.sT.length*t.sT.length) 0 [(0,0)]
structure Xr (s t:SS) (l:List PP) (D:SS):Prop where
 numb:uO (cA s t) (cN s t) s.aC.length (0,0) l D
 ok:∀p∈l,cOk s t p
 acts:D.aC=s.aC
def yO (s t:SS):Prop:=ix (hOl s) 0=true∨ix (hOl t) 0=true
noncomputable instance (s t:SS):Decidable (yO s t):=Classical.propDecidable _
structure XP (s t D:SS):Prop where
 acts:D.aC=s.aC
 hol:yO s t→D=nothing s.aC
 num:¬yO s t→∃l,Xr (tR s).1 (tR t).1 l D∧l.length≤s.sT.length*t.sT.length
end CompM
end
section
namespace SevM
open ref01 ref03 ref04 ref06 Part Rungs LeftM TrimM RoundM MergeM BisM BisM2 BisM4 BisM5 Keys WalkM WitM JudgM LevM divr divs divd dive divf divv judg ChsM BisS TrimI QuoM FailM DivM RefM GenW CompM
end SevM
end
section
namespace FitM
open ref01 ref03 ref04 ref06 prog15 starts Part Rungs LeftM TrimM RoundM MergeM BisM BisM4 BisM5 BisM6 WalkM StepM WitM JudgM LevM LevM2 divr divs divd dive divg divw divv refj sysw ChsM BisS TrimI ValidM WitSat WitVal QuoM FailM DivM
structure XJ (x:aA) (t s:SS) (v:Bool × aA):Prop where
 yes:v.1=true→v.2=⟨[],[]⟩∧(ix (hOl s) 0=true∨Rv x t (tR s).1)
 no:v.1=false→ix (hOl s) 0=false∧∃q i u,QF x t (tS s) q∧i<q.length∧u∈acc (tS s) (ix q i).s.toNat∧bS (cJ x (ix q i).x.toNat) u∉acc t (ix q i).t.toNat∧Cc (tS s) (EZ (tS s) (Rw q i) u) v.2
def Ll (m n:aA) (t:SS) (p:T3):Prop:=bS (cJ m p.1.toNat) (cJ n p.2.1.toNat)∉acc t p.2.2.toNat
inductive nM (m n:aA) (t:SS):T3→Prop
 |zero:nM m n t (0,0,0)
 |step {p:T3} {d e:PP}:nM m n t p→¬Ll m n t p→d∈edg m p.1.toNat→e∈edg n p.2.1.toNat→d.1=e.1→nM m n t (d.2,e.2,ix (nxt t p.2.2.toNat) d.1.toNat)
def wV (m n:aA) (t:SS):Prop:=∀p,nM m n t p→¬Ll m n t p
theorem Er (u o:Int):bS u o=bS o u:=by unfold bS;rw[Nat.and_comm]
section
variable {x:aA} {t T:SS} {q:List M5} {i:Nat} {u:Int} {m:aA}
end
end FitM
end
section
namespace PartM
open ref01 ref03 ref04 ref06 prog15 starts Part Rungs LeftM TrimM RoundM MergeM BisM BisM4 BisM5 BisM6 WalkM StepM WitM JudgM JudgM2 divr divs divd dive divg divw divv refj sysw ChsM BisS TrimI ValidM WitSat WitVal FailM FitM
open QuoM (bG qA qN bes)
end PartM
end
section
namespace CompP
open ref01 ref03 ref04 ref06 prog15 starts Part Rungs LeftM TrimM RoundM MergeM BisM BisM4 BisM5 BisM6 WalkM StepM WitM JudgM JudgM2 divr divs divd dive divg divw divv refj sysw ChsM BisS TrimI ValidM WitSat WitVal FailM FitM PartM QuoM DivM RefM GenW CompM judg
open LevM (AH)
theorem Di {D:SS} (hne:∀x,x<D.sT.length→0<(acc D x).length) {x:Nat} (hx:x<D.sT.length):ix (hOl D) x=false:=by
 cases e:ix (hOl D) x with
 |false=>rfl
 |true=>
  have hH:=(lT hx).1 e
  exfalso
  refine hH (fun _=>False) (fun y hy hc=> ?_)
  obtain⟨_,_,_,_,h⟩:=hc 0 (hne y hy)
  exact h
theorem PU {D:SS} (hD:oK D) (hne:∀x,x<D.sT.length→0<(acc D x).length) {x:Nat} (hx:x<D.sT.length):keep D x=acc D x:=by
 rw[jS (Di hne hx)]
 refine List.filter_eq_self.2 fun u hu=> ?_
 rw[Bool.not_eq_true']
 cases hf:fM (ix D.sT x) u (hOl D) with
 |false=>rfl
 |true=>
  obtain⟨a,ha,h0,_,hv⟩:=lR.1 hf
  have hb:=((hD.st x hx).nx a (by have:=(hD.st x hx).len;omega)).2
  rw[Di hne O] at hv;cases hv
section
variable {S T:SS}
inductive Lm (S T:SS):List Int→PP→Prop
 |nil:Lm S T [] (0,0)
 |snoc {w:List Int} {p:PP} {a:Nat}:Lm S T w p→has (aT (cA S T p)) (a:Int)=true→Lm S T (w++ [(a:Int)]) (cN S T p a)
end
def RB (s t:SS) (w:List Int) (u:Int):Prop:=¬yO s t∧0≤goS (tR s).1 w∧0≤goS (tR t).1 w∧∃x∈acc (tR s).1 (goS (tR s).1 w).toNat,∃y∈acc (tR t).1 (goS (tR t).1 w).toNat,bS x y=u
def WJ (m:aA) (l:List Int) (a:Int):List Int:=((List.range m.sT.length).filter fun(x:Nat)=>l.any fun y=>(edg m y.toNat).any fun e=>decide (e.1=a)&&decide (e.2=(x:Int))).map fun(x:Nat)=>(x:Int)
end CompP
end
section
namespace CrossM
open ref01 ref03 ref04 ref06 Part Rungs LeftM TrimM RoundM MergeM BisM5 QuoM CompM divr divs
def fL (l:List Int):List Int:=l.mergeSort fun x y=>decide (x≤y)
theorem yP {zs:List Int} {i:Nat} (hi:i<zs.length):zs.toArray[i]! =ix zs i:=by
 rw[aK hi,getElem!_pos _ i (by simpa using hi)];simp
theorem PV {zs:List Int} {x:Int}:x∈Lib.compact zs↔x∈zs:=by
 unfold Lib.compact Lib.compactUpTo
 rw[List.mem_map]
 constructor
 ·rintro⟨i,hi,rfl⟩
  have hi':i<zs.length:=List.mem_range.1 (List.mem_filter.1 hi).1
  rw[yP hi'];exact aX hi'
 ·intro hx
  obtain⟨i,hi,rfl⟩:=List.getElem_of_mem hx
  have key:∀i,i<zs.length→∃j,j∈(List.range zs.length).filter (Lib.keeps zs.toArray)∧ix zs j=ix zs i:=by
   intro i
   induction i with
   |zero=>intro hi;exact⟨0,List.mem_filter.2 ⟨List.mem_range.2 hi,by simp[Lib.keeps]⟩,rfl⟩
   |succ i ih=>
    intro hi
    by_cases e:ix zs (i+1)=ix zs i
    ·obtain⟨j,h1,h2⟩:=ih O
     exact⟨j,h1,h2.trans e.symm⟩
    ·refine⟨i+1,List.mem_filter.2 ⟨List.mem_range.2 hi,?_⟩,rfl⟩
     refine Lib.keeps_pos ?_
     rw[yP hi,show i+1- 1=i from rfl,yP O];exact e
  obtain⟨j,h1,h2⟩:=key i hi
  refine⟨j,h1,?_⟩
  rw[yP (List.mem_range.1 (List.mem_filter.1 h1).1),h2,aK hi]
theorem Nr {zs:List Int} (h:zs.Pairwise (· ≤ ·)):(Lib.compact zs).Pairwise (· < ·):=by
 have hs:∀i j,i≤j→j<zs.length→ix zs i≤ix zs j:=fun i j hij hj=>by
  rcases Nat.lt_or_ge i j with g|g
  ·rw[aK O,aK hj]
   exact List.pairwise_iff_getElem.1 h i j O hj g
  ·have:i=j:=by omega
   subst this;exact Int.le_refl _
 unfold Lib.compact Lib.compactUpTo
 rw[List.pairwise_map]
 refine List.Pairwise.imp_of_mem (R:=(· < ·)) (fun {i j} hi hj hij=> ?_) (List.pairwise_lt_range.filter _)
 obtain⟨hi1,_⟩:=List.mem_filter.1 hi
 obtain⟨hj1,hj2⟩:=List.mem_filter.1 hj
 have hi1:=List.mem_range.1 hi1
 have hj1:=List.mem_range.1 hj1
 have hne:ix zs j≠ix zs (j- 1):=by
  unfold Lib.keeps at hj2
  have:=of_decide_eq_true hj2
  rcases this with g|g
  ·omega
  ·rwa [yP hj1,yP O] at g
 rw[yP hi1,yP hj1]
 have h1:=hs i (j- 1) O O
 have h2:=hs (j- 1) j O hj1
 omega
theorem Vq (l:List Int):(fL l).Pairwise (· ≤ ·):=by
 have:=List.pairwise_mergeSort (le:=fun x y:Int=>decide (x≤y)) (fun a b c h1 h2=>by simp at*;omega) (fun a b=>by simp;omega) l
 exact this.imp fun h=>by simpa using h
structure XK (a b:List Int) (k m:Nat) (out:List Int):Prop where
 rise:out.Pairwise (· < ·)
 mem:∀u,u∈out↔(∃i,i<k∧∃j,j<b.length∧bS (ix a i) (ix b j)=u)∨∃j,j<m∧bS (ix a k) (ix b j)=u
end CrossM
end
end Go.Proofs.YtnlfjojfgghchaaGreatDoor
