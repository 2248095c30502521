/- The walks of the functions and the plain laws. Own texts of this claim, packed: MkGenW, MkQuoW, MkRefM, MkCompM, MkSevM, MkFitM, MkPartM, MkCompP, MkCrossM. -/
import Derived.Test.YtnlfjojfgghchaaGreatDoorX14
import Derived.Test.YtnlfjojfgghchaaGreatDoorX15
import Derived.Test.YtnlfjojfgghchaaGreatDoorX04
import Derived.Lib.SlicesCompact
set_option linter.all false
namespace Go.Proofs.YtnlfjojfgghchaaGreatDoor
open AL Go
set_option maxRecDepth 100000
section
namespace GenW
open ref01 ref03 ref04 ref06 Part Rungs LeftM TrimM RoundM MergeM BisM BisM5 WitM LevM divr divs divd divf ChsM BisS TrimI QuoM FailM DivM
abbrev pxa {α:Type} [DecidableEq α] (l:List α) (p:α):Nat:=l.idxOf p
theorem sR {α:Type} [DecidableEq α] {l L:List α} (h:l<+:L) {q:α} (hq:q∈l):pxa L q=pxa l q:=by
 obtain⟨r,rfl⟩:=h
 exact Tl hq
theorem sS {α:Type} [DecidableEq α] {l:List α} {q:α} (hq:q∉l):pxa (l++ [q]) q=l.length:=Tm hq
structure GS {α κ:Type} [DecidableEq α] (A:α→List Int) (N:α→Nat→α) (ok:α→Prop) (key:α→κ) (n F:Nat):Prop where
 inj:∀p q,ok p→ok q→key p=key q→p=q
 acts:∀p,ok p→∀a∈dQ A p,ok (N p a.toNat)
 few:∀l:List α,l.Nodup→(∀p∈l,ok p)→l.length≤F
 hasn:∀p,ok p→∀a:Nat,has (aV (A p)) (a:Int)=true→a<n
 n8:n≤8
section
variable {α κ:Type} [DecidableEq α] [Inhabited α] [DecidableEq κ] {A:α→List Int} {N:α→Nat→α} {ok:α→Prop} {key:α→κ} {n F:Nat} {z:α}
def Fe (ok:α→Prop) (key:α→κ) (mm:List (κ × Int)) (l:List α):Prop:=∀p,ok p→bJ mm (key p)=if p∈l then some (pxa l p:Int) else none
theorem Cy (hG:GS A N ok key n F) {mm:List (κ × Int)} {l:List α} (h:Fe ok key mm l) {p:α} (hp0:ok p) (hp:p∉l):Fe ok key (bQ mm (key p) (l.length:Int)) (l++ [p]):=by
 intro q hq0
 rw[kO,h q hq0]
 by_cases e:p=q
 ·subst e
  rw[if_pos rfl,if_pos (by simp),sS hp]
 ·rw[if_neg (fun g=>e (hG.inj _ _ hp0 hq0 g))]
  have:q∈l++ [p]↔q∈l:=by
   rw[List.mem_append]
   exact⟨fun h=>h.resolve_right (fun h=>e (List.mem_singleton.1 h).symm),.inl⟩
  by_cases hq:q∈l
  ·rw[if_pos hq,if_pos (this.2 hq),sR (List.prefix_append l [p]) hq]
  ·rw[if_neg hq,if_neg (fun h=>hq (this.1 h))]
structure GW (A:α→List Int) (N:α→Nat→α) (ok:α→Prop) (key:α→κ) (n F:Nat) (L:List α) (i:Nat) (l:List α) (mm:List (κ × Int)) (aD:List SA):Prop where
 nd:l.Nodup
 okl:∀p∈l,ok p
 ne:0<l.length
 few:l.length≤500
 rn:iU A N (F- i) i l=L
 il:i≤l.length
 am:Fe ok key mm l
 out:aD=(l.take i).map (ofL A N n L)
theorem Tt (hG:GS A N ok key n F) (hz:ok z):GW A N ok key n F (iU A N F 0 [z]) 0 [z] (bQ ([]:List (κ × Int)) (key z) 0) []:=
 ⟨by simp,fun p hp=>by rw[List.mem_singleton.1 hp];exact hz,by simp,by simp,rfl,by simp,Cy (l:= []) hG (fun p _=>by rw[if_neg (by simp)];rfl) hz (by simp),rfl⟩
structure GN (A:α→List Int) (N:α→Nat→α) (ok:α→Prop) (key:α→κ) (n:Nat) (L:List α) (i:Nat) (l:List α) (m:Nat) (l2:List α) (mm2:List (κ × Int)) (nx:List Int):Prop where
 nd:l2.Nodup
 okl:∀p∈l2,ok p
 few:l2.length≤500
 pre:l2=jS A N (ix l i) ((dQ A (ix l i)).take m) l
 am:Fe ok key mm2 l2
 nx:nx=(List.range n).map fun(a:Nat)=>if ((dQ A (ix l i)).take m).contains (a:Int) then(pxa L (N (ix l i) a):Int) else-1
variable {i m:Nat} {L l l2:List α} {mm mm2:List (κ × Int)} {aD:List SA} {nx:List Int}
theorem RD (hG:GS A N ok key n F) (h:GW A N ok key n F L i l mm aD) (hi:i<l.length):i<F:=by
 have:=hG.few l h.nd h.okl
 omega
theorem Tu (h:GW A N ok key n F L i l mm aD):GN A N ok key n L i l 0 l mm (List.replicate n (-1)):=by
 refine⟨h.nd,h.okl,h.few,rfl,h.am,?_⟩
 rw[List.take_zero]
 simp[List.map_const']
theorem Xw (h:GN A N ok key n L i l m l2 mm2 nx) (hi:i<l.length):ix l2 i=ix l i:=by
 rw[h.pre];exact sL (iJ _ _ _ _ l) hi
theorem Tv (hG:GS A N ok key n F) (h:GW A N ok key n F L i l mm aD) (hi:i<l.length):jR A N l (ix l i)<+:L:=by
 have hlt:=RD hG h hi
 have hr:=h.rn
 rw[show F- i=(F- (i+1))+1 by omega] at hr
 unfold iU at hr
 rw[if_pos hi] at hr
 rw[←hr]
 exact Cv _ _ _ _ _
theorem KQ (p:α) (ks:List Int) (m:Nat) (l:List α):jS A N p (ks.take m) l<+:jS A N p ks l:=by
 conv=>rhs;rw[←List.take_append_drop m ks]
 unfold jS
 rw[List.foldl_append]
 exact iJ A N p _ _
theorem Dv (hG:GS A N ok key n F) (hQ:GW A N ok key n F L i l mm aD) (h:GN A N ok key n L i l m l2 mm2 nx) (hi:i<l.length) {a:Nat} (ha:(dQ A (ix l i))[m]?=some (a:Int)):eS l2 (N (ix l i) a)=jS A N (ix l i) ((dQ A (ix l i)).take (m+1)) l∧eS l2 (N (ix l i) a)<+:L:=by
 obtain⟨hm,he⟩:=List.getElem?_eq_some_iff.1 ha
 have e:eS l2 (N (ix l i) a)=jS A N (ix l i) ((dQ A (ix l i)).take (m+1)) l:=by
  rw[List.take_succ_eq_append_getElem hm,he,MS,←h.pre,Int.toNat_natCast]
 refine⟨e,?_⟩
 rw[e]
 exact(KQ _ _ _ _).trans (Tv hG hQ hi)
theorem RE (h:GN A N ok key n L i l m l2 mm2 nx) {a:Nat} (ha:(dQ A (ix l i))[m]?=some (a:Int)) (han:a<n) {v:Int} (hv:v=(pxa L (N (ix l i) a):Int)):
 nx.set a v=(List.range n).map fun(b:Nat)=>if ((dQ A (ix l i)).take (m+1)).contains (b:Int) then(pxa L (N (ix l i) b):Int) else-1:=by
 obtain⟨hm,he⟩:=List.getElem?_eq_some_iff.1 ha
 have e:(dQ A (ix l i)).take (m+1)=(dQ A (ix l i)).take m++ [(a:Int)]:=by rw[List.take_succ_eq_append_getElem hm,he]
 rw[h.nx]
 refine oU han ?_ (fun y _ hne=> ?_)
 ·rw[e,if_pos (by simp),hv]
 ·rw[e]
  have:(((dQ A (ix l i)).take m++ [(a:Int)]).contains (y:Int))=((dQ A (ix l i)).take m).contains (y:Int):=by
   rw[Bool.eq_iff_iff,List.contains_iff_mem,List.contains_iff_mem,List.mem_append]
   constructor
   ·rintro(h|h)
    ·exact h
    ·simp at h;omega
   ·exact .inl
  rw[this]
theorem VS (hG:GS A N ok key n F) (hQ:GW A N ok key n F L i l mm aD) (h:GN A N ok key n L i l m l2 mm2 nx) (hi:i<l.length) {a:Nat} (hok:ok (N (ix l i) a)) (ha:(dQ A (ix l i))[m]?=some (a:Int)) (han:a<n) {k:κ} (hk:k=key (N (ix l i) a)) (hs:(bJ mm2 k).isSome=true):
 GN A N ok key n L i l (m+1) l2 mm2 (nx.set a ((bJ mm2 k).getD 0)):=by
 subst hk
 obtain⟨e1,e2⟩:=Dv hG hQ h hi ha
 have hin:N (ix l i) a∈l2:=by
  rw[h.am _ hok] at hs
  by_cases g:N (ix l i) a∈l2
  ·exact g
  ·rw[if_neg g] at hs;cases hs
 have hp:eS l2 (N (ix l i) a)=l2:=by unfold eS;rw[if_pos hin]
 rw[hp] at e1 e2
 refine⟨h.nd,h.okl,h.few,e1,h.am,RE h ha han ?_⟩
 rw[h.am _ hok,if_pos hin,sR e2 hin];rfl
theorem VT (hG:GS A N ok key n F) (hQ:GW A N ok key n F L i l mm aD) (h:GN A N ok key n L i l m l2 mm2 nx) (hi:i<l.length) {a:Nat} (hok:ok (N (ix l i) a)) (ha:(dQ A (ix l i))[m]?=some (a:Int)) (han:a<n) {k:κ} (hk:k=key (N (ix l i) a)) (hs:(bJ mm2 k).isSome=false) (h5:l2.length≠500):
 GN A N ok key n L i l (m+1) (l2++ [N (ix l i) a]) (bQ mm2 k (l2.length:Int)) (nx.set a (l2.length:Int)):=by
 subst hk
 obtain⟨e1,e2⟩:=Dv hG hQ h hi ha
 have hnin:N (ix l i) a∉l2:=fun g=>by
  rw[h.am _ hok,if_pos g] at hs;cases hs
 have hp:eS l2 (N (ix l i) a)=l2++ [N (ix l i) a]:=by unfold eS;rw[if_neg hnin]
 have hf:=h.few
 have hnd:=Dr (p:=N (ix l i) a) h.nd
 rw[hp] at e1 e2 hnd
 refine⟨hnd,fun p hp=> ?_,by simp;omega,e1,Cy hG h.am hok hnin,RE h ha han ?_⟩
 ·rcases List.mem_append.1 hp with g|g
  ·exact h.okl p g
  ·rw[List.mem_singleton.1 g];exact hok
 ·rw[sR e2 (by simp),sS hnin]
theorem Tw (hG:GS A N ok key n F) (hQ:GW A N ok key n F L i l mm aD) (h:GN A N ok key n L i l m l2 mm2 nx) (hi:i<l.length) {a:Nat} (hok:ok (N (ix l i) a)) (ha:(dQ A (ix l i))[m]?=some (a:Int)) {k:κ} (hk:k=key (N (ix l i) a)) (hs:(bJ mm2 k).isSome=false) (h5:(l2.length:Int)=500):500<L.length:=by
 subst hk
 obtain⟨e1,e2⟩:=Dv hG hQ h hi ha
 have hnin:N (ix l i) a∉l2:=fun g=>by
  rw[h.am _ hok,if_pos g] at hs;cases hs
 have hp:eS l2 (N (ix l i) a)=l2++ [N (ix l i) a]:=by unfold eS;rw[if_neg hnin]
 rw[hp] at e2
 have:=e2.length_le
 simp at this
 omega
theorem VU (hG:GS A N ok key n F) (hQ:GW A N ok key n F L i l mm aD) (h:GN A N ok key n L i l (dQ A (ix l i)).length l2 mm2 nx) (hi:i<l.length):GW A N ok key n F L (i+1) l2 mm2 (aD++ [⟨A (ix l i),nx⟩]):=by
 have hlt:=RD hG hQ hi
 have hn:=hG.n8
 have hpre:l<+:l2:=by rw[h.pre];exact iJ _ _ _ _ l
 have hr:=hQ.rn
 rw[show F- i=(F- (i+1))+1 by omega] at hr
 unfold iU at hr
 rw[if_pos hi] at hr
 have hl2:l2=jR A N l (ix l i):=by rw[h.pre,List.take_length];rfl
 have hle:=hpre.length_le
 refine⟨h.nd,h.okl,by have:=hQ.ne;omega,h.few,by rw[hl2];exact hr,O,h.am,?_⟩
 have e1:l2.take i=l.take i:=by
  obtain⟨r,rfl⟩:=hpre
  rw[List.take_append_of_le_length O]
 rw[bN O,List.map_append,e1,←hQ.out,Xw h hi]
 congr 1
 show [_]= [_]
 congr 1
 unfold ofL
 congr 1
 rw[h.nx,List.take_length]
 refine List.map_congr_left fun a ha=> ?_
 by_cases g:has (aV (A (ix l i))) (a:Int)=true
 ·rw[if_pos g,if_pos (List.contains_iff_mem.2 (show(a:Int)∈dQ A (ix l i) from dZ.2 ⟨a,rfl,by have:=List.mem_range.1 ha;omega,g⟩))]
 ·rw[if_neg g,if_neg (fun hc=>g (by
   obtain⟨b,hb,_,hh⟩:=dZ.1 (List.contains_iff_mem.1 hc)
   have:b=a:=by omega
   subst this;exact hh))]
theorem Jv (h:GW A N ok key n F L i l mm aD) (hi:l.length≤i):l=L∧aD=L.map (ofL A N n L):=by
 have hr:=h.rn
 have hil:=h.il
 have e:iU A N (F- i) i l=l:=by
  cases F- i with
  |zero=>rfl
  |succ f=>unfold iU;rw[if_neg O]
 rw[e] at hr
 refine⟨hr,?_⟩
 rw[h.out,List.take_of_length_le hi,hr]
theorem VV (h:GW A N ok key n F L i l mm aD) (hi:l.length≤i):L.length≤500:=by
 rw[←(Jv h hi).1];exact h.few
theorem VW (hG:GS A N ok key n F) (hz:ok z):sK A N ok z (iU A N F 0 [z]).length (iU A N F 0 [z]):=by
 have h0:sK A N ok z 0 [z]:=⟨by simp,by simp,rfl,fun p hp=>by rw[List.mem_singleton.1 hp];exact hz,fun j hj=>absurd hj O⟩
 exact PO hG.acts hG.few h0 (Nat.le_refl _)
theorem VX (hG:GS A N ok key n F) {L:List α} (h:sK A N ok z L.length L) (acts:List ByteArray):yH A N n z L ⟨acts,L.map (ofL A N n L)⟩:=
 Tj (fun p hp a g=>by have:=hG.hasn p hp a g;have:=hG.n8;omega) h acts
structure HW (A:α→List Int) (N:α→Nat→α) (ok:α→Prop) (z:α) (n i:Nat) (l:List α) (aD:List SA):Prop where
 nd:l.Nodup
 okl:∀p∈l,ok p
 ne:0<l.length
 hd:ix l 0=z
 il:i≤l.length
 dn:∀j,j<i→∀a∈dQ A (ix l j),N (ix l j) a.toNat∈l
 out:aD=(l.take i).map (ofL A N n l)
structure HN (A:α→List Int) (N:α→Nat→α) (ok:α→Prop) (i:Nat) (l:List α) (k:Nat) (l2:List α) (nx:List Int):Prop where
 nd:l2.Nodup
 okl:∀p∈l2,ok p
 pre:l<+:l2
 dn:∀a:Nat,a<k→has (aV (A (ix l i))) (a:Int)=true→N (ix l i) a∈l2
 nx:nx=(List.range k).map fun(a:Nat)=>if has (aV (A (ix l i))) (a:Int)=true then(pxa l2 (N (ix l i) a):Int) else-1
variable {k:Nat}
end
end GenW
end
section
namespace QuoW
open ref01 ref03 ref04 ref06 Part Rungs LeftM TrimM RoundM MergeM BisM BisM5 WitM LevM divr divs divd divf ChsM BisS TrimI QuoM FailM DivM
def k3 (p:PP):T3:=if p=bes then(1,0,0) else(0,p.1,p.2)
def VY (mm:List (T3 × Int)) (l:List PP):Prop:=∀p,bJ mm (k3 p)=if p∈l then some (pix l p:Int) else none
section
variable {t T:SS}
structure QW (t T:SS) (i:Nat) (l:List PP) (mm:List (T3 × Int)) (aD:List SA):Prop where
 nd:l.Nodup
 ok:∀p∈l,qOk t T p
 ne:0<l.length
 few:l.length≤500
 rn:iU (qA t T) (qN t T) (t.sT.length*T.sT.length+1- i) i l=qL t T
 il:i≤l.length
 am:VY mm l
 out:aD=(l.take i).map (ofL (qA t T) (qN t T) t.aC.length (qL t T))
structure QN (t T:SS) (i:Nat) (l:List PP) (m:Nat) (l2:List PP) (mm2:List (T3 × Int)) (nx:List Int):Prop where
 nd:l2.Nodup
 ok:∀p∈l2,qOk t T p
 few:l2.length≤500
 pre:l2=jS (qA t T) (qN t T) (ix l i) ((dQ (qA t T) (ix l i)).take m) l
 am:VY mm2 l2
 nx:nx=(List.range t.aC.length).map fun(a:Nat)=>if ((dQ (qA t T) (ix l i)).take m).contains (a:Int) then(pix (qL t T) (qN t T (ix l i) a):Int) else-1
variable {i m:Nat} {l l2:List PP} {mm mm2:List (T3 × Int)} {aD:List SA} {nx:List Int}
end
end QuoW
end
section
namespace RefM
open ref01 ref03 ref04 ref06 Part Rungs LeftM TrimM RoundM MergeM BisM BisM5 JudgM2 WitM LevM divr divs divd divf ChsM BisS TrimI QuoM FailM DivM QuoW
section
variable {t T:SS}
structure RW (t T:SS) (i:Nat) (l:List PP) (aD:List SA):Prop where
 nd:l.Nodup
 ok:∀p∈l,qOk t T p
 two:2≤l.length
 h0:ix l 0=(0,0)
 h1:ix l 1=bes
 il:i≤l.length
 dn:∀j,j<i→∀a∈dQ (qA t T) (ix l j),qN t T (ix l j) a.toNat∈l
 out:aD=(l.take i).map (ofL (qA t T) (qN t T) t.aC.length l)
structure RN (t T:SS) (i:Nat) (l:List PP) (k:Nat) (l2:List PP) (nx:List Int):Prop where
 nd:l2.Nodup
 ok:∀p∈l2,qOk t T p
 pre:l<+:l2
 dn:∀a:Nat,a<k→has (aV (qA t T (ix l i))) (a:Int)=true→qN t T (ix l i) a∈l2
 nx:nx=(List.range k).map fun(a:Nat)=>if has (aV (qA t T (ix l i))) (a:Int)=true then(pix l2 (qN t T (ix l i) a):Int) else-1
variable {i k:Nat} {l l2:List PP} {aD:List SA} {nx:List Int}
end
end RefM
end
section
namespace CompM
open ref01 ref03 ref04 ref06 Part Rungs LeftM TrimM RoundM MergeM BisM BisM4 BisM5 Keys WalkM WitM JudgM LevM divr divs divd dive divf divv judg ChsM BisS TrimI QuoM FailM DivM RefM GenW
def Nc (a b:List Int):List Int:=(cH 8).filter fun u=>a.any fun x=>b.any fun y=>decide (bS x y=u)
def cA (s t:SS) (p:PP):List Int:=Nc (acc s p.1.toNat) (acc t p.2.toNat)
def cN (s t:SS) (p:PP) (a:Nat):PP:=(ix (nxt s p.1.toNat) a,ix (nxt t p.2.toNat) a)
def cOk (s t:SS) (p:PP):Prop:=0≤p.1∧p.1<(s.sT.length:Int)∧0≤p.2∧p.2<(t.sT.length:Int)
def pkey (p:PP):ByteArray:=mV p.1 [p.2]
theorem qC {s:SS} (hs:oK s) {x:Nat} (hx:x<s.sT.length):∀u∈acc s x,0≤u∧u<256:=fun u hu=>by
 obtain⟨i,hi,rfl⟩:=List.getElem_of_mem hu
 have hi2:i<(ix s.sT x).aP.length:=hi
 have:=(hs.st x hx).ac i hi2
 rw[aG hi2] at this
 exact this
def cL (s t:SS):List PP:=iU (cA s t) (cN s t) (s.sT.length*t.sT.length) 0 [(0,0)]
structure Yi (s t:SS) (l:List PP) (D:SS):Prop where
 numb:yH (cA s t) (cN s t) s.aC.length (0,0) l D
 ok:∀p∈l,cOk s t p
 acts:D.aC=s.aC
def Dw (s t:SS):Prop:=ix (hOl s) 0=true∨ix (hOl t) 0=true
noncomputable instance (s t:SS):Decidable (Dw s t):=Classical.propDecidable _
structure Yy (s t D:SS):Prop where
 acts:D.aC=s.aC
 hol:Dw s t→D=nothing s.aC
 num:¬Dw s t→∃l,Yi (tR s).1 (tR t).1 l D∧l.length≤s.sT.length*t.sT.length
end CompM
end
section
namespace SevM
open ref01 ref03 ref04 ref06 Part Rungs LeftM TrimM RoundM MergeM BisM BisM2 BisM4 BisM5 Keys WalkM WitM JudgM LevM divr divs divd dive divf divv judg ChsM BisS TrimI QuoM FailM DivM RefM GenW CompM
end SevM
end
section
namespace FitM
open ref01 ref03 ref04 ref06 prog15 starts Part Rungs LeftM TrimM RoundM MergeM BisM BisM4 BisM5 BisM6 WalkM StepM WitM JudgM LevM LevM2 divr divs divd dive divg divw divv refj sysw ChsM BisS TrimI ValidM WitSat WitVal QuoM FailM DivM
structure zS (x:aA) (t s:SS) (v:Bool × aA):Prop where
 yes:v.1=true→v.2=⟨[],[]⟩∧(ix (hOl s) 0=true∨zQ x t (tR s).1)
 no:v.1=false→ix (hOl s) 0=false∧∃q i u,QF x t (tS s) q∧i<q.length∧u∈acc (tS s) (ix q i).s.toNat∧bS (bR x (ix q i).x.toNat) u∉acc t (ix q i).t.toNat∧zM (tS s) (kM (tS s) (wS q i) u) v.2
def KR (m n:aA) (t:SS) (p:T3):Prop:=bS (bR m p.1.toNat) (bR n p.2.1.toNat)∉acc t p.2.2.toNat
inductive mY (m n:aA) (t:SS):T3→Prop
 |zero:mY m n t (0,0,0)
 |step {p:T3} {d e:PP}:mY m n t p→¬KR m n t p→d∈edg m p.1.toNat→e∈edg n p.2.1.toNat→d.1=e.1→mY m n t (d.2,e.2,ix (nxt t p.2.2.toNat) d.1.toNat)
def oG (m n:aA) (t:SS):Prop:=∀p,mY m n t p→¬KR m n t p
theorem tW (u o:Int):bS u o=bS o u:=by unfold bS;rw[Nat.and_comm]
section
variable {x:aA} {t T:SS} {q:List M5} {i:Nat} {u:Int} {m:aA}
end
end FitM
end
section
namespace PartM
open ref01 ref03 ref04 ref06 prog15 starts Part Rungs LeftM TrimM RoundM MergeM BisM BisM4 BisM5 BisM6 WalkM StepM WitM JudgM JudgM2 divr divs divd dive divg divw divv refj sysw ChsM BisS TrimI ValidM WitSat WitVal FailM FitM
open QuoM (cH qA qN bes)
end PartM
end
section
namespace CompP
open ref01 ref03 ref04 ref06 prog15 starts Part Rungs LeftM TrimM RoundM MergeM BisM BisM4 BisM5 BisM6 WalkM StepM WitM JudgM JudgM2 divr divs divd dive divg divw divv refj sysw ChsM BisS TrimI ValidM WitSat WitVal FailM FitM PartM QuoM DivM RefM GenW CompM judg
open LevM (AH)
theorem Dx {D:SS} (hne:∀x,x<D.sT.length→0<(acc D x).length) {x:Nat} (hx:x<D.sT.length):ix (hOl D) x=false:=by
 cases e:ix (hOl D) x with
 |false=>rfl
 |true=>
  have hH:=(kU hx).1 e
  exfalso
  refine hH (fun _=>False) (fun y hy hc=> ?_)
  obtain⟨_,_,_,_,h⟩:=hc 0 (hne y hy)
  exact h
theorem PU {D:SS} (hD:oK D) (hne:∀x,x<D.sT.length→0<(acc D x).length) {x:Nat} (hx:x<D.sT.length):keep D x=acc D x:=by
 rw[kC (Dx hne hx)]
 refine List.filter_eq_self.2 fun u hu=> ?_
 rw[Bool.not_eq_true']
 cases hf:iP (ix D.sT x) u (hOl D) with
 |false=>rfl
 |true=>
  obtain⟨a,ha,h0,_,hv⟩:=kQ.1 hf
  have hb:=((hD.st x hx).nx a (by have:=(hD.st x hx).len;omega)).2
  rw[Dx hne O] at hv;cases hv
section
variable {S T:SS}
inductive KS (S T:SS):List Int→PP→Prop
 |nil:KS S T [] (0,0)
 |snoc {w:List Int} {p:PP} {a:Nat}:KS S T w p→has (aV (cA S T p)) (a:Int)=true→KS S T (w++ [(a:Int)]) (cN S T p a)
end
def RF (s t:SS) (w:List Int) (u:Int):Prop:=¬Dw s t∧0≤goS (tR s).1 w∧0≤goS (tR t).1 w∧∃x∈acc (tR s).1 (goS (tR s).1 w).toNat,∃y∈acc (tR t).1 (goS (tR t).1 w).toNat,bS x y=u
def Xx (m:aA) (l:List Int) (a:Int):List Int:=((List.range m.sT.length).filter fun(x:Nat)=>l.any fun y=>(edg m y.toNat).any fun e=>decide (e.1=a)&&decide (e.2=(x:Int))).map fun(x:Nat)=>(x:Int)
end CompP
end
section
namespace CrossM
open ref01 ref03 ref04 ref06 Part Rungs LeftM TrimM RoundM MergeM BisM5 QuoM CompM divr divs
def fC (l:List Int):List Int:=l.mergeSort fun x y=>decide (x≤y)
theorem yK {zs:List Int} {i:Nat} (hi:i<zs.length):zs.toArray[i]! =ix zs i:=by
 rw[aG hi,getElem!_pos _ i (by simpa using hi)];simp
theorem PV {zs:List Int} {x:Int}:x∈Lib.compact zs↔x∈zs:=by
 unfold Lib.compact Lib.compactUpTo
 rw[List.mem_map]
 constructor
 ·rintro⟨i,hi,rfl⟩
  have hi':i<zs.length:=List.mem_range.1 (List.mem_filter.1 hi).1
  rw[yK hi'];exact aO hi'
 ·intro hx
  obtain⟨i,hi,rfl⟩:=List.getElem_of_mem hx
  have key:∀i,i<zs.length→∃j,j∈(List.range zs.length).filter (Lib.keeps zs.toArray)∧ix zs j=ix zs i:=by
   intro i
   induction i with
   |zero=>intro hi;exact⟨0,List.mem_filter.2 ⟨List.mem_range.2 hi,by simp[Lib.keeps]⟩,rfl⟩
   |succ i ih=>
    intro hi
    by_cases e:ix zs (i+1)=ix zs i
    ·obtain⟨j,h1,h2⟩:=ih O
     exact⟨j,h1,h2.trans e.symm⟩
    ·refine⟨i+1,List.mem_filter.2 ⟨List.mem_range.2 hi,?_⟩,rfl⟩
     refine Lib.keeps_pos ?_
     rw[yK hi,show i+1- 1=i from rfl,yK O];exact e
  obtain⟨j,h1,h2⟩:=key i hi
  refine⟨j,h1,?_⟩
  rw[yK (List.mem_range.1 (List.mem_filter.1 h1).1),h2,aG hi]
theorem Nf {zs:List Int} (h:zs.Pairwise (· ≤ ·)):(Lib.compact zs).Pairwise (· < ·):=by
 have hs:∀i j,i≤j→j<zs.length→ix zs i≤ix zs j:=fun i j hij hj=>by
  rcases Nat.lt_or_ge i j with g|g
  ·rw[aG O,aG hj]
   exact List.pairwise_iff_getElem.1 h i j O hj g
  ·have:i=j:=by omega
   subst this;exact Int.le_refl _
 unfold Lib.compact Lib.compactUpTo
 rw[List.pairwise_map]
 refine List.Pairwise.imp_of_mem (R:=(· < ·)) (fun {i j} hi hj hij=> ?_) (List.pairwise_lt_range.filter _)
 obtain⟨hi1,_⟩:=List.mem_filter.1 hi
 obtain⟨hj1,hj2⟩:=List.mem_filter.1 hj
 have hi1:=List.mem_range.1 hi1
 have hj1:=List.mem_range.1 hj1
 have hne:ix zs j≠ix zs (j- 1):=by
  unfold Lib.keeps at hj2
  have:=of_decide_eq_true hj2
  rcases this with g|g
  ·omega
  ·rwa [yK hj1,yK O] at g
 rw[yK hi1,yK hj1]
 have h1:=hs i (j- 1) O O
 have h2:=hs (j- 1) j O hj1
 omega
theorem VZ (l:List Int):(fC l).Pairwise (· ≤ ·):=by
 have:=List.pairwise_mergeSort (le:=fun x y:Int=>decide (x≤y)) (fun a b c h1 h2=>by simp at*;omega) (fun a b=>by simp;omega) l
 exact this.imp fun h=>by simpa using h
structure Yv (a b:List Int) (k m:Nat) (out:List Int):Prop where
 rise:out.Pairwise (· < ·)
 mem:∀u,u∈out↔(∃i,i<k∧∃j,j<b.length∧bS (ix a i) (ix b j)=u)∨∃j,j<m∧bS (ix a k) (ix b j)=u
end CrossM
end
end Go.Proofs.YtnlfjojfgghchaaGreatDoor
