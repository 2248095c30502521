/- The walks of the functions and the plain laws. Own texts of this claim, packed: ZdGenW, ZdQuoW, ZdRefM, ZdCompM, ZdCrossM. -/
import Derived.Test.YtcjemmihcplgdaaGreatDoorX16
import Derived.Test.YtcjemmihcplgdaaGreatDoorX17
import Derived.Test.YtcjemmihcplgdaaGreatDoorX05
import Derived.Lib.SlicesCompact
set_option linter.all false
namespace Go.Proofs.YtcjemmihcplgdaaGreatDoor
open AL Go
set_option maxRecDepth 100000
section
namespace GenW
open ref01 ref03 ref04 ref06 Part Rungs LeftM TrimM RoundM MergeM BisM BisM5 WitM LevM divr divs divd divf ChsM BisS TrimI QuoM FailM DivM
abbrev pxa {α:Type} [DecidableEq α] (l:List α) (p:α):Nat:=l.idxOf p
theorem Bs {α:Type} [DecidableEq α] {l L:List α} (h:l<+:L) {q:α} (hq:q∈l):pxa L q=pxa l q:=by
 obtain⟨r,rfl⟩:=h
 exact Ta hq
theorem Hs {α:Type} [DecidableEq α] {l:List α} {q:α} (hq:q∉l):pxa (l++ [q]) q=l.length:=Tb hq
structure GS {α κ:Type} [DecidableEq α] (A:α→List Int) (N:α→Nat→α) (ok:α→Prop) (key:α→κ) (n F:Nat):Prop where
 inj:∀p q,ok p→ok q→key p=key q→p=q
 acts:∀p,ok p→∀a∈dN A p,ok (N p a.toNat)
 few:∀l:List α,l.Nodup→(∀p∈l,ok p)→l.length≤F
 hasn:∀p,ok p→∀a:Nat,has (aT (A p)) (a:Int)=true→a<n
 n8:n≤8
section
variable {α κ:Type} [DecidableEq α] [Inhabited α] [DecidableEq κ] {A:α→List Int} {N:α→Nat→α} {ok:α→Prop} {key:α→κ} {n F:Nat} {z:α}
def Fm (ok:α→Prop) (key:α→κ) (mm:List (κ × Int)) (l:List α):Prop:=∀p,ok p→cX mm (key p)=if p∈l then some (pxa l p:Int) else none
theorem CU (hG:GS A N ok key n F) {mm:List (κ × Int)} {l:List α} (h:Fm ok key mm l) {p:α} (hp0:ok p) (hp:p∉l):Fm ok key (dI mm (key p) (l.length:Int)) (l++ [p]):=by
 intro q hq0
 rw[xA,h q hq0]
 by_cases e:p=q
 ·subst e
  rw[if_pos rfl,if_pos (by simp),Hs hp]
 ·rw[if_neg (fun g=>e (hG.inj _ _ hp0 hq0 g))]
  have:q∈l++ [p]↔q∈l:=by
   rw[List.mem_append]
   exact⟨fun h=>h.resolve_right (fun h=>e (List.mem_singleton.1 h).symm),.inl⟩
  by_cases hq:q∈l
  ·rw[if_pos hq,if_pos (this.2 hq),Bs (List.prefix_append l [p]) hq]
  ·rw[if_neg hq,if_neg (fun h=>hq (this.1 h))]
structure GW (A:α→List Int) (N:α→Nat→α) (ok:α→Prop) (key:α→κ) (n F:Nat) (L:List α) (i:Nat) (l:List α) (mm:List (κ × Int)) (bA:List SA):Prop where
 nd:l.Nodup
 okl:∀p∈l,ok p
 ne:0<l.length
 few:l.length≤500
 rn:jT A N (F- i) i l=L
 il:i≤l.length
 am:Fm ok key mm l
 out:bA=(l.take i).map (ofL A N n L)
theorem JE (hG:GS A N ok key n F) (hz:ok z):GW A N ok key n F (jT A N F 0 [z]) 0 [z] (dI ([]:List (κ × Int)) (key z) 0) []:=
 ⟨by simp,fun p hp=>by rw[List.mem_singleton.1 hp];exact hz,by simp,by simp,rfl,by simp,CU (l:= []) hG (fun p _=>by rw[if_neg (by simp)];rfl) hz (by simp),rfl⟩
structure GN (A:α→List Int) (N:α→Nat→α) (ok:α→Prop) (key:α→κ) (n:Nat) (L:List α) (i:Nat) (l:List α) (m:Nat) (l2:List α) (mm2:List (κ × Int)) (nx:List Int):Prop where
 nd:l2.Nodup
 okl:∀p∈l2,ok p
 few:l2.length≤500
 pre:l2=lJ A N (ix l i) ((dN A (ix l i)).take m) l
 am:Fm ok key mm2 l2
 nx:nx=(List.range n).map fun(a:Nat)=>if ((dN A (ix l i)).take m).contains (a:Int) then(pxa L (N (ix l i) a):Int) else-1
variable {i m:Nat} {L l l2:List α} {mm mm2:List (κ × Int)} {bA:List SA} {nx:List Int}
theorem Ru (hG:GS A N ok key n F) (h:GW A N ok key n F L i l mm bA) (hi:i<l.length):i<F:=by
 have:=hG.few l h.nd h.okl
 omega
theorem JF (h:GW A N ok key n F L i l mm bA):GN A N ok key n L i l 0 l mm (List.replicate n (-1)):=by
 refine⟨h.nd,h.okl,h.few,rfl,h.am,?_⟩
 rw[List.take_zero]
 simp[List.map_const']
theorem KZ (h:GN A N ok key n L i l m l2 mm2 nx) (hi:i<l.length):ix l2 i=ix l i:=by
 rw[h.pre];exact Hm (gL _ _ _ _ l) hi
theorem Tc (hG:GS A N ok key n F) (h:GW A N ok key n F L i l mm bA) (hi:i<l.length):kB A N l (ix l i)<+:L:=by
 have hlt:=Ru hG h hi
 have hr:=h.rn
 rw[show F- i=(F- (i+1))+1 by omega] at hr
 unfold jT at hr
 rw[if_pos hi] at hr
 rw[←hr]
 exact CS _ _ _ _ _
theorem La (p:α) (ks:List Int) (m:Nat) (l:List α):lJ A N p (ks.take m) l<+:lJ A N p ks l:=by
 conv=>rhs;rw[←List.take_append_drop m ks]
 unfold lJ
 rw[List.foldl_append]
 exact gL A N p _ _
theorem DC (hG:GS A N ok key n F) (hQ:GW A N ok key n F L i l mm bA) (h:GN A N ok key n L i l m l2 mm2 nx) (hi:i<l.length) {a:Nat} (ha:(dN A (ix l i))[m]?=some (a:Int)):jH l2 (N (ix l i) a)=lJ A N (ix l i) ((dN A (ix l i)).take (m+1)) l∧jH l2 (N (ix l i) a)<+:L:=by
 obtain⟨hm,he⟩:=List.getElem?_eq_some_iff.1 ha
 have e:jH l2 (N (ix l i) a)=lJ A N (ix l i) ((dN A (ix l i)).take (m+1)) l:=by
  rw[List.take_succ_eq_append_getElem hm,he,Nq,←h.pre,Int.toNat_natCast]
 refine⟨e,?_⟩
 rw[e]
 exact(La _ _ _ _).trans (Tc hG hQ hi)
theorem Rv (h:GN A N ok key n L i l m l2 mm2 nx) {a:Nat} (ha:(dN A (ix l i))[m]?=some (a:Int)) (han:a<n) {v:Int} (hv:v=(pxa L (N (ix l i) a):Int)):
 nx.set a v=(List.range n).map fun(b:Nat)=>if ((dN A (ix l i)).take (m+1)).contains (b:Int) then(pxa L (N (ix l i) b):Int) else-1:=by
 obtain⟨hm,he⟩:=List.getElem?_eq_some_iff.1 ha
 have e:(dN A (ix l i)).take (m+1)=(dN A (ix l i)).take m++ [(a:Int)]:=by rw[List.take_succ_eq_append_getElem hm,he]
 rw[h.nx]
 refine mP han ?_ (fun y _ hne=> ?_)
 ·rw[e,if_pos (by simp),hv]
 ·rw[e]
  have:(((dN A (ix l i)).take m++ [(a:Int)]).contains (y:Int))=((dN A (ix l i)).take m).contains (y:Int):=by
   rw[Bool.eq_iff_iff,List.contains_iff_mem,List.contains_iff_mem,List.mem_append]
   constructor
   ·rintro(h|h)
    ·exact h
    ·simp at h;omega
   ·exact .inl
  rw[this]
theorem Nv (hG:GS A N ok key n F) (hQ:GW A N ok key n F L i l mm bA) (h:GN A N ok key n L i l m l2 mm2 nx) (hi:i<l.length) {a:Nat} (hok:ok (N (ix l i) a)) (ha:(dN A (ix l i))[m]?=some (a:Int)) (han:a<n) {k:κ} (hk:k=key (N (ix l i) a)) (hs:(cX mm2 k).isSome=true):
 GN A N ok key n L i l (m+1) l2 mm2 (nx.set a ((cX mm2 k).getD 0)):=by
 subst hk
 obtain⟨e1,e2⟩:=DC hG hQ h hi ha
 have hin:N (ix l i) a∈l2:=by
  rw[h.am _ hok] at hs
  by_cases g:N (ix l i) a∈l2
  ·exact g
  ·rw[if_neg g] at hs;cases hs
 have hp:jH l2 (N (ix l i) a)=l2:=by unfold jH;rw[if_pos hin]
 rw[hp] at e1 e2
 refine⟨h.nd,h.okl,h.few,e1,h.am,Rv h ha han ?_⟩
 rw[h.am _ hok,if_pos hin,Bs e2 hin];rfl
theorem Nw (hG:GS A N ok key n F) (hQ:GW A N ok key n F L i l mm bA) (h:GN A N ok key n L i l m l2 mm2 nx) (hi:i<l.length) {a:Nat} (hok:ok (N (ix l i) a)) (ha:(dN A (ix l i))[m]?=some (a:Int)) (han:a<n) {k:κ} (hk:k=key (N (ix l i) a)) (hs:(cX mm2 k).isSome=false) (h5:l2.length≠500):
 GN A N ok key n L i l (m+1) (l2++ [N (ix l i) a]) (dI mm2 k (l2.length:Int)) (nx.set a (l2.length:Int)):=by
 subst hk
 obtain⟨e1,e2⟩:=DC hG hQ h hi ha
 have hnin:N (ix l i) a∉l2:=fun g=>by
  rw[h.am _ hok,if_pos g] at hs;cases hs
 have hp:jH l2 (N (ix l i) a)=l2++ [N (ix l i) a]:=by unfold jH;rw[if_neg hnin]
 have hf:=h.few
 have hnd:=Jz (p:=N (ix l i) a) h.nd
 rw[hp] at e1 e2 hnd
 refine⟨hnd,fun p hp=> ?_,by simp;omega,e1,CU hG h.am hok hnin,Rv h ha han ?_⟩
 ·rcases List.mem_append.1 hp with g|g
  ·exact h.okl p g
  ·rw[List.mem_singleton.1 g];exact hok
 ·rw[Bs e2 (by simp),Hs hnin]
theorem JG (hG:GS A N ok key n F) (hQ:GW A N ok key n F L i l mm bA) (h:GN A N ok key n L i l m l2 mm2 nx) (hi:i<l.length) {a:Nat} (hok:ok (N (ix l i) a)) (ha:(dN A (ix l i))[m]?=some (a:Int)) {k:κ} (hk:k=key (N (ix l i) a)) (hs:(cX mm2 k).isSome=false) (h5:(l2.length:Int)=500):500<L.length:=by
 subst hk
 obtain⟨e1,e2⟩:=DC hG hQ h hi ha
 have hnin:N (ix l i) a∉l2:=fun g=>by
  rw[h.am _ hok,if_pos g] at hs;cases hs
 have hp:jH l2 (N (ix l i) a)=l2++ [N (ix l i) a]:=by unfold jH;rw[if_neg hnin]
 rw[hp] at e2
 have:=e2.length_le
 simp at this
 omega
theorem Nx (hG:GS A N ok key n F) (hQ:GW A N ok key n F L i l mm bA) (h:GN A N ok key n L i l (dN A (ix l i)).length l2 mm2 nx) (hi:i<l.length):GW A N ok key n F L (i+1) l2 mm2 (bA++ [⟨A (ix l i),nx⟩]):=by
 have hlt:=Ru hG hQ hi
 have hn:=hG.n8
 have hpre:l<+:l2:=by rw[h.pre];exact gL _ _ _ _ l
 have hr:=hQ.rn
 rw[show F- i=(F- (i+1))+1 by omega] at hr
 unfold jT at hr
 rw[if_pos hi] at hr
 have hl2:l2=kB A N l (ix l i):=by rw[h.pre,List.take_length];rfl
 have hle:=hpre.length_le
 refine⟨h.nd,h.okl,by have:=hQ.ne;omega,h.few,by rw[hl2];exact hr,O,h.am,?_⟩
 have e1:l2.take i=l.take i:=by
  obtain⟨r,rfl⟩:=hpre
  rw[List.take_append_of_le_length O]
 rw[bL O,List.map_append,e1,←hQ.out,KZ h hi]
 congr 1
 show [_]= [_]
 congr 1
 unfold ofL
 congr 1
 rw[h.nx,List.take_length]
 refine List.map_congr_left fun a ha=> ?_
 by_cases g:has (aT (A (ix l i))) (a:Int)=true
 ·rw[if_pos g,if_pos (List.contains_iff_mem.2 (show(a:Int)∈dN A (ix l i) from cQ.2 ⟨a,rfl,by have:=List.mem_range.1 ha;omega,g⟩))]
 ·rw[if_neg g,if_neg (fun hc=>g (by
   obtain⟨b,hb,_,hh⟩:=cQ.1 (List.contains_iff_mem.1 hc)
   have:b=a:=by omega
   subst this;exact hh))]
theorem DD (h:GW A N ok key n F L i l mm bA) (hi:l.length≤i):l=L∧bA=L.map (ofL A N n L):=by
 have hr:=h.rn
 have hil:=h.il
 have e:jT A N (F- i) i l=l:=by
  cases F- i with
  |zero=>rfl
  |succ f=>unfold jT;rw[if_neg O]
 rw[e] at hr
 refine⟨hr,?_⟩
 rw[h.out,List.take_of_length_le hi,hr]
theorem Ny (h:GW A N ok key n F L i l mm bA) (hi:l.length≤i):L.length≤500:=by
 rw[←(DD h hi).1];exact h.few
theorem Nz (hG:GS A N ok key n F) (hz:ok z):rH A N ok z (jT A N F 0 [z]).length (jT A N F 0 [z]):=by
 have h0:rH A N ok z 0 [z]:=⟨by simp,by simp,rfl,fun p hp=>by rw[List.mem_singleton.1 hp];exact hz,fun j hj=>absurd hj O⟩
 exact PS hG.acts hG.few h0 (Nat.le_refl _)
theorem NA (hG:GS A N ok key n F) {L:List α} (h:rH A N ok z L.length L) (acts:List ByteArray):pH A N n z L ⟨acts,L.map (ofL A N n L)⟩:=
 SZ (fun p hp a g=>by have:=hG.hasn p hp a g;have:=hG.n8;omega) h acts
structure HW (A:α→List Int) (N:α→Nat→α) (ok:α→Prop) (z:α) (n i:Nat) (l:List α) (bA:List SA):Prop where
 nd:l.Nodup
 okl:∀p∈l,ok p
 ne:0<l.length
 hd:ix l 0=z
 il:i≤l.length
 dn:∀j,j<i→∀a∈dN A (ix l j),N (ix l j) a.toNat∈l
 out:bA=(l.take i).map (ofL A N n l)
structure HN (A:α→List Int) (N:α→Nat→α) (ok:α→Prop) (i:Nat) (l:List α) (k:Nat) (l2:List α) (nx:List Int):Prop where
 nd:l2.Nodup
 okl:∀p∈l2,ok p
 pre:l<+:l2
 dn:∀a:Nat,a<k→has (aT (A (ix l i))) (a:Int)=true→N (ix l i) a∈l2
 nx:nx=(List.range k).map fun(a:Nat)=>if has (aT (A (ix l i))) (a:Int)=true then(pxa l2 (N (ix l i) a):Int) else-1
variable {k:Nat}
end
end GenW
end
section
namespace QuoW
open ref01 ref03 ref04 ref06 Part Rungs LeftM TrimM RoundM MergeM BisM BisM5 WitM LevM divr divs divd divf ChsM BisS TrimI QuoM FailM DivM
def k3 (p:PP):T3:=if p=bes then(1,0,0) else(0,p.1,p.2)
def Vw (mm:List (T3 × Int)) (l:List PP):Prop:=∀p,cX mm (k3 p)=if p∈l then some (pix l p:Int) else none
section
variable {t T:SS}
structure QW (t T:SS) (i:Nat) (l:List PP) (mm:List (T3 × Int)) (bA:List SA):Prop where
 nd:l.Nodup
 ok:∀p∈l,qOk t T p
 ne:0<l.length
 few:l.length≤500
 rn:jT (qA t T) (qN t T) (t.sT.length*T.sT.length+1- i) i l=qL t T
 il:i≤l.length
 am:Vw mm l
 out:bA=(l.take i).map (ofL (qA t T) (qN t T) t.aC.length (qL t T))
structure QN (t T:SS) (i:Nat) (l:List PP) (m:Nat) (l2:List PP) (mm2:List (T3 × Int)) (nx:List Int):Prop where
 nd:l2.Nodup
 ok:∀p∈l2,qOk t T p
 few:l2.length≤500
 pre:l2=lJ (qA t T) (qN t T) (ix l i) ((dN (qA t T) (ix l i)).take m) l
 am:Vw mm2 l2
 nx:nx=(List.range t.aC.length).map fun(a:Nat)=>if ((dN (qA t T) (ix l i)).take m).contains (a:Int) then(pix (qL t T) (qN t T (ix l i) a):Int) else-1
variable {i m:Nat} {l l2:List PP} {mm mm2:List (T3 × Int)} {bA:List SA} {nx:List Int}
end
end QuoW
end
section
namespace RefM
open ref01 ref03 ref04 ref06 Part Rungs LeftM TrimM RoundM MergeM BisM BisM5 JudgM2 WitM LevM divr divs divd divf ChsM BisS TrimI QuoM FailM DivM QuoW
section
variable {t T:SS}
structure RW (t T:SS) (i:Nat) (l:List PP) (bA:List SA):Prop where
 nd:l.Nodup
 ok:∀p∈l,qOk t T p
 two:2≤l.length
 h0:ix l 0=(0,0)
 h1:ix l 1=bes
 il:i≤l.length
 dn:∀j,j<i→∀a∈dN (qA t T) (ix l j),qN t T (ix l j) a.toNat∈l
 out:bA=(l.take i).map (ofL (qA t T) (qN t T) t.aC.length l)
structure RN (t T:SS) (i:Nat) (l:List PP) (k:Nat) (l2:List PP) (nx:List Int):Prop where
 nd:l2.Nodup
 ok:∀p∈l2,qOk t T p
 pre:l<+:l2
 dn:∀a:Nat,a<k→has (aT (qA t T (ix l i))) (a:Int)=true→qN t T (ix l i) a∈l2
 nx:nx=(List.range k).map fun(a:Nat)=>if has (aT (qA t T (ix l i))) (a:Int)=true then(pix l2 (qN t T (ix l i) a):Int) else-1
variable {i k:Nat} {l l2:List PP} {bA:List SA} {nx:List Int}
end
end RefM
end
section
namespace CompM
open ref01 ref03 ref04 ref06 Part Rungs LeftM TrimM RoundM MergeM BisM BisM4 BisM5 Keys WalkM WitM JudgM LevM divr divs divd dive divf divv judg ChsM BisS TrimI QuoM FailM DivM RefM GenW
def iN (a b:List Int):List Int:=(uR 8).filter fun u=>a.any fun x=>b.any fun y=>decide (bV x y=u)
theorem Td {x y:Int} (hx:0≤x∧x<256):0≤bV x y∧bV x y<256:=by
 unfold bV
 have:x.toNat&&&y.toNat≤x.toNat:=Nat.and_le_left
 omega
theorem yI {a b:List Int} (ha:∀x∈a,0≤x∧x<256) {u:Int}:u∈iN a b↔∃x∈a,∃y∈b,bV x y=u:=by
 unfold iN
 rw[List.mem_filter,List.any_eq_true]
 constructor
 ·rintro⟨_,x,hx,h⟩
  obtain⟨y,hy,h⟩:=List.any_eq_true.1 h
  exact⟨x,hx,y,hy,of_decide_eq_true h⟩
 ·rintro⟨x,hx,y,hy,rfl⟩
  refine⟨Br.2 ?_,x,hx,List.any_eq_true.2 ⟨y,hy,decide_eq_true rfl⟩⟩
  have:=Td (x:=x) (y:=y) (ha x hx)
  exact this
theorem rZ (a b:List Int):(iN a b).Pairwise (· < ·):=(Nt 8).filter _
theorem qY {a b:List Int} {u:Int} (h:u∈iN a b):0≤u∧u<256:=Br.1 (List.mem_filter.1 h).1
def cA (s t:SS) (p:PP):List Int:=iN (acc s p.1.toNat) (acc t p.2.toNat)
def cN (s t:SS) (p:PP) (a:Nat):PP:=(ix (nxt s p.1.toNat) a,ix (nxt t p.2.toNat) a)
def cOk (s t:SS) (p:PP):Prop:=0≤p.1∧p.1<(s.sT.length:Int)∧0≤p.2∧p.2<(t.sT.length:Int)
def fC (p:PP):ByteArray:=lG p.1 [p.2]
theorem oV {s:SS} (hs:oK s) {x:Nat} (hx:x<s.sT.length):∀u∈acc s x,0≤u∧u<256:=fun u hu=>by
 obtain⟨i,hi,rfl⟩:=List.getElem_of_mem hu
 have hi2:i<(ix s.sT x).aP.length:=hi
 have:=(hs.st x hx).ac i hi2
 rw[aJ hi2] at this
 exact this
theorem jP {s t:SS} (hs:oK s) {p:PP} (hp:cOk s t p) {u:Int}:u∈cA s t p↔∃x∈acc s p.1.toNat,∃y∈acc t p.2.toNat,bV x y=u:=
 yI (oV hs (by have:=hp.1;have:=hp.2.1;omega))
theorem CV {s t:SS} (hs:oK s) {p:PP} (hp:cOk s t p) {a:Nat}:has (aT (cA s t p)) (a:Int)=true↔has (aT (acc s p.1.toNat)) (a:Int)=true∧has (aT (acc t p.2.toNat)) (a:Int)=true:=by
 rw[bR,bR,bR]
 constructor
 ·rintro⟨u,hu,ha⟩
  obtain⟨x,hx,y,hy,rfl⟩:=(jP hs hp).1 hu
  rw[QuoM.pQ,Bool.and_eq_true] at ha
  exact⟨⟨x,hx,ha.1⟩,y,hy,ha.2⟩
 ·rintro⟨⟨x,hx,h1⟩,y,hy,h2⟩
  exact⟨_,(jP hs hp).2 ⟨x,hx,y,hy,rfl⟩,by rw[QuoM.pQ,h1,h2];rfl⟩
theorem nK {s t:SS} (hs:oK s) (ht:oK t) {p:PP} (hp:cOk s t p) {a:Nat} (h:has (aT (cA s t p)) (a:Int)=true):a<s.aC.length∧cOk s t (cN s t p a):=by
 obtain⟨p0,p1,p2,p3⟩:=hp
 obtain⟨h1,h2⟩:=(CV hs ⟨p0,p1,p2,p3⟩).1 h
 have g1:=jR hs (x:=p.1.toNat) O h1
 have g2:=jR ht (x:=p.2.toNat) O h2
 exact⟨g1.1,g1.2.1,g1.2.2,g2.2.1,g2.2.2⟩
theorem PT {p q:PP} (hp:0≤p.1∧0≤p.2) (hq:0≤q.1∧0≤q.2) (h:fC p=fC q):p=q:=by
 have:=Gh hp.1 hq.1 (fun x hx=>by rw[List.mem_singleton.1 hx];exact hp.2) (fun x hx=>by rw[List.mem_singleton.1 hx];exact hq.2) h
 exact Prod.ext this.1 (by simpa using this.2)
theorem Lb {s t:SS} (hs:oK s) (ht:oK t):GS (cA s t) (cN s t) (cOk s t) fC s.aC.length (s.sT.length*t.sT.length) where
 inj:=fun p q hp hq h=>PT ⟨hp.1,hp.2.2.1⟩ ⟨hq.1,hq.2.2.1⟩ h
 acts:=fun p hp a h=>by
  obtain⟨b,rfl,_,hb⟩:=cQ.1 h
  rw[Int.toNat_natCast]
  exact(nK hs ht hp hb).2
 few:=fun l hn h=>jM _ _ l hn fun p hp=>h p hp
 hasn:=fun p hp a h=>(nK hs ht hp h).1
 n8:=hs.n8
theorem Ht {s t:SS} (hs:oK s) (ht:oK t):cOk s t (0,0):=by
 have f1:=hs.few0
 have f2:=ht.few0
 exact⟨by simp,by show(0:Int)<_;omega,by simp,by show(0:Int)<_;omega⟩
def cL (s t:SS):List PP:=jT (cA s t) (cN s t) (s.sT.length*t.sT.length) 0 [(0,0)]
def bD (s t:SS):SS:=⟨s.aC,(cL s t).map (ofL (cA s t) (cN s t) s.aC.length (cL s t))⟩
theorem iZ {s t:SS} (hs:oK s) (ht:oK t):rH (cA s t) (cN s t) (cOk s t) (0,0) (cL s t).length (cL s t):=Nz (Lb hs ht) (Ht hs ht)
theorem jA {s t:SS} (hs:oK s) (ht:oK t):pH (cA s t) (cN s t) s.aC.length (0,0) (cL s t) (bD s t):=NA (Lb hs ht) (iZ hs ht) _
theorem Rw {s t:SS} (hs:oK s) (ht:oK t):(cL s t).length≤s.sT.length*t.sT.length:=(Lb hs ht).few _ (iZ hs ht).nd (iZ hs ht).ok
structure PU (s t:SS) (l:List PP) (D:SS):Prop where
 numb:pH (cA s t) (cN s t) s.aC.length (0,0) l D
 ok:∀p∈l,cOk s t p
 acts:D.aC=s.aC
theorem vI {s t:SS} (hs:oK s) (ht:oK t):PU s t (cL s t) (bD s t):=⟨jA hs ht,(iZ hs ht).ok,rfl⟩
theorem qB {s t:SS} (hs:oK s) (ht:oK t) {l:List PP} {D:SS} (h:PU s t l D) (hl:l.length≤10000):oK D:=
 JC h.numb (by rw[h.acts];exact hs.acts) (by rw[h.acts]) hl (fun p _ u hu=>qY hu) (fun p hp a g=>(nK hs ht (h.ok p hp) g).1) (fun p _=>uC (rZ _ _))
def eO (s t:SS):Prop:=ix (hOl s) 0=true∨ix (hOl t) 0=true
noncomputable instance (s t:SS):Decidable (eO s t):=Classical.propDecidable _
noncomputable def bB (s t:SS):SS × Bool:=
 if eO s t then(nothing s.aC,true)
 else if (cL (tR s).1 (tR t).1).length≤500 then((tR (bD (tR s).1 (tR t).1)).1,true) else(⟨[],[]⟩,false)
noncomputable def aA (s t:SS):SS × Int:=
 if bN s t=0 then(if (bB s t).2=true then((bB s t).1,0) else(⟨[],[]⟩,2)) else(⟨[],[]⟩,bN s t)
def Hu (s t:SS):Bool:=decide ((500:Int)<(s.sT.length:Int)*(t.sT.length:Int))
structure PV (s t D:SS):Prop where
 acts:D.aC=s.aC
 hol:eO s t→D=nothing s.aC
 num:¬eO s t→∃l,PU (tR s).1 (tR t).1 l D∧l.length≤s.sT.length*t.sT.length
theorem EG {s t:SS} (hs:oK s) (ht:oK t):(tR s).1.sT.length*(tR t).1.sT.length≤s.sT.length*t.sT.length:=Nat.mul_le_mul (nT hs) (nT ht)
theorem Te {s t D:SS} (hs:oK s) (ht:oK t) (h:PV s t D) (hz:s.sT.length*t.sT.length≤10000):oK D:=by
 by_cases e:eO s t
 ·rw[h.hol e];exact jE hs.acts
 ·obtain⟨l,h1,h2⟩:=h.num e
  exact qB (bC hs) (bC ht) h1 O
theorem Hv (l:List ByteArray):(tR (nothing l)).1=nothing l:=dK (eP l)▸rfl
theorem PW {s t D:SS} (hs:oK s) (ht:oK t) (h:PV s t D) (hz:s.sT.length*t.sT.length≤10000) (hq:(bB s t).2=true):Same (bB s t).1 D:=by
 have hD:=Te hs ht h hz
 unfold bB at hq ⊢
 by_cases e:eO s t
 ·rw[if_pos e,h.hol e]
  have hno:=jE hs.acts
  exact⟨hno,by show 1≤500;omega,rfl,Hv _,wK hno,wK hno⟩
 ·rw[if_neg e] at hq ⊢
  split at hq
  ·next g=>
   rw[if_pos g]
   obtain⟨l,h1,h2⟩:=h.num e
   have hS:=bC hs
   have hT:=bC ht
   have hok:oK (bD (tR s).1 (tR t).1):=qB hS hT (vI hS hT) O
   have ha:(bD (tR s).1 (tR t).1).aC=D.aC:=h1.acts.symm
   have hr:=PQ hok hD ha (jA hS hT) h1.numb
   have hr2:=Hh hok hD ha hr
   refine⟨bC hok,?_,by rw[dV];exact ha,qX hok,hr2.1,hr2.2⟩
   have:=nT hok
   have e2:(bD (tR s).1 (tR t).1).sT.length=(cL (tR s).1 (tR t).1).length:=by simp[bD]
   show(tR (bD (tR s).1 (tR t).1)).1.sT.length≤500
   omega
  ·cases hq
theorem kD {s t:SS} (hs:oK s) (ht:oK t) (hq:(bB s t).2=true):oK (bB s t).1:=by
 unfold bB at hq ⊢
 by_cases e:eO s t
 ·rw[if_pos e];exact jE hs.acts
 ·rw[if_neg e] at hq ⊢
  split at hq
  ·next g=>
   rw[if_pos g]
   exact bC (qB (bC hs) (bC ht) (vI (bC hs) (bC ht)) O)
  ·cases hq
theorem EH {s t:SS} (hs:oK s) (ht:oK t) (hq:(bB s t).2=false):Hu s t=true:=by
 unfold bB at hq
 by_cases e:eO s t
 ·rw[if_pos e] at hq;cases hq
 ·rw[if_neg e] at hq
  split at hq
  ·cases hq
  ·next g=>
   have h1:=Rw (bC hs) (bC ht)
   have h2:=EG hs ht
   unfold Hu
   rw[decide_eq_true_eq]
   have e2:((s.sT.length*t.sT.length:Nat):Int)=(s.sT.length:Int)*(t.sT.length:Int):=by simp
   omega
end CompM
end
section
namespace CrossM
open ref01 ref03 ref04 ref06 Part Rungs LeftM TrimM RoundM MergeM BisM5 QuoM CompM divr divs
def prods (a b:List Int):List Int:=a.flatMap fun x=>b.map (bV x)
def pI (l:List Int):List Int:=l.mergeSort fun x y=>decide (x≤y)
theorem NB {a b:List Int} {u:Int}:u∈prods a b↔∃x∈a,∃y∈b,bV x y=u:=by
 unfold prods
 rw[List.mem_flatMap]
 exact⟨fun⟨x,hx,h⟩=>⟨x,hx,List.mem_map.1 h⟩,fun⟨x,hx,h⟩=>⟨x,hx,List.mem_map.2 h⟩⟩
theorem Lc {a b:List Int} {k:Nat} (h:k<a.length):prods (a.take (k+1)) b=prods (a.take k) b++b.map (bV (ix a k)):=by
 unfold prods
 rw[bL h,List.flatMap_append];simp
theorem NC (a b:List Int):(prods a b).length=a.length*b.length:=by
 unfold prods
 induction a with
 |nil=>simp
 |cons x a ih=>simp[ih,Nat.add_mul,Nat.add_comm]
theorem yJ {zs:List Int} {i:Nat} (hi:i<zs.length):zs.toArray[i]! =ix zs i:=by
 rw[aJ hi,getElem!_pos _ i (by simpa using hi)];simp
theorem Hw {zs:List Int} {x:Int}:x∈Lib.compact zs↔x∈zs:=by
 unfold Lib.compact Lib.compactUpTo
 rw[List.mem_map]
 constructor
 ·rintro⟨i,hi,rfl⟩
  have hi':i<zs.length:=List.mem_range.1 (List.mem_filter.1 hi).1
  rw[yJ hi'];exact aZ hi'
 ·intro hx
  obtain⟨i,hi,rfl⟩:=List.getElem_of_mem hx
  have key:∀i,i<zs.length→∃j,j∈(List.range zs.length).filter (Lib.keeps zs.toArray)∧ix zs j=ix zs i:=by
   intro i
   induction i with
   |zero=>intro hi;exact⟨0,List.mem_filter.2 ⟨List.mem_range.2 hi,by simp[Lib.keeps]⟩,rfl⟩
   |succ i ih=>
    intro hi
    by_cases e:ix zs (i+1)=ix zs i
    ·obtain⟨j,h1,h2⟩:=ih O
     exact⟨j,h1,h2.trans e.symm⟩
    ·refine⟨i+1,List.mem_filter.2 ⟨List.mem_range.2 hi,?_⟩,rfl⟩
     refine Lib.keeps_pos ?_
     rw[yJ hi,show i+1- 1=i from rfl,yJ O];exact e
  obtain⟨j,h1,h2⟩:=key i hi
  refine⟨j,h1,?_⟩
  rw[yJ (List.mem_range.1 (List.mem_filter.1 h1).1),h2,aJ hi]
theorem EI {zs:List Int} (h:zs.Pairwise (· ≤ ·)):(Lib.compact zs).Pairwise (· < ·):=by
 have hs:∀i j,i≤j→j<zs.length→ix zs i≤ix zs j:=fun i j hij hj=>by
  rcases Nat.lt_or_ge i j with g|g
  ·rw[aJ O,aJ hj]
   exact List.pairwise_iff_getElem.1 h i j O hj g
  ·have:i=j:=by omega
   subst this;exact Int.le_refl _
 unfold Lib.compact Lib.compactUpTo
 rw[List.pairwise_map]
 refine List.Pairwise.imp_of_mem (R:=(· < ·)) (fun {i j} hi hj hij=> ?_) (List.pairwise_lt_range.filter _)
 obtain⟨hi1,_⟩:=List.mem_filter.1 hi
 obtain⟨hj1,hj2⟩:=List.mem_filter.1 hj
 have hi1:=List.mem_range.1 hi1
 have hj1:=List.mem_range.1 hj1
 have hne:ix zs j≠ix zs (j- 1):=by
  unfold Lib.keeps at hj2
  have:=of_decide_eq_true hj2
  rcases this with g|g
  ·omega
  ·rwa [yJ hj1,yJ O] at g
 rw[yJ hi1,yJ hj1]
 have h1:=hs i (j- 1) O O
 have h2:=hs (j- 1) j O hj1
 omega
theorem ND (l:List Int):(pI l).Pairwise (· ≤ ·):=by
 have:=List.pairwise_mergeSort (le:=fun x y:Int=>decide (x≤y)) (fun a b c h1 h2=>by simp at*;omega) (fun a b=>by simp;omega) l
 exact this.imp fun h=>by simpa using h
theorem Hy {a b:List Int} (ha:∀x∈a,0≤x∧x<256):Lib.compact (pI (prods a b))=iN a b:=
 xW (EI (ND _)) (rZ a b) fun u=>by
  rw[Hw,yI ha]
  unfold pI
  rw[List.mem_mergeSort,NB]
theorem Vx {a:List Int} (h:∀k,k<a.length→0≤ix a k∧ix a k<256):∀x∈a,0≤x∧x<256:=fun x hx=>by
 obtain⟨i,hi,rfl⟩:=List.getElem_of_mem hx
 have:=h i hi
 rwa [aJ hi] at this
theorem PX {l:List Int} (h:l.Pairwise (· < ·)) (hb:∀x∈l,0≤x∧x<256):l.length≤256:=by
 have hn:l.Nodup:=h.imp fun h e=>by omega
 have:=List.Nodup.length_le_of_subset hn (l₂:=uR 8) (fun x hx=>Br.2 (hb x hx))
 simpa [uR] using this
theorem EJ (a b:List Int):(iN a b).length≤256:=PX (rZ a b) fun x hx=>qY hx
structure XI (a b:List Int) (k m:Nat) (out:List Int):Prop where
 rise:out.Pairwise (· < ·)
 mem:∀u,u∈out↔(∃i,i<k∧∃j,j<b.length∧bV (ix a i) (ix b j)=u)∨∃j,j<m∧bV (ix a k) (ix b j)=u
end CrossM
end
end Go.Proofs.YtcjemmihcplgdaaGreatDoor
