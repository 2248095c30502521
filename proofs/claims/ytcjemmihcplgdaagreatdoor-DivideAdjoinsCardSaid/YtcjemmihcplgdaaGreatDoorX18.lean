/- The walks of the functions and the plain laws. Own texts of this claim, packed: ZdGenW, ZdQuoW, ZdRefM, ZdCompM, ZdCrossM. -/
import Derived.Test.YtcjemmihcplgdaaGreatDoorX16
import Derived.Test.YtcjemmihcplgdaaGreatDoorX17
import Derived.Test.YtcjemmihcplgdaaGreatDoorX05
import Derived.Lib.SlicesCompact
set_option linter.all false
namespace Go.Proofs.YtcjemmihcplgdaaGreatDoor
open AL Go
set_option maxRecDepth 100000
section
namespace GenW
open ref01 ref03 ref04 ref06 Part Rungs LeftM TrimM RoundM MergeM BisM BisM5 WitM LevM divr divs divd divf ChsM BisS TrimI QuoM FailM DivM
abbrev pxa {α:Type} [DecidableEq α] (l:List α) (p:α):Nat:=l.idxOf p
theorem idx_preG {α:Type} [DecidableEq α] {l L:List α} (h:l<+:L) {q:α} (hq:q∈l):pxa L q=pxa l q:=by
 obtain⟨r,rfl⟩:=h
 exact idx_app hq
theorem pxa_last {α:Type} [DecidableEq α] {l:List α} {q:α} (hq:q∉l):pxa (l++ [q]) q=l.length:=idx_end hq
structure GS {α κ:Type} [DecidableEq α] (A:α→List Int) (N:α→Nat→α) (ok:α→Prop) (key:α→κ) (n F:Nat):Prop where
 inj:∀p q,ok p→ok q→key p=key q→p=q
 acts:∀p,ok p→∀a∈actsL A p,ok (N p a.toNat)
 few:∀l:List α,l.Nodup→(∀p∈l,ok p)→l.length≤F
 hasn:∀p,ok p→∀a:Nat,has (orAll (A p)) (a:Int)=true→a<n
 n8:n≤8
section
variable {α κ:Type} [DecidableEq α] [Inhabited α] [DecidableEq κ] {A:α→List Int} {N:α→Nat→α} {ok:α→Prop} {key:α→κ} {n F:Nat} {z:α}
def amapG (ok:α→Prop) (key:α→κ) (mm:List (κ × Int)) (l:List α):Prop:=∀p,ok p→mget mm (key p)=if p∈l then some (pxa l p:Int) else none
theorem amapG_push (hG:GS A N ok key n F) {mm:List (κ × Int)} {l:List α} (h:amapG ok key mm l) {p:α} (hp0:ok p) (hp:p∉l):amapG ok key (mset mm (key p) (l.length:Int)) (l++ [p]):=by
 intro q hq0
 rw[mget_mset,h q hq0]
 by_cases e:p=q
 ·subst e
  rw[if_pos rfl,if_pos (by simp),pxa_last hp]
 ·rw[if_neg (fun g=>e (hG.inj _ _ hp0 hq0 g))]
  have:q∈l++ [p]↔q∈l:=by
   rw[List.mem_append]
   exact⟨fun h=>h.resolve_right (fun h=>e (List.mem_singleton.1 h).symm),.inl⟩
  by_cases hq:q∈l
  ·rw[if_pos hq,if_pos (this.2 hq),idx_preG (List.prefix_append l [p]) hq]
  ·rw[if_neg hq,if_neg (fun h=>hq (this.1 h))]
structure GW (A:α→List Int) (N:α→Nat→α) (ok:α→Prop) (key:α→κ) (n F:Nat) (L:List α) (i:Nat) (l:List α) (mm:List (κ × Int)) (outs:List SA):Prop where
 nd:l.Nodup
 okl:∀p∈l,ok p
 ne:0<l.length
 few:l.length≤500
 rn:runL A N (F- i) i l=L
 il:i≤l.length
 am:amapG ok key mm l
 out:outs=(l.take i).map (ofL A N n L)
theorem gw_zero (hG:GS A N ok key n F) (hz:ok z):GW A N ok key n F (runL A N F 0 [z]) 0 [z] (mset ([]:List (κ × Int)) (key z) 0) []:=
 ⟨by simp,fun p hp=>by rw[List.mem_singleton.1 hp];exact hz,by simp,by simp,rfl,by simp,amapG_push (l:= []) hG (fun p _=>by rw[if_neg (by simp)];rfl) hz (by simp),rfl⟩
structure GN (A:α→List Int) (N:α→Nat→α) (ok:α→Prop) (key:α→κ) (n:Nat) (L:List α) (i:Nat) (l:List α) (m:Nat) (l2:List α) (mm2:List (κ × Int)) (nx:List Int):Prop where
 nd:l2.Nodup
 okl:∀p∈l2,ok p
 few:l2.length≤500
 pre:l2=outsL A N (ix l i) ((actsL A (ix l i)).take m) l
 am:amapG ok key mm2 l2
 nx:nx=(List.range n).map fun(a:Nat)=>if ((actsL A (ix l i)).take m).contains (a:Int) then(pxa L (N (ix l i) a):Int) else-1
variable {i m:Nat} {L l l2:List α} {mm mm2:List (κ × Int)} {outs:List SA} {nx:List Int}
theorem gw_lt (hG:GS A N ok key n F) (h:GW A N ok key n F L i l mm outs) (hi:i<l.length):i<F:=by
 have:=hG.few l h.nd h.okl
 omega
theorem gn_zero (h:GW A N ok key n F L i l mm outs):GN A N ok key n L i l 0 l mm (List.replicate n (-1)):=by
 refine⟨h.nd,h.okl,h.few,rfl,h.am,?_⟩
 rw[List.take_zero]
 simp[List.map_const']
theorem gn_ix (h:GN A N ok key n L i l m l2 mm2 nx) (hi:i<l.length):ix l2 i=ix l i:=by
 rw[h.pre];exact ix_pre (outs_prefix _ _ _ _ l) hi
theorem gw_step (hG:GS A N ok key n F) (h:GW A N ok key n F L i l mm outs) (hi:i<l.length):stepL A N l (ix l i)<+:L:=by
 have hlt:=gw_lt hG h hi
 have hr:=h.rn
 rw[show F- i=(F- (i+1))+1 by omega] at hr
 unfold runL at hr
 rw[if_pos hi] at hr
 rw[←hr]
 exact run_prefix _ _ _ _ _
theorem outs_takeG (p:α) (ks:List Int) (m:Nat) (l:List α):outsL A N p (ks.take m) l<+:outsL A N p ks l:=by
 conv=>rhs;rw[←List.take_append_drop m ks]
 unfold outsL
 rw[List.foldl_append]
 exact outs_prefix A N p _ _
theorem gn_next (hG:GS A N ok key n F) (hQ:GW A N ok key n F L i l mm outs) (h:GN A N ok key n L i l m l2 mm2 nx) (hi:i<l.length) {a:Nat} (ha:(actsL A (ix l i))[m]?=some (a:Int)):pushL l2 (N (ix l i) a)=outsL A N (ix l i) ((actsL A (ix l i)).take (m+1)) l∧pushL l2 (N (ix l i) a)<+:L:=by
 obtain⟨hm,he⟩:=List.getElem?_eq_some_iff.1 ha
 have e:pushL l2 (N (ix l i) a)=outsL A N (ix l i) ((actsL A (ix l i)).take (m+1)) l:=by
  rw[List.take_succ_eq_append_getElem hm,he,outs_snoc,←h.pre,Int.toNat_natCast]
 refine⟨e,?_⟩
 rw[e]
 exact(outs_takeG _ _ _ _).trans (gw_step hG hQ hi)
theorem gn_nx (h:GN A N ok key n L i l m l2 mm2 nx) {a:Nat} (ha:(actsL A (ix l i))[m]?=some (a:Int)) (han:a<n) {v:Int} (hv:v=(pxa L (N (ix l i) a):Int)):
 nx.set a v=(List.range n).map fun(b:Nat)=>if ((actsL A (ix l i)).take (m+1)).contains (b:Int) then(pxa L (N (ix l i) b):Int) else-1:=by
 obtain⟨hm,he⟩:=List.getElem?_eq_some_iff.1 ha
 have e:(actsL A (ix l i)).take (m+1)=(actsL A (ix l i)).take m++ [(a:Int)]:=by rw[List.take_succ_eq_append_getElem hm,he]
 rw[h.nx]
 refine map_upd han ?_ (fun y _ hne=> ?_)
 ·rw[e,if_pos (by simp),hv]
 ·rw[e]
  have:(((actsL A (ix l i)).take m++ [(a:Int)]).contains (y:Int))=((actsL A (ix l i)).take m).contains (y:Int):=by
   rw[Bool.eq_iff_iff,List.contains_iff_mem,List.contains_iff_mem,List.mem_append]
   constructor
   ·rintro(h|h)
    ·exact h
    ·simp at h;omega
   ·exact .inl
  rw[this]
theorem gn_old (hG:GS A N ok key n F) (hQ:GW A N ok key n F L i l mm outs) (h:GN A N ok key n L i l m l2 mm2 nx) (hi:i<l.length) {a:Nat} (hok:ok (N (ix l i) a)) (ha:(actsL A (ix l i))[m]?=some (a:Int)) (han:a<n) {k:κ} (hk:k=key (N (ix l i) a)) (hs:(mget mm2 k).isSome=true):
 GN A N ok key n L i l (m+1) l2 mm2 (nx.set a ((mget mm2 k).getD 0)):=by
 subst hk
 obtain⟨e1,e2⟩:=gn_next hG hQ h hi ha
 have hin:N (ix l i) a∈l2:=by
  rw[h.am _ hok] at hs
  by_cases g:N (ix l i) a∈l2
  ·exact g
  ·rw[if_neg g] at hs;cases hs
 have hp:pushL l2 (N (ix l i) a)=l2:=by unfold pushL;rw[if_pos hin]
 rw[hp] at e1 e2
 refine⟨h.nd,h.okl,h.few,e1,h.am,gn_nx h ha han ?_⟩
 rw[h.am _ hok,if_pos hin,idx_preG e2 hin];rfl
theorem gn_new (hG:GS A N ok key n F) (hQ:GW A N ok key n F L i l mm outs) (h:GN A N ok key n L i l m l2 mm2 nx) (hi:i<l.length) {a:Nat} (hok:ok (N (ix l i) a)) (ha:(actsL A (ix l i))[m]?=some (a:Int)) (han:a<n) {k:κ} (hk:k=key (N (ix l i) a)) (hs:(mget mm2 k).isSome=false) (h5:l2.length≠500):
 GN A N ok key n L i l (m+1) (l2++ [N (ix l i) a]) (mset mm2 k (l2.length:Int)) (nx.set a (l2.length:Int)):=by
 subst hk
 obtain⟨e1,e2⟩:=gn_next hG hQ h hi ha
 have hnin:N (ix l i) a∉l2:=fun g=>by
  rw[h.am _ hok,if_pos g] at hs;cases hs
 have hp:pushL l2 (N (ix l i) a)=l2++ [N (ix l i) a]:=by unfold pushL;rw[if_neg hnin]
 have hf:=h.few
 have hnd:=push_nd (p:=N (ix l i) a) h.nd
 rw[hp] at e1 e2 hnd
 refine⟨hnd,fun p hp=> ?_,by simp;omega,e1,amapG_push hG h.am hok hnin,gn_nx h ha han ?_⟩
 ·rcases List.mem_append.1 hp with g|g
  ·exact h.okl p g
  ·rw[List.mem_singleton.1 g];exact hok
 ·rw[idx_preG e2 (by simp),pxa_last hnin]
theorem gn_fail (hG:GS A N ok key n F) (hQ:GW A N ok key n F L i l mm outs) (h:GN A N ok key n L i l m l2 mm2 nx) (hi:i<l.length) {a:Nat} (hok:ok (N (ix l i) a)) (ha:(actsL A (ix l i))[m]?=some (a:Int)) {k:κ} (hk:k=key (N (ix l i) a)) (hs:(mget mm2 k).isSome=false) (h5:(l2.length:Int)=500):500<L.length:=by
 subst hk
 obtain⟨e1,e2⟩:=gn_next hG hQ h hi ha
 have hnin:N (ix l i) a∉l2:=fun g=>by
  rw[h.am _ hok,if_pos g] at hs;cases hs
 have hp:pushL l2 (N (ix l i) a)=l2++ [N (ix l i) a]:=by unfold pushL;rw[if_neg hnin]
 rw[hp] at e2
 have:=e2.length_le
 simp at this
 omega
theorem gn_end (hG:GS A N ok key n F) (hQ:GW A N ok key n F L i l mm outs) (h:GN A N ok key n L i l (actsL A (ix l i)).length l2 mm2 nx) (hi:i<l.length):GW A N ok key n F L (i+1) l2 mm2 (outs++ [⟨A (ix l i),nx⟩]):=by
 have hlt:=gw_lt hG hQ hi
 have hn:=hG.n8
 have hpre:l<+:l2:=by rw[h.pre];exact outs_prefix _ _ _ _ l
 have hr:=hQ.rn
 rw[show F- i=(F- (i+1))+1 by omega] at hr
 unfold runL at hr
 rw[if_pos hi] at hr
 have hl2:l2=stepL A N l (ix l i):=by rw[h.pre,List.take_length];rfl
 have hle:=hpre.length_le
 refine⟨h.nd,h.okl,by have:=hQ.ne;omega,h.few,by rw[hl2];exact hr,O,h.am,?_⟩
 have e1:l2.take i=l.take i:=by
  obtain⟨r,rfl⟩:=hpre
  rw[List.take_append_of_le_length O]
 rw[take_s O,List.map_append,e1,←hQ.out,gn_ix h hi]
 congr 1
 show [_]= [_]
 congr 1
 unfold ofL
 congr 1
 rw[h.nx,List.take_length]
 refine List.map_congr_left fun a ha=> ?_
 by_cases g:has (orAll (A (ix l i))) (a:Int)=true
 ·rw[if_pos g,if_pos (List.contains_iff_mem.2 (show(a:Int)∈actsL A (ix l i) from listOf_mem.2 ⟨a,rfl,by have:=List.mem_range.1 ha;omega,g⟩))]
 ·rw[if_neg g,if_neg (fun hc=>g (by
   obtain⟨b,hb,_,hh⟩:=listOf_mem.1 (List.contains_iff_mem.1 hc)
   have:b=a:=by omega
   subst this;exact hh))]
theorem gw_done (h:GW A N ok key n F L i l mm outs) (hi:l.length≤i):l=L∧outs=L.map (ofL A N n L):=by
 have hr:=h.rn
 have hil:=h.il
 have e:runL A N (F- i) i l=l:=by
  cases F- i with
  |zero=>rfl
  |succ f=>unfold runL;rw[if_neg O]
 rw[e] at hr
 refine⟨hr,?_⟩
 rw[h.out,List.take_of_length_le hi,hr]
theorem gw_few (h:GW A N ok key n F L i l mm outs) (hi:l.length≤i):L.length≤500:=by
 rw[←(gw_done h hi).1];exact h.few
theorem walk_G (hG:GS A N ok key n F) (hz:ok z):Walk A N ok z (runL A N F 0 [z]).length (runL A N F 0 [z]):=by
 have h0:Walk A N ok z 0 [z]:=⟨by simp,by simp,rfl,fun p hp=>by rw[List.mem_singleton.1 hp];exact hz,fun j hj=>absurd hj O⟩
 exact walk_end hG.acts hG.few h0 (Nat.le_refl _)
theorem numb_G (hG:GS A N ok key n F) {L:List α} (h:Walk A N ok z L.length L) (acts:List ByteArray):Numb A N n z L ⟨acts,L.map (ofL A N n L)⟩:=
 numb_of (fun p hp a g=>by have:=hG.hasn p hp a g;have:=hG.n8;omega) h acts
structure HW (A:α→List Int) (N:α→Nat→α) (ok:α→Prop) (z:α) (n i:Nat) (l:List α) (outs:List SA):Prop where
 nd:l.Nodup
 okl:∀p∈l,ok p
 ne:0<l.length
 hd:ix l 0=z
 il:i≤l.length
 dn:∀j,j<i→∀a∈actsL A (ix l j),N (ix l j) a.toNat∈l
 out:outs=(l.take i).map (ofL A N n l)
structure HN (A:α→List Int) (N:α→Nat→α) (ok:α→Prop) (i:Nat) (l:List α) (k:Nat) (l2:List α) (nx:List Int):Prop where
 nd:l2.Nodup
 okl:∀p∈l2,ok p
 pre:l<+:l2
 dn:∀a:Nat,a<k→has (orAll (A (ix l i))) (a:Int)=true→N (ix l i) a∈l2
 nx:nx=(List.range k).map fun(a:Nat)=>if has (orAll (A (ix l i))) (a:Int)=true then(pxa l2 (N (ix l i) a):Int) else-1
variable {k:Nat}
end
end GenW
end
section
namespace QuoW
open ref01 ref03 ref04 ref06 Part Rungs LeftM TrimM RoundM MergeM BisM BisM5 WitM LevM divr divs divd divf ChsM BisS TrimI QuoM FailM DivM
def k3 (p:PP):T3:=if p=bes then(1,0,0) else(0,p.1,p.2)
def spotE:PP→List AV:=fun p=> [int (k3 p).1,int (k3 p).2.1,int (k3 p).2.2]
instance (p:PP):OneAll (spotE p):=inferInstanceAs (OneAll [int (k3 p).1,int (k3 p).2.1,int (k3 p).2.2])
theorem k3_bes:k3 bes=(1,0,0):=by unfold k3;rw[if_pos rfl]
theorem k3_at {p:PP} (h:p≠bes):k3 p=(0,p.1,p.2):=by unfold k3;rw[if_neg h]
theorem k3_ne {p:PP} (h:(k3 p).1=0):p≠bes:=fun e=>by rw[e,k3_bes] at h;cases h
theorem k3_eq {p:PP} (h:¬(k3 p).1=0):p=bes:=Classical.byContradiction fun e=>h (by rw[k3_at e])
theorem k3_inj {p q:PP} (h:k3 p=k3 q):p=q:=by
 by_cases h1:p=bes
 ·by_cases h2:q=bes
  ·rw[h1,h2]
  ·rw[h1,k3_bes,k3_at h2] at h
   have:=congrArg Prod.fst h
   cases this
 ·by_cases h2:q=bes
  ·rw[h2,k3_bes,k3_at h1] at h
   have:=congrArg Prod.fst h
   cases this
  ·rw[k3_at h1,k3_at h2] at h
   have h3:=congrArg Prod.snd h
   exact h3
def amap (mm:List (T3 × Int)) (l:List PP):Prop:=∀p,mget mm (k3 p)=if p∈l then some (pix l p:Int) else none
theorem idx_pre {l L:List PP} (h:l<+:L) {q:PP} (hq:q∈l):pix L q=pix l q:=by
 obtain⟨r,rfl⟩:=h
 exact idx_app hq
theorem idx_last {l:List PP} {q:PP} (hq:q∉l):pix (l++ [q]) q=l.length:=idx_end hq
theorem amap_push {mm:List (T3 × Int)} {l:List PP} (h:amap mm l) {p:PP} (hp:p∉l):amap (mset mm (k3 p) (l.length:Int)) (l++ [p]):=by
 intro q
 rw[mget_mset,h q]
 by_cases e:p=q
 ·subst e
  rw[if_pos rfl,if_pos (by simp),idx_last hp]
 ·rw[if_neg (fun g=>e (k3_inj g))]
  have:q∈l++ [p]↔q∈l:=by
   rw[List.mem_append]
   exact⟨fun h=>h.resolve_right (fun h=>e (List.mem_singleton.1 h).symm),.inl⟩
  by_cases hq:q∈l
  ·rw[if_pos hq,if_pos (this.2 hq),idx_pre (List.prefix_append l [p]) hq]
  ·rw[if_neg hq,if_neg (fun h=>hq (this.1 h))]
theorem amap_zero:amap (mset ([]:List (T3 × Int)) (0,0,0) 0) [(0,0)]:=amap_push (l:= []) (p:=(0,0)) (fun p=>by rw[if_neg (by simp)];rfl) (by simp)
section
variable {t T:SS}
structure QW (t T:SS) (i:Nat) (l:List PP) (mm:List (T3 × Int)) (outs:List SA):Prop where
 nd:l.Nodup
 ok:∀p∈l,qOk t T p
 ne:0<l.length
 few:l.length≤500
 rn:runL (qA t T) (qN t T) (t.sT.length*T.sT.length+1- i) i l=qL t T
 il:i≤l.length
 am:amap mm l
 out:outs=(l.take i).map (ofL (qA t T) (qN t T) t.aC.length (qL t T))
theorem qw_zero (ht:oK t) (hT:oK T):QW t T 0 [(0,0)] (mset ([]:List (T3 × Int)) (0,0,0) 0) []:=by
 have h:=q_zero ht hT
 exact⟨h.nd,h.ok,h.ne,by simp,rfl,by simp,amap_zero,rfl⟩
structure QN (t T:SS) (i:Nat) (l:List PP) (m:Nat) (l2:List PP) (mm2:List (T3 × Int)) (nx:List Int):Prop where
 nd:l2.Nodup
 ok:∀p∈l2,qOk t T p
 few:l2.length≤500
 pre:l2=outsL (qA t T) (qN t T) (ix l i) ((actsL (qA t T) (ix l i)).take m) l
 am:amap mm2 l2
 nx:nx=(List.range t.aC.length).map fun(a:Nat)=>if ((actsL (qA t T) (ix l i)).take m).contains (a:Int) then(pix (qL t T) (qN t T (ix l i) a):Int) else-1
variable {i m:Nat} {l l2:List PP} {mm mm2:List (T3 × Int)} {outs:List SA} {nx:List Int}
theorem qw_lt (h:QW t T i l mm outs) (hi:i<l.length):i<t.sT.length*T.sT.length+1:=by
 have:=q_few l h.nd h.ok
 omega
theorem qn_zero (h:QW t T i l mm outs):QN t T i l 0 l mm (List.replicate t.aC.length (-1)):=by
 refine⟨h.nd,h.ok,h.few,rfl,h.am,?_⟩
 rw[List.take_zero]
 simp[List.map_const']
theorem qn_ix (h:QN t T i l m l2 mm2 nx) (hi:i<l.length):ix l2 i=ix l i:=by
 rw[h.pre];exact ix_pre (outs_prefix _ _ _ _ l) hi
theorem qw_step (h:QW t T i l mm outs) (hi:i<l.length):stepL (qA t T) (qN t T) l (ix l i)<+:qL t T:=by
 have hlt:=qw_lt h hi
 have hr:=h.rn
 rw[show t.sT.length*T.sT.length+1- i=(t.sT.length*T.sT.length+1- (i+1))+1 by omega] at hr
 unfold runL at hr
 rw[if_pos hi] at hr
 rw[←hr]
 exact run_prefix _ _ _ _ _
theorem outs_take (p:PP) (ks:List Int) (m:Nat) (l:List PP):outsL (qA t T) (qN t T) p (ks.take m) l<+:outsL (qA t T) (qN t T) p ks l:=by
 conv=>rhs;rw[←List.take_append_drop m ks]
 unfold outsL
 rw[List.foldl_append]
 exact outs_prefix (qA t T) (qN t T) p _ _
theorem qn_next (hQ:QW t T i l mm outs) (h:QN t T i l m l2 mm2 nx) (hi:i<l.length) {a:Nat} (ha:(actsL (qA t T) (ix l i))[m]?=some (a:Int)):pushL l2 (qN t T (ix l i) a)=outsL (qA t T) (qN t T) (ix l i) ((actsL (qA t T) (ix l i)).take (m+1)) l∧pushL l2 (qN t T (ix l i) a)<+:qL t T:=by
 obtain⟨hm,he⟩:=List.getElem?_eq_some_iff.1 ha
 have e:pushL l2 (qN t T (ix l i) a)=outsL (qA t T) (qN t T) (ix l i) ((actsL (qA t T) (ix l i)).take (m+1)) l:=by
  rw[List.take_succ_eq_append_getElem hm,he,outs_snoc,←h.pre,Int.toNat_natCast]
 refine⟨e,?_⟩
 rw[e]
 exact(outs_take _ _ _ _).trans (qw_step hQ hi)
theorem qn_nx (h:QN t T i l m l2 mm2 nx) {a:Nat} (ha:(actsL (qA t T) (ix l i))[m]?=some (a:Int)) (han:a<t.aC.length) {v:Int} (hv:v=(pix (qL t T) (qN t T (ix l i) a):Int)):
 nx.set a v=(List.range t.aC.length).map fun(b:Nat)=>if ((actsL (qA t T) (ix l i)).take (m+1)).contains (b:Int) then(pix (qL t T) (qN t T (ix l i) b):Int) else-1:=by
 obtain⟨hm,he⟩:=List.getElem?_eq_some_iff.1 ha
 have e:(actsL (qA t T) (ix l i)).take (m+1)=(actsL (qA t T) (ix l i)).take m++ [(a:Int)]:=by rw[List.take_succ_eq_append_getElem hm,he]
 rw[h.nx]
 refine map_upd han ?_ (fun y _ hne=> ?_)
 ·rw[e,if_pos (by simp),hv]
 ·rw[e]
  have:(((actsL (qA t T) (ix l i)).take m++ [(a:Int)]).contains (y:Int))=((actsL (qA t T) (ix l i)).take m).contains (y:Int):=by
   rw[Bool.eq_iff_iff,List.contains_iff_mem,List.contains_iff_mem,List.mem_append]
   constructor
   ·rintro(h|h)
    ·exact h
    ·simp at h;omega
   ·exact .inl
  rw[this]
theorem qn_old (hQ:QW t T i l mm outs) (h:QN t T i l m l2 mm2 nx) (hi:i<l.length) {a:Nat} (ha:(actsL (qA t T) (ix l i))[m]?=some (a:Int)) (han:a<t.aC.length) {k:T3} (hk:k=k3 (qN t T (ix l i) a)) (hs:(mget mm2 k).isSome=true):
 QN t T i l (m+1) l2 mm2 (nx.set a ((mget mm2 k).getD 0)):=by
 subst hk
 obtain⟨e1,e2⟩:=qn_next hQ h hi ha
 have hin:qN t T (ix l i) a∈l2:=by
  rw[h.am] at hs
  by_cases g:qN t T (ix l i) a∈l2
  ·exact g
  ·rw[if_neg g] at hs;cases hs
 have hp:pushL l2 (qN t T (ix l i) a)=l2:=by unfold pushL;rw[if_pos hin]
 rw[hp] at e1 e2
 refine⟨h.nd,h.ok,h.few,e1,h.am,qn_nx h ha han ?_⟩
 rw[h.am,if_pos hin,idx_pre e2 hin];rfl
theorem qn_new (hQ:QW t T i l mm outs) (h:QN t T i l m l2 mm2 nx) (hi:i<l.length) {a:Nat} (hok:qOk t T (qN t T (ix l i) a)) (ha:(actsL (qA t T) (ix l i))[m]?=some (a:Int)) (han:a<t.aC.length) {k:T3} (hk:k=k3 (qN t T (ix l i) a)) (hs:(mget mm2 k).isSome=false) (h5:l2.length≠500):
 QN t T i l (m+1) (l2++ [qN t T (ix l i) a]) (mset mm2 k (l2.length:Int)) (nx.set a (l2.length:Int)):=by
 subst hk
 obtain⟨e1,e2⟩:=qn_next hQ h hi ha
 have hnin:qN t T (ix l i) a∉l2:=fun g=>by
  rw[h.am,if_pos g] at hs;cases hs
 have hp:pushL l2 (qN t T (ix l i) a)=l2++ [qN t T (ix l i) a]:=by unfold pushL;rw[if_neg hnin]
 have hf:=h.few
 have hnd:=push_nd (p:=qN t T (ix l i) a) h.nd
 rw[hp] at e1 e2 hnd
 refine⟨hnd,fun p hp=> ?_,by simp;omega,e1,amap_push h.am hnin,qn_nx h ha han ?_⟩
 ·rcases List.mem_append.1 hp with g|g
  ·exact h.ok p g
  ·rw[List.mem_singleton.1 g];exact hok
 ·rw[idx_pre e2 (by simp),idx_last hnin]
theorem qn_fail (hQ:QW t T i l mm outs) (h:QN t T i l m l2 mm2 nx) (hi:i<l.length) {a:Nat} (ha:(actsL (qA t T) (ix l i))[m]?=some (a:Int)) {k:T3} (hk:k=k3 (qN t T (ix l i) a)) (hs:(mget mm2 k).isSome=false) (h5:(l2.length:Int)=500):500<(qL t T).length:=by
 subst hk
 obtain⟨e1,e2⟩:=qn_next hQ h hi ha
 have hnin:qN t T (ix l i) a∉l2:=fun g=>by
  rw[h.am,if_pos g] at hs;cases hs
 have hp:pushL l2 (qN t T (ix l i) a)=l2++ [qN t T (ix l i) a]:=by unfold pushL;rw[if_neg hnin]
 rw[hp] at e2
 have:=e2.length_le
 simp at this
 omega
theorem qn_end (hn:t.aC.length≤8) (hQ:QW t T i l mm outs) (h:QN t T i l (actsL (qA t T) (ix l i)).length l2 mm2 nx) (hi:i<l.length):QW t T (i+1) l2 mm2 (outs++ [⟨qA t T (ix l i),nx⟩]):=by
 have hlt:=qw_lt hQ hi
 have hpre:l<+:l2:=by rw[h.pre];exact outs_prefix _ _ _ _ l
 have hr:=hQ.rn
 rw[show t.sT.length*T.sT.length+1- i=(t.sT.length*T.sT.length+1- (i+1))+1 by omega] at hr
 unfold runL at hr
 rw[if_pos hi] at hr
 have hl2:l2=stepL (qA t T) (qN t T) l (ix l i):=by rw[h.pre,List.take_length];rfl
 have hle:=hpre.length_le
 refine⟨h.nd,h.ok,by have:=hQ.ne;omega,h.few,by rw[hl2];exact hr,O,h.am,?_⟩
 have e1:l2.take i=l.take i:=by
  obtain⟨r,rfl⟩:=hpre
  rw[List.take_append_of_le_length O]
 rw[take_s O,List.map_append,e1,←hQ.out,qn_ix h hi]
 congr 1
 show [_]= [_]
 congr 1
 unfold ofL
 congr 1
 rw[h.nx,List.take_length]
 refine List.map_congr_left fun a ha=> ?_
 by_cases g:has (orAll (qA t T (ix l i))) (a:Int)=true
 ·rw[if_pos g,if_pos (List.contains_iff_mem.2 (show(a:Int)∈actsL (qA t T) (ix l i) from listOf_mem.2 ⟨a,rfl,by have:=List.mem_range.1 ha;omega,g⟩))]
 ·rw[if_neg g,if_neg (fun hc=>g (by
   obtain⟨b,hb,_,hh⟩:=listOf_mem.1 (List.contains_iff_mem.1 hc)
   have:b=a:=by omega
   subst this;exact hh))]
theorem qw_done (h:QW t T i l mm outs) (hi:l.length≤i):l=qL t T∧outs=(quoD t T).sT:=by
 have hr:=h.rn
 have hil:=h.il
 have e:runL (qA t T) (qN t T) (t.sT.length*T.sT.length+1- i) i l=l:=by
  cases t.sT.length*T.sT.length+1- i with
  |zero=>rfl
  |succ f=>unfold runL;rw[if_neg O]
 rw[e] at hr
 refine⟨hr,?_⟩
 rw[h.out,List.take_of_length_le hi,hr];rfl
end
end QuoW
end
section
namespace RefM
open ref01 ref03 ref04 ref06 Part Rungs LeftM TrimM RoundM MergeM BisM BisM5 JudgM2 WitM LevM divr divs divd divf ChsM BisS TrimI QuoM FailM DivM QuoW
section
variable {t T:SS}
structure RW (t T:SS) (i:Nat) (l:List PP) (outs:List SA):Prop where
 nd:l.Nodup
 ok:∀p∈l,qOk t T p
 two:2≤l.length
 h0:ix l 0=(0,0)
 h1:ix l 1=bes
 il:i≤l.length
 dn:∀j,j<i→∀a∈actsL (qA t T) (ix l j),qN t T (ix l j) a.toNat∈l
 out:outs=(l.take i).map (ofL (qA t T) (qN t T) t.aC.length l)
structure RN (t T:SS) (i:Nat) (l:List PP) (k:Nat) (l2:List PP) (nx:List Int):Prop where
 nd:l2.Nodup
 ok:∀p∈l2,qOk t T p
 pre:l<+:l2
 dn:∀a:Nat,a<k→has (orAll (qA t T (ix l i))) (a:Int)=true→qN t T (ix l i) a∈l2
 nx:nx=(List.range k).map fun(a:Nat)=>if has (orAll (qA t T (ix l i))) (a:Int)=true then(pix l2 (qN t T (ix l i) a):Int) else-1
variable {i k:Nat} {l l2:List PP} {outs:List SA} {nx:List Int}
end
end RefM
end
section
namespace CompM
open ref01 ref03 ref04 ref06 Part Rungs LeftM TrimM RoundM MergeM BisM BisM4 BisM5 Keys WalkM WitM JudgM LevM divr divs divd dive divf divv judg ChsM BisS TrimI QuoM FailM DivM RefM GenW
def crossL (a b:List Int):List Int:=(subs 8).filter fun u=>a.any fun x=>b.any fun y=>decide (andI x y=u)
theorem andI_bd {x y:Int} (hx:0≤x∧x<256):0≤andI x y∧andI x y<256:=by
 unfold andI
 have:x.toNat&&&y.toNat≤x.toNat:=Nat.and_le_left
 omega
theorem cross_mem {a b:List Int} (ha:∀x∈a,0≤x∧x<256) {u:Int}:u∈crossL a b↔∃x∈a,∃y∈b,andI x y=u:=by
 unfold crossL
 rw[List.mem_filter,List.any_eq_true]
 constructor
 ·rintro⟨_,x,hx,h⟩
  obtain⟨y,hy,h⟩:=List.any_eq_true.1 h
  exact⟨x,hx,y,hy,of_decide_eq_true h⟩
 ·rintro⟨x,hx,y,hy,rfl⟩
  refine⟨subs_mem.2 ?_,x,hx,List.any_eq_true.2 ⟨y,hy,decide_eq_true rfl⟩⟩
  have:=andI_bd (x:=x) (y:=y) (ha x hx)
  exact this
theorem cross_rise (a b:List Int):(crossL a b).Pairwise (· < ·):=(subs_rise 8).filter _
theorem cross_sub {a b:List Int} {u:Int} (h:u∈crossL a b):0≤u∧u<256:=subs_mem.1 (List.mem_filter.1 h).1
def cA (s t:SS) (p:PP):List Int:=crossL (acc s p.1.toNat) (acc t p.2.toNat)
def cN (s t:SS) (p:PP) (a:Nat):PP:=(ix (nxt s p.1.toNat) a,ix (nxt t p.2.toNat) a)
def cOk (s t:SS) (p:PP):Prop:=0≤p.1∧p.1<(s.sT.length:Int)∧0≤p.2∧p.2<(t.sT.length:Int)
def pkey (p:PP):ByteArray:=keyB p.1 [p.2]
theorem acc_bd {s:SS} (hs:oK s) {x:Nat} (hx:x<s.sT.length):∀u∈acc s x,0≤u∧u<256:=fun u hu=>by
 obtain⟨i,hi,rfl⟩:=List.getElem_of_mem hu
 have hi2:i<(ix s.sT x).aP.length:=hi
 have:=(hs.st x hx).ac i hi2
 rw[ix_get hi2] at this
 exact this
theorem cA_mem {s t:SS} (hs:oK s) {p:PP} (hp:cOk s t p) {u:Int}:u∈cA s t p↔∃x∈acc s p.1.toNat,∃y∈acc t p.2.toNat,andI x y=u:=
 cross_mem (acc_bd hs (by have:=hp.1;have:=hp.2.1;omega))
theorem cA_has {s t:SS} (hs:oK s) {p:PP} (hp:cOk s t p) {a:Nat}:has (orAll (cA s t p)) (a:Int)=true↔has (orAll (acc s p.1.toNat)) (a:Int)=true∧has (orAll (acc t p.2.toNat)) (a:Int)=true:=by
 rw[orAll_has,orAll_has,orAll_has]
 constructor
 ·rintro⟨u,hu,ha⟩
  obtain⟨x,hx,y,hy,rfl⟩:=(cA_mem hs hp).1 hu
  rw[QuoM.has_and,Bool.and_eq_true] at ha
  exact⟨⟨x,hx,ha.1⟩,y,hy,ha.2⟩
 ·rintro⟨⟨x,hx,h1⟩,y,hy,h2⟩
  exact⟨_,(cA_mem hs hp).2 ⟨x,hx,y,hy,rfl⟩,by rw[QuoM.has_and,h1,h2];rfl⟩
theorem cN_go {s t:SS} (hs:oK s) (ht:oK t) {p:PP} (hp:cOk s t p) {a:Nat} (h:has (orAll (cA s t p)) (a:Int)=true):a<s.aC.length∧cOk s t (cN s t p a):=by
 obtain⟨p0,p1,p2,p3⟩:=hp
 obtain⟨h1,h2⟩:=(cA_has hs ⟨p0,p1,p2,p3⟩).1 h
 have g1:=or_go hs (x:=p.1.toNat) O h1
 have g2:=or_go ht (x:=p.2.toNat) O h2
 exact⟨g1.1,g1.2.1,g1.2.2,g2.2.1,g2.2.2⟩
theorem pkey_inj {p q:PP} (hp:0≤p.1∧0≤p.2) (hq:0≤q.1∧0≤q.2) (h:pkey p=pkey q):p=q:=by
 have:=keyB_inj hp.1 hq.1 (fun x hx=>by rw[List.mem_singleton.1 hx];exact hp.2) (fun x hx=>by rw[List.mem_singleton.1 hx];exact hq.2) h
 exact Prod.ext this.1 (by simpa using this.2)
theorem c_GS {s t:SS} (hs:oK s) (ht:oK t):GS (cA s t) (cN s t) (cOk s t) pkey s.aC.length (s.sT.length*t.sT.length) where
 inj:=fun p q hp hq h=>pkey_inj ⟨hp.1,hp.2.2.1⟩ ⟨hq.1,hq.2.2.1⟩ h
 acts:=fun p hp a h=>by
  obtain⟨b,rfl,_,hb⟩:=listOf_mem.1 h
  rw[Int.toNat_natCast]
  exact(cN_go hs ht hp hb).2
 few:=fun l hn h=>nodup_pairs _ _ l hn fun p hp=>h p hp
 hasn:=fun p hp a h=>(cN_go hs ht hp h).1
 n8:=hs.n8
theorem c_zero {s t:SS} (hs:oK s) (ht:oK t):cOk s t (0,0):=by
 have f1:=hs.few0
 have f2:=ht.few0
 exact⟨by simp,by show(0:Int)<_;omega,by simp,by show(0:Int)<_;omega⟩
def cL (s t:SS):List PP:=runL (cA s t) (cN s t) (s.sT.length*t.sT.length) 0 [(0,0)]
def compD (s t:SS):SS:=⟨s.aC,(cL s t).map (ofL (cA s t) (cN s t) s.aC.length (cL s t))⟩
theorem c_walk {s t:SS} (hs:oK s) (ht:oK t):Walk (cA s t) (cN s t) (cOk s t) (0,0) (cL s t).length (cL s t):=walk_G (c_GS hs ht) (c_zero hs ht)
theorem c_numb {s t:SS} (hs:oK s) (ht:oK t):Numb (cA s t) (cN s t) s.aC.length (0,0) (cL s t) (compD s t):=numb_G (c_GS hs ht) (c_walk hs ht) _
theorem c_len {s t:SS} (hs:oK s) (ht:oK t):(cL s t).length≤s.sT.length*t.sT.length:=(c_GS hs ht).few _ (c_walk hs ht).nd (c_walk hs ht).ok
structure NumC (s t:SS) (l:List PP) (D:SS):Prop where
 numb:Numb (cA s t) (cN s t) s.aC.length (0,0) l D
 ok:∀p∈l,cOk s t p
 acts:D.aC=s.aC
theorem c_numc {s t:SS} (hs:oK s) (ht:oK t):NumC s t (cL s t) (compD s t):=⟨c_numb hs ht,(c_walk hs ht).ok,rfl⟩
theorem numc_ok {s t:SS} (hs:oK s) (ht:oK t) {l:List PP} {D:SS} (h:NumC s t l D) (hl:l.length≤10000):oK D:=
 numb_ok h.numb (by rw[h.acts];exact hs.acts) (by rw[h.acts]) hl (fun p _ u hu=>cross_sub hu) (fun p hp a g=>(cN_go hs ht (h.ok p hp) g).1) (fun p _=>pw_rising (cross_rise _ _))
def hol2 (s t:SS):Prop:=ix (hOl s) 0=true∨ix (hOl t) 0=true
noncomputable instance (s t:SS):Decidable (hol2 s t):=Classical.propDecidable _
noncomputable def comS (s t:SS):SS × Bool:=
 if hol2 s t then(nothing s.aC,true)
 else if (cL (tR s).1 (tR t).1).length≤500 then((tR (compD (tR s).1 (tR t).1)).1,true) else(⟨[],[]⟩,false)
noncomputable def cmpS (s t:SS):SS × Int:=
 if fineE s t=0 then(if (comS s t).2=true then((comS s t).1,0) else(⟨[],[]⟩,2)) else(⟨[],[]⟩,fineE s t)
def largeC (s t:SS):Bool:=decide ((500:Int)<(s.sT.length:Int)*(t.sT.length:Int))
structure RefC (s t D:SS):Prop where
 acts:D.aC=s.aC
 hol:hol2 s t→D=nothing s.aC
 num:¬hol2 s t→∃l,NumC (tR s).1 (tR t).1 l D∧l.length≤s.sT.length*t.sT.length
theorem trims_len {s t:SS} (hs:oK s) (ht:oK t):(tR s).1.sT.length*(tR t).1.sT.length≤s.sT.length*t.sT.length:=Nat.mul_le_mul (trim_len hs) (trim_len ht)
theorem com_ok {s t:SS} (hs:oK s) (ht:oK t) (hq:(comS s t).2=true):oK (comS s t).1:=by
 unfold comS at hq ⊢
 by_cases e:hol2 s t
 ·rw[if_pos e];exact nothing_ok hs.acts
 ·rw[if_neg e] at hq ⊢
  split at hq
  ·next g=>
   rw[if_pos g]
   exact trim_ok (numc_ok (trim_ok hs) (trim_ok ht) (c_numc (trim_ok hs) (trim_ok ht)) O)
  ·cases hq
theorem com_large {s t:SS} (hs:oK s) (ht:oK t) (hq:(comS s t).2=false):largeC s t=true:=by
 unfold comS at hq
 by_cases e:hol2 s t
 ·rw[if_pos e] at hq;cases hq
 ·rw[if_neg e] at hq
  split at hq
  ·cases hq
  ·next g=>
   have h1:=c_len (trim_ok hs) (trim_ok ht)
   have h2:=trims_len hs ht
   unfold largeC
   rw[decide_eq_true_eq]
   have e2:((s.sT.length*t.sT.length:Nat):Int)=(s.sT.length:Int)*(t.sT.length:Int):=by simp
   omega
end CompM
end
section
namespace CrossM
open ref01 ref03 ref04 ref06 Part Rungs LeftM TrimM RoundM MergeM BisM5 QuoM CompM divr divs
def prods (a b:List Int):List Int:=a.flatMap fun x=>b.map (andI x)
def srtI (l:List Int):List Int:=l.mergeSort fun x y=>decide (x≤y)
theorem prods_mem {a b:List Int} {u:Int}:u∈prods a b↔∃x∈a,∃y∈b,andI x y=u:=by
 unfold prods
 rw[List.mem_flatMap]
 exact⟨fun⟨x,hx,h⟩=>⟨x,hx,List.mem_map.1 h⟩,fun⟨x,hx,h⟩=>⟨x,hx,List.mem_map.2 h⟩⟩
theorem prods_snoc {a b:List Int} {k:Nat} (h:k<a.length):prods (a.take (k+1)) b=prods (a.take k) b++b.map (andI (ix a k)):=by
 unfold prods
 rw[take_s h,List.flatMap_append];simp
theorem prods_len (a b:List Int):(prods a b).length=a.length*b.length:=by
 unfold prods
 induction a with
 |nil=>simp
 |cons x a ih=>simp[ih,Nat.add_mul,Nat.add_comm]
theorem bang {zs:List Int} {i:Nat} (hi:i<zs.length):zs.toArray[i]! =ix zs i:=by
 rw[ix_get hi,getElem!_pos _ i (by simpa using hi)];simp
theorem comp_mem {zs:List Int} {x:Int}:x∈Lib.compact zs↔x∈zs:=by
 unfold Lib.compact Lib.compactUpTo
 rw[List.mem_map]
 constructor
 ·rintro⟨i,hi,rfl⟩
  have hi':i<zs.length:=List.mem_range.1 (List.mem_filter.1 hi).1
  rw[bang hi'];exact ix_memS hi'
 ·intro hx
  obtain⟨i,hi,rfl⟩:=List.getElem_of_mem hx
  have key:∀i,i<zs.length→∃j,j∈(List.range zs.length).filter (Lib.keeps zs.toArray)∧ix zs j=ix zs i:=by
   intro i
   induction i with
   |zero=>intro hi;exact⟨0,List.mem_filter.2 ⟨List.mem_range.2 hi,by simp[Lib.keeps]⟩,rfl⟩
   |succ i ih=>
    intro hi
    by_cases e:ix zs (i+1)=ix zs i
    ·obtain⟨j,h1,h2⟩:=ih O
     exact⟨j,h1,h2.trans e.symm⟩
    ·refine⟨i+1,List.mem_filter.2 ⟨List.mem_range.2 hi,?_⟩,rfl⟩
     refine Lib.keeps_pos ?_
     rw[bang hi,show i+1- 1=i from rfl,bang O];exact e
  obtain⟨j,h1,h2⟩:=key i hi
  refine⟨j,h1,?_⟩
  rw[bang (List.mem_range.1 (List.mem_filter.1 h1).1),h2,ix_get hi]
theorem comp_rise {zs:List Int} (h:zs.Pairwise (· ≤ ·)):(Lib.compact zs).Pairwise (· < ·):=by
 have hs:∀i j,i≤j→j<zs.length→ix zs i≤ix zs j:=fun i j hij hj=>by
  rcases Nat.lt_or_ge i j with g|g
  ·rw[ix_get O,ix_get hj]
   exact List.pairwise_iff_getElem.1 h i j O hj g
  ·have:i=j:=by omega
   subst this;exact Int.le_refl _
 unfold Lib.compact Lib.compactUpTo
 rw[List.pairwise_map]
 refine List.Pairwise.imp_of_mem (R:=(· < ·)) (fun {i j} hi hj hij=> ?_) (List.pairwise_lt_range.filter _)
 obtain⟨hi1,_⟩:=List.mem_filter.1 hi
 obtain⟨hj1,hj2⟩:=List.mem_filter.1 hj
 have hi1:=List.mem_range.1 hi1
 have hj1:=List.mem_range.1 hj1
 have hne:ix zs j≠ix zs (j- 1):=by
  unfold Lib.keeps at hj2
  have:=of_decide_eq_true hj2
  rcases this with g|g
  ·omega
  ·rwa [bang hj1,bang O] at g
 rw[bang hi1,bang hj1]
 have h1:=hs i (j- 1) O O
 have h2:=hs (j- 1) j O hj1
 omega
theorem srt_le (l:List Int):(srtI l).Pairwise (· ≤ ·):=by
 have:=List.pairwise_mergeSort (le:=fun x y:Int=>decide (x≤y)) (fun a b c h1 h2=>by simp at*;omega) (fun a b=>by simp;omega) l
 exact this.imp fun h=>by simpa using h
theorem cross_sorted {a b:List Int} (ha:∀x∈a,0≤x∧x<256):Lib.compact (srtI (prods a b))=crossL a b:=
 inc_eq (comp_rise (srt_le _)) (cross_rise a b) fun u=>by
  rw[comp_mem,cross_mem ha]
  unfold srtI
  rw[List.mem_mergeSort,prods_mem]
theorem all_bd {a:List Int} (h:∀k,k<a.length→0≤ix a k∧ix a k<256):∀x∈a,0≤x∧x<256:=fun x hx=>by
 obtain⟨i,hi,rfl⟩:=List.getElem_of_mem hx
 have:=h i hi
 rwa [ix_get hi] at this
theorem rise_len {l:List Int} (h:l.Pairwise (· < ·)) (hb:∀x∈l,0≤x∧x<256):l.length≤256:=by
 have hn:l.Nodup:=h.imp fun h e=>by omega
 have:=List.Nodup.length_le_of_subset hn (l₂:=subs 8) (fun x hx=>subs_mem.2 (hb x hx))
 simpa [subs] using this
theorem cross_len (a b:List Int):(crossL a b).length≤256:=rise_len (cross_rise a b) fun x hx=>cross_sub hx
structure BothI (a b:List Int) (k m:Nat) (out:List Int):Prop where
 rise:out.Pairwise (· < ·)
 mem:∀u,u∈out↔(∃i,i<k∧∃j,j<b.length∧andI (ix a i) (ix b j)=u)∨∃j,j<m∧andI (ix a k) (ix b j)=u
end CrossM
end
end Go.Proofs.YtcjemmihcplgdaaGreatDoor
