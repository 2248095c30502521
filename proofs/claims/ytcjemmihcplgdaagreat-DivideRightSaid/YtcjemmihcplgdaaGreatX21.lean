/- The walks of the functions and the plain laws. Own texts of this claim, packed: Zzdivp, ZzRefM. -/
import Derived.Test.YtcjemmihcplgdaaGreatX15
import Derived.Test.YtcjemmihcplgdaaGreatX16
import Derived.Test.YtcjemmihcplgdaaGreatX20
import Derived.Test.YtcjemmihcplgdaaGreatX19
set_option linter.all false
namespace Go.Proofs.YtcjemmihcplgdaaGreat
open AL Go
set_option maxRecDepth 100000
section
open ref01 ref03 ref04 ref06 prog prog2 prog3 prog6 Part Rungs LeftM QuoM
theorem pix_first {l:List (Int × Int)} {pr:Int × Int} {k:Nat} (hk:k<l.length) (h:ix l k=pr) (hn:∀j,j<k→ix l j≠pr):pix l pr=k:=by
 have hm:pr∈l:=by rw[←h];exact ix_memS hk
 have h1:pix l pr≤k:=idx_le hk h
 rcases Nat.lt_or_ge (pix l pr) k with g|g
 ·exact absurd (pix_at hm) (hn _ g)
 ·omega
theorem pix_none {l:List (Int × Int)} {pr:Int × Int} (h:pr∉l):pix l pr=l.length:=QuoM.idx_none h
namespace divp
theorem place_ok (l:List (Int × Int)) (pr:Int × Int) (v:Value) (hl:l.length≤1000000000):
 AL.Fn Tryz.prog 48 [osl 55 v,agg [int pr.1,int pr.2]] [(55,own v 78 2 pE l)] (ι:=Value) (fun _ v2=>tup [int ((pix l pr:Nat):Int),osl 55 v2]) (fun v2=> [(55,own v2 78 2 pE (pushL l pr))]):=by
 refine fnI Tryz.func48 rfl rfl (fun w0 F0=> ?_)
 refine sq (rg (bx (key:=3) (cs:= [int pr.1,int pr.2]) J fun b3=>(ag (ag (nl (th (sq (sq (rg (mv (lnO J J T.sl62 (mv (nl (th (bk ?_)))))))))))))))
 have hI0_0:0≤l.length:=by
  first|omega|simp
 have hI0_1:∀j,j<0→ix l j≠pr:=by
  intro j hj;omega
 refine lp (κ:=Nat) (fun p=> [(0,osl 55 v),(3,ptr 3 b3 0),(8,osl 55 v),(9,int (l.length:Int)),(10,int (p:Int))]) (fun p=> [(3,cell b3 [int pr.1,int pr.2]),(55,own v 78 2 pE l)]) (fun p=>(p≤l.length)∧(∀j,j<p→ix l j≠pr)) (fun p=>l.length- p) 0 ⟨hI0_0,hI0_1⟩ ⟨id,id,id,id,id,tV⟩ ⟨rI,rI,tV⟩ ?_
 intro k hG0
 obtain⟨hk0,hI0⟩:(k≤l.length)∧(∀j,j<k→ix l j≠pr):=hG0
 refine sq (rg (bi J J b_lss (nl (th (sq ?_)))))
 refine cd J (fun hc0=> ?_) (fun hc0=> ?_)
 ·try simp at hc0
  refine sk (th (sq (bk (sq (rg (mv (iO J J J T.sl62 O O (lOA J J gB T.agg78 (by decide) (al (key:=7) T.z78 (eC (eC eZ)) fun b7=>(ag (sPA (cs':= [int ((ix l k).1),int ((ix l k).2)]) J J J T.agg78 J J (nl (th (sq (rg (lPA J J T.agg78 J (lPA J J T.agg78 J (biA J J T.arr78 T.kd3 kR kR (nl (th ?_))))))))))))))))))))
  refine cd J (fun hc1=> ?_) (fun hc1=> ?_)
  ·skip
   have hkk:ix l k=pr:=(of_decide_eq_true hc1).symm
   have hin:pr∈l:=by rw[←hkk];exact ix_memS O
   have hput:pushL l pr=l:=by unfold pushL;rw[if_pos hin]
   refine sq (rg (mv (mv (ag (ag (nl (th (rt (rb (rt_ (rt_ (rb (rt_ ?_)))))))))))))
   have hr0:((k:Int):Int)=((pix l pr:Nat):Int):=by
    exact(by rw[pix_first O hkk hI0])
   exact rE v [.tmp 4,.tmp 5] J [int (k:Int),osl 55 v] ⟨.tmp J,.tmp J,tV⟩ (cA1 (fun x0=>rV [int x0,osl 55 v]) hr0) (by rw[hput];exact⟨rI,tV⟩) eX
  ·skip
   have hkn:ix l k≠pr:=fun e=>by
    have:=of_decide_eq_false hc1
    rw[e] at this;exact this rfl
   refine sk (eb (th (rg (bi J J (b_add i6) (mv (nl ?_))))))
   have hN0:(k+1)≤l.length:=by
    first|omega|simp_all
   have hN1:∀j,j<(k+1)→ix l j≠pr:=by
    intro j hj
    by_cases e:j=k
    ·subst e;exact hkn
    ·exact hI0 j O
   exact ln (k+1) ⟨hN0,hN1⟩ dO ⟨id,id,id,id,id,tV⟩ ⟨rI,rI,tV⟩
 ·try simp at hc0
  refine ex (xt_ (xt_ (xb (th (sq (rg (mv (lnO J J T.sl62 (mv (lPA J J T.agg78 J (bsE (enc:=pE) (xs:= [(pr.1,pr.2)]) (css:= [[int pr.1,int pr.2]]) T.mk62 ⟨J,J,pA (cs:= [int pr.1,int pr.2]) J,tV⟩ J J J J (ap (key:=55) (zs:= [(pr.1,pr.2)]) osl_eq J J J T.mk62 (by unfold maxL at*;simp;omega) (by unfold maxL at*;simp;omega) fun v26=>(ag (ag (nl (th (rt ?_)))))))))))))))))
  have hni:pr∉l:=fun hm=>by
   obtain⟨j,hj,e⟩:=List.getElem_of_mem hm
   exact hI0 j O (by rw[ix_get hj];exact e)
  have hput:pushL l pr=l++ [pr]:=by unfold pushL;rw[if_neg hni]
  have hr0:((l.length:Int):Int)=((pix l pr:Nat):Int):=by
   rw[pix_none hni]
  exact rE v26 [.tmp 4,.tmp 5] J [int (l.length:Int),osl 55 v26] ⟨.tmp J,.tmp J,tV⟩ (cA1 (fun x0=>rV [int x0,osl 55 v26]) hr0) (by rw[hput];exact⟨rI,tV⟩) eX
end divp
end
section
namespace RefM
open ref01 ref03 ref04 ref06 Part Rungs LeftM TrimM RoundM MergeM BisM BisM5 JudgM2 WitM LevM divr divs divd divf ChsM BisS TrimI QuoM FailM DivM QuoW
section
variable {t T:SS}
structure RW (t T:SS) (i:Nat) (l:List PP) (outs:List SA):Prop where
 nd:l.Nodup
 ok:∀p∈l,qOk t T p
 two:2≤l.length
 h0:ix l 0=(0,0)
 h1:ix l 1=bes
 il:i≤l.length
 dn:∀j,j<i→∀a∈actsL (qA t T) (ix l j),qN t T (ix l j) a.toNat∈l
 out:outs=(l.take i).map (ofL (qA t T) (qN t T) t.aC.length l)
theorem rw_zero (ht:oK t) (hT:oK T):RW t T 0 [(0,0),(-1,-1)] []:=by
 have h:=q_zero ht hT
 refine⟨by decide,fun p hp=> ?_,by simp,rfl,rfl,by simp,fun j hj=>absurd hj O,rfl⟩
 rcases List.mem_cons.1 hp with g|g
 ·rw[g];exact h.ok _ (by simp)
 ·rw[List.mem_singleton.1 g];exact .inl rfl
structure RN (t T:SS) (i:Nat) (l:List PP) (k:Nat) (l2:List PP) (nx:List Int):Prop where
 nd:l2.Nodup
 ok:∀p∈l2,qOk t T p
 pre:l<+:l2
 dn:∀a:Nat,a<k→has (orAll (qA t T (ix l i))) (a:Int)=true→qN t T (ix l i) a∈l2
 nx:nx=(List.range k).map fun(a:Nat)=>if has (orAll (qA t T (ix l i))) (a:Int)=true then(pix l2 (qN t T (ix l i) a):Int) else-1
variable {i k:Nat} {l l2:List PP} {outs:List SA} {nx:List Int}
theorem rn_zero (h:RW t T i l outs):RN t T i l 0 l []:=⟨h.nd,h.ok,List.prefix_rfl,fun a ha=>absurd ha O,rfl⟩
theorem rn_len (h:RN t T i l k l2 nx):nx.length=k:=by rw[h.nx];simp
theorem rn_few (h:RN t T i l k l2 nx):l2.length≤t.sT.length*T.sT.length+1:=q_few l2 h.nd h.ok
theorem rw_few (h:RW t T i l outs):l.length≤t.sT.length*T.sT.length+1:=q_few l h.nd h.ok
theorem rn_none (h:RN t T i l k l2 nx) (hh:has (orAll (qA t T (ix l i))) (k:Int)=false):RN t T i l (k+1) l2 (nx++ [-1]):=by
 refine⟨h.nd,h.ok,h.pre,fun a ha g=> ?_,?_⟩
 ·by_cases e:a=k
  ·subst e;rw[hh] at g;cases g
  ·exact h.dn a O g
 ·rw[List.range_succ,List.map_append,←h.nx,List.map_cons,List.map_nil,if_neg (by simp[hh])]
theorem rn_place (h:RN t T i l k l2 nx) (hh:has (orAll (qA t T (ix l i))) (k:Int)=true) (hok:qOk t T (qN t T (ix l i) k)) {v:Int} (hv:v=(pix (pushL l2 (qN t T (ix l i) k)) (qN t T (ix l i) k):Int)):RN t T i l (k+1) (pushL l2 (qN t T (ix l i) k)) (nx++ [v]):=by
 have hp:=push_prefix l2 (qN t T (ix l i) k)
 refine⟨push_nd h.nd,fun p hp=> ?_,h.pre.trans hp,fun a ha g=> ?_,?_⟩
 ·rcases push_in hp with g|g
  ·exact h.ok p g
  ·rw[g];exact hok
 ·by_cases e:a=k
  ·subst e;exact push_mem _ _
  ·exact hp.subset (h.dn a O g)
 ·rw[List.range_succ,List.map_append,List.map_cons,List.map_nil,if_pos hh,h.nx,hv]
  congr 1
  refine List.map_congr_left fun a ha=> ?_
  have ha:=List.mem_range.1 ha
  by_cases g:has (orAll (qA t T (ix l i))) (a:Int)=true
  ·rw[if_pos g,if_pos g,idx_pre hp (h.dn a ha g)]
  ·rw[if_neg g,if_neg g]
theorem pix_push (l:List PP) (p:PP):pix (pushL l p) p=pix l p:=by
 unfold pushL
 split
 ·rfl
 ·next g=>
  rw[idx_last g]
  exact(QuoM.idx_none g).symm
theorem rn_bes (hR:RW t T i l outs) (h:RN t T i l k l2 nx) (hh:has (orAll (qA t T (ix l i))) (k:Int)=true) (hN:qN t T (ix l i) k=bes):RN t T i l (k+1) l2 (nx++ [1]):=by
 have h2:=h.pre.length_le
 have ht:=hR.two
 have e1:ix l2 1=bes:=(ix_pre h.pre O).trans hR.h1
 have e0:ix l2 0=(0,0):=(ix_pre h.pre O).trans hR.h0
 have hm:bes∈l2:=by rw[←e1];exact ix_memS O
 have hp:pushL l2 (qN t T (ix l i) k)=l2:=by rw[hN];unfold pushL;rw[if_pos hm]
 have hx:pix l2 bes=1:=by
  have g1:pix l2 bes≤1:=idx_le O e1
  have g2:ix l2 (pix l2 bes)=bes:=pix_at hm
  rcases Nat.eq_zero_or_pos (pix l2 bes) with g|g
  ·rw[g,e0] at g2;cases g2
  ·omega
 have:=rn_place h hh (by rw[hN];exact .inl rfl) (v:=1) (by rw[pix_push,hN,hx];rfl)
 rwa [hp] at this
theorem map_pre (hp:l<+:l2) (hil:i≤l.length) (hdn:∀j,j<i→∀a∈actsL (qA t T) (ix l j),qN t T (ix l j) a.toNat∈l) (hn:t.aC.length≤8):(l2.take i).map (ofL (qA t T) (qN t T) t.aC.length l2)=(l.take i).map (ofL (qA t T) (qN t T) t.aC.length l):=by
 have e1:l2.take i=l.take i:=by
  obtain⟨r,rfl⟩:=hp
  rw[List.take_append_of_le_length hil]
 rw[e1]
 refine List.map_congr_left fun p hpm=> ?_
 obtain⟨j,hj,rfl⟩:=List.getElem_of_mem hpm
 have hj2:j<i∧j<l.length:=by simp at hj;omega
 have ep:(l.take i)[j]=ix l j:=by rw[List.getElem_take,ix_get hj2.2]
 rw[ep]
 unfold ofL
 congr 1
 refine List.map_congr_left fun a ha=> ?_
 by_cases g:has (orAll (qA t T (ix l j))) (a:Int)=true
 ·have:=hdn j hj2.1 (a:Int) (listOf_mem.2 ⟨a,rfl,by have:=List.mem_range.1 ha;omega,g⟩)
  rw[Int.toNat_natCast] at this
  rw[if_pos g,if_pos g]
  exact congrArg Int.ofNat (idx_pre hp this)
 ·rw[if_neg g,if_neg g]
theorem rw_next (hn:t.aC.length≤8) (hR:RW t T i l outs) (h:RN t T i l t.aC.length l2 nx) (hi:i<l.length):RW t T (i+1) l2 (outs++ [⟨qA t T (ix l i),nx⟩]):=by
 have hle:=h.pre.length_le
 have ht:=hR.two
 refine⟨h.nd,h.ok,O,(ix_pre h.pre O).trans hR.h0,(ix_pre h.pre O).trans hR.h1,O,fun j hj a ha=> ?_,?_⟩
 ·have hjl:j<l.length:=by omega
  rw[ix_pre h.pre hjl] at ha ⊢
  by_cases e:j=i
  ·subst e
   obtain⟨b,rfl,_,hb⟩:=listOf_mem.1 ha
   rw[Int.toNat_natCast]
   exact h.dn b (qA_has hb) hb
  ·exact h.pre.subset (hR.dn j O a ha)
 ·rw[take_s O,List.map_append,map_pre h.pre hR.il hR.dn hn,←hR.out,ix_pre h.pre hi]
  congr 1
  show [_]= [_]
  congr 1
  unfold ofL
  congr 1
  rw[h.nx]
theorem subs_has {n a:Nat} (h:a<n):has (orAll (subs n)) (a:Int)=true:=(every_has a).2 h
theorem rw_bes (hR:RW t T 1 l outs):RW t T 2 l (outs++ [⟨subs t.aC.length,List.replicate t.aC.length 1⟩]):=by
 have ht:=hR.two
 have eA:qA t T bes=subs t.aC.length:=by unfold qA;rw[if_pos rfl]
 have eN:∀a,qN t T bes a=bes:=fun a=>by unfold qN;rw[if_neg (by rintro⟨g,_⟩;exact g rfl)]
 have hm:bes∈l:=by rw[←hR.h1];exact ix_memS O
 have hx:pix l bes=1:=by
  have g1:pix l bes≤1:=idx_le O hR.h1
  have g2:ix l (pix l bes)=bes:=pix_at hm
  rcases Nat.eq_zero_or_pos (pix l bes) with g|g
  ·rw[g,hR.h0] at g2;cases g2
  ·omega
 refine⟨hR.nd,hR.ok,hR.two,hR.h0,hR.h1,ht,fun j hj a ha=> ?_,?_⟩
 ·by_cases e:j=1
  ·subst e
   rw[hR.h1,eN];exact hm
  ·exact hR.dn j O a ha
 ·rw[show(2:Nat)=1+1 from rfl,take_s O,List.map_append,←hR.out,hR.h1]
  congr 1
  show [_]= [_]
  congr 1
  unfold ofL
  rw[eA]
  congr 1
  apply List.ext_getElem
  ·simp
  ·intro a h1 h2
   have ha:a<t.aC.length:=by simpa using h1
   rw[List.getElem_replicate,List.getElem_map,List.getElem_range,if_pos (subs_has ha),eN]
   show(1:Int)=((pix l bes:Nat):Int)
   rw[hx];rfl
end
theorem rw_done {t s:SS} {i:Nat} {l:List PP} {outs:List SA} (ht:oK t) (hs:oK s) (h0:ix (hOl s) 0=false) (h:RW t (tR s).1 i l outs) (hi:l.length≤i):RefQ t s ⟨t.aC,outs⟩:=by
 have hil:=h.il
 have e:i=l.length:=by omega
 subst e
 have ho:=h.out
 rw[List.take_length] at ho
 refine⟨rfl,fun g=>(by rw[h0] at g;cases g),fun _=>⟨l,?_,?_⟩⟩
 ·have hw:Walk (qA t (tR s).1) (qN t (tR s).1) (qOk t (tR s).1) (0,0) l.length l:=⟨h.nd,by have:=h.two;omega,h.h0,h.ok,fun j hj _ a ha=>h.dn j hj a ha⟩
  have:=numb_of (n:=t.aC.length) (fun p hp a g=>by have:=qA_has g;have:=ht.n8;omega) hw t.aC
  rw[←ho] at this
  exact this
 ·have h1:=rw_few h
  have h2:=Nat.mul_le_mul_left t.sT.length (trim_len hs)
  omega
theorem refq_hol {t s:SS} (h:ix (hOl s) 0=true):RefQ t s (everyS t.aC):=⟨rfl,fun _=>rfl,fun g=>(by rw[h] at g;cases g)⟩
theorem isNone_trim {s:SS} (hs:oK s):isNoneS (tR s).1=ix (hOl s) 0:=by
 unfold isNoneS
 cases h:ix (hOl s) 0 with
 |true=>rw[trimmed_hol h];exact decide_eq_true rfl
 |false=>
  refine decide_eq_false fun e=> ?_
  rw[trimmed_not h] at e
  have e:tS s=nothing s.aC:=e
  have hop:=ordS_pos s
  have:=tS_ne hs h (x:=0) (by rw[tS_len];omega)
  rw[e] at this
  exact absurd this (by show ¬0<0;omega)
end RefM
end
end Go.Proofs.YtcjemmihcplgdaaGreat
