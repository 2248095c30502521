/- The walks of the functions and the plain laws. Own texts of this claim, packed: Zdprodb, Zdprodr, ZdTogM, ZdBrkM, ZdProdM, Zdprodw, ZdEncM2, ZdSatC, Zdprody, ZdEncR, Zdprodo, ZdOrdM. -/
import Derived.Test.YtcjemmihcplgdaaGreatDoorX24
import Derived.Test.YtcjemmihcplgdaaGreatDoorX21
import Derived.Test.YtcjemmihcplgdaaGreatDoorX15
import Derived.Test.YtcjemmihcplgdaaGreatDoorX16
set_option linter.all false
namespace Go.Proofs.YtcjemmihcplgdaaGreatDoor
open AL Go
set_option maxRecDepth 100000
section
open ref01 ref03 ref04 ref06 prog prog2 prog3 prog4 prog5 prog6 prog7 prog8 prog9 prog13 prog15 starts Part Rungs LeftM TrimM Itoa Keys RoundM MergeM BisM BisM4 BisM5 WalkM StepM WitM JudgM JudgM2 refw judg wit refj sysw satj divr divs divd dive divg divw divv LevM LevM2 ChsM TrimI QuoM FailM DivM RefM GenW CompM CrossM CompP EncM prodc divp prodm prodp BesM shelfI
def sdE (p:Sd):List AV:= [ints p.1,int p.2]
instance (p:Sd):OneAll (sdE p):=inferInstanceAs (OneAll [ints p.1,int p.2])
def DR (m:aI) (a:Int) (x:Int):List Int:=((edg m x.toNat).filter fun e=>decide (e.1=a)).map Prod.snd
def kU (m:aI) (l:List Int) (a:Int):List Int:=l.flatMap (DR m a)
theorem Qz {m:aI} {l:List Int} {a:Int} {k:Nat} (h:k<l.length):kU m (l.take (k+1)) a=kU m (l.take k) a++DR m a (ix l k):=by
 unfold kU
 rw[bL h,List.flatMap_append];simp
theorem TA {m:aI} {a x:Int} {j:Nat} (hj:j<(edg m x.toNat).length) (h:(ix (edg m x.toNat) j).1=a):(((edg m x.toNat).take (j+1)).filter fun e=>decide (e.1=a)).map Prod.snd=(((edg m x.toNat).take j).filter fun e=>decide (e.1=a)).map Prod.snd++ [(ix (edg m x.toNat) j).2]:=by
 rw[bL hj,List.filter_append,List.map_append]
 simp[h]
theorem QA {m:aI} {a x:Int} {j:Nat} (hj:j<(edg m x.toNat).length) (h:(ix (edg m x.toNat) j).1≠a):(((edg m x.toNat).take (j+1)).filter fun e=>decide (e.1=a)).map Prod.snd=(((edg m x.toNat).take j).filter fun e=>decide (e.1=a)).map Prod.snd:=by
 rw[bL hj,List.filter_append,List.map_append]
 simp[h]
theorem TB {m:aI} {l:List Int} {a u:Int}:u∈kU m l a↔∃y∈l,∃e∈edg m y.toNat,e.1=a∧e.2=u:=by
 unfold kU DR
 rw[List.mem_flatMap]
 constructor
 ·rintro⟨y,hy,h⟩
  obtain⟨e,he,rfl⟩:=List.mem_map.1 h
  obtain⟨h1,h2⟩:=List.mem_filter.1 he
  exact⟨y,hy,e,h1,of_decide_eq_true h2,rfl⟩
 ·rintro⟨y,hy,e,he,h1,rfl⟩
  exact⟨y,hy,List.mem_map.2 ⟨e,List.mem_filter.2 ⟨he,decide_eq_true h1⟩,rfl⟩⟩
theorem JP {m:aI} {a:Int} (hm:dJ m):∀(l:List Int),(∀x∈l,0≤x∧x<(m.sT.length:Int))→(kU m l a).length≤l.length*400000
 | [],_=>by simp[kU]
 |x::l,h=>by
  have ih:=JP hm l (fun y hy=>h y (List.mem_cons_of_mem _ hy)) (a:=a)
  have hx:=h x (by simp)
  have h1:(DR m a x).length≤400000:=by
   unfold DR
   rw[List.length_map]
   exact Nat.le_trans (List.length_filter_le _ _) (hm.many x.toNat O)
  have e:kU m (x::l) a=DR m a x++kU m l a:=by unfold kU;rw[List.flatMap_cons]
  rw[e,List.length_append,List.length_cons]
  omega
theorem Ls {m:aI} (hm:dJ m) {l:List Int} (hl:∀x∈l,0≤x∧x<(m.sT.length:Int)) {a:Int}:Lib.compact (pI (kU m l a))=fM m l a:=
 xW (EI (ND _)) (ER m l a) fun u=>by
  rw[Hw]
  unfold pI
  rw[List.mem_mergeSort,TB,tL]
  constructor
  ·rintro⟨y,hy,e,he,h1,rfl⟩
   have hb:=hl y hy
   have:=hm.ed y.toNat O e he
   exact⟨e.2.toNat,O,O,y,hy,e,he,h1,O⟩
  ·rintro⟨k,rfl,_,y,hy,e,he,h1,h2⟩
   exact⟨y,hy,e,he,h1,h2⟩
theorem QB {m:aI} {l:List Int} {k:Nat} (h:k<l.length):iP m (l.take (k+1))=iP m (l.take k)++ [cJ m (ix l k).toNat]:=by
 unfold iP
 rw[bL h,List.map_append];rfl
theorem Ic {n:Nat} {l:List Int} (h:l.Pairwise (· < ·)) (hb:∀x∈l,0≤x∧x<(n:Int)):l.length≤n:=by
 have hnd:l.Nodup:=h.imp (fun h=>by omega)
 have hs:l ⊆ (List.range n).map fun(x:Nat)=>(x:Int):=fun x hx=>by
  have:=hb x hx
  exact List.mem_map.2 ⟨x.toNat,List.mem_range.2 O,O⟩
 have:=List.Nodup.length_le_of_subset hnd hs
 simpa using this
structure zN (p:Sd):Prop where
 x0:0≤p.2
 x1:p.2<10000
 bd:∀x∈p.1,0≤x∧x<10000
 len:p.1.length≤10000
theorem NY {m:aI} {t:SS} (hm:dJ m) (ht:oK t) {p:Sd} (h:sOk m t p):zN p:=by
 have f1:=hm.few1
 have f2:=ht.few1
 have h1:=h.x1
 refine⟨h.x0,O,fun x hx=> ?_,Nat.le_trans (Ic h.rise h.bd) f1⟩
 have:=h.bd x hx
 omega
theorem ES {p:Sd} (h:zN p):(fD p).size≤aU:=by
 have hx1:=h.x1
 have:=xR p.2 p.1 ⟨h.x0,O⟩ (fun x hx=>by have:=h.bd x hx;omega)
 have hl:=h.len
 unfold fD aU
 omega
theorem NZ {p:Sd} {k:Nat} (hk:k<p.1.length):lG p.2 (p.1.take k)++((⟨#[32]⟩:ByteArray)++iD (ix p.1 k))=lG p.2 (p.1.take (k+1)):=by rw[Eo,bL hk]
theorem TC {p:Sd} (h:zN p) (k:Nat):(lG p.2 (p.1.take k)).size≤22+22*10000:=by
 have hx1:=h.x1
 have:=xR p.2 (p.1.take k) ⟨h.x0,O⟩ (fun x hx=>by have:=h.bd x (List.mem_of_mem_take hx);omega)
 have hl:=h.len
 rw[List.length_take] at this
 omega
noncomputable def eW (m:aI) (U:SS):SS × Bool:=if (sL m U).length≤500 then((tR (sD m U)).1,true) else(⟨[],[]⟩,false)
theorem BA {m:aI} {U:SS} (h:500<(sL m U).length):eW m U=(⟨[],[]⟩,false):=by unfold eW;rw[if_neg O]
theorem VV {m:aI} {t:SS} (h:¬cO m t=0):cG m t=(⟨[],[]⟩,cO m t):=by unfold cG;rw[if_neg h]
theorem TD {m:aI} {t:SS} (h:cO m t=0) (hl:(tR t).2.length=0):cG m t=((tR t).1,0):=by
 have hh:=DF hl
 unfold cG
 rw[if_pos h,if_pos hh,dK hh]
theorem VW {m:aI} {t:SS} (h:cO m t=0) (hl:¬(tR t).2.length=0):cG m t=if (eW m (tR t).1).2=true then((eW m (tR t).1).1,0) else(⟨[],[]⟩,2):=by
 have hh:¬ix (hOl t) 0=true:=fun g=>hl (DG g)
 unfold cG eW
 rw[if_pos h,if_neg hh]
 split
 ·rw[if_pos rfl]
 ·rw[if_neg (by simp)]
namespace T
theorem WT:Ent Tryz.prog 84:=aG kR
theorem Lt:Ent Tryz.prog 87:=aG kR
theorem WU:Ent Tryz.prog 89:=aG kR
theorem WV:Ent Tryz.prog 92:=aG kR
theorem BC:cW Tryz.prog 116 1 1:=cB kR
theorem BD:cW Tryz.prog 116 0 0:=cB kR
theorem Oa:dF Tryz.prog 113:=dH kR
theorem VX:dM Tryz.prog 116 [.slice none 0 0,.int .i64 0]:=cC kR
theorem WW:Ent Tryz.prog 93:=aG kR
theorem RH:fW Tryz.prog 116 [(0,1),(1,1)] [.slice none 0 0,.int .i64 0]:=fI kR kR
theorem nF:fH Tryz.prog 116 2:=fT kR
theorem Ie:dF Tryz.prog 118:=dH kR
theorem Lu:eG Tryz.prog 174 116 2 32 [.slice none 0 0,.int .i64 0]:=fU kR kR
theorem XA:dM Tryz.prog 174 [.slice none 0 0]:=cC kR
theorem qZ:dF Tryz.prog 174:=dH kR
theorem CZ:IsSlice Tryz.prog 174 116 2:=dW kR
theorem VY:dF Tryz.prog 122:=dH kR
theorem XB:dM Tryz.prog 113 [.nilFunc]:=cC kR
theorem WX:Ent Tryz.prog 86:=aG kR
end T
namespace prodb
theorem TE (m:aI) (hm:dJ m) (l:List Int) (hl:∀x∈l,0≤x∧x<(m.sT.length:Int)) (hll:l.length≤10000) (a:Int):
 AL.Fn Tryz.prog 93 [sys m,ints l,int a] [] (ι:=Unit) (fun N _=>fre N (ints (fM m l a))) (fun _=> []):=by
 refine fnI Tryz.func93 rfl rfl (fun w0 F0=> ?_)
 have f1:=hm.few1
 refine fcC (bO 0 J) (fun hS0=> ?_)
 obtain⟨hma0,hms0,hme0⟩:=eI hS0
 refine fcC (aL 1 J) (fun hm1=> ?_)
 refine sq (rg (bx (key:=3) (cs:= [sl 1 rE_ m.aC,sl 1 gE m.sT]) J fun b3=>(ag (nl (th (sq (rg (nw 7 3 1 nE (ag (rtg (key:=7) 7 J (nl (th (sq (sq (rg (mv (lnF J T.aM (mv (nl (th (bk ?_)))))))))))))))))))))
 have hI0_0:0≤l.length:=by
  first|omega|simp
 have hI0_1:([]:List Int)=kU m (l.take 0) a:=by
  rfl
 refine lp (κ:=Nat × Value × (List Int)) (fun p=> [(2,int a),(3,ptr 3 b3 0),(6,eqv (.slice none 0 0)),(7,osl 7 p.2.1),(12,sl 1 nE l),(13,int (l.length:Int)),(14,int (p.1:Int))]) (fun p=> [(3,cell b3 [sl 1 rE_ m.aC,sl 1 gE m.sT]),(7,own p.2.1 3 1 nE p.2.2)]) (fun p=>(p.1≤l.length)∧(p.2.2=kU m (l.take p.1) a)) (fun p=>l.length- p.1) ⟨0,(.slice none 0 0),([]:List Int)⟩ ⟨hI0_0,hI0_1⟩ ⟨id,id,id,id,id,id,id,tV⟩ ⟨rI,rI,tV⟩ ?_
 intro⟨k,v7x,out⟩ hG0
 obtain⟨hk0,hI0⟩:(k≤l.length)∧(out=kU m (l.take k) a):=hG0
 show Ct _ _ _ _ [(2,int a),(3,ptr 3 b3 0),(6,eqv (.slice none 0 0)),(7,osl 7 v7x),(12,sl 1 nE l),(13,int (l.length:Int)),(14,int (k:Int))] [(3,cell b3 [sl 1 rE_ m.aC,sl 1 gE m.sT]),(7,own v7x 3 1 nE out)] _
 refine sq (rg (bi J J aN (nl (th (sq ?_)))))
 refine cd J (fun hc0=> ?_) (fun hc0=> ?_)
 ·try simp at hc0
  have hlk:=hl _ (aZ hc0)
  have hes:=hm.ed (ix l k).toNat O
  have hmy:=hm.many (ix l k).toNat O
  have heq:(edg m (ix l k).toNat).length=(ix m.sT (ix l k).toNat).length:=rfl
  have hol:out.length≤10000*400000:=by
   rw[hI0]
   refine Nat.le_trans (JP hm (l.take k) (fun x hx=>hl x (List.mem_of_mem_take hx))) ?_
   rw[List.length_take];exact Nat.mul_le_mul O O
  refine sk (th (sq (bk (sq (rg (iF J J T.aM O gB (lF J J T.aF (ag (nl (th (sq (rg (fP J T.dS (lP J J J T.gH (mv (iF J J T.jN O gB (lF J J T.iL (fc (aL 22 J) fun hm22=>(lnF J T.iE (mv (nl (th (bk ?_)))))))))))))))))))))))
  have hI1_0:0≤(ix m.sT (ix l k).toNat).length:=by
   first|omega|simp
  have hI1_1:out=kU m (l.take k) a++(((edg m (ix l k).toNat).take 0).filter fun e=>decide (e.1=a)).map Prod.snd:=by
   rw[hI0];simp
  refine lp (κ:=Nat × Value × (List Int)) (fun p=> [(2,int a),(3,ptr 3 b3 0),(6,eqv (.slice none 0 0)),(7,osl 7 p.2.1),(12,sl 1 nE l),(13,int (l.length:Int)),(14,int (k:Int)),(22,sl 2 pE (ix m.sT (ix l k).toNat)),(23,int ((ix m.sT (ix l k).toNat).length:Int)),(24,int (p.1:Int))]) (fun p=> [(3,cell b3 [sl 1 rE_ m.aC,sl 1 gE m.sT]),(7,own p.2.1 3 1 nE p.2.2)]) (fun p=>(p.1≤(ix m.sT (ix l k).toNat).length)∧(p.2.2=kU m (l.take k) a++(((edg m (ix l k).toNat).take p.1).filter fun e=>decide (e.1=a)).map Prod.snd)) (fun p=>(ix m.sT (ix l k).toNat).length- p.1) ⟨0,v7x,out⟩ ⟨hI1_0,hI1_1⟩ ⟨id,id,id,id,id,id,id,id,id,id,tV⟩ ⟨rI,rI,tV⟩ ?_
  intro⟨k1,v7y,ou2⟩ hG1
  obtain⟨hk1,hI1⟩:(k1≤(ix m.sT (ix l k).toNat).length)∧(ou2=kU m (l.take k) a++(((edg m (ix l k).toNat).take k1).filter fun e=>decide (e.1=a)).map Prod.snd):=hG1
  show Ct _ _ _ _ [(2,int a),(3,ptr 3 b3 0),(6,eqv (.slice none 0 0)),(7,osl 7 v7y),(12,sl 1 nE l),(13,int (l.length:Int)),(14,int (k:Int)),(22,sl 2 pE (ix m.sT (ix l k).toNat)),(23,int ((ix m.sT (ix l k).toNat).length:Int)),(24,int (k1:Int))] [(3,cell b3 [sl 1 rE_ m.aC,sl 1 gE m.sT]),(7,own v7y 3 1 nE ou2)] _
  refine sq (rg (bi J J aN (nl (th (sq ?_)))))
  refine cd J (fun hc1=> ?_) (fun hc1=> ?_)
  ·try simp at hc1
   have eO:ou2.length≤10000*400000+400000:=by
    rw[hI1,List.length_append,←hI0,List.length_map]
    refine Nat.le_trans (Nat.add_le_add_left (List.length_filter_le _ _) _) ?_
    rw[List.length_take]
    omega
   refine sk (th (sq (bk (sq (rg (iF J J T.iE O gB (lFA J T.gC (Nat.le_of_ble_eq_true J) (al (key:=11) T.yC (eC (eC eZ)) fun b11=>(sPA (cs':= [int ((ix (ix m.sT (ix l k).toNat) k1).1),int ((ix (ix m.sT (ix l k).toNat) k1).2)]) J J J T.gC J J (nl (th (sq (rg (fP J T.eJ (lP J J J T.aF (mv (bi J J eF (nl (th ?_)))))))))))))))))))
   refine cd J (fun hc2=> ?_) (fun hc2=> ?_)
   ·skip
    have ha2:(ix (edg m (ix l k).toNat) k1).1=a:=of_decide_eq_true hc2
    refine rg (mv (fP J T.iW (lP J J J T.aF (bsE (enc:=nE) (xs:= [((ix (ix m.sT (ix l k).toNat) k1).2)]) (css:= [[int ((ix (ix m.sT (ix l k).toNat) k1).2)]]) T.cE ⟨J,J,p1 (φ:=int ((ix (ix m.sT (ix l k).toNat) k1).2)) J,tV⟩ J J J J (ap (key:=7) (zs:= [((ix (ix m.sT (ix l k).toNat) k1).2)]) cH J J J T.cE (by unfold aU at*;simp;omega) (by unfold aU at*;simp;omega) fun v36=>(ag (nl (eb (th (rg (bi J J (aK i6) (mv (nl ?_)))))))))))))
    have hN0:(k1+1)≤(ix m.sT (ix l k).toNat).length:=by
     first|omega|simp_all
    have hN1:(ou2++ [((ix (ix m.sT (ix l k).toNat) k1).2)])=kU m (l.take k) a++(((edg m (ix l k).toNat).take (k1+1)).filter fun e=>decide (e.1=a)).map Prod.snd:=by
     rw[hI1,TA O ha2,List.append_assoc]
    exact ln (⟨k1+1,v36,ou2++ [((ix (ix m.sT (ix l k).toNat) k1).2)]⟩:Nat × Value × (List Int)) ⟨hN0,hN1⟩ dO ⟨id,id,id,id,id,id,id,id,id,id,tV⟩ ⟨rI,rI,tV⟩
   ·skip
    have ha2:(ix (edg m (ix l k).toNat) k1).1≠a:=of_decide_eq_false hc2
    refine sk (eb (th (rg (bi J J (aK i6) (mv (nl ?_))))))
    have hN0:(k1+1)≤(ix m.sT (ix l k).toNat).length:=by
     first|omega|simp_all
    have hN1:ou2=kU m (l.take k) a++(((edg m (ix l k).toNat).take (k1+1)).filter fun e=>decide (e.1=a)).map Prod.snd:=by
     rw[hI1,QA O ha2]
    exact ln (⟨k1+1,v7y,ou2⟩:Nat × Value × (List Int)) ⟨hN0,hN1⟩ dO ⟨id,id,id,id,id,id,id,id,id,id,tV⟩ ⟨rI,rI,tV⟩
  ·try simp at hc1
   refine ex (xt_ (xt_ (xb (eb (th (rg (bi J J (aK i6) (mv (nl ?_)))))))))
   have hN0:(k+1)≤l.length:=by
    first|omega|simp_all
   have hN1:ou2=kU m (l.take (k+1)) a:=by
    rw[hI1,Qz O,show k1=(edg m (ix l k).toNat).length by omega,List.take_length];rfl
   exact ln (⟨k+1,v7y,ou2⟩:Nat × Value × (List Int)) ⟨hN0,hN1⟩ dO ⟨id,id,id,id,id,id,id,tV⟩ ⟨rI,rI,tV⟩
 ·try simp at hc0
  refine ex (xt_ (xt_ (xb (th (sq (rg (mv (cal (Hi:= [(7,own v7x 3 1 nE out)]) (φs:= [osl 7 v7x]) ⟨J,tV⟩ (zG 5 7 (shelfI.HB _ v7x out)) T.NG ⟨rI,tV⟩ fun _ _=>(nl (th (sq (rg (mv (cal (Hi:= [(7,own v7x 3 1 nE (pI out))]) (φs:= [osl 7 v7x]) ⟨J,tV⟩ (JI 5 7 (shelfI.HC _ v7x (pI out))) T.NH ⟨rI,tV⟩ fun _ v42=>(ag (nl (th (rt ?_))))))))))))))))))
  refine OE nE 7 6 noM flat rfl rfl ?_
  have hr0:(Lib.compact (pI out))=(fM m l a):=by
   rw[hI0,show k=l.length by omega,List.take_length];exact Ls hm hl
  exact rE () [.tmp 6] J [fre w0.heap.size (sl 1 nE (Lib.compact (pI out)))] ⟨.tmp J,tV⟩ (cA1 (fun x0=>rV [fre w0.heap.size (sl 1 nE x0)]) hr0) trivial eX
theorem TF (m:aI) (hm:dJ m) (l:List Int) (hl:∀x∈l,0≤x∧x<(m.sT.length:Int)) (hll:l.length≤10000):
 Fn0 Tryz.prog 84 [ints l,fp [strs m.aC,sl 1 gE m.sT]] (ints (iP m l)):=by
 refine fnI Tryz.func84 rfl rfl (fun w0 F0=> ?_)
 have f1:=hm.few1;have n8:=hm.n8
 refine fcC (aL 0 J) (fun hm0=> ?_)
 refine sq (rg (ag (nl (th (sq (rg (nw 4 3 1 nE (ag (rtg (key:=4) 4 J (nl (th (sq (sq (rg (mv (lnF J T.aM (mv (nl (th (bk ?_))))))))))))))))))))
 have hI0_0:0≤l.length:=by
  first|omega|simp
 have hI0_1:([]:List Int)=iP m (l.take 0):=by
  rfl
 refine lp (κ:=Nat × Value × (List Int)) (fun p=> [(1,fp [sl 1 rE_ m.aC,sl 1 gE m.sT]),(3,eqv (.slice none 0 0)),(4,osl 4 p.2.1),(7,sl 1 nE l),(8,int (l.length:Int)),(9,int (p.1:Int))]) (fun p=> [(4,own p.2.1 3 1 nE p.2.2)]) (fun p=>(p.1≤l.length)∧(p.2.2=iP m (l.take p.1))) (fun p=>l.length- p.1) ⟨0,(.slice none 0 0),([]:List Int)⟩ ⟨hI0_0,hI0_1⟩ ⟨id,id,id,id,id,id,tV⟩ ⟨rI,tV⟩ ?_
 intro⟨k,v4,out⟩ hG0
 obtain⟨hk0,hI0⟩:(k≤l.length)∧(out=iP m (l.take k)):=hG0
 show Ct _ _ _ _ [(1,fp [sl 1 rE_ m.aC,sl 1 gE m.sT]),(3,eqv (.slice none 0 0)),(4,osl 4 v4),(7,sl 1 nE l),(8,int (l.length:Int)),(9,int (k:Int))] [(4,own v4 3 1 nE out)] _
 have hol:out.length≤k:=by rw[hI0];unfold iP;rw[List.length_map,List.length_take];omega
 refine sq (rg (bi J J aN (nl (th (sq ?_)))))
 refine cd J (fun hc0=> ?_) (fun hc0=> ?_)
 ·try simp at hc0
  have hlk:=hl _ (aZ hc0)
  have hoff:∀e∈edg m (ix l k).toNat,0≤e.1∧e.1<8:=fun e he=>by have:=hm.ed (ix l k).toNat O e he;omega
  refine sk (th (sq (bk (sq (rg (iF J J T.aM O gB (lF J J T.aF (ag (nl (th (rg (mv (fF J T.dS (lF J J T.gH (mv (iF J J T.jN O gB (lF J J T.iL (aO (φs:= [sl 2 pE (ix m.sT (ix l k).toNat)]) (φ:=int (iC (ix m.sT (ix l k).toNat))) ⟨J,tV⟩ (sysw.EB (ix m.sT (ix l k).toNat) aS) T.RF (bsE (enc:=nE) (xs:= [(iC (ix m.sT (ix l k).toNat))]) (css:= [[int (iC (ix m.sT (ix l k).toNat))]]) T.cE ⟨J,J,p1 (φ:=int (iC (ix m.sT (ix l k).toNat))) J,tV⟩ J J J J (ap (key:=4) (zs:= [(iC (ix m.sT (ix l k).toNat))]) cH J J J T.cE (by unfold aU at*;simp;omega) (by unfold aU at*;simp;omega) fun v21=>(ag (nl (eb (th (rg (bi J J (aK i6) (mv (nl ?_))))))))))))))))))))))))))))
  have hN0:(k+1)≤l.length:=by
   first|omega|simp_all
  have hN1:(out++ [(iC (ix m.sT (ix l k).toNat))])=iP m (l.take (k+1)):=by
   rw[hI0,QB O]
  exact ln (⟨k+1,v21,out++ [(iC (ix m.sT (ix l k).toNat))]⟩:Nat × Value × (List Int)) ⟨hN0,hN1⟩ dO ⟨id,id,id,id,id,id,tV⟩ ⟨rI,tV⟩
 ·try simp at hc0
  refine ex (xt_ (xt_ (xb (th (sq (rg (mv (ag (nl (th (rt ?_)))))))))))
  refine fzA 4 3 rfl rfl ?_
  have hr0:out=(iP m l):=by
   rw[hI0,show k=l.length by omega,List.take_length]
  exact rE () [.tmp 3] J [sl 1 nE out] ⟨.tmp J,tV⟩ (cA1 (fun x0=>rV [sl 1 nE x0]) hr0) trivial eX
theorem DS (q:Sd) (hp:zN q):
 Fn0 Tryz.prog 87 [kQ (agg [ints q.1,int q.2])] (str (fD q)):=by
 refine fnI Tryz.func87 rfl rfl (fun w0 F0=> ?_)
 have hx0:=hp.x0;have hx1:=hp.x1;have hpl:=hp.len
 refine tbI 0 9999 rfl ?_
 refine GD (ψ:=tab) 9999 997 rfl ?_
 refine sq (rg (bx (key:=1) (cs:= [sl 1 nE q.1,int q.2]) J fun b1=>(ag (nl (th (sq (rg (fP J T.BC (lP J J J T.aF (tbU (ψ:=tab) 7 9999 J J (aO (φs:= [both (int q.2) tab]) (φ:=str (iD q.2)) ⟨J,tV⟩ (Itoa.yY q.2 O O) T.Fp (ag (nl (th (sq (sq (rg (fP J T.BD (lP J J J T.aV (fc (aL 10 J) fun hm10=>(lnF J T.aM (mv (nl (th (bk ?_)))))))))))))))))))))))))
 have hI0_0:0≤q.1.length:=by
  first|omega|simp
 have hI0_1:(iD q.2)=lG q.2 (q.1.take 0):=by
  exact Gg q.2
 refine lp (κ:=Nat × ByteArray) (fun p=> [(2,str ({ data:= #[] })),(3,str p.2),(10,sl 1 nE q.1),(11,int (q.1.length:Int)),(12,int (p.1:Int)),(9999,tab)]) (fun p=> [(1,cell b1 [sl 1 nE q.1,int q.2]),(997,eR tab)]) (fun p=>(p.1≤q.1.length)∧(p.2=lG q.2 (q.1.take p.1))) (fun p=>q.1.length- p.1) ⟨0,iD q.2⟩ ⟨hI0_0,hI0_1⟩ ⟨id,id,id,id,id,id,tV⟩ ⟨rI,rI,tV⟩ ?_
 intro⟨k,s⟩ hG0
 obtain⟨hk0,hI0⟩:(k≤q.1.length)∧(s=lG q.2 (q.1.take k)):=hG0
 show Ct _ _ _ _ [(2,str ({ data:= #[] })),(3,str s),(10,sl 1 nE q.1),(11,int (q.1.length:Int)),(12,int (k:Int)),(9999,tab)] [(1,cell b1 [sl 1 nE q.1,int q.2]),(997,eR tab)] _
 have hsl:s.size≤22+22*10000:=by rw[hI0];exact TC hp k
 refine sq (rg (bi J J aN (nl (th (sq ?_)))))
 refine cd J (fun hc0=> ?_) (fun hc0=> ?_)
 ·try simp at hc0
  have hbx:=hp.bd _ (aZ hc0)
  have z2:=xQ (n:=ix q.1 k) O O
  refine sk (th (sq (bk (sq (rg (iF J J T.aM O gB (lF J J T.aF (ag (nl (th (rg (mv (mv (tbU (ψ:=tab) 17 9999 J J (aO (φs:= [both (int (ix q.1 k)) tab]) (φ:=str (iD (ix q.1 k))) ⟨J,tV⟩ (Itoa.yY (ix q.1 k) O O) T.Fp (bi J J (BV (by show 1+_≤aU;unfold aU;omega)) (bi J J (BV (by rw[ByteArray.size_append];show _+(1+_)≤aU;unfold aU;omega)) (ag (nl (eb (th (rg (bi J J (aK i6) (mv (nl ?_)))))))))))))))))))))))))
  have hN0:(k+1)≤q.1.length:=by
   first|omega|simp_all
  have hN1:(s++(({ data:= #[32] })++(iD (ix q.1 k))))=lG q.2 (q.1.take (k+1)):=by
   rw[hI0,NZ O]
  exact ln (⟨k+1,s++(({ data:= #[32] })++(iD (ix q.1 k)))⟩:Nat × ByteArray) ⟨hN0,hN1⟩ dO ⟨id,id,id,id,id,id,tV⟩ ⟨rI,rI,tV⟩
 ·try simp at hc0
  refine ex (xt_ (xt_ (xb (th (sq (rg (mv (ag (nl (th (rt ?_)))))))))))
  have hr0:s=(fD q):=by
   rw[hI0,show k=q.1.length by omega,List.take_length];rfl
  exact rE () [.tmp 2] J [str s] ⟨.tmp J,tV⟩ (cA1 (fun x0=>rV [str x0]) hr0) trivial eX
theorem QC (m:aI) (hm:dJ m) (U:SS) (hT:oK U) (p:Sd) (hp:sOk m U p):
 Fn0 Tryz.prog 89 [agg [ints p.1,int p.2],fp [clo 84 [fp [strs m.aC,sl 1 gE m.sT]]],fp [strs U.aC,sl 2 sE U.sT]] (ints (sA m U p)):=by
 refine fnI Tryz.func89 rfl rfl (fun w0 F0=> ?_)
 have f1:=hm.few1;have f2:=hT.few1;have hx0:=hp.x0;have hx1:=hp.x1
 have hpl:=Ic hp.rise hp.bd
 have hbd:=hp.bd
 have hst:=hT.st p.2.toNat O
 have hta:=hst.ac
 have ht8:=hst.acl
 have hol:(iP m p.1).length≤10000:=by unfold iP;rw[List.length_map];omega
 have hsa:∀k,k<(iP m p.1).length→0≤ix (iP m p.1) k∧ix (iP m p.1) k<256:=fun k hk=>NW hm hp.bd _ (aZ hk)
 refine sq (rg (bx (key:=3) (cs:= [sl 1 nE p.1,int p.2]) J fun b3=>(ag (nl (th (sq (dr (nh:=13) [0,0,2,7,0,16,0,64,240,496,1008,2047,4095] T.mixed kR ?_)))))))
 refine st_ J (fun _ _ _ gq kq=>lF (gq.1.trans J) J T.Oa kq) ?_
 refine st_ J (fun _ _ _ gq kq=>fP (gq.1.trans J) T.BD kq) ?_
 refine st_ J (fun _ _ _ gq kq=>lP (gq.1.trans J) J J T.aV kq) ?_
 refine st_ J (fun _ _ _ gq kq=>nH (φs:= [sl 1 nE p.1]) (φ:=sl 1 nE (iP m p.1)) (gq.1.trans J) ⟨(gq.2.1.trans J),tV⟩ (TF m hm p.1 hbd O) T.WT kq) ?_
 refine st_ J (fun _ _ _ gq kq=>fF (gq.1.trans J) T.aY kq) ?_
 refine st_ J (fun _ _ _ gq kq=>lF (gq.1.trans J) J T.bI kq) ?_
 refine st_ J (fun _ _ _ gq kq=>fP (gq.1.trans J) T.BC kq) ?_
 refine st_ J (fun _ _ _ gq kq=>lP (gq.1.trans J) J J T.aF kq) ?_
 refine st_ J (fun _ _ _ gq kq=>iF (gq.1.trans J) (gq.2.1.trans J) T.bU O gB kq) ?_
 refine st_ J (fun _ _ _ gq kq=>fF (gq.1.trans J) T.cM kq) ?_
 refine st_ J (fun _ _ _ gq kq=>lF (gq.1.trans J) J T.aV kq) ?_
 refine st_ J (fun _ _ _ gq kq=>dU (φs:= [sl 1 nE (iP m p.1),sl 1 nE (ix U.sT p.2.toNat).aP,eqv (.func (.func 91) #[] #[])]) (φ:=sl 1 nE (iN (iP m p.1) (ix U.sT p.2.toNat).aP)) ⟨(gq.1.trans J),(gq.2.1.trans J),J,tV⟩ (EL (iP m p.1) (ix U.sT p.2.toNat).aP hsa hta hol ht8) T.Rx (fun N hN=>fun h=>bP h) kq) ?_
 refine st_ J (fun _ _ _ gq kq=>ag' (gq.1.trans J) kq) ?_
 refine pn (nl (th (rt ?_)))
 have hr0:(iN (iP m p.1) (ix U.sT p.2.toNat).aP)=(sA m U p):=by
  rfl
 exact rE () [.tmp 4] J [sl 1 nE (iN (iP m p.1) (ix U.sT p.2.toNat).aP)] ⟨.tmp J,tV⟩ (cA1 (fun x0=>rV [sl 1 nE x0]) hr0) trivial eX
theorem QD (m:aI) (hm:dJ m) (U:SS) (hT:oK U) (p:Sd) (hp:sOk m U p) (a:Nat) (ha:a<U.aC.length):
 Fn0 Tryz.prog 92 [agg [ints p.1,int p.2],int (a:Int),fp [strs m.aC,sl 1 gE m.sT],fp [strs U.aC,sl 2 sE U.sT]] (agg [ints (sN m U p a).1,int (sN m U p a).2]):=by
 refine fnI Tryz.func92 rfl rfl (fun w0 F0=> ?_)
 have f1:=hm.few1;have f2:=hT.few1;have hx0:=hp.x0;have hx1:=hp.x1
 have hpl:=Ic hp.rise hp.bd
 have hbd:=hp.bd
 have hst:=hT.st p.2.toNat O
 have htl:=hst.len
 refine sq (rg (bx (key:=4) (cs:= [sl 1 nE p.1,int p.2]) J fun b4=>(al (key:=6) T.VX (eC (eC eZ)) fun b6=>(nl (th (sq (dr (nh:=16) [0,0,2,0,15,0,32,0,128,480,992,2016,0,8160,16352,32767,65535] T.mixed kR ?_)))))))
 refine st_ J (fun _ _ _ gq kq=>lFA (gq.1.trans J) T.cD (Nat.le_of_ble_eq_true J) kq) ?_
 refine st_ J (fun _ _ _ gq kq=>fP (gq.1.trans J) T.BD kq) ?_
 refine st_ J (fun _ _ _ gq kq=>lP (gq.1.trans J) J J T.aV kq) ?_
 refine st_ J (fun _ _ _ gq kq=>mv' (gq.1.trans J) kq) ?_
 refine st_ J (fun _ _ _ gq kq=>dU (φs:= [agg [sl 1 rE_ m.aC,sl 1 gE m.sT],sl 1 nE p.1,int (a:Int)]) (φ:=sl 1 nE (fM m p.1 (a:Int))) ⟨(gq.1.trans J),(gq.2.1.trans J),(gq.2.2.1.trans J),tV⟩ (prodb.TE m aS p.1 aS O (a:Int)) T.WW (fun N hN=>fun h=>bP h) kq) ?_
 refine st_ J (fun _ _ _ gq kq=>fF (gq.1.trans J) T.aY kq) ?_
 refine st_ J (fun _ _ _ gq kq=>lF (gq.1.trans J) J T.bI kq) ?_
 refine st_ J (fun _ _ _ gq kq=>fP (gq.1.trans J) T.BC kq) ?_
 refine st_ J (fun _ _ _ gq kq=>lP (gq.1.trans J) J J T.aF kq) ?_
 refine st_ J (fun _ _ _ gq kq=>iF (gq.1.trans J) (gq.2.1.trans J) T.bU O gB kq) ?_
 refine st_ J (fun _ _ _ gq kq=>fF (gq.1.trans J) T.bQ kq) ?_
 refine st_ J (fun _ _ _ gq kq=>lF (gq.1.trans J) J T.aV kq) ?_
 refine st_ J (fun _ _ _ gq kq=>mv' (gq.1.trans J) kq) ?_
 refine st_ J (fun _ _ _ gq kq=>iF (gq.1.trans J) (gq.2.1.trans J) T.aM O gB kq) ?_
 refine st_ J (fun _ _ _ gq kq=>lF (gq.1.trans J) J T.aF kq) ?_
 refine st_ J (fun _ _ _ gq kq=>bd (css:= [(0,_),(1,_)]) T.RH (eC (eC eZ)) ⟨J,J,p1 (φ:=sl 1 nE (fM m p.1 (a:Int))) (by exact(gq.1.trans J)),⟨J,J,p1 (φ:=int (ix (ix U.sT p.2.toNat).next a)) (by exact(gq.2.1.trans J)),tV⟩⟩ kq) ?_
 refine pn (sPA (cs':= [sl 1 nE (fM m p.1 (a:Int)),int (ix (ix U.sT p.2.toNat).next a)]) J J J T.nF J J (nl (th (rt ?_))))
 have hr0:(fM m p.1 (a:Int))=((sN m U p a).1):=by
  rfl
 have hr1:((ix (ix U.sT p.2.toNat).next a):Int)=((sN m U p a).2):=by
  rfl
 exact rE () [.cell 6 116] J [agg [sl 1 nE (fM m p.1 (a:Int)),int (ix (ix U.sT p.2.toNat).next a)]] ⟨.agg J J T.nF J J,tV⟩ (cA2 (fun x0 x1=>rV [agg [sl 1 nE x0,int x1]]) hr0 hr1) trivial eX
theorem QE (m:aI) (hm:dJ m) (U:SS) (hT:oK U) (hMU:m.aC.length=U.aC.length):
 Fn0 Tryz.prog 86 [kQ (strs m.aC),agg [ints [0],int 0],clo 87 [],clo 89 [fp [clo 84 [fp [strs m.aC,sl 1 gE m.sT]]],fp [strs U.aC,sl 2 sE U.sT]],clo 92 [fp [strs m.aC,sl 1 gE m.sT],fp [strs U.aC,sl 2 sE U.sT]]] (tup [spec (eW m U).1,bl (eW m U).2]):=by
 refine fnI Tryz.func86 rfl rfl (fun w0 F0=> ?_)
 have f1:=hm.few1;have f2:=hT.few1;have f3:=hm.few0;have f4:=hT.few0;have hn8:=hm.n8;have hG:=Qy hm hT hMU
 have hk0:zN ([0],0):=NY hm hT (Ib hm hT)
 have hks0:(fD ([0],0)).size≤aU:=ES hk0
 refine tbI 0 9999 rfl ?_
 refine GD (ψ:=tab) 9999 997 rfl ?_
 refine fcC (aL 0 J) (fun hm0=> ?_)
 refine sq (rg (bx (key:=6) (cs:= [sl 1 nE [0],int 0]) J fun b6=>(bx1 (key:=7) (φ:=clo 87 []) J fun b7=>(bx1 (key:=9) (φ:=clo 92 [fp [sl 1 rE_ m.aC,sl 1 gE m.sT],fp [sl 1 rE_ U.aC,sl 2 sE U.sT]]) J fun b9=>(al (key:=10) T.z25 (eC (eC eZ)) fun b10=>(al (key:=11) T.z4 (eC eZ) fun b11=>(nl (th (sq (rg (mkm (key:=24) (kE:=smE) (dom:=smD) (vE:=smV) fun b24=>(lP J J J T.Ie (lPA J J T.nF J (tbU (ψ:=tab) 26 9999 J J (nH (φs:= [both (agg [sl 1 nE [0],int 0]) tab]) (φ:=str (fD ([0],0))) J ⟨J,tV⟩ (DS ([0],0) hk0) T.Lt (AL.insert (q:=fD ([0],0)) (u:=0) J J Ci J T.vJ hks0 (mv (al (key:=12) T.z173 (eC eZ) fun b12=>(sP (φ:=mpv 24 b24) J J J T.vK J (nl (th (sq (rg (lPA J J T.nF J (bsO 30 (enc:=sdE) (xs:= [([0],0)]) (css:= [[sl 1 nE [0],int 0]]) T.Lu ⟨J,J,pA (cs:= [sl 1 nE [0],int 0]) J,tV⟩ J J J J fun v30=>(al (key:=13) T.XA (eC eZ) fun b13=>(bY J J J J T.qZ J (nl (th (sq (rg (mv (dU (φs:= [sl 1 rE_ m.aC]) (φ:=sl 1 rE_ m.aC) ⟨J,tV⟩ (prog.jV _ O) T.yX (fun N hN=>fun h=>bP h) (bd (css:= [(0,_)]) T.lA (eC (eC eZ)) ⟨J,J,p1 (φ:=sl 1 rE_ m.aC) J,tV⟩ (al (key:=14) T.z25 (eC (eC eZ)) fun b14=>(sPA (cs':= [sl 1 rE_ m.aC,eqv (.slice none 0 0)]) J J J T.aD J J (nl (th (sq (sq (rg (al (key:=15) T.z3 (eC eZ) fun b15=>(sP (φ:=int 0) J J J T.aF J (nl (th (bk ?_))))))))))))))))))))))))))))))))))))))))))))))
 refine nwC 100 81 2 sE (oJ 14 1 (osl 100 (.slice none 0 0)) rfl rfl dY ?_)
 have hI0_0:GW (sA m U) (sN m U) (sOk m U) fD m.aC.length (2^m.sT.length*U.sT.length) (sL m U) 0 ([([0],0)]:List Sd) (dI ([]:List (ByteArray × Int)) (fD ([0],0)) 0) ([]:List SA):=by
  exact JE hG (Ib hm hT)
 refine lp (κ:=Nat × Nat × Value × (List Sd) × (List (ByteArray × Int)) × Value × (List SA)) (fun p=> [(0,sl 1 rE_ m.aC),(3,clo 89 [fp [clo 84 [fp [sl 1 rE_ m.aC,sl 1 gE m.sT]]],fp [sl 1 rE_ U.aC,sl 2 sE U.sT]]),(7,ptr 7 b7 0),(9,ptr 9 b9 0),(10,ptr 10 b10 0),(11,ptr 11 b11 0),(12,ptr 12 b12 0),(13,ptr 13 b13 0),(14,ptr 14 b14 0),(15,ptr 15 p.1 0),(9999,tab)]) (fun p=> [(6,cell b6 [sl 1 nE [0],int 0]),(7,cell b7 [clo 87 []]),(9,cell b9 [clo 92 [fp [sl 1 rE_ m.aC,sl 1 gE m.sT],fp [sl 1 rE_ U.aC,sl 2 sE U.sT]]]),(10,cell b10 [eqv (.slice none 0 0),eqv (.slice none 0 0)]),(11,cell b11 [bl false]),(12,cell b12 [mpv 24 b24]),(13,cell b13 [osl 30 p.2.2.1]),(14,cell b14 [sl 1 rE_ m.aC,osl 100 p.2.2.2.2.2.1]),(15,cell p.1 [int (p.2.1:Int)]),(24,mp b24 smE smD smV p.2.2.2.2.1),(30,own p.2.2.1 116 2 sdE p.2.2.2.1),(100,own p.2.2.2.2.2.1 81 2 sE p.2.2.2.2.2.2),(997,eR tab)]) (fun p=>GW (sA m U) (sN m U) (sOk m U) fD m.aC.length (2^m.sT.length*U.sT.length) (sL m U) p.2.1 p.2.2.2.1 p.2.2.2.2.1 p.2.2.2.2.2.2) (fun p=>501- p.2.1) ⟨b15,0,v30,([([0],0)]:List Sd),dI ([]:List (ByteArray × Int)) (fD ([0],0)) 0,(.slice none 0 0),([]:List SA)⟩ hI0_0 ⟨id,id,id,id,id,id,id,id,id,id,id,tV⟩ ⟨rI,rI,rI,rI,rI,rI,rI,rI,rI,rI,rI,rI,rI,tV⟩ ?_
 intro⟨ib,i,v,ql,mm,v14,bA⟩ hG0
 have hQW:GW (sA m U) (sN m U) (sOk m U) fD m.aC.length (2^m.sT.length*U.sT.length) (sL m U) i ql mm bA:=hG0
 show Ct _ _ _ _ [(0,sl 1 rE_ m.aC),(3,clo 89 [fp [clo 84 [fp [sl 1 rE_ m.aC,sl 1 gE m.sT]]],fp [sl 1 rE_ U.aC,sl 2 sE U.sT]]),(7,ptr 7 b7 0),(9,ptr 9 b9 0),(10,ptr 10 b10 0),(11,ptr 11 b11 0),(12,ptr 12 b12 0),(13,ptr 13 b13 0),(14,ptr 14 b14 0),(15,ptr 15 ib 0),(9999,tab)] [(6,cell b6 [sl 1 nE [0],int 0]),(7,cell b7 [clo 87 []]),(9,cell b9 [clo 92 [fp [sl 1 rE_ m.aC,sl 1 gE m.sT],fp [sl 1 rE_ U.aC,sl 2 sE U.sT]]]),(10,cell b10 [eqv (.slice none 0 0),eqv (.slice none 0 0)]),(11,cell b11 [bl false]),(12,cell b12 [mpv 24 b24]),(13,cell b13 [osl 30 v]),(14,cell b14 [sl 1 rE_ m.aC,osl 100 v14]),(15,cell ib [int (i:Int)]),(24,mp b24 smE smD smV mm),(30,own v 116 2 sdE ql),(100,own v14 81 2 sE bA),(997,eR tab)] _
 have hlf:=hQW.few
 have hil:=hQW.il
 have hol:bA.length≤i:=by rw[hQW.out];simp;omega
 refine sq (sq (rg (lP J J J T.aF (lP J J J T.qZ (lnO J J T.CZ (bi J J aN (nl (th ?_))))))))
 refine cd J (fun hc0=> ?_) (fun hc0=> ?_)
 ·try simp at hc0
  have hPm:=aZ hc0
  have hokP:=hQW.okl _ hPm
  have hcr:=EJ (iP m (ix ql i).1) (acc U (ix ql i).2.toNat)
  have hcl:(sA m U (ix ql i)).length≤256:=hcr
  refine sk (th (sq (bk (sq (rg (mv (lP J J J T.qZ (lP J J J T.aF (iO J J J T.CZ O O (lOA J J gB T.nF (by decide) (nH (φs:= [agg [sl 1 nE ((ix ql i).1),int ((ix ql i).2)]]) (φ:=sl 1 nE (sA m U (ix ql i))) J ⟨J,tV⟩ (QC m hm U hT (ix ql i) hokP) T.WU (bsE (enc:=nE) (xs:= [(-1)]) (css:= [[int (-1)]]) T.cE ⟨J,J,p1 (φ:=int (-1)) J,tV⟩ J J J J (mv (lnF J T.eS (cl (NF 30 300 (prog8.uB m.aC.length O)) T.CA trivial fun N49 v49=>(fc (svI 300 J) fun hsv300=> ?_))))))))))))))))
  rw[←hsv300]
  refine kn 49 (eqv (sv v49)) rfl HE (bd (css:= [(0,_),(1,_)]) T.uM (eC (eC eZ)) ⟨rfl,rfl,p1 (φ:=sl 1 nE (sA m U (ix ql i))) rfl,⟨rfl,rfl,p1 (φ:=eqv (sv v49)) rfl,tV⟩⟩ (al (key:=16) T.z81 (eC (eC eZ)) fun b16=>(sPA (cs':= [sl 1 nE (sA m U (ix ql i)),eqv (sv v49)]) rfl rfl rfl T.cP rfl rfl (knc 16 1 (osl 300 (sv v49)) rfl rfl dY (nl (th (sq (rg (ag (nl (th (sq (sq (rg (fP rfl T.cM (lP rfl rfl rfl T.aV (fc (aL 52 rfl) fun hm52=>(lnF rfl T.aM (mv (nl (th (bk ?_))))))))))))))))))))))
  have hI1_0:0≤(sA m U (ix ql i)).length:=by
   first|omega|simp
  have hI1_1:(0:Int)=aT ((sA m U (ix ql i)).take 0)∧0≤(0:Int)∧(0:Int)<256:=by
   exact⟨rfl,O,O⟩
  refine lp (κ:=Nat × Int) (fun p=> [(0,sl 1 rE_ m.aC),(3,clo 89 [fp [clo 84 [fp [sl 1 rE_ m.aC,sl 1 gE m.sT]]],fp [sl 1 rE_ U.aC,sl 2 sE U.sT]]),(7,ptr 7 b7 0),(9,ptr 9 b9 0),(10,ptr 10 b10 0),(11,ptr 11 b11 0),(12,ptr 12 b12 0),(13,ptr 13 b13 0),(14,ptr 14 b14 0),(15,ptr 15 ib 0),(16,ptr 16 b16 0),(17,int p.2),(52,sl 1 nE (sA m U (ix ql i))),(53,int ((sA m U (ix ql i)).length:Int)),(54,int (p.1:Int)),(9999,tab)]) (fun p=> [(6,cell b6 [sl 1 nE [0],int 0]),(7,cell b7 [clo 87 []]),(9,cell b9 [clo 92 [fp [sl 1 rE_ m.aC,sl 1 gE m.sT],fp [sl 1 rE_ U.aC,sl 2 sE U.sT]]]),(10,cell b10 [eqv (.slice none 0 0),eqv (.slice none 0 0)]),(11,cell b11 [bl false]),(12,cell b12 [mpv 24 b24]),(13,cell b13 [osl 30 v]),(14,cell b14 [sl 1 rE_ m.aC,osl 100 v14]),(15,cell ib [int (i:Int)]),(16,cell b16 [sl 1 nE (sA m U (ix ql i)),osl 300 (sv v49)]),(24,mp b24 smE smD smV mm),(30,own v 116 2 sdE ql),(100,own v14 81 2 sE bA),(300,own (sv v49) 3 1 nE (List.replicate m.aC.length (-1))),(997,eR tab)]) (fun p=>(p.1≤(sA m U (ix ql i)).length)∧(p.2=aT ((sA m U (ix ql i)).take p.1)∧0≤p.2∧p.2<256)) (fun p=>(sA m U (ix ql i)).length- p.1) ⟨0,(0:Int)⟩ ⟨hI1_0,hI1_1⟩ ⟨id,id,id,id,id,id,id,id,id,id,id,id,id,id,id,id,tV⟩ ⟨rI,rI,rI,rI,rI,rI,rI,rI,rI,rI,rI,rI,rI,rI,rI,tV⟩ ?_
  intro⟨k1,cn⟩ hG1
  obtain⟨hk1,hI1⟩:(k1≤(sA m U (ix ql i)).length)∧(cn=aT ((sA m U (ix ql i)).take k1)∧0≤cn∧cn<256):=hG1
  show Ct _ _ _ _ [(0,sl 1 rE_ m.aC),(3,clo 89 [fp [clo 84 [fp [sl 1 rE_ m.aC,sl 1 gE m.sT]]],fp [sl 1 rE_ U.aC,sl 2 sE U.sT]]),(7,ptr 7 b7 0),(9,ptr 9 b9 0),(10,ptr 10 b10 0),(11,ptr 11 b11 0),(12,ptr 12 b12 0),(13,ptr 13 b13 0),(14,ptr 14 b14 0),(15,ptr 15 ib 0),(16,ptr 16 b16 0),(17,int cn),(52,sl 1 nE (sA m U (ix ql i))),(53,int ((sA m U (ix ql i)).length:Int)),(54,int (k1:Int)),(9999,tab)] [(6,cell b6 [sl 1 nE [0],int 0]),(7,cell b7 [clo 87 []]),(9,cell b9 [clo 92 [fp [sl 1 rE_ m.aC,sl 1 gE m.sT],fp [sl 1 rE_ U.aC,sl 2 sE U.sT]]]),(10,cell b10 [eqv (.slice none 0 0),eqv (.slice none 0 0)]),(11,cell b11 [bl false]),(12,cell b12 [mpv 24 b24]),(13,cell b13 [osl 30 v]),(14,cell b14 [sl 1 rE_ m.aC,osl 100 v14]),(15,cell ib [int (i:Int)]),(16,cell b16 [sl 1 nE (sA m U (ix ql i)),osl 300 (sv v49)]),(24,mp b24 smE smD smV mm),(30,own v 116 2 sdE ql),(100,own v14 81 2 sE bA),(300,own (sv v49) 3 1 nE (List.replicate m.aC.length (-1))),(997,eR tab)] _
  refine sq (rg (bi J J aN (nl (th (sq ?_)))))
  refine cd J (fun hc1=> ?_) (fun hc1=> ?_)
  ·try simp at hc1
   have hkb:=qY (aZ (l:=(sA m U (ix ql i))) O)
   refine sk (th (sq (bk (sq (rg (iF J J T.aM O gB (lF J J T.aF (ag (nl (th (rg (mv (mv (bi J J (rO O O O O) (ag (nl (eb (th (rg (bi J J (aK i6) (mv (nl ?_))))))))))))))))))))))
   have hN0:(k1+1)≤(sA m U (ix ql i)).length:=by
    first|omega|simp_all
   have hN1:((cn.toNat|||(ix (sA m U (ix ql i)) k1).toNat:Nat):Int)=aT ((sA m U (ix ql i)).take (k1+1))∧0≤((cn.toNat|||(ix (sA m U (ix ql i)) k1).toNat:Nat):Int)∧((cn.toNat|||(ix (sA m U (ix ql i)) k1).toNat:Nat):Int)<256:=by
    refine⟨?_,O,kG hI1.2.2 hkb.2⟩
    rw[bL O,gQ,←hI1.1]
   exact ln (⟨k1+1,((cn.toNat|||(ix (sA m U (ix ql i)) k1).toNat:Nat):Int)⟩:Nat × Int) ⟨hN0,hN1⟩ dO ⟨id,id,id,id,id,id,id,id,id,id,id,id,id,id,id,id,tV⟩ ⟨rI,rI,rI,rI,rI,rI,rI,rI,rI,rI,rI,rI,rI,rI,rI,tV⟩
  ·try simp at hc1
   refine ex (xt_ (xt_ (xb (th (sq (sq (rg (mv (aO (φs:= [int cn]) (φ:=clo 162 [fp [int cn]]) ⟨J,tV⟩ (prog3.qI cn) T.tA (nl (th (bk ?_))))))))))))
   have hcn2:cn=aT (sA m U (ix ql i)):=by rw[hI1.1,show k1=(sA m U (ix ql i)).length by omega,List.take_length]
   have hcn3:listOf 63 cn=dN (sA m U) (ix ql i):=by unfold dN;rw[hcn2]
   have hR0:GN (sA m U) (sN m U) (sOk m U) fD m.aC.length (sL m U) i ql 0 ql mm (List.replicate m.aC.length (-1)):=by
    exact JF hQW
   refine rf (κ:=Value × (List Sd) × (List (ByteArray × Int)) × (List Int)) 900 (fun p=> [(6,cell b6 [sl 1 nE [0],int 0]),(7,cell b7 [clo 87 []]),(9,cell b9 [clo 92 [fp [sl 1 rE_ m.aC,sl 1 gE m.sT],fp [sl 1 rE_ U.aC,sl 2 sE U.sT]]]),(10,cell b10 [eqv (.slice none 0 0),eqv (.slice none 0 0)]),(11,cell b11 [bl false]),(12,cell b12 [mpv 24 b24]),(13,cell b13 [osl 30 p.1]),(14,cell b14 [sl 1 rE_ m.aC,osl 100 v14]),(15,cell ib [int (i:Int)]),(16,cell b16 [sl 1 nE (sA m U (ix ql i)),osl 300 (sv v49)]),(24,mp b24 smE smD smV p.2.2.1),(30,own p.1 116 2 sdE p.2.1),(100,own v14 81 2 sE bA),(300,own (sv v49) 3 1 nE p.2.2.2),(997,eR tab)]) (fun iR p=>GN (sA m U) (sN m U) (sOk m U) fD m.aC.length (sL m U) i ql iR p.2.1 p.2.2.1 p.2.2.2) (fun c p=>c= .ret∧(500<(sL m U).length)) J (AK cn O O) T.tB J (fun _=>J) (fun _=>J) ⟨v,ql,mm,List.replicate m.aC.length (-1)⟩ hR0 ⟨rI,rI,rI,rI,rI,rI,rI,rI,rI,rI,rI,rI,rI,rI,rI,tV⟩ ?_ ?_ ?_ (fun id k h=>nomatch h.1) (fun c k h=> .inl h.1)
   ·intro m0 ⟨v2,l2,mm2,nx⟩ x0 hG0 hx0 l R w1 M1 F1 hRd
    have hR0:GN (sA m U) (sN m U) (sOk m U) fD m.aC.length (sL m U) i ql m0 l2 mm2 nx:=hG0
    show Ct _ _ _ _ _ ((900,obj l (.loop R)):: [(6,cell b6 [sl 1 nE [0],int 0]),(7,cell b7 [clo 87 []]),(9,cell b9 [clo 92 [fp [sl 1 rE_ m.aC,sl 1 gE m.sT],fp [sl 1 rE_ U.aC,sl 2 sE U.sT]]]),(10,cell b10 [eqv (.slice none 0 0),eqv (.slice none 0 0)]),(11,cell b11 [bl false]),(12,cell b12 [mpv 24 b24]),(13,cell b13 [osl 30 v2]),(14,cell b14 [sl 1 rE_ m.aC,osl 100 v14]),(15,cell ib [int (i:Int)]),(16,cell b16 [sl 1 nE (sA m U (ix ql i)),osl 300 (sv v49)]),(24,mp b24 smE smD smV mm2),(30,own v2 116 2 sdE l2),(100,own v14 81 2 sE bA),(300,own (sv v49) 3 1 nE nx),(997,eR tab)]) _
    have hx2:(dN (sA m U) (ix ql i))[m0]?=some x0:=by rw[←hcn3];exact hx0
    obtain⟨a,rfl,ha63,hha⟩:=listOf_get hx0
    have hha2:has (aT (sA m U (ix ql i))) (a:Int)=true:=by rw[←hcn2];exact hha
    obtain⟨hal9,hqok1⟩:=CX hm hT hokP hha2
    have hal8:a<m.aC.length:=by omega
    have hnl:nx.length=m.aC.length:=by rw[hR0.nx];simp
    have hl2f:=hR0.few
    have hixP:ix l2 i=(ix ql i):=KZ hR0 hc0
    have hil2:i<l2.length:=by rw[hR0.pre];exact Nat.lt_of_lt_of_le hc0 (gL _ _ _ _ ql).length_le
    have hkN:zN (sN m U (ix ql i) a):=NY hm hT hqok1
    have hks:(fD (sN m U (ix ql i) a)).size≤aU:=ES hkN
    refine rg (ag (nl (aq hRd J (bk (sq ?_)))))
    refine drH (nh:=9) [0,0,0,6,14,0,63,0,255] [(none,[9]),(none,[13]),(none,[15]),(none,[30]),(none,[30]),(none,[]),(none,[]),(some 21,[]),(some 21,[21])] T.mixed kR kR ?_
    refine stv (d:=65) (fun β0=>clo 92 [fp [sl 1 rE_ m.aC,sl 1 gE m.sT],fp [sl 1 rE_ U.aC,sl 2 sE U.sT]]) [9] J bH (fun β0 _ _ _ _ gq gh kq=>lP (gq.1.trans J) (gh.1.trans J) J T.VY kq) ?_
    refine stv (d:=66) (fun β0=>osl 30 v2) [13] J bH (fun β0 _ _ _ _ gq gh kq=>lP (gq.1.trans J) (gh.1.trans J) J T.qZ kq) ?_
    refine stv (d:=67) (fun β0=>int (i:Int)) [15] J bH (fun β0 _ _ _ _ gq gh kq=>lP (gq.1.trans J) (gh.1.trans J) J T.aF kq) ?_
    refine stv (d:=68) (fun β0=>eK 30 v2 2 i 0) [30] J bH (fun β0 _ _ _ _ gq gh kq=>iO (gq.1.trans J) (gh.1.trans J) (gq.2.1.trans J) T.CZ O O kq) ?_
    refine stv (d:=69) (fun β0=>agg [sl 1 nE ((ix ql i).1),int ((ix ql i).2)]) [30] J bH (fun β0 _ _ _ _ gq gh kq=>lOA (gq.1.trans J) (gh.1.trans J) gB T.nF (by decide) (kd (φ':=agg [ints (ix ql i).1,int (ix ql i).2]) (by rw[hixP];exact fun h=>h) kq)) ?_
    refine stv (d:=70) (fun β0=>int (a:Int)) [] J bH (fun β0 _ _ _ _ gq gh kq=>mv' (gq.1.trans J) kq) ?_
    refine stv (d:=71) (fun β0=>agg [sl 1 nE ((sN m U (ix ql i) a).1),int ((sN m U (ix ql i) a).2)]) [] J bH (fun β0 _ _ _ _ gq gh kq=>nH (φs:= [agg [sl 1 nE ((ix ql i).1),int ((ix ql i).2)],int (a:Int)]) (φ:=agg [sl 1 nE ((sN m U (ix ql i) a).1),int ((sN m U (ix ql i) a).2)]) (gq.1.trans J) ⟨(gq.2.1.trans J),(gq.2.2.1.trans J),tV⟩ (QD m hm U hT (ix ql i) hokP a hal9) T.WV kq) ?_
    refine sta 21 T.VX (eC (eC eZ)) ?_
    refine stw 21 (fun β0=>cell (gbk (β0 7)) [sl 1 nE ((sN m U (ix ql i) a).1),int ((sN m U (ix ql i) a).2)]) [21] J (fun β β' hb=>by first|rw[hb 7 J]|(dsimp only;rw[hb 7 J])) (fun β0 _ _ _ _ gq gh kq=>sPA (cs':= [sl 1 nE ((sN m U (ix ql i) a).1),int ((sN m U (ix ql i) a).2)]) (gq.1.trans J) (gh.1.trans J) (gq.2.1.trans J) T.nF J J kq) ?_
    refine pnH fun β0=>(nl (th (sq (dr (nh:=10) [0,0,0,6,15,31,63,63,127,511] T.mixed kR ?_))))
    refine st_ J (fun _ _ _ gq kq=>lP (gq.1.trans J) J J T.vK kq) ?_
    refine st_ J (fun _ _ _ gq kq=>lP (gq.1.trans J) J J T.Ie kq) ?_
    refine st_ J (fun _ _ _ gq kq=>lPA (gq.1.trans J) J T.nF J kq) ?_
    refine st_ J (fun _ _ _ gq kq=>tbK (ψ:=tab) 75 997 (gq.2.1.trans J) J (nH (φs:= [both (agg [sl 1 nE ((sN m U (ix ql i) a).1),int ((sN m U (ix ql i) a).2)]) tab]) (φ:=str (fD (sN m U (ix ql i) a))) (gq.1.trans J) ⟨J,tV⟩ (DS (sN m U (ix ql i) a) hkN) T.Lt (tbX (gq.2.1.trans J) kq))) ?_
    refine st_ J (fun _ _ _ gq kq=>Dd (z:=0) (q:=fD (sN m U (ix ql i) a)) (gq.1.trans J) J (fun h=>GA (gq.2.1.trans J) h) T.vJ hks T.zv3 kq) ?_
    refine st_ J (fun _ _ _ gq kq=>mv' (gq.1.trans J) kq) ?_
    refine st_ J (fun _ _ _ gq kq=>xt (gq.1.trans J) J kq) ?_
    refine st_ J (fun _ _ _ gq kq=>xt (gq.1.trans J) J kq) ?_
    refine st_ J (fun _ _ _ gq kq=>ag' (gq.1.trans J) kq) ?_
    refine st_ J (fun _ _ _ gq kq=>ag' (gq.1.trans J) kq) ?_
    refine pn (nl (th (sq (sq (rg (mv (no J (nl (th ?_)))))))))
    refine cd J (fun hc2=> ?_) (fun hc2=> ?_)
    ·skip
     have h5:(cX mm2 (fD (sN m U (ix ql i) a))).isSome=false:=by simpa using hc2
     refine sq (sq (rg (lP J J J T.qZ (lnO J J T.CZ (bi J J eF (nl (th ?_)))))))
     refine cd J (fun hc3=> ?_) (fun hc3=> ?_)
     ·try simp at hc3
      have h6:(l2.length:Int)=500:=by omega
      refine sq (rg (bd (css:= []) T.lA (eC (eC eZ)) trivial (sPA (cs':= [eqv (.slice none 0 0),eqv (.slice none 0 0)]) J J J T.aD J J (sP (φ:=bl false) J J J T.eB J (nl (th (rt (rt_ (rt_ (rb ?_))))))))))
      have hRr:500<(sL m U).length:=by
       exact JG hG hQW hR0 hc0 hqok1 hx2 rfl h5 h6
      exact rqR ⟨v2,l2,mm2,nx⟩ ⟨rfl,hRr⟩ ⟨rI,rI,rI,rI,rI,rI,rI,rI,rI,rI,rI,rI,rI,rI,rI,rI,tV⟩
     ·try simp at hc3
      refine sk (th (sq (rg (lP J J J T.qZ (lnO J J T.CZ (ag (nl (th (sq (dr (nh:=5) [0,0,0,6,0,31] T.mixed kR ?_))))))))))
      refine st_ J (fun _ _ _ gq kq=>lP (gq.1.trans J) J J T.vK kq) ?_
      refine st_ J (fun _ _ _ gq kq=>lP (gq.1.trans J) J J T.Ie kq) ?_
      refine st_ J (fun _ _ _ gq kq=>lPA (gq.1.trans J) J T.nF J kq) ?_
      refine st_ J (fun _ _ _ gq kq=>tbK (ψ:=tab) 90 997 (gq.2.1.trans J) J (nH (φs:= [both (agg [sl 1 nE ((sN m U (ix ql i) a).1),int ((sN m U (ix ql i) a).2)]) tab]) (φ:=str (fD (sN m U (ix ql i) a))) (gq.1.trans J) ⟨J,tV⟩ (DS (sN m U (ix ql i) a) hkN) T.Lt (tbX (gq.2.1.trans J) kq))) ?_
      refine st_ J (fun _ _ _ gq kq=>mv' (gq.1.trans J) kq) ?_
      refine pn (mapUpdate (q:=fD (sN m U (ix ql i) a)) (u:=(l2.length:Int)) J J Ci J T.vJ hks (nl (th (rg (lP J J J T.qZ (lPA J J T.nF J (bsE (enc:=sdE) (xs:= [((sN m U (ix ql i) a).1,(sN m U (ix ql i) a).2)]) (css:= [[sl 1 nE ((sN m U (ix ql i) a).1),int ((sN m U (ix ql i) a).2)]]) T.Lu ⟨J,J,pA (cs:= [sl 1 nE ((sN m U (ix ql i) a).1),int ((sN m U (ix ql i) a).2)]) J,tV⟩ J J J J (ap (key:=30) (zs:= [(sN m U (ix ql i) a)]) cH J J J T.Lu (by unfold aU at*;simp;omega) (by unfold aU at*;simp;omega) fun v96=>(bY J J J J T.qZ J (nl (th (rg (fP J T.bQ (lP J J J T.aV (mv (mv (iO J J J T.aM O O (sO (φ:=int (l2.length:Int)) J J J T.aF gB J (y':=(l2.length:Int)) J (nl (eb ?_))))))))))))))))))))
      have hN0:GN (sA m U) (sN m U) (sOk m U) fD m.aC.length (sL m U) i ql (m0+1) (l2++ [(sN m U (ix ql i) a)]) (dI mm2 (fD (sN m U (ix ql i) a)) (l2.length:Int)) (nx.set a (l2.length:Int)):=by
       exact Nw hG hQW hR0 hc0 hqok1 hx2 hal8 rfl h5 O
      exact rqN ⟨v96,l2++ [(sN m U (ix ql i) a)],dI mm2 (fD (sN m U (ix ql i) a)) (l2.length:Int),nx.set a (l2.length:Int)⟩ hN0 ⟨rI,rI,rI,rI,rI,rI,rI,rI,rI,rI,rI,rI,rI,rI,rI,rI,tV⟩
    ·skip
     have h5:(cX mm2 (fD (sN m U (ix ql i) a))).isSome=true:=by simpa using hc2
     refine sk (th (rg (fP J T.bQ (lP J J J T.aV (mv (mv (iO J J J T.aM O O (sO (φ:=int ((cX mm2 (fD (sN m U (ix ql i) a))).getD 0)) J J J T.aF gB J (y':=((cX mm2 (fD (sN m U (ix ql i) a))).getD 0)) J (nl (eb ?_))))))))))
     have hN0:GN (sA m U) (sN m U) (sOk m U) fD m.aC.length (sL m U) i ql (m0+1) l2 mm2 (nx.set a ((cX mm2 (fD (sN m U (ix ql i) a))).getD 0)):=by
      exact Nv hG hQW hR0 hc0 hqok1 hx2 hal8 rfl h5
     exact rqN ⟨v2,l2,mm2,nx.set a ((cX mm2 (fD (sN m U (ix ql i) a))).getD 0)⟩ hN0 ⟨rI,rI,rI,rI,rI,rI,rI,rI,rI,rI,rI,rI,rI,rI,rI,rI,tV⟩
   ·intro⟨v2,l2,mm2,nx⟩ hG0
    have hR0:GN (sA m U) (sN m U) (sOk m U) fD m.aC.length (sL m U) i ql (listOf 63 cn).length l2 mm2 nx:=hG0
    show At _ _ _ _ [(6,cell b6 [sl 1 nE [0],int 0]),(7,cell b7 [clo 87 []]),(9,cell b9 [clo 92 [fp [sl 1 rE_ m.aC,sl 1 gE m.sT],fp [sl 1 rE_ U.aC,sl 2 sE U.sT]]]),(10,cell b10 [eqv (.slice none 0 0),eqv (.slice none 0 0)]),(11,cell b11 [bl false]),(12,cell b12 [mpv 24 b24]),(13,cell b13 [osl 30 v2]),(14,cell b14 [sl 1 rE_ m.aC,osl 100 v14]),(15,cell ib [int (i:Int)]),(16,cell b16 [sl 1 nE (sA m U (ix ql i)),osl 300 (sv v49)]),(24,mp b24 smE smD smV mm2),(30,own v2 116 2 sdE l2),(100,own v14 81 2 sE bA),(300,own (sv v49) 3 1 nE nx),(997,eR tab)]
    refine eb (th (rg (fP rfl T.aY (lP rfl rfl rfl T.bI (fzc 16 300 1 rfl rfl rfl rfl (lPA rfl rfl T.cP rfl (bsE (enc:=sE) (xs:= [(⟨sA m U (ix ql i),nx⟩)]) (css:= [[sl 1 nE (sA m U (ix ql i)),sl 1 nE nx]]) T.mB ⟨rfl,rfl,pA (cs:= [sl 1 nE (sA m U (ix ql i)),sl 1 nE nx]) rfl,tV⟩ rfl rfl rfl rfl (ap (key:=100) (zs:= [(⟨sA m U (ix ql i),nx⟩)]) cH rfl rfl rfl T.mB (by unfold aU at*;simp;omega) (by unfold aU at*;simp;omega) fun v106=>(fP rfl T.aY (bY rfl rfl rfl rfl T.bI rfl (nl (eb (th (sq (sq (rg (lP rfl rfl rfl T.aF (nl (th (rg (al (key:=15) T.z3 (eC eZ) fun b15=>(sP (φ:=int (i:Int)) rfl rfl rfl T.aF rfl (nl (th (rg (lP rfl rfl rfl T.aF (bi rfl rfl (aK i6) (sP (φ:=int ((i+1:Nat):Int)) rfl rfl rfl T.aF rfl (nl ?_)))))))))))))))))))))))))))))
    have hN0:GW (sA m U) (sN m U) (sOk m U) fD m.aC.length (2^m.sT.length*U.sT.length) (sL m U) (i+1) l2 mm2 (bA++ [(⟨sA m U (ix ql i),nx⟩)]):=by
     rw[show listOf 63 cn=dN (sA m U) (ix ql i) from hcn3] at hR0
     exact Nx hG hQW hR0 hc0
    exact ln (⟨b15,i+1,v2,l2,mm2,v106,bA++ [(⟨sA m U (ix ql i),nx⟩)]⟩:Nat × Nat × Value × (List Sd) × (List (ByteArray × Int)) × Value × (List SA)) hN0 (by have:=hQW.few;show 501- (i+1)<501- i;omega) ⟨id,id,id,id,id,id,id,id,id,id,id,tV⟩ ⟨rI,rI,rI,rI,rI,rI,rI,rI,rI,rI,rI,rI,rI,tV⟩
   ·intro⟨v2,l2,mm2,nx⟩ hS0
    have hRt0:500<(sL m U).length:=hS0.2
    show At _ _ _ _ [(6,cell b6 [sl 1 nE [0],int 0]),(7,cell b7 [clo 87 []]),(9,cell b9 [clo 92 [fp [sl 1 rE_ m.aC,sl 1 gE m.sT],fp [sl 1 rE_ U.aC,sl 2 sE U.sT]]]),(10,cell b10 [eqv (.slice none 0 0),eqv (.slice none 0 0)]),(11,cell b11 [bl false]),(12,cell b12 [mpv 24 b24]),(13,cell b13 [osl 30 v2]),(14,cell b14 [sl 1 rE_ m.aC,osl 100 v14]),(15,cell ib [int (i:Int)]),(16,cell b16 [sl 1 nE (sA m U (ix ql i)),osl 300 (sv v49)]),(24,mp b24 smE smD smV mm2),(30,own v2 116 2 sdE l2),(100,own v14 81 2 sE bA),(300,own (sv v49) 3 1 nE nx),(997,eR tab)]
    refine rb (rt_ (rb (rt_ (rt_ (rb (rt_ ?_))))))
    refine dE 10 0 (sl 1 rE_ []) rfl rfl bT ?_
    refine dE 10 1 (sl 2 sE []) rfl rfl bT ?_
    have hr0: []=((eW m U).1).aC:=by
     rw[BA hRt0]
    have hr1: []=((eW m U).1).sT:=by
     rw[BA hRt0]
    have hr2:false=((eW m U).2):=by
     rw[BA hRt0]
    exact rE () [.cell 10 25,.cell 11 4] J [agg [sl 1 rE_ [],sl 2 sE []],bl false] ⟨.agg J J T.aD J J,.one J J T.eB J,tV⟩ (cA3 (fun x0 x1 x2=>rV [agg [sl 1 rE_ x0,sl 2 sE x1],bl x2]) hr0 hr1 hr2) trivial eX
 ·try simp at hc0
  have hdn:=DD hQW O
  have hq5:(sL m U).length≤500:=Ny hQW O
  have hq1:eW m U=((tR (sD m U)).1,true):=by unfold eW;rw[if_pos hq5]
  have hqok:oK (sD m U):=DQ hm hT hMU ⟨CY hm hT hMU,(yL hm hT hMU).ok,rfl⟩ O
  refine ex (xt_ (xt_ (xb (th (sq (rg (fzc 14 100 1 J J J J (lPA J J T.aD J (kn 110 (spec (sD m U)) J (by rw[show bA=(sD m U).sT from hdn.2];exact fun h=>h) (dU (φs:= [agg [sl 1 rE_ (sD m U).aC,sl 2 sE (sD m U).sT]]) (φ:=tup [agg [sl 1 rE_ ((tR (sD m U)).1.aC),sl 2 sE ((tR (sD m U)).1.sT)],sl 1 nE ((tR (sD m U)).2)]) ⟨J,tV⟩ (prog9.jZ (sD m U) aS) T.uG (fun N hN=>fun h=>qQ (cs:= [agg [fre N (sl 1 rE_ ((tR (sD m U)).1.aC)),frb (ix (hOl (sD m U)) 0) N (sl 2 sE ((tR (sD m U)).1.sT))],sl 1 nE ((tR (sD m U)).2)]) (ds:= [agg [sl 1 rE_ ((tR (sD m U)).1.aC),sl 2 sE ((tR (sD m U)).1.sT)],sl 1 nE ((tR (sD m U)).2)]) ⟨fun h=>cU (cs:= [fre N (sl 1 rE_ ((tR (sD m U)).1.aC)),frb (ix (hOl (sD m U)) 0) N (sl 2 sE ((tR (sD m U)).1.sT))]) (ds:= [sl 1 rE_ ((tR (sD m U)).1.aC),sl 2 sE ((tR (sD m U)).1.sT)]) ⟨fun h=>bP h,fun h=>oP h,tV⟩ h,fun h=>h,tV⟩ h) (mv (xt J J (xt J J (sPA (cs':= [sl 1 rE_ ((tR (sD m U)).1.aC),sl 2 sE ((tR (sD m U)).1.sT)]) J J J T.aD J J (nl (th (sq (rg (lPA J J T.aD J (sPA (cs':= [sl 1 rE_ ((tR (sD m U)).1.aC),sl 2 sE ((tR (sD m U)).1.sT)]) J J J T.aD J J (sP (φ:=bl true) J J J T.eB J (nl (th (rt ?_))))))))))))))))))))))))
  have hr0:((tR (sD m U)).1.aC)=((eW m U).1).aC:=by
   rw[hq1]
  have hr1:((tR (sD m U)).1.sT)=((eW m U).1).sT:=by
   rw[hq1]
  have hr2:true=((eW m U).2):=by
   rw[hq1]
  exact rE () [.cell 10 25,.cell 11 4] J [agg [sl 1 rE_ ((tR (sD m U)).1.aC),sl 2 sE ((tR (sD m U)).1.sT)],bl true] ⟨.agg J J T.aD J J,.one J J T.eB J,tV⟩ (cA3 (fun x0 x1 x2=>rV [agg [sl 1 rE_ x0,sl 2 sE x1],bl x2]) hr0 hr1 hr2) trivial eX
theorem Ob (m:aI) (hm:dJ m) (U:SS) (hU:oK U) (hMU:m.aC.length=U.aC.length):Fn0 Tryz.prog 86 [kQ (strs m.aC),agg [ints [0],int 0],eqv (.func (.func 87) #[] #[]),clo 89 [fp [clo 84 [fp [strs m.aC,sl 1 gE m.sT]]],fp [strs U.aC,sl 2 sE U.sT]],clo 92 [fp [strs m.aC,sl 1 gE m.sT],fp [strs U.aC,sl 2 sE U.sT]]] (tup [spec (eW m U).1,bl (eW m U).2]):=
 pO (fun {w F vs} h=>by
  match vs,h with
  | [_,_,_,_,_],⟨h1,h2,h3,h4,h5,_⟩=>exact⟨h1,h2,Hz h3,h4,h5,tV⟩) (QE m hm U hU hMU)
theorem Oc (m:aI) (t:SS) (hsm:bK t):
 Fn0 Tryz.prog 35 [kQ (sys m),spec t] (tup [spec (cG m t).1,int (cG m t).2]):=by
 refine fnI Tryz.func35 rfl rfl (fun w0 F0=> ?_)
 refine tbI 0 9999 rfl ?_
 refine fcC (bO 0 J) (fun hS0=> ?_)
 obtain⟨hma0,hms0,hme0⟩:=eI hS0
 refine fcC (bO 1 J) (fun hS1=> ?_)
 obtain⟨hsa1,hss1,hse1⟩:=sLn hS1
 refine sq (rg (bx (key:=2) (cs:= [sl 1 rE_ m.aC,sl 1 gE m.sT]) J fun b2=>(bx (key:=3) (cs:= [sl 1 rE_ t.aC,sl 2 sE t.sT]) J fun b3=>(al (key:=4) T.z25 (eC (eC eZ)) fun b4=>(ag (nl (th (sq (sq (rg (lPA J J T.cD J (lPA J J T.aD J (aO (φs:= [agg [sl 1 rE_ m.aC,sl 1 gE m.sT],agg [sl 1 rE_ t.aC,sl 2 sE t.sT]]) (φ:=int (cO m t)) ⟨J,J,tV⟩ (satj.mS m t aS) T.RG (ag (nl (th (sq (rg (mv (bi J J fS (nl (th ?_))))))))))))))))))))))
 refine cd J (fun hc0=> ?_) (fun hc0=> ?_)
 ·try simp at hc0
  have hd:=VV (m:=m) (t:=t) hc0
  refine sq (rg (bd (css:= []) T.lA (eC (eC eZ)) trivial (mv (sPA (cs':= [eqv (.slice none 0 0),eqv (.slice none 0 0)]) J J J T.aD J J (ag (nl (th (rt (rt_ ?_)))))))))
  refine dE 4 0 (sl 1 rE_ []) rfl rfl bT ?_
  refine dE 4 1 (sl 2 sE []) rfl rfl bT ?_
  have hr0: []=((cG m t).1).aC:=by
   rw[hd]
  have hr1: []=((cG m t).1).sT:=by
   rw[hd]
  have hr2:((cO m t):Int)=((cG m t).2):=by
   rw[hd]
  exact rE () [.cell 4 25,.tmp 5] J [agg [sl 1 rE_ [],sl 2 sE []],int (cO m t)] ⟨.agg J J T.aD J J,.tmp J,tV⟩ (cA3 (fun x0 x1 x2=>rV [agg [sl 1 rE_ x0,sl 2 sE x1],int x2]) hr0 hr1 hr2) trivial eX
 ·try simp at hc0
  obtain⟨hmv,htv,hmt⟩:=wP hc0
  have hm:=pZ hmv
  have ht:=bW htv
  have hT:=bC ht
  have hn8:=hm.n8
  have hMU:m.aC.length=(tR t).1.aC.length:=by rw[dV,hmt]
  refine sk (th (sq (rg (lPA J J T.aD J (dU (φs:= [agg [sl 1 rE_ t.aC,sl 2 sE t.sT]]) (φ:=tup [agg [sl 1 rE_ ((tR t).1.aC),sl 2 sE ((tR t).1.sT)],sl 1 nE ((tR t).2)]) ⟨J,tV⟩ (prog9.jZ t aS) T.uG (fun N hN=>fun h=>qQ (cs:= [agg [fre N (sl 1 rE_ ((tR t).1.aC)),frb (ix (hOl t) 0) N (sl 2 sE ((tR t).1.sT))],sl 1 nE ((tR t).2)]) (ds:= [agg [sl 1 rE_ ((tR t).1.aC),sl 2 sE ((tR t).1.sT)],sl 1 nE ((tR t).2)]) ⟨fun h=>cU (cs:= [fre N (sl 1 rE_ ((tR t).1.aC)),frb (ix (hOl t) 0) N (sl 2 sE ((tR t).1.sT))]) (ds:= [sl 1 rE_ ((tR t).1.aC),sl 2 sE ((tR t).1.sT)]) ⟨fun h=>bP h,fun h=>oP h,tV⟩ h,fun h=>h,tV⟩ h) (mv (xt J J (xt J J (sPA (cs':= [sl 1 rE_ ((tR t).1.aC),sl 2 sE ((tR t).1.sT)]) J J J T.aD J J (ag (nl (th (sq (sq (rg (mv (fc (aL 23 J) fun hm23=>(lnF J T.aM (bi J J eF (nl (th ?_)))))))))))))))))))))
  refine cd J (fun hc1=> ?_) (fun hc1=> ?_)
  ·skip
   have hd:=TD hc0 (by have:=of_decide_eq_true hc1;omega)
   refine sq (rg (lPA J J T.aD J (sPA (cs':= [sl 1 rE_ ((tR t).1.aC),sl 2 sE ((tR t).1.sT)]) J J J T.aD J J (ag (nl (th (rt (rt_ ?_))))))))
   have hr0:((tR t).1.aC)=((cG m t).1).aC:=by
    rw[hd]
   have hr1:((tR t).1.sT)=((cG m t).1).sT:=by
    rw[hd]
   have hr2:(0:Int)=((cG m t).2):=by
    rw[hd]
   exact rE () [.cell 4 25,.tmp 5] J [agg [sl 1 rE_ ((tR t).1.aC),sl 2 sE ((tR t).1.sT)],int 0] ⟨.agg J J T.aD J J,.tmp J,tV⟩ (cA3 (fun x0 x1 x2=>rV [agg [sl 1 rE_ x0,sl 2 sE x1],int x2]) hr0 hr1 hr2) trivial eX
  ·skip
   have hd0:=VW hc0 (by have:=of_decide_eq_false hc1;omega)
   refine sk (th (sq (rg (fzv 2 2 J J (mkf (al (key:=8) T.XB (eC eZ) fun b8=>(sP (φ:=clo 84 [fp [sl 1 rE_ m.aC,sl 1 gE m.sT]]) J J J T.Oa J (nl (th (sq (rg (fF J T.mW (lF J J T.cV (bsE (enc:=nE) (xs:= [0]) (css:= [[int 0]]) T.cE ⟨J,J,p1 (φ:=int 0) J,tV⟩ J J J J (bd (css:= [(0,_),(1,_)]) T.RH (eC (eC eZ)) ⟨J,J,p1 (φ:=sl 1 nE [0]) J,⟨J,J,p1 (φ:=int 0) J,tV⟩⟩ (fzv 8 8 J J (fzv 3 3 J J (mkf (mkf (tbU (ψ:=tab) 30 9999 J J (aO (φs:= [both (sl 1 rE_ m.aC) tab,agg [sl 1 nE [0],int 0],eqv (.func (.func 87) #[] #[]),clo 89 [fp [clo 84 [fp [sl 1 rE_ m.aC,sl 1 gE m.sT]]],fp [sl 1 rE_ ((tR t).1.aC),sl 2 sE ((tR t).1.sT)]],clo 92 [fp [sl 1 rE_ m.aC,sl 1 gE m.sT],fp [sl 1 rE_ ((tR t).1.aC),sl 2 sE ((tR t).1.sT)]]]) (φ:=tup [agg [sl 1 rE_ ((eW m (tR t).1).1).aC,sl 2 sE ((eW m (tR t).1).1).sT],bl ((eW m (tR t).1).2)]) ⟨J,J,J,J,J,tV⟩ (Ob m hm (tR t).1 hT hMU) T.WX (mv (xt J J (xt J J (al (key:=9) T.z25 (eC (eC eZ)) fun b9=>(sPA (cs':= [sl 1 rE_ ((eW m (tR t).1).1).aC,sl 2 sE ((eW m (tR t).1).1).sT]) J J J T.aD J J (ag (nl (th (sq (sq (rg (mv (no J (nl (th ?_))))))))))))))))))))))))))))))))))))
   refine cd J (fun hc2=> ?_) (fun hc2=> ?_)
   ·try simp at hc2
    have hd:cG m t=(⟨[],[]⟩,2):=by rw[hd0,if_neg (by simpa using hc2)]
    refine sq (rg (bd (css:= []) T.lA (eC (eC eZ)) trivial (sPA (cs':= [eqv (.slice none 0 0),eqv (.slice none 0 0)]) J J J T.aD J J (ag (nl (th (rt (rt_ ?_))))))))
    refine dE 4 0 (sl 1 rE_ []) rfl rfl bT ?_
    refine dE 4 1 (sl 2 sE []) rfl rfl bT ?_
    have hr0: []=((cG m t).1).aC:=by
     rw[hd]
    have hr1: []=((cG m t).1).sT:=by
     rw[hd]
    have hr2:(2:Int)=((cG m t).2):=by
     rw[hd]
    exact rE () [.cell 4 25,.tmp 5] J [agg [sl 1 rE_ [],sl 2 sE []],int 2] ⟨.agg J J T.aD J J,.tmp J,tV⟩ (cA3 (fun x0 x1 x2=>rV [agg [sl 1 rE_ x0,sl 2 sE x1],int x2]) hr0 hr1 hr2) trivial eX
   ·try simp at hc2
    have hd:cG m t=((eW m (tR t).1).1,0):=by rw[hd0,if_pos (by simpa using hc2)]
    refine sk (th (sq (rg (lPA J J T.aD J (sPA (cs':= [sl 1 rE_ ((eW m (tR t).1).1).aC,sl 2 sE ((eW m (tR t).1).1).sT]) J J J T.aD J J (ag (nl (th (rt ?_)))))))))
    have hr0:((eW m (tR t).1).1).aC=((cG m t).1).aC:=by
     rw[hd]
    have hr1:((eW m (tR t).1).1).sT=((cG m t).1).sT:=by
     rw[hd]
    have hr2:(0:Int)=((cG m t).2):=by
     rw[hd]
    exact rE () [.cell 4 25,.tmp 5] J [agg [sl 1 rE_ ((eW m (tR t).1).1).aC,sl 2 sE ((eW m (tR t).1).1).sT],int 0] ⟨.agg J J T.aD J J,.tmp J,tV⟩ (cA3 (fun x0 x1 x2=>rV [agg [sl 1 rE_ x0,sl 2 sE x1],int x2]) hr0 hr1 hr2) trivial eX
end prodb
end
section
open ref01 ref03 ref04 ref06 prog prog2 prog3 prog4 prog5 prog6 prog7 prog8 prog9 prog10 prog13 prog15 starts Part Rungs LeftM TrimM Itoa Keys RoundM MergeM BisM BisM4 BisM5 WalkM StepM WitM JudgM JudgM2 refw judg wit refj sysw satj divr divs divd dive divg divw divv LevM LevM2 ChsM TrimI QuoM FailM DivM RefM GenW CompM CrossM CompP EncM prodc divp prodm prodp BesM shelfI prodb
structure XO (m:aI) (l:List Int) (k:Nat) (out:List Int):Prop where
 rise:out.Pairwise (· < ·)
 mem:∀u,u∈out↔u∈iP m (l.take k)
namespace prodr
end prodr
end
section
namespace TogM
open ref01 ref03 ref04 ref06 Part Rungs LeftM TrimM RoundM BisM BisM5 BisM6 WalkM WitM JudgM FailM FitM PartM QuoM
variable {m n:aI} {t:SS}
def QG (t:SS) (p:T3) (d e:PP):T3:=(d.2,e.2,ix (nxt t p.2.2.toNat) d.1.toNat)
structure TW (m n:aI) (t:SS) (i:Nat) (l:List T3):Prop where
 nd:l.Nodup
 z:((0,0,0):T3)∈l
 rch:∀p∈l,HI m n t p
 il:i≤l.length
 dn:∀j,j<i→¬VI m n t (ix l j)∧∀d∈edg m (ix l j).1.toNat,∀e∈edg n (ix l j).2.1.toNat,d.1=e.1→QG t (ix l j) d e∈l
structure TN (m n:aI) (t:SS) (i:Nat) (l:List T3) (k1 k2:Nat) (l2:List T3):Prop where
 nd:l2.Nodup
 rch:∀p∈l2,HI m n t p
 pre:l<+:l2
 al1:∀d∈(edg m (ix l i).1.toNat).take k1,∀e∈edg n (ix l i).2.1.toNat,d.1=e.1→QG t (ix l i) d e∈l2
 al2:∀e∈(edg n (ix l i).2.1.toNat).take k2,(ix (edg m (ix l i).1.toNat) k1).1=e.1→QG t (ix l i) (ix (edg m (ix l i).1.toNat) k1) e∈l2
variable {i k1 k2:Nat} {l l2:List T3}
def WY (b c:Nat) (p:T3):Nat:=(p.1.toNat*b+p.2.1.toNat)*c+p.2.2.toNat
def XC (a b c:Nat) (p:T3):Prop:=0≤p.1∧p.1<(a:Int)∧0≤p.2.1∧p.2.1<(b:Int)∧0≤p.2.2∧p.2.2<(c:Int)
structure Tab (a b c:Nat) (l:List T3) (inn:List Bool):Prop where
 len:inn.length=a*b*c
 at_:∀p,XC a b c p→ix inn (WY b c p)=decide (p∈l)
end TogM
end
section
namespace BrkM
open ref01 ref03 ref04 ref06 Part Rungs LeftM TrimM RoundM BisM BisM5 BisM6 WalkM WitM JudgM FailM FitM PartM QuoM TogM
def pm (p:T3):T3:=(p.2.2,p.1,p.2.1)
structure BW (m x:aI) (t:SS) (i:Nat) (l:List T3) (mm:List (T3 × Bool)):Prop where
 tw:TW m x t i (l.map pm)
 sm:KW mm l
structure BN (m x:aI) (t:SS) (i:Nat) (l:List T3) (k1 k2:Nat) (l2:List T3) (mm2:List (T3 × Bool)):Prop where
 tn:TN m x t i (l.map pm) k1 k2 (l2.map pm)
 sm:KW mm2 l2
variable {m x:aI} {t:SS} {i k1 k2:Nat} {l l2:List T3} {mm mm2:List (T3 × Bool)}
def tgt (t:SS) (p:T3) (d e:PP):T3:=(e.2,ix (nxt t p.2.1.toNat) e.1.toNat,d.2)
end BrkM
end
section
namespace ProdM
open ref01 ref03 ref04 ref06 Part Rungs LeftM TrimM RoundM BisM BisM5 BisM6 WalkM WitM JudgM FailM FitM PartM QuoM TogM sysw
abbrev pos (q:List PP) (p:PP):Nat:=q.idxOf p
def VZ (q F:List PP) (d:PP):List PP:=(F.filter fun e=>decide (d.1=e.1)).map fun e=>(d.1,(pos q ((d.2,e.2):PP):Int))
def QH (q E F:List PP):List PP:=E.flatMap (VZ q F)
def Ig (q E F:List PP):Prop:=∀d∈E,∀e∈F,d.1=e.1→((d.2,e.2):PP)∈q
structure XG (m n k:aI) (q:List PP):Prop where
 acts:k.aC=m.aC
 ne:0<q.length
 hd:ix q 0=((0,0):PP)
 nd:q.Nodup
 box:∀p∈q,0≤p.1∧p.1<(m.sT.length:Int)∧0≤p.2∧p.2<(n.sT.length:Int)
 len:k.sT.length=q.length
 all:∀i,i<q.length→Ig q (edg m (ix q i).1.toNat) (edg n (ix q i).2.toNat)
 row:∀i,i<q.length→edg k i=gG (QH q (edg m (ix q i).1.toNat) (edg n (ix q i).2.toNat))
variable {m n k:aI} {t:SS} {q:List PP}
structure PI (m n:aI) (i:Nat) (q:List PP) (mm:List (PP × Int)) (bA:List (List PP)):Prop where
 ne:0<q.length
 hd:ix q 0=((0,0):PP)
 nd:q.Nodup
 box:∀p∈q,0≤p.1∧p.1<(m.sT.length:Int)∧0≤p.2∧p.2<(n.sT.length:Int)
 im:GL mm q
 il:i≤q.length
 dn:∀j,j<i→Ig q (edg m (ix q j).1.toNat) (edg n (ix q j).2.toNat)
 out:bA=(List.range i).map fun j=>gG (QH q (edg m (ix q j).1.toNat) (edg n (ix q j).2.toNat))
structure PN (m n:aI) (i:Nat) (p:PP) (q:List PP) (mm:List (PP × Int)) (bA:List (List PP)) (k1 k2:Nat) (l:List PP):Prop where
 pi:PI m n i q mm bA
 hi:i<q.length
 pe:ix q i=p
 al1:Ig q ((edg m p.1.toNat).take k1) (edg n p.2.toNat)
 al2:∀e∈(edg n p.2.toNat).take k2,(ix (edg m p.1.toNat) k1).1=e.1→(((ix (edg m p.1.toNat) k1).2,e.2):PP)∈q
 es:l=QH q ((edg m p.1.toNat).take k1) (edg n p.2.toNat)++VZ q ((edg n p.2.toNat).take k2) (ix (edg m p.1.toNat) k1)
variable {i k1 k2:Nat} {mm:List (PP × Int)} {bA:List (List PP)} {p:PP} {l:List PP}
end ProdM
end
section
open ref01 ref03 ref04 ref06 prog prog2 prog3 prog6 prog13 starts Part Rungs LeftM TrimM RoundM BisM BisM5 WalkM WitM JudgM refw judg wit refj sysw FailM FitM PartM QuoM TogM ProdM satj
namespace prodw
end prodw
end
section
namespace EncM2
open EncM JudgM ref01
def QI (v:VJ):Value:=encZ (⟨[],[v.pairs,v.word.map fun a=>(a,0),[(if v.holds then 1 else 0,v.state)]]⟩,0)
noncomputable def kV (x:Value):VJ:=let m:=(DL x).1;⟨decide ((ix (ix m.sT 2) 0).1=1),ix m.sT 0,(ix m.sT 1).map Prod.fst,(ix (ix m.sT 2) 0).2⟩
theorem QK (v:VJ):kV (QI v)=v:=by
 obtain⟨b,ps,w,st⟩:=v
 unfold kV QI
 rw[DM]
 show(⟨decide ((if b=true then(1:Int) else 0)=1),ps,(w.map fun a=>(a,(0:Int))).map Prod.fst,st⟩:VJ)=_
 have e1:(w.map fun a=>(a,(0:Int))).map Prod.fst=w:=by
  rw[List.map_map]
  exact List.map_id' w
 rw[e1]
 cases b<;>rfl
end EncM2
end
section
namespace SatC
open ref01 ref03 ref04 ref06 Part Rungs LeftM TrimM RoundM MergeM BisM BisM4 BisM5 BisM6 Keys WalkM WitM JudgM LevM divr divs divd dive divf divv judg sysw satj ChsM BisS TrimI QuoM FailM DivM RefM GenW CompM CompP prodp TogM ProdM BesM
theorem TG {m:aI} {s:SS} (hs:oK s) (h:lT m s):lT m (tR s).1:=by
 unfold lT at h ⊢
 rw[uF hs (yB m)] at h
 rw[uF (bC hs) (yB m)]
 exact Ji h (wJ hs).symm
theorem TH {m:aI} {s:SS} (hs:oK s) (h:lT m s):ix (hOl s) 0=false:=by
 obtain⟨R,hR,h0⟩:=h
 exact Dv hs (yB m) hR h0
variable {m n k:aI} {q:List PP}
end SatC
end
section
open ValidM ref01 ref03 ref04 ref06 prog prog2 prog3 prog4 prog5 prog6 prog7 prog8 prog9 prog13 prog15 starts Part Rungs LeftM TrimM Itoa Keys RoundM MergeM BisM BisM4 BisM5 WalkM StepM WitM JudgM JudgM2 refw judg wit refj sysw satj divr divs divd dive divg divw divv LevM LevM2 ChsM TrimI QuoM FailM DivM RefM GenW CompM CrossM CompP EncM EncM2 prodc divp prodm prodp BesM prodb prodr ForkM prodk SevM SatC TogM ProdM prodw
theorem mZ {s t:SS} (hs:oK s) (ht:oK t) (hq:(bB s t).2=true):(bB s t).1.sT.length≤500:=by
 unfold bB at hq ⊢
 by_cases e:eO s t
 ·rw[if_pos e];show 1≤500;omega
 ·rw[if_neg e] at hq ⊢
  split at hq
  ·next g=>
   rw[if_pos g]
   have hok:oK (bD (tR s).1 (tR t).1):=qB (bC hs) (bC ht) (vI (bC hs) (bC ht)) O
   have:=nT hok
   have e2:(bD (tR s).1 (tR t).1).sT.length=(cL (tR s).1 (tR t).1).length:=by simp[bD]
   show(tR (bD (tR s).1 (tR t).1)).1.sT.length≤500
   omega
  ·cases hq
theorem vM {s t:SS} (hf:bN s t=0) (h:(aA s t).2=0):(bB s t).2=true∧(aA s t).1=(bB s t).1:=by
 unfold aA at h ⊢
 rw[if_pos hf] at h ⊢
 cases e:(bB s t).2 with
 |true=>rw[if_pos rfl];exact⟨rfl,rfl⟩
 |false=>rw[e,if_neg (by simp)] at h;cases h
theorem QL {s t:SS} (hf:bN s t=0) (h:(aA s t).2=0):aX (aA s t).1=true∧(aA s t).1.aC=s.aC:=by
 obtain⟨h1,h2,h3⟩:=Go.Proofs.YtcjemmihcplgdaaGreatDoor.mX hf
 obtain⟨k1,k2⟩:=vM hf h
 rw[k2]
 exact⟨gD (kD (bW h1) (bW h2) k1) (mZ (bW h1) (bW h2) k1),lL k1⟩
theorem Ih {m:aI} {t:SS} (hf:cO m t=0) (hz:2^m.sT.length*t.sT.length≤10000) (h:(cG m t).2=0):aX (cG m t).1=true∧(cG m t).1.aC=m.aC:=by
 obtain⟨k1,k2,ha⟩:=wP hf
 have hm:=pZ k1
 have ht:=bW k2
 have hT:=bC ht
 have hal:m.aC.length=(tR t).1.aC.length:=by rw[dV,ha]
 by_cases e:ix (hOl t) 0=true
 ·have hb:cG m t=(nothing t.aC,0):=by unfold cG;rw[if_pos hf,if_pos e]
  rw[hb]
  exact⟨gD (jE ht.acts) (by show 1≤500;omega),ha.symm⟩
 ·have hb:cG m t=if (sL m (tR t).1).length≤500 then((tR (sD m (tR t).1)).1,0) else(⟨[],[]⟩,2):=by unfold cG;rw[if_pos hf,if_neg e]
  rw[hb] at h ⊢
  split at h
  ·next g=>
   rw[if_pos g]
   have hok:oK (sD m (tR t).1):=DQ hm hT hal ⟨CY hm hT hal,(yL hm hT hal).ok,rfl⟩ O
   have:=nT hok
   have e2:(sD m (tR t).1).sT.length=(sL m (tR t).1).length:=by simp[sD]
   exact⟨gD (bC hok) (by show(tR (sD m (tR t).1)).1.sT.length≤500;omega),by rw[dV];rfl⟩
  ·cases h
namespace prody
end prody
end
section
namespace EncR
open EncM JudgM JudgM2 ref01
def encR (v:VR):Value:=encZ (⟨v.wit.aC,v.pairs::(v.ladder.map fun a=>(a,0))::v.wit.sT⟩,if v.holds then 1 else 0)
noncomputable def iQ (x:Value):VR:=let m:=(DL x).1;⟨decide ((DL x).2=1),(ix m.sT 1).map Prod.fst,ix m.sT 0,⟨m.aC,m.sT.tail.tail⟩⟩
theorem QM (v:VR):iQ (encR v)=v:=by
 obtain⟨b,l,ps,a,st⟩:=v
 unfold iQ encR
 rw[DM]
 show(⟨decide ((if b=true then(1:Int) else 0)=1),(l.map fun a=>(a,(0:Int))).map Prod.fst,ps,⟨a,st⟩⟩:VR)=_
 have e1:(l.map fun a=>(a,(0:Int))).map Prod.fst=l:=by
  rw[List.map_map]
  exact List.map_id' l
 rw[e1]
 cases b<;>rfl
end EncR
end
section
open ref01 ref03 ref04 ref06 prog prog2 prog3 prog4 prog5 prog6 prog7 prog8 prog9 prog13 prog15 starts Part Rungs LeftM TrimM Itoa Keys RoundM MergeM BisM BisM4 BisM5 WalkM StepM WitM JudgM JudgM2 refw judg wit refj EncM EncR
noncomputable def rfB (s t:SS):Bool:=decide (bN s t=0)&&jO s t
theorem TI (s t:SS):(decide (bN s t=0)&&eqB s t)=eqB s t:=by
 unfold eqB
 cases decide (bN s t=0)<;>rfl
abbrev Ii (s t:SS) (v:VR):Prop:=(bN s t=0→Fh s t v)∧(bN s t≠0→v.holds=false)
theorem Od {s t:SS} {v:VR} (h:Ii s t v):v.holds=rfB s t:=by
 unfold rfB
 by_cases e:bN s t=0
 ·rw[decide_eq_true e,Bool.true_and];exact wG (h.1 e)
 ·rw[decide_eq_false e,Bool.false_and];exact h.2 e
theorem TJ {s t:SS} {v:VR} (h:Ii s t v):(decide (bN s t=0)&&v.holds)=rfB s t:=by
 rw[Od h]
 unfold rfB
 cases decide (bN s t=0)<;>rfl
namespace T
theorem iG:Ent Tryz.prog 16:=aG kR
theorem Wc:Ent Tryz.prog 105:=aG kR
theorem Wd:Ent Tryz.prog 104:=aG kR
theorem QO:cW Tryz.prog 138 0 0:=cB kR
end T
namespace prodo
theorem rY (s t:SS) (hs:bK s) (ht:bK t):
 AL.Fn Tryz.prog 104 [spec s,spec t] [] (ι:= { v:VR//Ii s t v }) (fun _ i=>tup [Vf i.1,int (bN s t)]) (fun _=> []):=by
 refine fnI Tryz.func104 rfl rfl (fun w0 F0=> ?_)
 refine fcC (bO 0 J) (fun hS0=> ?_)
 obtain⟨hsa0,hss0,hse0⟩:=sLn hS0
 refine fcC (bO 1 J) (fun hS1=> ?_)
 obtain⟨hsa1,hss1,hse1⟩:=sLn hS1
 refine sq (rg (bx (key:=2) (cs:= [sl 1 rE_ s.aC,sl 2 sE s.sT]) J fun b2=>(bx (key:=3) (cs:= [sl 1 rE_ t.aC,sl 2 sE t.sT]) J fun b3=>(al (key:=4) T.KN (eC (eC (eC (eC (eC eZ))))) fun b4=>(ag (nl (th (sq (sq (rg (lPA J J T.aD J (lPA J J T.aD J (aO (φs:= [agg [sl 1 rE_ s.aC,sl 2 sE s.sT],agg [sl 1 rE_ t.aC,sl 2 sE t.sT]]) (φ:=int (bN s t)) ⟨J,J,tV⟩ (judg.mS s t aS aS) T.Fk (ag (nl (th (sq (rg (mv (bi J J fS (nl (th ?_))))))))))))))))))))))
 refine cd J (fun hc0=> ?_) (fun hc0=> ?_)
 ·try simp at hc0
  refine sq (rg (bd (css:= []) T.Fj (eC (eC (eC (eC (eC eZ))))) trivial (mv (sPA (cs':= [bl false,eqv (.slice none 0 0),eqv (.slice none 0 0),eqv (.slice none 0 0),eqv (.slice none 0 0)]) J J J T.kT J J (ag (nl (th (rt (rt_ ?_)))))))))
  refine dE 4 1 (sl 1 nE []) rfl rfl bT ?_
  refine dE 4 2 (sl 2 pE []) rfl rfl bT ?_
  refine dE 4 3 (sl 1 rE_ []) rfl rfl bT ?_
  refine dE 4 4 (sl 1 gE []) rfl rfl bT ?_
  exact rE ⟨⟨false,[],[],⟨[],[]⟩⟩,⟨fun h=>absurd h hc0,fun _=>J⟩⟩ [.cell 4 138,.tmp 5] J [agg [bl false,sl 1 nE [],sl 2 pE [],sl 1 rE_ [],sl 1 gE []],int (bN s t)] ⟨.agg J J T.kT J J,.tmp J,tV⟩ J trivial eX
 ·try simp at hc0
  obtain⟨hsv,htv,hac⟩:=Go.Proofs.YtcjemmihcplgdaaGreatDoor.mX hc0
  refine sk (th (sq (rg (lPA J J T.aD J (lPA J J T.aD J (cl (refj.tJ s t aS aS) T.GZ trivial fun N16 i16=>(sPA (cs':= [bl i16.1.holds,sl 1 nE i16.1.ladder,sl 2 pE i16.1.pairs,sl 1 rE_ i16.1.wit.aC,sl 1 gE i16.1.wit.sT]) J J J T.kT J J (ag (nl (th (rt ?_)))))))))))
  have hr0:(0:Int)=(bN s t):=by
   exact hc0.symm
  exact rE ⟨i16.1,⟨fun _=>i16.2,fun h=>absurd hc0 h⟩⟩ [.cell 4 138,.tmp 5] J [agg [bl i16.1.holds,sl 1 nE i16.1.ladder,sl 2 pE i16.1.pairs,sl 1 rE_ i16.1.wit.aC,sl 1 gE i16.1.wit.sT],int 0] ⟨.agg J J T.kT J J,.tmp J,tV⟩ (cA1 (fun x0=>rV [agg [bl i16.1.holds,sl 1 nE i16.1.ladder,sl 2 pE i16.1.pairs,sl 1 rE_ i16.1.wit.aC,sl 1 gE i16.1.wit.sT],int x0]) hr0) trivial eX
theorem yM (s t:SS) (hz1:(size s:Int)≤1000000) (hz2:(size t:Int)≤1000000) (hs:bK s) (ht:bK t):
 Fn0 Tryz.prog 51 [spec s,spec t] (bl (eqB s t)):=by
 refine fnI Tryz.func51 rfl rfl (fun w0 F0=> ?_)
 refine fcC (bO 0 J) (fun hS0=> ?_)
 obtain⟨hsa0,hss0,hse0⟩:=sLn hS0
 refine fcC (bO 1 J) (fun hS1=> ?_)
 obtain⟨hsa1,hss1,hse1⟩:=sLn hS1
 refine sq (rg (bx (key:=2) (cs:= [sl 1 rE_ s.aC,sl 2 sE s.sT]) J fun b2=>(bx (key:=3) (cs:= [sl 1 rE_ t.aC,sl 2 sE t.sT]) J fun b3=>(ag (nl (th (sq ?_)))))))
 refine drH (nh:=10) [0,1,0,7,15,31,63,63,127,511] [(none,[2]),(none,[]),(none,[3]),(none,[]),(none,[]),(none,[]),(none,[]),(none,[]),(none,[]),(none,[])] T.mixed kR kR ?_
 refine stv (d:=8) (fun β0=>agg [sl 1 rE_ s.aC,sl 2 sE s.sT]) [2] J bH (fun β0 _ _ _ _ gq gh kq=>lPA (gq.1.trans J) (gh.1.trans J) T.aD J kq) ?_
 refine stv (d:=9) (fun β0=>agg [sl 1 rE_ s.aC,sl 2 sE s.sT]) [] J bH (fun β0 _ _ _ _ gq gh kq=>dU (φs:= [agg [sl 1 rE_ s.aC,sl 2 sE s.sT]]) (φ:=agg [sl 1 rE_ s.aC,sl 2 sE s.sT]) ⟨(gq.1.trans J),tV⟩ (ref03.dR s O) T.iG (fun N hN=>fun h=>cU (cs:= [fre N (sl 1 rE_ s.aC),fre N (sl 2 sE s.sT)]) (ds:= [sl 1 rE_ s.aC,sl 2 sE s.sT]) ⟨fun h=>bP h,fun h=>bP h,tV⟩ h) kq) ?_
 refine stv (d:=10) (fun β0=>agg [sl 1 rE_ t.aC,sl 2 sE t.sT]) [3] J bH (fun β0 _ _ _ _ gq gh kq=>lPA (gq.1.trans J) (gh.1.trans J) T.aD J kq) ?_
 refine stv (d:=11) (fun β0=>agg [sl 1 rE_ t.aC,sl 2 sE t.sT]) [] J bH (fun β0 _ _ _ _ gq gh kq=>dU (φs:= [agg [sl 1 rE_ t.aC,sl 2 sE t.sT]]) (φ:=agg [sl 1 rE_ t.aC,sl 2 sE t.sT]) ⟨(gq.1.trans J),tV⟩ (ref03.dR t O) T.iG (fun N hN=>fun h=>cU (cs:= [fre N (sl 1 rE_ t.aC),fre N (sl 2 sE t.sT)]) (ds:= [sl 1 rE_ t.aC,sl 2 sE t.sT]) ⟨fun h=>bP h,fun h=>bP h,tV⟩ h) kq) ?_
 refine stv (d:=12) (fun β0=>tup [bl (eqB s t),int (bN s t)]) [] J bH (fun β0 _ _ _ _ gq gh kq=>aO (φs:= [agg [sl 1 rE_ s.aC,sl 2 sE s.sT],agg [sl 1 rE_ t.aC,sl 2 sE t.sT]]) (φ:=tup [bl (eqB s t),int (bN s t)]) ⟨(gq.1.trans J),(gq.2.1.trans J),tV⟩ (refj.Bo s t aS aS) T.Wc kq) ?_
 refine stv (d:=7) (fun β0=>tup [bl (eqB s t),int (bN s t)]) [] J bH (fun β0 _ _ _ _ gq gh kq=>mv' (gq.1.trans J) kq) ?_
 refine stv (d:=13) (fun β0=>bl (eqB s t)) [] J bH (fun β0 _ _ _ _ gq gh kq=>xt (gq.1.trans J) J kq) ?_
 refine stv (d:=14) (fun β0=>int (bN s t)) [] J bH (fun β0 _ _ _ _ gq gh kq=>xt (gq.1.trans J) J kq) ?_
 refine stv (d:=5) (fun β0=>bl (eqB s t)) [] J bH (fun β0 _ _ _ _ gq gh kq=>ag' (gq.1.trans J) kq) ?_
 refine stv (d:=6) (fun β0=>int (bN s t)) [] J bH (fun β0 _ _ _ _ gq gh kq=>ag' (gq.1.trans J) kq) ?_
 refine pnH fun β0=>(nl (th (sq (rg (mv (bi J J eF (mv ?_)))))))
 apply eH (t:=17) (pd:=19) rfl
 rotate_left
 ·intro hg0 fin
  have hg0':=hg0
  try simp at hg0'
  exact gy J J J hg0 (mv (pkT J hg0 J (drp (X:= [(18,_)]) ⟨J,tV⟩ fin)))
 ·intro hg0 fin
  exact gn J J J hg0 J J (pkF J hg0 J (drp (X:= [(18,_)]) ⟨J,tV⟩ fin))
 refine ag (nl (th (rt ?_)))
 have hr0:((decide ((bN s t)=0))&&(eqB s t))=(eqB s t):=by
  rw[TI]
 exact rE () [.tmp 4] J [bl ((decide ((bN s t)=0))&&(eqB s t))] ⟨.tmp J,tV⟩ (cA1 (fun x0=>rV [bl x0]) hr0) trivial eX
theorem uS (s t:SS) (hz1:(size s:Int)≤1000000) (hz2:(size t:Int)≤1000000) (hs:bK s) (ht:bK t):
 Fn0 Tryz.prog 52 [spec s,spec t] (bl (rfB s t)):=by
 refine fnI Tryz.func52 rfl rfl (fun w0 F0=> ?_)
 refine fcC (bO 0 J) (fun hS0=> ?_)
 obtain⟨hsa0,hss0,hse0⟩:=sLn hS0
 refine fcC (bO 1 J) (fun hS1=> ?_)
 obtain⟨hsa1,hss1,hse1⟩:=sLn hS1
 refine sq (rg (bx (key:=2) (cs:= [sl 1 rE_ s.aC,sl 2 sE s.sT]) J fun b2=>(bx (key:=3) (cs:= [sl 1 rE_ t.aC,sl 2 sE t.sT]) J fun b3=>(ag (nl (th (sq ?_)))))))
 refine drH (nh:=11) [0,1,0,7,15,31,63,63,0,383,1023] [(none,[2]),(none,[]),(none,[3]),(none,[]),(none,[]),(none,[]),(none,[]),(none,[]),(some 5,[]),(some 5,[5]),(none,[])] T.mixed kR kR ?_
 refine stv (d:=8) (fun β0=>agg [sl 1 rE_ s.aC,sl 2 sE s.sT]) [2] J bH (fun β0 _ _ _ _ gq gh kq=>lPA (gq.1.trans J) (gh.1.trans J) T.aD J kq) ?_
 refine stv (d:=9) (fun β0=>agg [sl 1 rE_ s.aC,sl 2 sE s.sT]) [] J bH (fun β0 _ _ _ _ gq gh kq=>dU (φs:= [agg [sl 1 rE_ s.aC,sl 2 sE s.sT]]) (φ:=agg [sl 1 rE_ s.aC,sl 2 sE s.sT]) ⟨(gq.1.trans J),tV⟩ (ref03.dR s O) T.iG (fun N hN=>fun h=>cU (cs:= [fre N (sl 1 rE_ s.aC),fre N (sl 2 sE s.sT)]) (ds:= [sl 1 rE_ s.aC,sl 2 sE s.sT]) ⟨fun h=>bP h,fun h=>bP h,tV⟩ h) kq) ?_
 refine stv (d:=10) (fun β0=>agg [sl 1 rE_ t.aC,sl 2 sE t.sT]) [3] J bH (fun β0 _ _ _ _ gq gh kq=>lPA (gq.1.trans J) (gh.1.trans J) T.aD J kq) ?_
 refine stv (d:=11) (fun β0=>agg [sl 1 rE_ t.aC,sl 2 sE t.sT]) [] J bH (fun β0 _ _ _ _ gq gh kq=>dU (φs:= [agg [sl 1 rE_ t.aC,sl 2 sE t.sT]]) (φ:=agg [sl 1 rE_ t.aC,sl 2 sE t.sT]) ⟨(gq.1.trans J),tV⟩ (ref03.dR t O) T.iG (fun N hN=>fun h=>cU (cs:= [fre N (sl 1 rE_ t.aC),fre N (sl 2 sE t.sT)]) (ds:= [sl 1 rE_ t.aC,sl 2 sE t.sT]) ⟨fun h=>bP h,fun h=>bP h,tV⟩ h) kq) ?_
 refine ste (d:=12) encR iQ QM (fun z=>Ii s t z) (fun z=>tup [agg [bl z.holds,sl 1 nE z.ladder,sl 2 pE z.pairs,sl 1 rE_ z.wit.aC,sl 1 gE z.wit.sT],int (bN s t)]) rfl (fun β0 _ _ _ _ gq gh kq=>cal (Hi:= []) (φs:= [agg [sl 1 rE_ s.aC,sl 2 sE s.sT],agg [sl 1 rE_ t.aC,sl 2 sE t.sT]]) ⟨(gq.1.trans rfl),(gq.2.1.trans rfl),tV⟩ (rY s t hs ht) T.Wd trivial fun N i=>kq i.1 i.2) ?_
 refine stv (d:=7) (fun β0=>whn (Ii s t (iQ (β0 4))) (tup [agg [bl (iQ (β0 4)).holds,sl 1 nE (iQ (β0 4)).ladder,sl 2 pE (iQ (β0 4)).pairs,sl 1 rE_ (iQ (β0 4)).wit.aC,sl 1 gE (iQ (β0 4)).wit.sT],int (bN s t)])) [] J (fun β β' hb=>by first|rw[hb 4 J]|(dsimp only;rw[hb 4 J])) (fun β0 _ _ _ _ gq gh kq=>mv' (gq.1.trans J) kq) ?_
 refine stv (d:=13) (fun β0=>agg [bl (iQ (β0 4)).holds,sl 1 nE (iQ (β0 4)).ladder,sl 2 pE (iQ (β0 4)).pairs,sl 1 rE_ (iQ (β0 4)).wit.aC,sl 1 gE (iQ (β0 4)).wit.sT]) [] J (fun β β' hb=>by first|rw[hb 4 J]|(dsimp only;rw[hb 4 J])) (fun β0 _ _ _ _ gq gh kq=>xtW (gq.1.trans J) J kq) ?_
 refine stv (d:=14) (fun β0=>int (bN s t)) [] J bH (fun β0 _ _ _ _ gq gh kq=>xtW (gq.1.trans J) J kq) ?_
 refine sta 5 T.KN (eC (eC (eC (eC (eC eZ))))) ?_
 refine stw 5 (fun β0=>cell (gbk (β0 8)) [bl (iQ (β0 4)).holds,sl 1 nE (iQ (β0 4)).ladder,sl 2 pE (iQ (β0 4)).pairs,sl 1 rE_ (iQ (β0 4)).wit.aC,sl 1 gE (iQ (β0 4)).wit.sT]) [5] J (fun β β' hb=>by first|rw[hb 4 J,hb 8 J]|(dsimp only;rw[hb 4 J,hb 8 J])) (fun β0 _ _ _ _ gq gh kq=>sPA (cs':= [bl (iQ (β0 4)).holds,sl 1 nE (iQ (β0 4)).ladder,sl 2 pE (iQ (β0 4)).pairs,sl 1 rE_ (iQ (β0 4)).wit.aC,sl 1 gE (iQ (β0 4)).wit.sT]) (gq.1.trans J) (gh.1.trans J) (gq.2.1.trans J) T.kT J J kq) ?_
 refine stv (d:=6) (fun β0=>int (bN s t)) [] J bH (fun β0 _ _ _ _ gq gh kq=>ag' (gq.1.trans J) kq) ?_
 refine pnH fun β0=>(nl (th (sq (Vz 12 J fun h12=>(rg (mv (bi J J eF (mv ?_))))))))
 apply eH (t:=17) (pd:=20) rfl
 rotate_left
 ·intro hg0 fin
  have hg0':=hg0
  try simp at hg0'
  exact gy J J J hg0 (fP J T.QO (gy J J J hg0 (lP J J J T.eB (pkT J hg0 J (drp (X:= [(19,_),(18,_)]) ⟨J,J,tV⟩ fin)))))
 ·intro hg0 fin
  exact gn J J J hg0 J J (gn J J J hg0 J J (pkF J hg0 J (drp (X:= [(19,_),(18,_)]) ⟨J,J,tV⟩ fin)))
 refine ag (nl (th (rt ?_)))
 have hr0:((decide ((bN s t)=0))&&(iQ (β0 4)).holds)=(rfB s t):=by
  rw[TJ h12]
 exact rE () [.tmp 4] J [bl ((decide ((bN s t)=0))&&(iQ (β0 4)).holds)] ⟨.tmp J,tV⟩ (cA1 (fun x0=>rV [bl x0]) hr0) trivial eX
end prodo
end
section
namespace OrdM
open ref01 ref03 ref04 ref06 Part Rungs LeftM TrimM RoundM MergeM BisM BisM2 BisM4 BisM5 BisM6 Keys WalkM WitM JudgM JudgM2 LevM divr divs divd dive divf divv judg sysw satj ChsM BisS TrimI QuoM FailM DivM RefM GenW CompM CompP prodp TogM ProdM BesM SevM SatC
theorem Ij {s t:SS} (hs:oK s) {R:Nat→Nat→Prop} (hb:∀{x y},R x y→x<s.sT.length∧y<t.sT.length) (ha:∀{x y},R x y→∀u∈acc s x,u∈acc t y)
 (hn:∀{x y},R x y→∀a:Nat,has (aT (acc s x)) (a:Int)=true→R (ix (nxt s x) a).toNat (ix (nxt t y) a).toNat) (h0:R 0 0):dA s t:=by
 cases e:ix (hOl s) 0 with
 |true=>exact .inl e
 |false=>
  have hop:=iU s
  refine .inr ⟨fun i y=>i<(aH s).length∧R (ix (aH s) i).toNat y,⟨fun {i y} ⟨hi,h⟩=>⟨by rw[iJ];exact hi,(hb h).2⟩,fun {i y} ⟨hi,h⟩ u hu=> ?_,fun {i y} ⟨hi,h⟩ a hh=> ?_⟩,O,by rw[mE];exact h0⟩
  ·rw[kA hi] at hu
   exact ha h u (sY hu).1
  ·rw[kA hi] at hh
   have hx:=(hb h).1
   have hg:=jY hs hx hh
   have hal:a<s.aC.length:=by have:=(hs.st _ hx).len;omega
   obtain⟨p1,p2⟩:=oC (lI hs hi hh)
   have p0:=(jW (aH s) (ix (ix s.sT (ix (aH s) i).toNat).next a)).1
   rw[zB hi hal,if_pos hh]
   refine⟨O,?_⟩
   rw[p2]
   obtain⟨u,hu,hv⟩:=(bR _ _).1 hh
   exact hn h a ((bR _ _).2 ⟨u,(sY hu).1,hv⟩)
theorem mI {s t u:SS} (hs:oK s) (ht:oK t) (h1:dA s t) (h2:dA t u):dA s u:=by
 cases e:ix (hOl s) 0 with
 |true=>exact .inl e
 |false=>
  obtain⟨R1,hR1,r1⟩:=h1.resolve_left (by simp[e])
  have e2:ix (hOl t) 0=false:=oF hs ht e hR1 r1
  obtain⟨R2,hR2,r2⟩:=h2.resolve_left (by simp[e2])
  have hop:=iU t
  refine .inr ⟨fun i y=> ∃j,j<(aH t).length∧R1 i (ix (aH t) j).toNat∧R2 j y,⟨fun {i y} ⟨j,hj,q1,q2⟩=>⟨(hR1.bd q1).1,(hR2.bd q2).2⟩,fun {i y} ⟨j,hj,q1,q2⟩ v hv=> ?_,fun {i y} ⟨j,hj,q1,q2⟩ a hh=> ?_⟩,0,O,by rw[mE];exact r1,r2⟩
  ·have hi:=(hR1.bd q1).1
   rw[iJ] at hi
   rw[kA hi] at hv
   have:=pS hs ht e hR1 q1 hv
   exact hR2.acc q2 v (by rw[kA hj];exact this)
  ·have hi:=(hR1.bd q1).1
   rw[iJ] at hi
   have n1:=hR1.nxt q1 a hh
   obtain⟨v,hv,hva⟩:=(bR _ _).1 hh
   rw[kA hi] at hv
   have hk:has (aT (keep t (ix (aH t) j).toNat)) (a:Int)=true:=(bR _ _).2 ⟨v,pS hs ht e hR1 q1 hv,hva⟩
   have hb:=hO ht hj
   have hg:=jY ht (x:=(ix (aH t) j).toNat) O hk
   have hal:a<t.aC.length:=by have:=(ht.st (ix (aH t) j).toNat O).len;omega
   obtain⟨p1,p2⟩:=oC (lI ht hj hk)
   have p0:=(jW (aH t) (ix (ix t.sT (ix (aH t) j).toNat).next a)).1
   have n2:=hR2.nxt q2 a (by rw[kA hj];exact hk)
   rw[zB hj hal,if_pos hk] at n2
   exact⟨_,O,by rw[p2];exact n1,n2⟩
theorem qD {s:SS} (hs:oK s):dA (tR s).1 s∧dA s (tR s).1:=Hh hs hs rfl ⟨wK hs,wK hs⟩
theorem yN {s t:SS} (hs:oK s) (ht:oK t) (h:dA s t):dA (tR s).1 (tR t).1:=
 mI (bC hs) ht (mI (bC hs) hs (qD hs).1 h) (qD ht).2
theorem TK {s t:SS} (hs:oK s) (ht:oK t) (h:dA s t) (e:ix (hOl s) 0=false):ix (hOl t) 0=false∧∃R,Ref (tR s).1 (tR t).1 R∧R 0 0:=by
 have e2:ix (hOl t) 0=false:=by
  obtain⟨R,hR,r⟩:=h.resolve_left (by simp[e])
  exact oF hs ht e hR r
 obtain⟨R,hR,r⟩:=(mI hs ht h (qD ht).2).resolve_left (by simp[e])
 rw[show tS s=(tR s).1 by rw[bX e]] at hR
 exact⟨e2,R,hR,r⟩
theorem tN {α β:Type} [DecidableEq α] [Inhabited α] [DecidableEq β] [Inhabited β] {A:α→List Int} {N:α→Nat→α} {A':β→List Int} {N':β→Nat→β} {n n':Nat} {z:α} {z':β} {l:List α} {r:List β} {S D:SS} (ρ:α→β→Prop) (hS:oK S)
 (h:pH A N n z l S) (g:pH A' N' n' z' r D) (hA:∀{p q},p∈l→q∈r→ρ p q→∀v∈A p,v∈A' q)
 (hN:∀{p q},p∈l→q∈r→ρ p q→∀a:Nat,has (aT (A p)) (a:Int)=true→has (aT (A' q)) (a:Int)=true→a<n∧a<n'∧ρ (N p a) (N' q a)) (h0:ρ z z'):dA S D:=by
 refine Ij hS (R:=fun x y=>x<l.length∧y<r.length∧ρ (ix l x) (ix r y)) (fun {x y} ⟨hx,hy,_⟩=>by rw[h.len,g.len];exact⟨hx,hy⟩) (fun {x y} ⟨hx,hy,q⟩ v hv=> ?_) (fun {x y} ⟨hx,hy,q⟩ a hh=> ?_) ⟨h.ne,g.ne,by rw[h.hd,g.hd];exact h0⟩
 ·rw[h.acc x hx] at hv
  rw[g.acc y hy]
  exact hA (aZ hx) (aZ hy) q v hv
 ·rw[h.acc x hx] at hh
  have hh':has (aT (A' (ix r y))) (a:Int)=true:=by
   obtain⟨v,hv,hva⟩:=(bR _ _).1 hh
   exact(bR _ _).2 ⟨v,hA (aZ hx) (aZ hy) q v hv,hva⟩
  obtain⟨a1,a2,q'⟩:=hN (aZ hx) (aZ hy) q a hh hh'
  have c1:=h.cl x hx a a1 hh
  have c2:=g.cl y hy a a2 hh'
  have i1:=List.idxOf_lt_length_of_mem c1
  have i2:=List.idxOf_lt_length_of_mem c2
  rw[h.nx x hx a a1,if_pos hh,g.nx y hy a a2,if_pos hh',Int.toNat_natCast,Int.toNat_natCast]
  refine⟨i1,i2,?_⟩
  rw[aJ i1,aJ i2,List.getElem_idxOf,List.getElem_idxOf]
  exact q'
theorem vN {s t:SS} (h:eO s t):bB s t=(nothing s.aC,true):=by unfold bB;rw[if_pos h]
theorem kW {s t:SS} (h:¬eO s t) (hq:(bB s t).2=true):(cL (tR s).1 (tR t).1).length≤500∧(bB s t).1=(tR (bD (tR s).1 (tR t).1)).1:=by
 unfold bB at hq ⊢
 rw[if_neg h] at hq ⊢
 split at hq
 ·next g=>rw[if_pos g];exact⟨g,rfl⟩
 ·cases hq
theorem rA {s t:SS} (h1:ix (hOl s) 0=false) (h2:ix (hOl t) 0=false):¬eO s t:=fun g=>g.elim (fun g=>by rw[h1] at g;cases g) (fun g=>by rw[h2] at g;cases g)
theorem JQ {s t:SS} (h:¬eO s t):ix (hOl s) 0=false∧ix (hOl t) 0=false:=
 ⟨by cases e:ix (hOl s) 0 with
   |false=>rfl
   |true=>exact absurd (Or.inl e) h,by cases e:ix (hOl t) 0 with
   |false=>rfl
   |true=>exact absurd (Or.inr e) h⟩
theorem dP {S T:SS} (hS:oK S) (hT:oK T) (hc:(cL S T).length≤500):oK (bD S T):=qB hS hT (vI hS hT) O
theorem Oe {S U T:SS} (hS:oK S) (hU:oK U) (hT:oK T) {Q:Nat→Nat→Prop} (hQ:Ref S U Q) (q0:Q 0 0) (hc:(cL S T).length≤500):dA (bD S T) (bD U T):=by
 have hok:=(iZ hS hT).ok
 have hok':=(iZ hU hT).ok
 refine tN (fun p q:PP=>p.2=q.2∧Q p.1.toNat q.1.toNat) (dP hS hT hc) (jA hS hT) (jA hU hT) (fun {p q} hp hq ⟨e,h⟩ v hv=> ?_) (fun {p q} hp hq ⟨e,h⟩ a g1 g2=> ?_) ⟨rfl,q0⟩
 ·obtain⟨v1,h1,v2,h2,rfl⟩:=(jP hS (hok p hp)).1 hv
  exact(jP hU (hok' q hq)).2 ⟨v1,hQ.acc h v1 h1,v2,by rw[←e];exact h2,rfl⟩
 ·refine⟨(nK hS hT (hok p hp) g1).1,(nK hU hT (hok' q hq) g2).1,?_,hQ.nxt h a ((CV hS (hok p hp)).1 g1).1⟩
  show ix (nxt T p.2.toNat) a=ix (nxt T q.2.toNat) a
  rw[e]
theorem QP {s u t:SS} (hs:oK s) (hu:oK u) (ht:oK t) (h:dA s u) (h1:(bB s t).2=true) (h2:(bB u t).2=true):dA (bB s t).1 (bB u t).1:=by
 by_cases e:eO s t
 ·rw[vN e];exact .inl (eP _)
 ·obtain⟨e1,e2⟩:=JQ e
  obtain⟨e3,Q,hQ,q0⟩:=TK hs hu h e1
  obtain⟨c1,d1⟩:=kW e h1
  obtain⟨c2,d2⟩:=kW (rA e3 e2) h2
  rw[d1,d2]
  have hT:=bC ht
  exact yN (dP (bC hs) hT c1) (dP (bC hu) hT c2) (Oe (bC hs) (bC hu) hT hQ q0 c1)
theorem Og (x y:Int):bV x y=bV y x:=by unfold bV;rw[Nat.and_comm]
theorem Oh {S T:SS} (hS:oK S) (hT:oK T) (hc:(cL S T).length≤500):dA (bD S T) (bD T S):=by
 have hok:=(iZ hS hT).ok
 have hok':=(iZ hT hS).ok
 refine tN (fun p q:PP=>p.1=q.2∧p.2=q.1) (dP hS hT hc) (jA hS hT) (jA hT hS) (fun {p q} hp hq ⟨e,h⟩ v hv=> ?_) (fun {p q} hp hq ⟨e,h⟩ a g1 g2=> ?_) ⟨rfl,rfl⟩
 ·obtain⟨v1,h1,v2,h2,rfl⟩:=(jP hS (hok p hp)).1 hv
  exact(jP hT (hok' q hq)).2 ⟨v2,by rw[←h];exact h2,v1,by rw[←e];exact h1,Og _ _⟩
 ·refine⟨(nK hS hT (hok p hp) g1).1,(nK hT hS (hok' q hq) g2).1,?_,?_⟩
  ·show ix (nxt S p.1.toNat) a=ix (nxt S q.2.toNat) a
   rw[e]
  ·show ix (nxt T p.2.toNat) a=ix (nxt T q.1.toNat) a
   rw[h]
theorem Oi {s t:SS} (h:eO s t):eO t s:=h.elim .inr .inl
theorem Ik {s t:SS} (hs:oK s) (ht:oK t) (h1:(bB s t).2=true) (h2:(bB t s).2=true):dA (bB s t).1 (bB t s).1:=by
 by_cases e:eO s t
 ·rw[vN e];exact .inl (eP _)
 ·obtain⟨c1,d1⟩:=kW e h1
  obtain⟨c2,d2⟩:=kW (fun g=>e (Oi g)) h2
  rw[d1,d2]
  exact yN (dP (bC hs) (bC ht) c1) (dP (bC ht) (bC hs) c2) (Oh (bC hs) (bC ht) c1)
theorem Oj {v:Int} {n:Nat} (h0:0≤v) (h:∀a:Nat,has v (a:Int)=true→a<n):bV v (jJ n)=v:=by
 have hlt:v.toNat<2^n:=by
  refine Nat.lt_pow_two_of_testBit _ fun i hi=> ?_
  cases e:v.toNat.testBit i with
  |false=>rfl
  |true=>
   have:=h i (by unfold has;rw[Int.toNat_natCast];exact e)
   omega
 unfold bV
 rw[HQ,Nat.and_two_pow_sub_one_eq_mod,Nat.mod_eq_of_lt hlt]
 omega
theorem Il {s:SS} (hs:oK s) {x:Nat} (hx:x<s.sT.length) {v:Int} (hv:v∈acc s x):bV v (jJ s.aC.length)=v:=by
 have hb:=CompM.oV hs hx v hv
 exact Oj hb.1 fun a ha=>(jR hs hx ((bR _ _).2 ⟨v,hv,ha⟩)).1
theorem TL {l:List ByteArray} {a:Nat} (h:a<l.length):ix (nxt (aQ l) 0) a=0:=yH 0 h
theorem Ok {S:SS} (hS:oK S) (hc:(cL S (aQ S.aC)).length≤500):dA (bD S (aQ S.aC)) S∧dA S (bD S (aQ S.aC)):=by
 have hU:=mY hS.acts
 have hok:=(iZ hS hU).ok
 have hN:=jA hS hU
 have f0:=hS.few0
 have key:∀{x y:Nat},x<(cL S (aQ S.aC)).length→y<S.sT.length→ix (cL S (aQ S.aC)) x=((y:Int),0)→∀v,v∈acc (bD S (aQ S.aC)) x↔v∈acc S y:=fun {x y} hx hy e v=>by
  rw[hN.acc x hx,jP hS (hok _ (aZ hx)),e]
  constructor
  ·rintro⟨v1,h1,v2,h2,rfl⟩
   have h2:v2∈[jJ S.aC.length]:=h2
   rw[List.mem_singleton.1 h2]
   have h1:v1∈acc S y:=h1
   rw[Il hS hy h1];exact h1
  ·intro h
   exact⟨v,h,jJ S.aC.length,List.mem_singleton.2 rfl,Il hS hy h⟩
 have kn:∀{x y:Nat},x<(cL S (aQ S.aC)).length→y<S.sT.length→ix (cL S (aQ S.aC)) x=((y:Int),0)→∀a:Nat,has (aT (acc S y)) (a:Int)=true→(ix (nxt (bD S (aQ S.aC)) x) a).toNat<(cL S (aQ S.aC)).length∧(ix (nxt S y) a).toNat<S.sT.length∧ix (cL S (aQ S.aC)) (ix (nxt (bD S (aQ S.aC)) x) a).toNat=((((ix (nxt S y) a).toNat:Nat):Int),0):=fun {x y} hx hy e a ha=>by
  have hg:=jR hS hy ha
  have hh:has (aT (cA S (aQ S.aC) (ix (cL S (aQ S.aC)) x))) (a:Int)=true:=by
   obtain⟨v,hv,hva⟩:=(bR _ _).1 ha
   exact(bR _ _).2 ⟨v,by rw[←hN.acc x hx];exact(key hx hy e v).2 hv,hva⟩
  have hcl:=hN.cl x hx a hg.1 hh
  rw[hN.nx x hx a hg.1,if_pos hh,Int.toNat_natCast]
  refine⟨QuoM.CT hcl,O,?_⟩
  rw[QuoM.Hq hcl]
  unfold cN
  rw[e]
  refine Prod.ext ?_ ?_
  ·show ix (nxt S (y:Int).toNat) a=(((ix (nxt S y) a).toNat:Nat):Int)
   rw[Int.toNat_natCast];omega
  ·exact TL hg.1
 have k0:ix (cL S (aQ S.aC)) 0=(((0:Nat):Int),0):=hN.hd
 constructor
 ·refine Ij (dP hS hU hc) (R:=fun x y=>x<(cL S (aQ S.aC)).length∧y<S.sT.length∧ix (cL S (aQ S.aC)) x=((y:Int),0)) (fun {x y} ⟨hx,hy,_⟩=>⟨by rw[hN.len];exact hx,hy⟩) (fun {x y} ⟨hx,hy,e⟩ v hv=>(key hx hy e v).1 hv) (fun {x y} ⟨hx,hy,e⟩ a ha=>kn hx hy e a ?_) ⟨hN.ne,O,k0⟩
  obtain⟨v,hv,hva⟩:=(bR _ _).1 ha
  exact(bR _ _).2 ⟨v,(key hx hy e v).1 hv,hva⟩
 ·refine Ij hS (R:=fun y x=>x<(cL S (aQ S.aC)).length∧y<S.sT.length∧ix (cL S (aQ S.aC)) x=((y:Int),0)) (fun {y x} ⟨hx,hy,_⟩=>⟨hy,by rw[hN.len];exact hx⟩) (fun {y x} ⟨hx,hy,e⟩ v hv=>(key hx hy e v).2 hv) (fun {y x} ⟨hx,hy,e⟩ a ha=>kn hx hy e a ha) ⟨hN.ne,O,k0⟩
theorem QQ {s:SS} (hs:oK s) (h1:(bB s (aQ s.aC)).2=true):dA (bB s (aQ s.aC)).1 s∧dA s (bB s (aQ s.aC)).1:=by
 have hn:=HR hs.acts (.inr trivial)
 by_cases e:eO s (aQ s.aC)
 ·have e1:ix (hOl s) 0=true:=e.resolve_right (by rw[hn];simp)
  rw[vN e]
  exact⟨.inl (eP _),.inl e1⟩
 ·obtain⟨c1,d1⟩:=kW e h1
  rw[NP hs.acts] at c1 d1
  have hT:=bC hs
  rw[show aQ s.aC=aQ (tR s).1.aC by rw[dV]] at c1
  rw[d1,show aQ s.aC=aQ (tR s).1.aC by rw[dV]]
  obtain⟨g1,g2⟩:=Ok hT c1
  have hC:=dP hT (mY hT.acts) c1
  exact⟨mI (bC hC) hT (mI (bC hC) hC (qD hC).1 g1) (qD hs).1,mI hs hC (mI hs hT (qD hs).2 g2) (qD hC).2⟩
theorem BF {D:SS} (h:∀x,x<D.sT.length→acc D x≠[]) (k:Nat):ix (hOl D) k=false:=by
 by_cases hk:k<D.sT.length
 ·cases e:ix (hOl D) k with
  |false=>rfl
  |true=>
   exfalso
   refine(iK hk).1 e (fun _=>False) (fun x hx hc=> ?_)
   have hp:0<(ix D.sT x).aP.length:=List.length_pos_iff.2 (h x hx)
   obtain⟨_,_,_,_,g⟩:=hc 0 hp
   exact g
 ·exact vW hk
theorem ET {D:SS} (h:∀x,x<D.sT.length→acc D x≠[]) (k:Nat):keep D k=acc D k:=by
 have hf:=BF h
 rw[jL (hf k)]
 refine List.filter_eq_self.2 fun u hu=> ?_
 rw[Bool.not_eq_true']
 cases e:falls (ix D.sT k) u (hOl D) with
 |false=>rfl
 |true=>
  obtain⟨a,_,_,_,hv⟩:=iI.1 e
  rw[hf] at hv;cases hv
theorem rB {s:SS} (hs:oK s) (e:ix (hOl s) 0=false):∀x,x<(tR s).1.sT.length→acc (tR s).1 x≠[]:=fun x hx=>by
 have h:(tR s).1=tS s:=by rw[bX e]
 rw[h] at hx ⊢
 exact List.ne_nil_of_length_pos (KM hs e hx)
theorem uI {S T:SS} (hS:oK S) (hT:oK T) (h1:∀x,x<S.sT.length→acc S x≠[]) (h2:∀x,x<T.sT.length→acc T x≠[]):∀x,x<(bD S T).sT.length→acc (bD S T) x≠[]:=fun x hx=>by
 have hN:=jA hS hT
 rw[hN.len] at hx
 rw[hN.acc x hx]
 have hp:=(iZ hS hT).ok _ (aZ hx)
 obtain⟨v1,g1⟩:=List.exists_mem_of_ne_nil _ (h1 (ix (cL S T) x).1.toNat (by have:=hp.1;have:=hp.2.1;omega))
 obtain⟨v2,g2⟩:=List.exists_mem_of_ne_nil _ (h2 (ix (cL S T) x).2.toNat (by have:=hp.2.2.1;have:=hp.2.2.2;omega))
 exact List.ne_nil_of_mem ((jP hS hp).2 ⟨v1,g1,v2,g2,rfl⟩)
theorem kF {s t:SS} (hs:oK s) (ht:oK t) (h1:(bB s t).2=true):ix (hOl (bB s t).1) 0=true↔eO s t:=by
 by_cases e:eO s t
 ·rw[vN e];exact⟨fun _=>e,fun _=>eP _⟩
 ·obtain⟨c1,d1⟩:=kW e h1
  obtain⟨e1,e2⟩:=JQ e
  rw[d1,IJ (dP (bC hs) (bC ht) c1),BF (uI (bC hs) (bC ht) (rB hs e1) (rB ht e2)) 0]
  exact⟨fun g=>(by cases g),fun g=>absurd g e⟩
def BX (S T:SS) (i:Nat) (c:PP):Prop:=c∈cL S T∧Sim2 (aB (tR (bD S T)).1) (aB (bD S T)) i (pxa (cL S T) c)
section
variable {S T:SS} (hS:oK S) (hT:oK T) (h1:∀x,x<S.sT.length→acc S x≠[]) (h2:∀x,x<T.sT.length→acc T x≠[]) (hc:(cL S T).length≤500)
include hS hT h1 h2 hc
theorem Im:aB (tR (bD S T)).1=(tR (bD S T)).1:=by
 have hC:=dP hS hT hc
 have e:=BF (uI hS hT h1 h2) 0
 rw[bX e]
 exact AW hC e
theorem JR:BX S T 0 (0,0):=by
 have hC:=dP hS hT hc
 have hN:=jA hS hT
 have hm:((0,0):PP)∈cL S T:=by rw[←hN.hd];exact aZ hN.ne
 refine⟨hm,?_⟩
 have h0:pxa (cL S T) ((0,0):PP)=0:=by
  exact Nat.le_zero.1 (QuoM.Vu hN.ne hN.hd)
 rw[h0]
 exact wJ hC
theorem Da {i:Nat} {c:PP} (h:BX S T i c):acc (tR (bD S T)).1 i=cA S T c:=by
 have hN:=jA hS hT
 have hl:=QuoM.CT h.1
 have e:=(sI _ _).acc h.2
 rw[Im hS hT h1 h2 hc,gU (by rw[hN.len];exact hl),ET (uI hS hT h1 h2),hN.acc _ hl,QuoM.Hq h.1] at e
 exact e
theorem JS {i:Nat} {c:PP} (h:BX S T i c) {a:Nat} (ha:has (aT (cA S T c)) (a:Int)=true):BX S T (ix (nxt (tR (bD S T)).1 i) a).toNat (cN S T c a):=by
 have hC:=dP hS hT hc
 have hN:=jA hS hT
 have hl:=QuoM.CT h.1
 have ea:=QuoM.Hq h.1
 have hal:a<S.aC.length:=(nK hS hT ((iZ hS hT).ok c h.1) ha).1
 have hx:pxa (cL S T) c<(bD S T).sT.length:=by rw[hN.len];exact hl
 have hcl:cN S T c a∈cL S T:=by
  have:=hN.cl _ hl a hal (by rw[ea];exact ha)
  rwa [ea] at this
 refine⟨hcl,?_⟩
 have hk:(nxt (aB (tR (bD S T)).1) i).length=S.aC.length:=by
  rw[(sI _ _).len h.2,gT hC hx];rfl
 obtain⟨k1,k2⟩:=(sI _ _).nxt h.2 a (by rw[hk];exact hal)
 rw[kI hC hx (show a<(bD S T).aC.length from hal),ET (uI hS hT h1 h2),hN.acc _ hl,ea,if_pos ha,hN.nx _ hl a hal,ea,if_pos ha] at k1 k2
 rw[Int.toNat_natCast] at k2
 rw[Im hS hT h1 h2 hc] at k1 k2 ⊢
 exact k2 O
end
theorem Db (x y z:Int):bV (bV x y) z=bV x (bV y z):=by unfold bV;rw[Int.toNat_natCast,Int.toNat_natCast,Nat.and_assoc]
def DT (S T U:SS) (p q:PP):Prop:=∃c d:PP,BX S T p.1.toNat c∧BX T U q.2.toNat d∧c.1=q.1∧c.2=d.1∧d.2=p.2
theorem Lv {S T U:SS} (hS:oK S) (hT:oK T) (hU:oK U) (h1:∀x,x<S.sT.length→acc S x≠[]) (h2:∀x,x<T.sT.length→acc T x≠[]) (h3:∀x,x<U.sT.length→acc U x≠[]) (hc1:(cL S T).length≤500) (hc2:(cL T U).length≤500)
 (hc3:(cL (tR (bD S T)).1 U).length≤500) (hc4:(cL S (tR (bD T U)).1).length≤500):dA (bD (tR (bD S T)).1 U) (bD S (tR (bD T U)).1)∧dA (bD S (tR (bD T U)).1) (bD (tR (bD S T)).1 U):=by
 have hX:=bC (dP hS hT hc1)
 have hY:=bC (dP hT hU hc2)
 have okL:=(iZ hX hU).ok
 have okR:=(iZ hS hY).ok
 have ok1:=(iZ hS hT).ok
 have ok2:=(iZ hT hU).ok
 have key:∀{p q:PP},p∈cL (tR (bD S T)).1 U→q∈cL S (tR (bD T U)).1→DT S T U p q→∀v,v∈cA (tR (bD S T)).1 U p↔v∈cA S (tR (bD T U)).1 q:=fun {p q} hp hq ⟨c,d,b1,b2,e1,e2,e3⟩ v=>by
  rw[jP hX (okL p hp),jP hS (okR q hq),Da hS hT h1 h2 hc1 b1,Da hT hU h2 h3 hc2 b2]
  constructor
  ·rintro⟨w,hw,v3,g3,rfl⟩
   obtain⟨v1,g1,v2,g2,rfl⟩:=(jP hS (ok1 c b1.1)).1 hw
   exact⟨v1,by rw[←e1];exact g1,bV v2 v3,(jP hT (ok2 d b2.1)).2 ⟨v2,by rw[←e2];exact g2,v3,by rw[e3];exact g3,rfl⟩,(Db _ _ _).symm⟩
  ·rintro⟨v1,g1,w,hw,rfl⟩
   obtain⟨v2,g2,v3,g3,rfl⟩:=(jP hT (ok2 d b2.1)).1 hw
   exact⟨bV v1 v2,(jP hS (ok1 c b1.1)).2 ⟨v1,by rw[e1];exact g1,v2,by rw[e2];exact g2,rfl⟩,v3,by rw[←e3];exact g3,Db _ _ _⟩
 have kn:∀{p q:PP},p∈cL (tR (bD S T)).1 U→q∈cL S (tR (bD T U)).1→DT S T U p q→∀a:Nat,has (aT (cA (tR (bD S T)).1 U p)) (a:Int)=true→has (aT (cA S (tR (bD T U)).1 q)) (a:Int)=true→a<(tR (bD S T)).1.aC.length∧a<S.aC.length∧DT S T U (cN (tR (bD S T)).1 U p a) (cN S (tR (bD T U)).1 q a):=fun {p q} hp hq ⟨c,d,b1,b2,e1,e2,e3⟩ a ha hb=>by
  have k1:=((CV hX (okL p hp)).1 ha).1
  have k2:=((CV hS (okR q hq)).1 hb).2
  rw[Da hS hT h1 h2 hc1 b1] at k1
  rw[Da hT hU h2 h3 hc2 b2] at k2
  refine⟨(nK hX hU (okL p hp) ha).1,(nK hS hY (okR q hq) hb).1,cN S T c a,cN T U d a,JS hS hT h1 h2 hc1 b1 k1,JS hT hU h2 h3 hc2 b2 k2,?_,?_,?_⟩
  ·show ix (nxt S c.1.toNat) a=ix (nxt S q.1.toNat) a
   rw[e1]
  ·show ix (nxt T c.2.toNat) a=ix (nxt T d.1.toNat) a
   rw[e2]
  ·show ix (nxt U d.2.toNat) a=ix (nxt U p.2.toNat) a
   rw[e3]
 have k0:DT S T U (0,0) (0,0):=⟨(0,0),(0,0),JR hS hT h1 h2 hc1,JR hT hU h2 h3 hc2,rfl,rfl,rfl⟩
 exact⟨tN (DT S T U) (dP hX hU hc3) (jA hX hU) (jA hS hY) (fun hp hq h v hv=>(key hp hq h v).1 hv) (fun hp hq h a ha hb=>kn hp hq h a ha hb) k0,
  tN (fun q p=>DT S T U p q) (dP hS hY hc4) (jA hS hY) (jA hX hU) (fun hp hq h v hv=>(key hq hp h v).2 hv) (fun hp hq h a ha hb=>by obtain⟨x1,x2,x3⟩:=kn hq hp h a hb ha;exact⟨x2,x1,x3⟩) k0⟩
theorem Ol {s t u:SS} (hs:oK s) (ht:oK t) (hu:oK u) (h1:(bB s t).2=true) (h2:(bB t u).2=true) (h3:(bB (bB s t).1 u).2=true) (h4:(bB s (bB t u).1).2=true):
 dA (bB (bB s t).1 u).1 (bB s (bB t u).1).1∧dA (bB s (bB t u).1).1 (bB (bB s t).1 u).1:=by
 have hx:=kD hs ht h1
 have hy:=kD ht hu h2
 by_cases e:ix (hOl s) 0=true∨ix (hOl t) 0=true∨ix (hOl u) 0=true
 ·refine⟨.inl ((kF hx hu h3).2 ?_),.inl ((kF hs hy h4).2 ?_)⟩
  ·rcases e with e|e|e
   ·exact .inl ((kF hs ht h1).2 (.inl e))
   ·exact .inl ((kF hs ht h1).2 (.inr e))
   ·exact .inr e
  ·rcases e with e|e|e
   ·exact .inl e
   ·exact .inr ((kF ht hu h2).2 (.inl e))
   ·exact .inr ((kF ht hu h2).2 (.inr e))
 ·have es:ix (hOl s) 0=false:=by cases g:ix (hOl s) 0 with
   |false=>rfl
   |true=>exact absurd (.inl g) e
  have et:ix (hOl t) 0=false:=by cases g:ix (hOl t) 0 with
   |false=>rfl
   |true=>exact absurd (.inr (.inl g)) e
  have eu:ix (hOl u) 0=false:=by cases g:ix (hOl u) 0 with
   |false=>rfl
   |true=>exact absurd (.inr (.inr g)) e
  have ex:ix (hOl (bB s t).1) 0=false:=by cases g:ix (hOl (bB s t).1) 0 with
   |false=>rfl
   |true=>exact absurd ((kF hs ht h1).1 g) (rA es et)
  have ey:ix (hOl (bB t u).1) 0=false:=by cases g:ix (hOl (bB t u).1) 0 with
   |false=>rfl
   |true=>exact absurd ((kF ht hu h2).1 g) (rA et eu)
  obtain⟨c1,d1⟩:=kW (rA es et) h1
  obtain⟨c2,d2⟩:=kW (rA et eu) h2
  obtain⟨c3,d3⟩:=kW (rA ex eu) h3
  obtain⟨c4,d4⟩:=kW (rA es ey) h4
  have hS:=bC hs
  have hT:=bC ht
  have hU:=bC hu
  rw[d1,qX (dP hS hT c1)] at c3
  rw[d2,qX (dP hT hU c2)] at c4
  rw[d3,d4,d1,d2,qX (dP hS hT c1),qX (dP hT hU c2)]
  have hA:=Lv hS hT hU (rB hs es) (rB ht et) (rB hu eu) c1 c2 c3 c4
  have o1:=dP (bC (dP hS hT c1)) hU c3
  have o2:=dP hS (bC (dP hT hU c2)) c4
  exact⟨yN o1 o2 hA.1,yN o2 o1 hA.2⟩
theorem TM {m:aI} {s t:SS} (hs:oK s) (hf:cO m t=0) (hm2:lT m s) (hq:(cG m t).2=0) (hc:(bB s t).2=true):dA (cG m t).1 (bB s t).1:=by
 obtain⟨k1,k2,ha⟩:=wP hf
 have hm:=pZ k1
 have ht:=bW k2
 have hS:=bC hs
 have hT:=bC ht
 unfold cG at hq ⊢
 rw[if_pos hf] at hq ⊢
 cases e:ix (hOl t) 0 with
 |true=>rw[if_pos rfl];exact .inl (eP _)
 |false=>
  rw[e,if_neg (by simp)] at hq
  rw[if_neg (by simp)]
  split at hq
  ·next g=>
   rw[if_pos g]
   obtain⟨c1,d1⟩:=kW (rA (TH hs hm2) e) hc
   have hal:m.aC.length=(tR t).1.aC.length:=by rw[dV,ha]
   have oD:oK (sD m (tR t).1):=DQ hm hT hal ⟨CY hm hT hal,(yL hm hT hal).ok,rfl⟩ O
   have okL:=(yL hm hT hal).ok
   have okR:=(iZ hS hT).ok
   obtain⟨Q,hQ,q0⟩:=TG hs hm2
   rw[d1]
   refine yN oD (dP hS hT c1) (tN (fun(p:Sd) (q:PP)=>p.2=q.2∧∀z∈p.1,Q z.toNat q.1.toNat) oD (CY hm hT hal) (jA hS hT) (fun {p q} hp hq2 ⟨e1,h⟩ v hv=> ?_) (fun {p q} hp hq2 ⟨e1,h⟩ a g1 g2=> ?_) ⟨rfl,fun z hz=>by rw[List.mem_singleton.1 (show z∈[(0:Int)] from hz)];exact q0⟩)
   ·obtain⟨w,hw,v2,h2,rfl⟩:=(NX hm (okL p hp)).1 hv
    obtain⟨z,hz,rfl⟩:=List.mem_map.1 hw
    exact(jP hS (okR q hq2)).2 ⟨_,hQ.acc (h z hz),v2,by rw[←e1];exact h2,rfl⟩
   ·refine⟨by rw[hal];exact(CX hm hT (okL p hp) g1).1,(nK hS hT (okR q hq2) g2).1,?_,fun z hz=> ?_⟩
    ·show ix (nxt (tR t).1 p.2.toNat) a=ix (nxt (tR t).1 q.2.toNat) a
     rw[e1]
    ·obtain⟨k,rfl,_,y,hy,d,hd,e2,e3⟩:=tL.1 hz
     have:=(hQ.nxt (h y hy) (d.1.toNat,d.2.toNat) (List.mem_map.2 ⟨d,hd,rfl⟩)).2
     rw[show d.2.toNat=(k:Int).toNat by omega,show d.1.toNat=a by omega] at this
     exact this
  ·cases hq
end OrdM
end
end Go.Proofs.YtcjemmihcplgdaaGreatDoor
