/- The walks of the functions and the plain laws. Own texts of this claim, packed: Zzdivm, ZzPartM, ZzEncM, Zzdiva, ZzTogM, Zzdivt. -/
import Derived.Test.YtcjemmihcplgdaaGreatX19
import Derived.Test.YtcjemmihcplgdaaGreatX21
import Derived.Test.YtcjemmihcplgdaaGreatX07
import Derived.Test.YtcjemmihcplgdaaGreatX22
import Derived.Test.YtcjemmihcplgdaaGreatX11
set_option linter.all false
namespace Go.Proofs.YtcjemmihcplgdaaGreat
open AL Go
set_option maxRecDepth 100000
section
open ref01 ref03 ref04 ref06 prog prog2 prog3 prog6 prog13 starts Part Rungs LeftM TrimM RoundM MergeM BisM BisM4 BisM5 WalkM StepM WitM JudgM JudgM2 refw judg wit refj sysw divr divs divd dive divg divw divv divf divc divj divq divp LevM LevM2 ChsM QuoM FailM DivM QuoW RefM
theorem rep_set {n k:Nat} (h:k<n) (l:List Int) (hl:l=List.replicate k 1++List.replicate (n- k) 0):l.set k 1=List.replicate (k+1) 1++List.replicate (n- (k+1)) 0:=by rw[hl];exact set_rep 1 0 h
theorem fit_bd {z:SA} {N n:Nat} (h:okState z N n):∀k,k<z.aP.length→0≤ix z.aP k∧ix z.aP k<256:=h.ac
theorem subs_get {n:Nat} (hn:n≤8) {k:Nat} (hk:k<(subs n).length):0≤ix (subs n) k∧ix (subs n) k<256:=by
 have h1:=subs_mem.1 (ix_memS hk)
 have h2:2^n≤2^8:=Nat.pow_le_pow_right O hn
 omega
theorem used_has {T:SS} (hU:Used T) {z:Nat} (hz:z<T.sT.length) {a:Nat} (ha:a<T.aC.length):has (orAll (acc T z)) (a:Int)=true↔0≤ix (nxt T z) a:=(hU z hz a ha).symm
namespace T
theorem ent44:Ent Tryz.prog 44:=ent_of kR
theorem ent45:Ent Tryz.prog 45:=ent_of kR
theorem ent46:Ent Tryz.prog 46:=ent_of kR
theorem ent48:Ent Tryz.prog 48:=ent_of kR
end T
namespace divm
theorem AllN_ok (l:List ByteArray) (hl:l.length≤8):
 AL.Fn Tryz.prog 45 [strs l] [] (ι:=Value) (fun _ v=>agg [strs l,sl 2 nxE [(subs l.length,v)]]) (fun v=> [(231,own (sv v) 3 1 nE (List.replicate l.length 0))]):=by
 refine fnI Tryz.func45 rfl rfl (fun w0 F0=> ?_)
 have h2n:2^l.length≤2^8:=Nat.pow_le_pow_right O hl
 refine fcC (slenI 0 J) (fun hm0=> ?_)
 refine sq (rg (al (key:=2) T.z25 (eC (eC eZ)) fun b2=>(nl (th (sq (rg (al (key:=3) T.z72 (eC (eC eZ)) fun b3=>(nl (th (sq (sq (rg (mv (lnF J T.sl22 (bi J J (b_shlI O O) (mv (nl (th (bk ?_)))))))))))))))))))
 refine nwC 30 3 1 nE (kncC 3 0 (osl 30 (.slice none 0 0)) rfl rfl eq_osl ?_)
 have hI0_0:0≤2^l.length:=by
  first|omega|simp
 have hI0_1:([]:List Int)=(List.range 0).map fun(x:Nat)=>(x:Int):=by
  rfl
 refine lp (κ:=Nat × Value × (List Int)) (fun p=> [(0,sl 1 rE_ l),(2,ptr 2 b2 0),(3,ptr 3 b3 0),(7,int ((2^l.length:Nat):Int)),(8,int (p.1:Int))]) (fun p=> [(2,cell b2 [eqv (.slice none 0 0),eqv (.slice none 0 0)]),(3,cell b3 [osl 30 p.2.1,eqv (.slice none 0 0)]),(30,own p.2.1 3 1 nE p.2.2)]) (fun p=>(p.1≤2^l.length)∧(p.2.2=(List.range p.1).map fun(x:Nat)=>(x:Int))) (fun p=>2^l.length- p.1) ⟨0,(.slice none 0 0),([]:List Int)⟩ ⟨hI0_0,hI0_1⟩ ⟨id,id,id,id,id,tV⟩ ⟨rI,rI,rI,tV⟩ ?_
 intro⟨k,v,accl⟩ hG0
 obtain⟨hk0,hI0⟩:(k≤2^l.length)∧(accl=(List.range k).map fun(x:Nat)=>(x:Int)):=hG0
 show Ct _ _ _ _ [(0,sl 1 rE_ l),(2,ptr 2 b2 0),(3,ptr 3 b3 0),(7,int ((2^l.length:Nat):Int)),(8,int (k:Int))] [(2,cell b2 [eqv (.slice none 0 0),eqv (.slice none 0 0)]),(3,cell b3 [osl 30 v,eqv (.slice none 0 0)]),(30,own v 3 1 nE accl)] _
 have hlen:accl.length=k:=by rw[hI0];simp
 refine sq (rg (bi J J b_lss (nl (th (sq ?_)))))
 refine cd J (fun hc0=> ?_) (fun hc0=> ?_)
 ·try simp at hc0
  have hkk:k<2^l.length:=by exact_mod_cast hc0
  refine sk (th (sq (bk (sq (rg (mv (ag (nl (th (rg (fP J T.fld72_0 (lP J J J T.one63 (mv (bsE (enc:=nE) (xs:= [(k:Int)]) (css:= [[int (k:Int)]]) T.mk63 ⟨J,J,p1 (φ:=int (k:Int)) J,tV⟩ J J J J (ap (key:=30) (zs:= [(k:Int)]) osl_eq J J J T.mk63 (by unfold maxL at*;simp;omega) (by unfold maxL at*;simp;omega) fun v15=>(fP J T.fld72_0 (storePO J J J J T.one63 J (nl (eb (th (rg (bi J J (b_add i6) (mv (nl ?_))))))))))))))))))))))))
  have hN0:(k+1)≤2^l.length:=by
   first|omega|simp_all
  have hN1:(accl++ [(k:Int)])=(List.range (k+1)).map fun(x:Nat)=>(x:Int):=by
   rw[hI0,List.range_succ,List.map_append];rfl
  exact ln (⟨k+1,v15,accl++ [(k:Int)]⟩:Nat × Value × (List Int)) ⟨hN0,hN1⟩ dO ⟨id,id,id,id,id,tV⟩ ⟨rI,rI,rI,tV⟩
 ·try simp at hc0
  have hkk:2^l.length≤k:=by first|exact_mod_cast hc0|exact Nat.le_of_not_lt (by exact_mod_cast hc0)
  refine ex (xt_ (xt_ (xb (th (sq (sq (rg (mv (lnF J T.sl22 (mv (nl (th (bk ?_)))))))))))))
  refine nwC 231 3 1 nE (kncC 3 1 (osl 231 (.slice none 0 0)) rfl rfl eq_osl ?_)
  have hI1_0:0≤l.length:=by
   first|omega|simp
  have hI1_1:([]:List Int)=List.replicate 0 0:=by
   rfl
  refine lp (κ:=Nat × Value × (List Int)) (fun p=> [(0,sl 1 rE_ l),(2,ptr 2 b2 0),(3,ptr 3 b3 0),(19,int (l.length:Int)),(20,int (p.1:Int))]) (fun p=> [(2,cell b2 [eqv (.slice none 0 0),eqv (.slice none 0 0)]),(3,cell b3 [osl 30 v,osl 231 p.2.1]),(30,own v 3 1 nE accl),(231,own p.2.1 3 1 nE p.2.2)]) (fun p=>(p.1≤l.length)∧(p.2.2=List.replicate p.1 0)) (fun p=>l.length- p.1) ⟨0,(.slice none 0 0),([]:List Int)⟩ ⟨hI1_0,hI1_1⟩ ⟨id,id,id,id,id,tV⟩ ⟨rI,rI,rI,rI,tV⟩ ?_
  intro⟨k1,v1,ac1⟩ hG1
  obtain⟨hk1,hI1⟩:(k1≤l.length)∧(ac1=List.replicate k1 0):=hG1
  show Ct _ _ _ _ [(0,sl 1 rE_ l),(2,ptr 2 b2 0),(3,ptr 3 b3 0),(19,int (l.length:Int)),(20,int (k1:Int))] [(2,cell b2 [eqv (.slice none 0 0),eqv (.slice none 0 0)]),(3,cell b3 [osl 30 v,osl 231 v1]),(30,own v 3 1 nE accl),(231,own v1 3 1 nE ac1)] _
  have hlen1:ac1.length=k1:=by rw[hI1];simp
  refine sq (rg (bi J J b_lss (nl (th (sq ?_)))))
  refine cd J (fun hc1=> ?_) (fun hc1=> ?_)
  ·try simp at hc1
   refine sk (th (sq (bk (rg (fP J T.fld72_1 (lP J J J T.one63 (bsE (enc:=nE) (xs:= [0]) (css:= [[int 0]]) T.mk63 ⟨J,J,p1 (φ:=int 0) J,tV⟩ J J J J (ap (key:=231) (zs:= [0]) osl_eq J J J T.mk63 (by unfold maxL at*;simp;omega) (by unfold maxL at*;simp;omega) fun v25=>(fP J T.fld72_1 (storePO J J J J T.one63 J (nl (eb (th (rg (bi J J (b_add i6) (mv (nl ?_)))))))))))))))))
   have hN0:(k1+1)≤l.length:=by
    first|omega|simp_all
   have hN1:(ac1++ [0])=List.replicate (k1+1) 0:=by
    rw[hI1,List.replicate_succ']
   exact ln (⟨k1+1,v25,ac1++ [0]⟩:Nat × Value × (List Int)) ⟨hN0,hN1⟩ dO ⟨id,id,id,id,id,tV⟩ ⟨rI,rI,rI,rI,tV⟩
  ·try simp at hc1
   refine fcC (svI 231 J) fun hsv231=> ?_
   rw[←hsv231]
   refine kncC 3 1 (eqv (sv v1)) rfl rfl osl_raw (ex (xt_ (xt_ (xb (th (sq (fzcC 3 30 0 rfl rfl rfl rfl (dr (nh:=5) [0,1,0,4,15,31] T.mixed kR ?_))))))))
   refine st_ J (fun _ _ _ gq kq=>mv' (gq.1.trans J) kq) ?_
   refine st_ J (fun _ _ _ gq kq=>appendF (enc:=rE_) (ys:=l) J (gq.1.trans J) T.mk22 mL kq) ?_
   refine st_ J (fun _ _ _ gq kq=>lPA (gq.1.trans J) J T.agg72 J kq) ?_
   refine st_ J (fun _ _ _ gq kq=>bsE (enc:=nxE) (xs:= [(accl,v1)]) (css:= [[sl 1 nE accl,eqv (sv v1)]]) T.mk23 ⟨J,J,pA (cs:= [sl 1 nE accl,eqv (sv v1)]) (by exact(gq.1.trans J)),tV⟩ J J J J kq) ?_
   refine st_ J (fun _ _ _ gq kq=>bd (css:= [(0,_),(1,_)]) T.st25 (eC (eC eZ)) ⟨J,J,p1 (φ:=sl 1 rE_ l) (by exact(gq.1.trans J)),⟨J,J,p1 (φ:=sl 2 nxE [(accl,v1)]) (by exact(gq.2.1.trans J)),tV⟩⟩ kq) ?_
   refine pn (sPA (cs':= [sl 1 rE_ l,sl 2 nxE [(accl,v1)]]) J J J T.agg25 J J (nl (th (rt ?_))))
   have hs2:accl=subs l.length:=by rw[hI0,show k=2^l.length by omega];rfl
   have hr2:ac1=List.replicate l.length 0:=by rw[hI1,show k1=l.length by omega]
   have hr0: [(accl,v1)]= [(subs l.length,v1)]:=by
    rw[hs2]
   exact rE v1 [.cell 2 25] J [agg [sl 1 rE_ l,sl 2 nxE [(accl,v1)]]] ⟨.agg J J T.agg25 J J,tV⟩ (cA1 (fun x0=>rV [agg [sl 1 rE_ l,sl 2 nxE x0]]) hr0) (by rw[hr2];exact⟨rI,tV⟩) eX
theorem RefDivide_ok (t s:SS) (ht:oK t) (hs:oK s) (hts:t.aC=s.aC) (hz:t.sT.length*s.sT.length+1≤10000):
 AL.Fn Tryz.prog 12 [spec t,spec s] [] (ι:= { D:SS//RefQ t s D }) (fun _ i=>spec i.1) (fun _=> []):=by
 refine fnI Tryz.func12 rfl rfl (fun w0 F0=> ?_)
 have f1:=ht.few1;have f2:=ht.few0;have hn8:=ht.n8;have hsubl:(subs t.aC.length).length≤2^8:=(by unfold subs;simp;exact Nat.pow_le_pow_right O hn8);have hT:=trim_ok hs;have hU:=trim_used hs;have hTa:(tR s).1.aC.length=t.aC.length:=by rw[trim_acts,←hts]
 have hT8:=hT.n8;have f4:=hT.few1;have hmz:t.sT.length*(tR s).1.sT.length+1≤10000:=Nat.le_trans (Nat.add_le_add_right (Nat.mul_le_mul_left _ (TrimI.trim_len hs)) 1) hz
 refine fcC (inhS 0 J) (fun hS0=> ?_)
 obtain⟨hsa0,hss0,hse0⟩:=sLn hS0
 refine fcC (inhS 1 J) (fun hS1=> ?_)
 obtain⟨hsa1,hss1,hse1⟩:=sLn hS1
 refine sq (rg (bx (key:=2) (cs:= [sl 1 rE_ t.aC,sl 2 sE t.sT]) J fun b2=>(bx (key:=3) (cs:= [sl 1 rE_ s.aC,sl 2 sE s.sT]) J fun b3=>(al (key:=4) T.z25 (eC (eC eZ)) fun b4=>(nl (th (sq (rg (lPA J J T.agg25 J (cal0 (φs:= [agg [sl 1 rE_ s.aC,sl 2 sE s.sT]]) (φ:=tup [agg [sl 1 rE_ ((tR s).1).aC,sl 2 sE ((tR s).1).sT],sl 1 nE ((tR s).2)]) ⟨J,tV⟩ (divr.Trim_ok s aS) T.ent43 (mv (xt J J (xt J J (sPA (cs':= [sl 1 rE_ ((tR s).1).aC,sl 2 sE ((tR s).1).sT]) J J J T.agg25 J J (nl (th (sq (sq (rg (lPA J J T.agg25 J (cal0 (φs:= [agg [sl 1 rE_ ((tR s).1).aC,sl 2 sE ((tR s).1).sT]]) (φ:=bl (isNoneS ((tR s).1))) ⟨J,tV⟩ (divr.IsNone_ok ((tR s).1) O) T.ent44 (nl (th ?_)))))))))))))))))))))))
 refine cd J (fun hc0=> ?_) (fun hc0=> ?_)
 ·try simp at hc0
  have hh0:ix (hOl s) 0=true:=by rw[←isNone_trim hs];exact hc0
  refine sq (rg (fP J T.fld25_0 (lP J J J T.one22 (cal0 (φs:= [sl 1 rE_ t.aC]) (φ:=agg [sl 1 rE_ (everyS t.aC).aC,sl 2 sE (everyS t.aC).sT]) ⟨J,tV⟩ (divr.All_ok t.aC O) T.ent45 (sPA (cs':= [sl 1 rE_ (everyS t.aC).aC,sl 2 sE (everyS t.aC).sT]) J J J T.agg25 J J (nl (th (rt (rt_ ?_)))))))))
  exact rE ⟨everyS t.aC,refq_hol hh0⟩ [.cell 4 25] J [agg [sl 1 rE_ (everyS t.aC).aC,sl 2 sE (everyS t.aC).sT]] ⟨.agg J J T.agg25 J J,tV⟩ J trivial eX
 ·try simp at hc0
  have h00:ix (hOl s) 0=false:=by rw[←isNone_trim hs];simpa using hc0
  refine sk (th (sq (rg (fP J T.fld25_0 (lP J J J T.one22 (cl (AllN_ok t.aC O) T.ent45 trivial fun N34 i34=>(fld1 J T.flv25_1 T.one23 J (iF J J T.sl23 O (gK (k:=0) (by simp)) (lFA J T.agg72 (Nat.le_of_ble_eq_true J) (kn 37 (agg [ints (subs t.aC.length),osl 231 (sv i34)]) J (fun h=>agg_le (cs:= [ints (subs t.aC.length),eqv (sv i34)]) (ds:= [ints (subs t.aC.length),osl 231 (sv i34)]) ⟨fun h=>h,fun h=>eq_osl h,tV⟩ h) (al (key:=5) T.z72 (eC (eC eZ)) fun b5=>(sPA (cs':= [sl 1 nE (subs t.aC.length),osl 231 (sv i34)]) J J J T.agg72 J J (nl (th (sq (sq (rg (fP J T.fld25_0 (lP J J J T.one22 (fc (slenI 39 J) fun hm39=>(lnF J T.sl22 (mv (nl (th (bk ?_)))))))))))))))))))))))))
  have hI0_0:0≤t.aC.length:=by
   first|omega|simp
  have hI0_1:(List.replicate t.aC.length (0:Int))=List.replicate 0 (1:Int)++List.replicate (t.aC.length- 0) (0:Int):=by
   simp
  refine lp (κ:=Nat × (List Int)) (fun p=> [(2,ptr 2 b2 0),(3,ptr 3 b3 0),(4,ptr 4 b4 0),(5,ptr 5 b5 0),(40,int (t.aC.length:Int)),(41,int (p.1:Int))]) (fun p=> [(2,cell b2 [sl 1 rE_ t.aC,sl 2 sE t.sT]),(3,cell b3 [sl 1 rE_ ((tR s).1).aC,sl 2 sE ((tR s).1).sT]),(4,cell b4 [eqv (.slice none 0 0),eqv (.slice none 0 0)]),(5,cell b5 [sl 1 nE (subs t.aC.length),osl 231 (sv i34)]),(231,own (sv i34) 3 1 nE p.2)]) (fun p=>(p.1≤t.aC.length)∧(p.2=List.replicate p.1 (1:Int)++List.replicate (t.aC.length- p.1) (0:Int))) (fun p=>t.aC.length- p.1) ⟨0,List.replicate t.aC.length (0:Int)⟩ ⟨hI0_0,hI0_1⟩ ⟨id,id,id,id,id,id,tV⟩ ⟨rI,rI,rI,rI,rI,tV⟩ ?_
  intro⟨k,nx0⟩ hG0
  obtain⟨hk0,hI0⟩:(k≤t.aC.length)∧(nx0=List.replicate k (1:Int)++List.replicate (t.aC.length- k) (0:Int)):=hG0
  show Ct _ _ _ _ [(2,ptr 2 b2 0),(3,ptr 3 b3 0),(4,ptr 4 b4 0),(5,ptr 5 b5 0),(40,int (t.aC.length:Int)),(41,int (k:Int))] [(2,cell b2 [sl 1 rE_ t.aC,sl 2 sE t.sT]),(3,cell b3 [sl 1 rE_ ((tR s).1).aC,sl 2 sE ((tR s).1).sT]),(4,cell b4 [eqv (.slice none 0 0),eqv (.slice none 0 0)]),(5,cell b5 [sl 1 nE (subs t.aC.length),osl 231 (sv i34)]),(231,own (sv i34) 3 1 nE nx0)] _
  have hnl:nx0.length=t.aC.length:=by rw[hI0];simp;omega
  refine sq (rg (bi J J b_lss (nl (th (sq ?_)))))
  refine cd J (fun hc1=> ?_) (fun hc1=> ?_)
  ·try simp at hc1
   refine sk (th (sq (bk (sq (rg (mv (ag (nl (th (rg (fP J T.fld72_1 (lP J J J T.one63 (mv (iO J J J T.sl63 O O (sO (φ:=int 1) J J J T.one3 gB J (y':=1) J (nl (eb (th (rg (bi J J (b_add i6) (mv (nl ?_))))))))))))))))))))))
   have hN0:(k+1)≤t.aC.length:=by
    first|omega|simp_all
   have hN1:(nx0.set k 1)=List.replicate (k+1) (1:Int)++List.replicate (t.aC.length- (k+1)) (0:Int):=by
    exact rep_set O _ hI0
   exact ln (⟨k+1,nx0.set k 1⟩:Nat × (List Int)) ⟨hN0,hN1⟩ dO ⟨id,id,id,id,id,id,tV⟩ ⟨rI,rI,rI,rI,rI,tV⟩
  ·try simp at hc1
   have hnx:nx0=List.replicate t.aC.length 1:=by rw[hI0,show k=t.aC.length by omega,Nat.sub_self];simp
   refine ex (xt_ (xt_ (xb (th (sq (rg (fzc 5 231 1 J J J J (fP J T.fld25_0 (lP J J J T.one22 (appendF (enc:=rE_) (ys:=t.aC) J J T.mk22 mL (bd (css:= [(0,_)]) T.st25 (eC (eC eZ)) ⟨J,J,p1 (φ:=sl 1 rE_ t.aC) J,tV⟩ (al (key:=7) T.z25 (eC (eC eZ)) fun b7=>(sPA (cs':= [sl 1 rE_ t.aC,eqv (.slice none 0 0)]) J J J T.agg25 J J (nl (th (sq (rg (bd (css:= [(0,_),(1,_)]) T.st78 (eC (eC eZ)) ⟨J,J,p1 (φ:=int 0) J,⟨J,J,p1 (φ:=int 0) J,tV⟩⟩ (bd (css:= [(0,_),(1,_)]) T.st78 (eC (eC eZ)) ⟨J,J,p1 (φ:=int (-1)) J,⟨J,J,p1 (φ:=int (-1)) J,tV⟩⟩ (bsO 55 (enc:=pE) (xs:= [(0,0),(-1,-1)]) (css:= [[int 0,int 0],[int (-1),int (-1)]]) T.mk62 ⟨J,J,pA (cs:= [int 0,int 0]) J,⟨J,J,pA (cs:= [int (-1),int (-1)]) J,tV⟩⟩ J J J J fun v55=>(ag (nl (th (sq (sq (rg (ag (nl (th (bk ?_))))))))))))))))))))))))))))))
   refine nwC 70 72 2 sE (kncC 7 1 (osl 70 (.slice none 0 0)) rfl rfl eq_osl ?_)
   have hI1_0:RW t (tR s).1 0 ([(0,0),(-1,-1)]:List (Int × Int)) ([]:List SA):=by
    exact rw_zero ht hT
   refine lp (κ:=Nat × Value × (List (Int × Int)) × Value × (List SA)) (fun p=> [(2,ptr 2 b2 0),(3,ptr 3 b3 0),(4,ptr 4 b4 0),(5,ptr 5 b5 0),(7,ptr 7 b7 0),(8,osl 55 p.2.1),(9,int (p.1:Int))]) (fun p=> [(2,cell b2 [sl 1 rE_ t.aC,sl 2 sE t.sT]),(3,cell b3 [sl 1 rE_ ((tR s).1).aC,sl 2 sE ((tR s).1).sT]),(4,cell b4 [eqv (.slice none 0 0),eqv (.slice none 0 0)]),(5,cell b5 [sl 1 nE (subs t.aC.length),sl 1 nE nx0]),(7,cell b7 [sl 1 rE_ t.aC,osl 70 p.2.2.2.1]),(55,own p.2.1 78 2 pE p.2.2.1),(70,own p.2.2.2.1 72 2 sE p.2.2.2.2)]) (fun p=>RW t (tR s).1 p.1 p.2.2.1 p.2.2.2.2) (fun p=>10001- p.1) ⟨0,v55,([(0,0),(-1,-1)]:List (Int × Int)),(.slice none 0 0),([]:List SA)⟩ hI1_0 ⟨id,id,id,id,id,id,id,tV⟩ ⟨rI,rI,rI,rI,rI,rI,rI,tV⟩ ?_
   intro⟨i,v,ql,v7,outs⟩ hG1
   have hRW:RW t (tR s).1 i ql outs:=hG1
   show Ct _ _ _ _ [(2,ptr 2 b2 0),(3,ptr 3 b3 0),(4,ptr 4 b4 0),(5,ptr 5 b5 0),(7,ptr 7 b7 0),(8,osl 55 v),(9,int (i:Int))] [(2,cell b2 [sl 1 rE_ t.aC,sl 2 sE t.sT]),(3,cell b3 [sl 1 rE_ ((tR s).1).aC,sl 2 sE ((tR s).1).sT]),(4,cell b4 [eqv (.slice none 0 0),eqv (.slice none 0 0)]),(5,cell b5 [sl 1 nE (subs t.aC.length),sl 1 nE nx0]),(7,cell b7 [sl 1 rE_ t.aC,osl 70 v7]),(55,own v 78 2 pE ql),(70,own v7 72 2 sE outs)] _
   have hlf:=rw_few hRW
   have hil:=hRW.il
   have hol:outs.length≤i:=by rw[hRW.out];simp;omega
   refine sq (sq (rg (mv (mv (lnO J J T.sl62 (bi J J b_lss (nl (th ?_))))))))
   refine cd J (fun hc2=> ?_) (fun hc2=> ?_)
   ·try simp at hc2
    refine sk (th (sq (bk (sq (sq (rg (mv (bi J J b_eql (nl (th ?_))))))))))
    refine cd J (fun hc3=> ?_) (fun hc3=> ?_)
    ·try simp at hc3
     have hi1:i=1:=by omega
     refine sq (rg (fP J T.fld25_1 (lP J J J T.one23 (lPA J J T.agg72 J (bsE (enc:=sE) (xs:= [(⟨subs t.aC.length,nx0⟩)]) (css:= [[sl 1 nE (subs t.aC.length),sl 1 nE nx0]]) T.mk23 ⟨J,J,pA (cs:= [sl 1 nE (subs t.aC.length),sl 1 nE nx0]) J,tV⟩ J J J J (ap (key:=70) (zs:= [(⟨subs t.aC.length,nx0⟩)]) osl_eq J J J T.mk23 (by unfold maxL at*;simp;omega) (by unfold maxL at*;simp;omega) fun v68=>(fP J T.fld25_1 (storePO J J J J T.one23 J (nl (th (ex (xt_ (xb (th (rg (mv (bi J J (b_add i6) (ag (nl ?_)))))))))))))))))))
     have hN0:RW t (tR s).1 (i+1) ql (outs++ [(⟨subs t.aC.length,nx0⟩)]):=by
      subst hi1
      rw[hnx]
      exact rw_bes hRW
     exact ln (⟨i+1,v,ql,v68,outs++ [(⟨subs t.aC.length,nx0⟩)]⟩:Nat × Value × (List (Int × Int)) × Value × (List SA)) hN0 O ⟨id,id,id,id,id,id,id,tV⟩ ⟨rI,rI,rI,rI,rI,rI,rI,tV⟩
    ·try simp at hc3
     have hi1:i≠1:=by omega
     have hnb:(ix ql i)≠bes:=fun e=>by
      have h1:=(List.getElem_inj hRW.nd (h₀:=hc2) (h₁:=by have:=hRW.two;omega) (i:=i) (j:=1)).1 (by rw[←ix_get,←ix_get,e,hRW.h1])
      exact hi1 h1
     obtain⟨hp1,hp2,hp3,hp4⟩:=(hRW.ok _ (ix_memS hc2)).resolve_left hnb
     have hst:=ht.st (ix ql i).1.toNat O
     have hss:=hT.st (ix ql i).2.toNat O
     have htl:=hst.len
     have hsl:=hss.len
     have hzl:=hss.acl
     have hzb:=fit_bd hss
     refine sk (th (sq (rg (mv (mv (iO J J J T.sl62 O O (lOA J J gB T.agg78 (by decide) (al (key:=10) T.z78 (eC (eC eZ)) fun b10=>(sPA (cs':= [int ((ix ql i).1),int ((ix ql i).2)]) J J J T.agg78 J J (nl (th (sq ?_))))))))))))
     refine drH (nh:=16) [0,1,0,4,15,31,0,64,0,256,960,1984,0,0,12351,32767] [(none,[]),(none,[2]),(none,[]),(none,[10]),(none,[]),(none,[]),(none,[]),(none,[3]),(none,[]),(none,[10]),(none,[]),(none,[]),(some 11,[]),(some 12,[]),(some 11,[11]),(some 12,[12])] T.mixed kR kR ?_
     refine stv (d:=74) (fun β0=>ptr 2 b2 1) [] J (fun β β' hb=>J) (fun β0 _ _ _ _ gq gh kq=>fP (gq.1.trans J) T.fld25_1 kq) ?_
     refine stv (d:=75) (fun β0=>sl 2 sE t.sT) [2] J (fun β β' hb=>J) (fun β0 _ _ _ _ gq gh kq=>lP (gq.1.trans J) (gh.1.trans J) J T.one23 kq) ?_
     refine stv (d:=76) (fun β0=>ptr 10 b10 0) [] J (fun β β' hb=>J) (fun β0 _ _ _ _ gq gh kq=>iPA (gq.1.trans J) J T.arr78 T.one3 J kq) ?_
     refine stv (d:=77) (fun β0=>int ((ix ql i).1)) [10] J (fun β β' hb=>J) (fun β0 _ _ _ _ gq gh kq=>lP (gq.1.trans J) (gh.1.trans J) J T.one3 kq) ?_
     refine stv (d:=78) (fun β0=>fp [sl 1 nE (ix t.sT ((ix ql i).1).toNat).aP,sl 1 nE (ix t.sT ((ix ql i).1).toNat).next]) [] J (fun β β' hb=>J) (fun β0 _ _ _ _ gq gh kq=>iF (gq.1.trans J) (gq.2.1.trans J) T.sl23 O gB kq) ?_
     refine stv (d:=79) (fun β0=>agg [sl 1 nE (ix t.sT ((ix ql i).1).toNat).aP,sl 1 nE (ix t.sT ((ix ql i).1).toNat).next]) [] J (fun β β' hb=>J) (fun β0 _ _ _ _ gq gh kq=>lFA (gq.1.trans J) T.agg72 (Nat.le_of_ble_eq_true J) kq) ?_
     refine stv (d:=80) (fun β0=>ptr 3 b3 1) [] J (fun β β' hb=>J) (fun β0 _ _ _ _ gq gh kq=>fP (gq.1.trans J) T.fld25_1 kq) ?_
     refine stv (d:=81) (fun β0=>sl 2 sE ((tR s).1).sT) [3] J (fun β β' hb=>J) (fun β0 _ _ _ _ gq gh kq=>lP (gq.1.trans J) (gh.1.trans J) J T.one23 kq) ?_
     refine stv (d:=82) (fun β0=>ptr 10 b10 1) [] J (fun β β' hb=>J) (fun β0 _ _ _ _ gq gh kq=>iPA (gq.1.trans J) J T.arr78 T.one3 J kq) ?_
     refine stv (d:=83) (fun β0=>int ((ix ql i).2)) [10] J (fun β β' hb=>J) (fun β0 _ _ _ _ gq gh kq=>lP (gq.1.trans J) (gh.1.trans J) J T.one3 kq) ?_
     refine stv (d:=84) (fun β0=>fp [sl 1 nE (ix ((tR s).1).sT ((ix ql i).2).toNat).aP,sl 1 nE (ix ((tR s).1).sT ((ix ql i).2).toNat).next]) [] J (fun β β' hb=>J) (fun β0 _ _ _ _ gq gh kq=>iF (gq.1.trans J) (gq.2.1.trans J) T.sl23 O gB kq) ?_
     refine stv (d:=85) (fun β0=>agg [sl 1 nE (ix ((tR s).1).sT ((ix ql i).2).toNat).aP,sl 1 nE (ix ((tR s).1).sT ((ix ql i).2).toNat).next]) [] J (fun β β' hb=>J) (fun β0 _ _ _ _ gq gh kq=>lFA (gq.1.trans J) T.agg72 (Nat.le_of_ble_eq_true J) kq) ?_
     refine sta 11 T.z72 (eC (eC eZ)) ?_
     refine sta 12 T.z72 (eC (eC eZ)) ?_
     refine stw 11 (fun β0=>cell (gbk (β0 12)) [sl 1 nE (ix t.sT ((ix ql i).1).toNat).aP,sl 1 nE (ix t.sT ((ix ql i).1).toNat).next]) [11] J (fun β β' hb=>by first|rw[hb 12 J]|(dsimp only;rw[hb 12 J])) (fun β0 _ _ _ _ gq gh kq=>sPA (cs':= [sl 1 nE (ix t.sT ((ix ql i).1).toNat).aP,sl 1 nE (ix t.sT ((ix ql i).1).toNat).next]) (gq.1.trans J) (gh.1.trans J) (gq.2.1.trans J) T.agg72 J J kq) ?_
     refine stw 12 (fun β0=>cell (gbk (β0 13)) [sl 1 nE (ix ((tR s).1).sT ((ix ql i).2).toNat).aP,sl 1 nE (ix ((tR s).1).sT ((ix ql i).2).toNat).next]) [12] J (fun β β' hb=>by first|rw[hb 13 J]|(dsimp only;rw[hb 13 J])) (fun β0 _ _ _ _ gq gh kq=>sPA (cs':= [sl 1 nE (ix ((tR s).1).sT ((ix ql i).2).toNat).aP,sl 1 nE (ix ((tR s).1).sT ((ix ql i).2).toNat).next]) (gq.1.trans J) (gh.1.trans J) (gq.2.1.trans J) T.agg72 J J kq) ?_
     refine pnH fun β0=>(nl (th (sq (rg (ag (nl (th (sq (sq (rg (fP J T.fld72_0 (lP J J J T.one63 (fc (slenI 87 J) fun hm87=>(lnF J T.sl63 (mv (nl (th (bk ?_))))))))))))))))))
     have hI2_0:0≤(ix ((tR s).1).sT ((ix ql i).2).toNat).aP.length:=by
      first|omega|simp
     have hI2_1:(0:Int)=orAll ((ix (tR s).1.sT (ix ql i).2.toNat).aP.take 0)∧0≤(0:Int)∧(0:Int)<256:=by
      exact⟨rfl,O,O⟩
     refine lp (κ:=Nat × Int) (fun p=> [(2,ptr 2 b2 0),(3,ptr 3 b3 0),(4,ptr 4 b4 0),(5,ptr 5 b5 0),(7,ptr 7 b7 0),(8,osl 55 v),(9,int (i:Int)),(11,ptr 11 (gbk (β0 12)) 0),(12,ptr 12 (gbk (β0 13)) 0),(13,int p.2),(87,sl 1 nE (ix ((tR s).1).sT ((ix ql i).2).toNat).aP),(88,int ((ix ((tR s).1).sT ((ix ql i).2).toNat).aP.length:Int)),(89,int (p.1:Int))]) (fun p=> [(2,cell b2 [sl 1 rE_ t.aC,sl 2 sE t.sT]),(3,cell b3 [sl 1 rE_ ((tR s).1).aC,sl 2 sE ((tR s).1).sT]),(4,cell b4 [eqv (.slice none 0 0),eqv (.slice none 0 0)]),(5,cell b5 [sl 1 nE (subs t.aC.length),sl 1 nE nx0]),(7,cell b7 [sl 1 rE_ t.aC,osl 70 v7]),(10,cell b10 [int ((ix ql i).1),int ((ix ql i).2)]),(11,cell (gbk (β0 12)) [sl 1 nE (ix t.sT ((ix ql i).1).toNat).aP,sl 1 nE (ix t.sT ((ix ql i).1).toNat).next]),(12,cell (gbk (β0 13)) [sl 1 nE (ix ((tR s).1).sT ((ix ql i).2).toNat).aP,sl 1 nE (ix ((tR s).1).sT ((ix ql i).2).toNat).next]),(55,own v 78 2 pE ql),(70,own v7 72 2 sE outs)]) (fun p=>(p.1≤(ix ((tR s).1).sT ((ix ql i).2).toNat).aP.length)∧(p.2=orAll ((ix (tR s).1.sT (ix ql i).2.toNat).aP.take p.1)∧0≤p.2∧p.2<256)) (fun p=>(ix ((tR s).1).sT ((ix ql i).2).toNat).aP.length- p.1) ⟨0,(0:Int)⟩ ⟨hI2_0,hI2_1⟩ ⟨id,id,id,id,id,id,id,id,id,id,id,id,id,tV⟩ ⟨rI,rI,rI,rI,rI,rI,rI,rI,rI,rI,tV⟩ ?_
     intro⟨k2,us⟩ hG2
     obtain⟨hk2,hI2⟩:(k2≤(ix ((tR s).1).sT ((ix ql i).2).toNat).aP.length)∧(us=orAll ((ix (tR s).1.sT (ix ql i).2.toNat).aP.take k2)∧0≤us∧us<256):=hG2
     show Ct _ _ _ _ [(2,ptr 2 b2 0),(3,ptr 3 b3 0),(4,ptr 4 b4 0),(5,ptr 5 b5 0),(7,ptr 7 b7 0),(8,osl 55 v),(9,int (i:Int)),(11,ptr 11 (gbk (β0 12)) 0),(12,ptr 12 (gbk (β0 13)) 0),(13,int us),(87,sl 1 nE (ix ((tR s).1).sT ((ix ql i).2).toNat).aP),(88,int ((ix ((tR s).1).sT ((ix ql i).2).toNat).aP.length:Int)),(89,int (k2:Int))] [(2,cell b2 [sl 1 rE_ t.aC,sl 2 sE t.sT]),(3,cell b3 [sl 1 rE_ ((tR s).1).aC,sl 2 sE ((tR s).1).sT]),(4,cell b4 [eqv (.slice none 0 0),eqv (.slice none 0 0)]),(5,cell b5 [sl 1 nE (subs t.aC.length),sl 1 nE nx0]),(7,cell b7 [sl 1 rE_ t.aC,osl 70 v7]),(10,cell b10 [int ((ix ql i).1),int ((ix ql i).2)]),(11,cell (gbk (β0 12)) [sl 1 nE (ix t.sT ((ix ql i).1).toNat).aP,sl 1 nE (ix t.sT ((ix ql i).1).toNat).next]),(12,cell (gbk (β0 13)) [sl 1 nE (ix ((tR s).1).sT ((ix ql i).2).toNat).aP,sl 1 nE (ix ((tR s).1).sT ((ix ql i).2).toNat).next]),(55,own v 78 2 pE ql),(70,own v7 72 2 sE outs)] _
     refine sq (rg (bi J J b_lss (nl (th (sq ?_)))))
     refine cd J (fun hc4=> ?_) (fun hc4=> ?_)
     ·try simp at hc4
      have hkb:=hzb k2 O
      refine sk (th (sq (bk (sq (rg (iF J J T.sl63 O gB (lF J J T.one3 (ag (nl (th (rg (mv (mv (bi J J (b_orI O O O O) (ag (nl (eb (th (rg (bi J J (b_add i6) (mv (nl ?_))))))))))))))))))))))
      have hN0:(k2+1)≤(ix ((tR s).1).sT ((ix ql i).2).toNat).aP.length:=by
       first|omega|simp_all
      have hN1:((us.toNat|||(ix (ix ((tR s).1).sT ((ix ql i).2).toNat).aP k2).toNat:Nat):Int)=orAll ((ix (tR s).1.sT (ix ql i).2.toNat).aP.take (k2+1))∧0≤((us.toNat|||(ix (ix ((tR s).1).sT ((ix ql i).2).toNat).aP k2).toNat:Nat):Int)∧((us.toNat|||(ix (ix ((tR s).1).sT ((ix ql i).2).toNat).aP k2).toNat:Nat):Int)<256:=by
       refine⟨?_,O,or_lt256 hI2.2.2 hkb.2⟩
       rw[take_s O,orAll_snoc,←hI2.1]
      exact ln (⟨k2+1,((us.toNat|||(ix (ix ((tR s).1).sT ((ix ql i).2).toNat).aP k2).toNat:Nat):Int)⟩:Nat × Int) ⟨hN0,hN1⟩ dO ⟨id,id,id,id,id,id,id,id,id,id,id,id,id,tV⟩ ⟨rI,rI,rI,rI,rI,rI,rI,rI,rI,rI,tV⟩
     ·try simp at hc4
      refine ex (xt_ (xt_ (xb (th (sq (rg (al (key:=16) T.z72 (eC (eC eZ)) fun b16=>(nl (th (sq (rg (ag (nl (th (sq (sq (rg (fP J T.fld72_0 (lP J J J T.one63 (fc (slenI 98 J) fun hm98=>(lnF J T.sl63 (mv (nl (th (bk ?_)))))))))))))))))))))))))
      refine nwC 160 3 1 nE (kncC 16 0 (osl 160 (.slice none 0 0)) rfl rfl eq_osl ?_)
      have hus:us=orAll (acc (tR s).1 (ix ql i).2.toNat):=by rw[hI2.1,show k2=(ix (tR s).1.sT (ix ql i).2.toNat).aP.length by omega,List.take_length]
      have hI3_0:0≤(subs t.aC.length).length:=by
       first|omega|simp
      have hI3_1:([]:List Int)=((subs t.aC.length).take 0).filter (fitsB (ix t.sT (ix ql i).1.toNat) (ix (tR s).1.sT (ix ql i).2.toNat))∧(0:Int)=orAll ([]:List Int)∧0≤(0:Int)∧(0:Int)<256:=by
       exact⟨rfl,rfl,O,O⟩
      refine lp (κ:=Nat × Value × (List Int) × Int) (fun p=> [(2,ptr 2 b2 0),(3,ptr 3 b3 0),(4,ptr 4 b4 0),(5,ptr 5 b5 0),(7,ptr 7 b7 0),(8,osl 55 v),(9,int (i:Int)),(11,ptr 11 (gbk (β0 12)) 0),(12,ptr 12 (gbk (β0 13)) 0),(13,int us),(16,ptr 16 b16 0),(17,int p.2.2.2),(98,sl 1 nE (subs t.aC.length)),(99,int ((subs t.aC.length).length:Int)),(100,int (p.1:Int))]) (fun p=> [(2,cell b2 [sl 1 rE_ t.aC,sl 2 sE t.sT]),(3,cell b3 [sl 1 rE_ ((tR s).1).aC,sl 2 sE ((tR s).1).sT]),(4,cell b4 [eqv (.slice none 0 0),eqv (.slice none 0 0)]),(5,cell b5 [sl 1 nE (subs t.aC.length),sl 1 nE nx0]),(7,cell b7 [sl 1 rE_ t.aC,osl 70 v7]),(10,cell b10 [int ((ix ql i).1),int ((ix ql i).2)]),(11,cell (gbk (β0 12)) [sl 1 nE (ix t.sT ((ix ql i).1).toNat).aP,sl 1 nE (ix t.sT ((ix ql i).1).toNat).next]),(12,cell (gbk (β0 13)) [sl 1 nE (ix ((tR s).1).sT ((ix ql i).2).toNat).aP,sl 1 nE (ix ((tR s).1).sT ((ix ql i).2).toNat).next]),(16,cell b16 [osl 160 p.2.1,eqv (.slice none 0 0)]),(55,own v 78 2 pE ql),(70,own v7 72 2 sE outs),(160,own p.2.1 3 1 nE p.2.2.1)]) (fun p=>(p.1≤(subs t.aC.length).length)∧(p.2.2.1=((subs t.aC.length).take p.1).filter (fitsB (ix t.sT (ix ql i).1.toNat) (ix (tR s).1.sT (ix ql i).2.toNat))∧p.2.2.2=orAll p.2.2.1∧0≤p.2.2.2∧p.2.2.2<256)) (fun p=>(subs t.aC.length).length- p.1) ⟨0,(.slice none 0 0),([]:List Int),(0:Int)⟩ ⟨hI3_0,hI3_1⟩ ⟨id,id,id,id,id,id,id,id,id,id,id,id,id,id,id,tV⟩ ⟨rI,rI,rI,rI,rI,rI,rI,rI,rI,rI,rI,rI,tV⟩ ?_
      intro⟨k3,v16,ac,cn⟩ hG3
      obtain⟨hk3,hI3⟩:(k3≤(subs t.aC.length).length)∧(ac=((subs t.aC.length).take k3).filter (fitsB (ix t.sT (ix ql i).1.toNat) (ix (tR s).1.sT (ix ql i).2.toNat))∧cn=orAll ac∧0≤cn∧cn<256):=hG3
      show Ct _ _ _ _ [(2,ptr 2 b2 0),(3,ptr 3 b3 0),(4,ptr 4 b4 0),(5,ptr 5 b5 0),(7,ptr 7 b7 0),(8,osl 55 v),(9,int (i:Int)),(11,ptr 11 (gbk (β0 12)) 0),(12,ptr 12 (gbk (β0 13)) 0),(13,int us),(16,ptr 16 b16 0),(17,int cn),(98,sl 1 nE (subs t.aC.length)),(99,int ((subs t.aC.length).length:Int)),(100,int (k3:Int))] [(2,cell b2 [sl 1 rE_ t.aC,sl 2 sE t.sT]),(3,cell b3 [sl 1 rE_ ((tR s).1).aC,sl 2 sE ((tR s).1).sT]),(4,cell b4 [eqv (.slice none 0 0),eqv (.slice none 0 0)]),(5,cell b5 [sl 1 nE (subs t.aC.length),sl 1 nE nx0]),(7,cell b7 [sl 1 rE_ t.aC,osl 70 v7]),(10,cell b10 [int ((ix ql i).1),int ((ix ql i).2)]),(11,cell (gbk (β0 12)) [sl 1 nE (ix t.sT ((ix ql i).1).toNat).aP,sl 1 nE (ix t.sT ((ix ql i).1).toNat).next]),(12,cell (gbk (β0 13)) [sl 1 nE (ix ((tR s).1).sT ((ix ql i).2).toNat).aP,sl 1 nE (ix ((tR s).1).sT ((ix ql i).2).toNat).next]),(16,cell b16 [osl 160 v16,eqv (.slice none 0 0)]),(55,own v 78 2 pE ql),(70,own v7 72 2 sE outs),(160,own v16 3 1 nE ac)] _
      have hacl:ac.length≤k3:=by rw[hI3.1];exact Nat.le_trans (List.length_filter_le _ _) (by simp;omega)
      refine sq (rg (bi J J b_lss (nl (th (sq ?_)))))
      refine cd J (fun hc5=> ?_) (fun hc5=> ?_)
      ·try simp at hc5
       have hub:=subs_get hn8 hc5
       refine sk (th (sq (bk (sq (rg (iF J J T.sl63 O gB (lF J J T.one3 (ag (nl (th (sq (rg (lPA J J T.agg72 J (lPA J J T.agg72 J (mv (cal0 (φs:= [agg [sl 1 nE (ix t.sT ((ix ql i).1).toNat).aP,sl 1 nE (ix t.sT ((ix ql i).1).toNat).next],agg [sl 1 nE (ix ((tR s).1).sT ((ix ql i).2).toNat).aP,sl 1 nE (ix ((tR s).1).sT ((ix ql i).2).toNat).next],int (ix (subs t.aC.length) k3)]) (φ:=bl (fitsB (ix t.sT ((ix ql i).1).toNat) (ix ((tR s).1).sT ((ix ql i).2).toNat) (ix (subs t.aC.length) k3))) ⟨J,J,J,tV⟩ (divs.fits_ok (ix t.sT ((ix ql i).1).toNat) (ix ((tR s).1).sT ((ix ql i).2).toNat) (ix (subs t.aC.length) k3) aS O O) T.ent46 (nl (th ?_))))))))))))))))))
       refine cd J (fun hc6=> ?_) (fun hc6=> ?_)
       ·try simp at hc6
        refine sq (rg (fP J T.fld72_0 (lP J J J T.one63 (mv (bsE (enc:=nE) (xs:= [(ix (subs t.aC.length) k3)]) (css:= [[int (ix (subs t.aC.length) k3)]]) T.mk63 ⟨J,J,p1 (φ:=int (ix (subs t.aC.length) k3)) J,tV⟩ J J J J (ap (key:=160) (zs:= [(ix (subs t.aC.length) k3)]) osl_eq J J J T.mk63 (by unfold maxL at*;simp;omega) (by unfold maxL at*;simp;omega) fun v112=>(fP J T.fld72_0 (storePO J J J J T.one63 J (nl (th (rg (mv (mv (bi J J (b_orI O O O O) (ag (nl (eb (th (rg (bi J J (b_add i6) (mv (nl ?_))))))))))))))))))))))
        have hN0:(k3+1)≤(subs t.aC.length).length:=by
         first|omega|simp_all
        have hN1:(ac++ [(ix (subs t.aC.length) k3)])=((subs t.aC.length).take (k3+1)).filter (fitsB (ix t.sT (ix ql i).1.toNat) (ix (tR s).1.sT (ix ql i).2.toNat))∧((cn.toNat|||(ix (subs t.aC.length) k3).toNat:Nat):Int)=orAll (ac++ [(ix (subs t.aC.length) k3)])∧0≤((cn.toNat|||(ix (subs t.aC.length) k3).toNat:Nat):Int)∧((cn.toNat|||(ix (subs t.aC.length) k3).toNat:Nat):Int)<256:=by
         refine⟨?_,?_,O,or_lt256 hI3.2.2.2 hub.2⟩
         ·rw[take_s hc5,List.filter_append,←hI3.1]
          simp[hc6]
         ·rw[orAll_snoc,←hI3.2.1]
        exact ln (⟨k3+1,v112,ac++ [(ix (subs t.aC.length) k3)],((cn.toNat|||(ix (subs t.aC.length) k3).toNat:Nat):Int)⟩:Nat × Value × (List Int) × Int) ⟨hN0,hN1⟩ dO ⟨id,id,id,id,id,id,id,id,id,id,id,id,id,id,id,tV⟩ ⟨rI,rI,rI,rI,rI,rI,rI,rI,rI,rI,rI,rI,tV⟩
       ·try simp at hc6
        refine sk (eb (th (rg (bi J J (b_add i6) (mv (nl ?_))))))
        have hN0:(k3+1)≤(subs t.aC.length).length:=by
         first|omega|simp_all
        have hN1:ac=((subs t.aC.length).take (k3+1)).filter (fitsB (ix t.sT (ix ql i).1.toNat) (ix (tR s).1.sT (ix ql i).2.toNat))∧cn=orAll ac∧0≤cn∧cn<256:=by
         refine⟨?_,hI3.2.1,hI3.2.2.1,hI3.2.2.2⟩
         rw[take_s hc5,List.filter_append,←hI3.1]
         simp[hc6]
        exact ln (⟨k3+1,v16,ac,cn⟩:Nat × Value × (List Int) × Int) ⟨hN0,hN1⟩ dO ⟨id,id,id,id,id,id,id,id,id,id,id,id,id,id,id,tV⟩ ⟨rI,rI,rI,rI,rI,rI,rI,rI,rI,rI,rI,rI,tV⟩
      ·try simp at hc5
       refine ex (xt_ (xt_ (xb (th (sq (sq (rg (fP J T.fld25_0 (lP J J J T.one22 (lnF J T.sl22 (mv (nl (th (bk ?_))))))))))))))
       refine nwC 161 3 1 nE (kncC 16 1 (osl 161 (.slice none 0 0)) rfl rfl eq_osl ?_)
       have hac:ac=(qA t (tR s).1 (ix ql i)):=by rw[hI3.1,show k3=(subs t.aC.length).length by omega,List.take_length];unfold qA;rw[if_neg hnb]
       have hcA:cn=orAll (qA t (tR s).1 (ix ql i)):=by rw[hI3.2.1,hac]
       have hI4_0:0≤t.aC.length:=by
        first|omega|simp
       have hI4_1:RN t (tR s).1 i ql 0 ql ([]:List Int):=by
        exact rn_zero hRW
       refine lp (κ:=Nat × Value × (List (Int × Int)) × Value × (List Int)) (fun p=> [(2,ptr 2 b2 0),(3,ptr 3 b3 0),(4,ptr 4 b4 0),(5,ptr 5 b5 0),(7,ptr 7 b7 0),(8,osl 55 p.2.1),(9,int (i:Int)),(11,ptr 11 (gbk (β0 12)) 0),(12,ptr 12 (gbk (β0 13)) 0),(13,int us),(16,ptr 16 b16 0),(17,int cn),(120,int (t.aC.length:Int)),(121,int (p.1:Int))]) (fun p=> [(2,cell b2 [sl 1 rE_ t.aC,sl 2 sE t.sT]),(3,cell b3 [sl 1 rE_ ((tR s).1).aC,sl 2 sE ((tR s).1).sT]),(4,cell b4 [eqv (.slice none 0 0),eqv (.slice none 0 0)]),(5,cell b5 [sl 1 nE (subs t.aC.length),sl 1 nE nx0]),(7,cell b7 [sl 1 rE_ t.aC,osl 70 v7]),(10,cell b10 [int ((ix ql i).1),int ((ix ql i).2)]),(11,cell (gbk (β0 12)) [sl 1 nE (ix t.sT ((ix ql i).1).toNat).aP,sl 1 nE (ix t.sT ((ix ql i).1).toNat).next]),(12,cell (gbk (β0 13)) [sl 1 nE (ix ((tR s).1).sT ((ix ql i).2).toNat).aP,sl 1 nE (ix ((tR s).1).sT ((ix ql i).2).toNat).next]),(16,cell b16 [osl 160 v16,osl 161 p.2.2.2.1]),(55,own p.2.1 78 2 pE p.2.2.1),(70,own v7 72 2 sE outs),(160,own v16 3 1 nE ac),(161,own p.2.2.2.1 3 1 nE p.2.2.2.2)]) (fun p=>(p.1≤t.aC.length)∧(RN t (tR s).1 i ql p.1 p.2.2.1 p.2.2.2.2)) (fun p=>t.aC.length- p.1) ⟨0,v,ql,(.slice none 0 0),([]:List Int)⟩ ⟨hI4_0,hI4_1⟩ ⟨id,id,id,id,id,id,id,id,id,id,id,id,id,id,tV⟩ ⟨rI,rI,rI,rI,rI,rI,rI,rI,rI,rI,rI,rI,rI,tV⟩ ?_
       intro⟨k4,v2,l2,v161,nx⟩ hG4
       obtain⟨hk4,hI4⟩:(k4≤t.aC.length)∧(RN t (tR s).1 i ql k4 l2 nx):=hG4
       show Ct _ _ _ _ [(2,ptr 2 b2 0),(3,ptr 3 b3 0),(4,ptr 4 b4 0),(5,ptr 5 b5 0),(7,ptr 7 b7 0),(8,osl 55 v2),(9,int (i:Int)),(11,ptr 11 (gbk (β0 12)) 0),(12,ptr 12 (gbk (β0 13)) 0),(13,int us),(16,ptr 16 b16 0),(17,int cn),(120,int (t.aC.length:Int)),(121,int (k4:Int))] [(2,cell b2 [sl 1 rE_ t.aC,sl 2 sE t.sT]),(3,cell b3 [sl 1 rE_ ((tR s).1).aC,sl 2 sE ((tR s).1).sT]),(4,cell b4 [eqv (.slice none 0 0),eqv (.slice none 0 0)]),(5,cell b5 [sl 1 nE (subs t.aC.length),sl 1 nE nx0]),(7,cell b7 [sl 1 rE_ t.aC,osl 70 v7]),(10,cell b10 [int ((ix ql i).1),int ((ix ql i).2)]),(11,cell (gbk (β0 12)) [sl 1 nE (ix t.sT ((ix ql i).1).toNat).aP,sl 1 nE (ix t.sT ((ix ql i).1).toNat).next]),(12,cell (gbk (β0 13)) [sl 1 nE (ix ((tR s).1).sT ((ix ql i).2).toNat).aP,sl 1 nE (ix ((tR s).1).sT ((ix ql i).2).toNat).next]),(16,cell b16 [osl 160 v16,osl 161 v161]),(55,own v2 78 2 pE l2),(70,own v7 72 2 sE outs),(160,own v16 3 1 nE ac),(161,own v161 3 1 nE nx)] _
       have hnl4:=rn_len hI4
       have hlf4:=rn_few hI4
       refine sq (rg (bi J J b_lss (nl (th (sq ?_)))))
       refine cd J (fun hc7=> ?_) (fun hc7=> ?_)
       ·try simp at hc7
        have hu2:has us (k4:Int)=true↔0≤ix (nxt (tR s).1 (ix ql i).2.toNat) k4:=by rw[hus];exact used_has hU O O
        refine sk (th (sq (bk (sq (rg (mv (ag (nl (th (sq (rg (ag (nl (th (sq (sq (rg (mv (mv (cal0 (φs:= [int cn,int (k4:Int)]) (φ:=bl (has cn (k4:Int))) ⟨J,J,tV⟩ (ref01.Has_ok _ _ O O O O) T.ent47 (mv ?_)))))))))))))))))))))
        apply gAnd (t:=127) (pd:=132) rfl
        rotate_left
        ·intro hg0 fin
         have hg0':=hg0
         try simp at hg0'
         exact gy J J J hg0 (mv (gy J J J hg0 (mv (gy J J J hg0 (cal0 (φs:= [int us,int (k4:Int)]) (φ:=bl (has us (k4:Int))) ⟨J,J,tV⟩ (ref01.Has_ok _ _ O O O O) T.ent47 (gy J J J hg0 (no J (pkT J hg0 J (drp (X:= [(131,_),(130,_),(129,_),(128,_)]) ⟨J,J,J,J,tV⟩ fin)))))))))
        ·intro hg0 fin
         exact gn J J J hg0 J J (gn J J J hg0 J J (gn J J J hg0 J J (gn J J J hg0 J J (pkF J hg0 J (drp (X:= [(131,_),(130,_),(129,_),(128,_)]) ⟨J,J,J,J,tV⟩ fin)))))
        refine nl (th ?_)
        refine cd J (fun hc8=> ?_) (fun hc8=> ?_)
        ·try simp at hc8
         have hh:has (orAll (qA t (tR s).1 (ix ql i))) (k4:Int)=true:=by rw[←hcA];exact hc8.1
         refine rg (ag (nl (th (rg (fP J T.fld72_1 (lP J J J T.one63 (mv (bsE (enc:=nE) (xs:= [1]) (css:= [[int 1]]) T.mk63 ⟨J,J,p1 (φ:=int 1) J,tV⟩ J J J J (ap (key:=161) (zs:= [1]) osl_eq J J J T.mk63 (by unfold maxL at*;simp;omega) (by unfold maxL at*;simp;omega) fun v156=>(fP J T.fld72_1 (storePO J J J J T.one63 J (nl (eb (th (rg (bi J J (b_add i6) (mv (nl ?_))))))))))))))))))
         have hN0:(k4+1)≤t.aC.length:=by
          first|omega|simp_all
         have hN1:RN t (tR s).1 i ql (k4+1) l2 (nx++ [1]):=by
          exact rn_bes hRW hI4 hh (by unfold qN;rw[if_neg];rintro⟨_,g⟩;have h:=hu2.2 g;simp[h] at hc8)
         exact ln (⟨k4+1,v2,l2,v156,nx++ [1]⟩:Nat × Value × (List (Int × Int)) × Value × (List Int)) ⟨hN0,hN1⟩ dO ⟨id,id,id,id,id,id,id,id,id,id,id,id,id,id,tV⟩ ⟨rI,rI,rI,rI,rI,rI,rI,rI,rI,rI,rI,rI,rI,tV⟩
        ·try simp at hc8
         refine sq (rg (mv (mv (cal0 (φs:= [int cn,int (k4:Int)]) (φ:=bl (has cn (k4:Int))) ⟨J,J,tV⟩ (ref01.Has_ok _ _ O O O O) T.ent47 (nl (th ?_))))))
         refine cd J (fun hc9=> ?_) (fun hc9=> ?_)
         ·try simp at hc9
          have hh:has (orAll (qA t (tR s).1 (ix ql i))) (k4:Int)=true:=by rw[←hcA];exact hc9
          refine drH (nh:=18) [0,0,2,0,14,30,0,64,0,448,960,2046,4095,8191,16383,16383,32767,131071] [(none,[]),(none,[]),(none,[11]),(none,[]),(none,[]),(none,[]),(none,[]),(none,[12]),(none,[]),(none,[]),(none,[]),(none,[]),(some 55,[55]),(none,[]),(none,[]),(none,[]),(none,[]),(none,[])] T.mixed kR kR ?_
          refine stv (d:=137) (fun β1=>osl 55 v2) [] J (fun β β' hb=>J) (fun β1 _ _ _ _ gq gh kq=>mv' (gq.1.trans J) kq) ?_
          refine stv (d:=138) (fun β1=>ptr 11 (gbk (β0 12)) 1) [] J (fun β β' hb=>J) (fun β1 _ _ _ _ gq gh kq=>fP (gq.1.trans J) T.fld72_1 kq) ?_
          refine stv (d:=139) (fun β1=>sl 1 nE (ix t.sT ((ix ql i).1).toNat).next) [11] J (fun β β' hb=>J) (fun β1 _ _ _ _ gq gh kq=>lP (gq.1.trans J) (gh.1.trans J) J T.one63 kq) ?_
          refine stv (d:=140) (fun β1=>int (k4:Int)) [] J (fun β β' hb=>J) (fun β1 _ _ _ _ gq gh kq=>mv' (gq.1.trans J) kq) ?_
          refine stv (d:=141) (fun β1=>fp [int (ix (ix t.sT ((ix ql i).1).toNat).next k4)]) [] J (fun β β' hb=>J) (fun β1 _ _ _ _ gq gh kq=>iF (gq.1.trans J) (gq.2.1.trans J) T.sl63 O gB kq) ?_
          refine stv (d:=142) (fun β1=>int (ix (ix t.sT ((ix ql i).1).toNat).next k4)) [] J (fun β β' hb=>J) (fun β1 _ _ _ _ gq gh kq=>lF (gq.1.trans J) J T.one3 kq) ?_
          refine stv (d:=143) (fun β1=>ptr 12 (gbk (β0 13)) 1) [] J (fun β β' hb=>J) (fun β1 _ _ _ _ gq gh kq=>fP (gq.1.trans J) T.fld72_1 kq) ?_
          refine stv (d:=144) (fun β1=>sl 1 nE (ix ((tR s).1).sT ((ix ql i).2).toNat).next) [12] J (fun β β' hb=>J) (fun β1 _ _ _ _ gq gh kq=>lP (gq.1.trans J) (gh.1.trans J) J T.one63 kq) ?_
          refine stv (d:=145) (fun β1=>int (k4:Int)) [] J (fun β β' hb=>J) (fun β1 _ _ _ _ gq gh kq=>mv' (gq.1.trans J) kq) ?_
          refine stv (d:=146) (fun β1=>fp [int (ix (ix ((tR s).1).sT ((ix ql i).2).toNat).next k4)]) [] J (fun β β' hb=>J) (fun β1 _ _ _ _ gq gh kq=>iF (gq.1.trans J) (gq.2.1.trans J) T.sl63 O gB kq) ?_
          refine stv (d:=147) (fun β1=>int (ix (ix ((tR s).1).sT ((ix ql i).2).toNat).next k4)) [] J (fun β β' hb=>J) (fun β1 _ _ _ _ gq gh kq=>lF (gq.1.trans J) J T.one3 kq) ?_
          refine stv (d:=148) (fun β1=>agg [int (ix (ix t.sT ((ix ql i).1).toNat).next k4),int (ix (ix ((tR s).1).sT ((ix ql i).2).toNat).next k4)]) [] J (fun β β' hb=>J) (fun β1 _ _ _ _ gq gh kq=>bd (css:= [(0,_),(1,_)]) T.st78 (eC (eC eZ)) ⟨J,J,p1 (φ:=int (ix (ix t.sT ((ix ql i).1).toNat).next k4)) (by exact(gq.1.trans J)),⟨J,J,p1 (φ:=int (ix (ix ((tR s).1).sT ((ix ql i).2).toNat).next k4)) (by exact(gq.2.1.trans J)),tV⟩⟩ kq) ?_
          refine sty (d:=149) (e:=78) (n:=2) (enc:=pE) (xs:=pushL l2 (ix (ix t.sT ((ix ql i).1).toNat).next k4,ix (ix ((tR s).1).sT ((ix ql i).2).toNat).next k4)) 55 [55] (fun v=>tup [int ((pix l2 (ix (ix t.sT ((ix ql i).1).toNat).next k4,ix (ix ((tR s).1).sT ((ix ql i).2).toNat).next k4):Nat):Int),osl 55 v]) rfl (fun β1 _ _ _ _ gq gh kq=>cal (Hi:= [(55,own v2 78 2 pE l2)]) (φs:= [osl 55 v2,agg [int (ix (ix t.sT ((ix ql i).1).toNat).next k4),int (ix (ix ((tR s).1).sT ((ix ql i).2).toNat).next k4)]]) ⟨(gq.1.trans rfl),(gq.2.1.trans rfl),tV⟩ (divp.place_ok l2 (ix (ix t.sT ((ix ql i).1).toNat).next k4,ix (ix ((tR s).1).sT ((ix ql i).2).toNat).next k4) v2 O) T.ent48 (subh1 (gh.1.trans rfl)) fun N v=>outdup (kq v)) ?_
          refine stv (d:=136) (fun β1=>tup [int ((pix l2 (ix (ix t.sT ((ix ql i).1).toNat).next k4,ix (ix ((tR s).1).sT ((ix ql i).2).toNat).next k4):Nat):Int),osl 55 (sv (β1 12))]) [] J (fun β β' hb=>by first|rw[hb 12 J]|(dsimp only;rw[hb 12 J])) (fun β1 _ _ _ _ gq gh kq=>mv' (gq.1.trans J) kq) ?_
          refine stv (d:=150) (fun β1=>int ((pix l2 (ix (ix t.sT ((ix ql i).1).toNat).next k4,ix (ix ((tR s).1).sT ((ix ql i).2).toNat).next k4):Nat):Int)) [] J (fun β β' hb=>J) (fun β1 _ _ _ _ gq gh kq=>xt (gq.1.trans J) J kq) ?_
          refine stv (d:=151) (fun β1=>osl 55 (sv (β1 12))) [] J (fun β β' hb=>by first|rw[hb 12 J]|(dsimp only;rw[hb 12 J])) (fun β1 _ _ _ _ gq gh kq=>xt (gq.1.trans J) J kq) ?_
          refine stv (d:=21) (fun β1=>int ((pix l2 (ix (ix t.sT ((ix ql i).1).toNat).next k4,ix (ix ((tR s).1).sT ((ix ql i).2).toNat).next k4):Nat):Int)) [] J (fun β β' hb=>J) (fun β1 _ _ _ _ gq gh kq=>ag' (gq.1.trans J) kq) ?_
          refine stv (d:=8) (fun β1=>osl 55 (sv (β1 12))) [] J (fun β β' hb=>by first|rw[hb 12 J]|(dsimp only;rw[hb 12 J])) (fun β1 _ _ _ _ gq gh kq=>ag' (gq.1.trans J) kq) ?_
          refine pnH fun β1=>(nl (th (rg (fP J T.fld72_1 (lP J J J T.one63 (mv (bsE (enc:=nE) (xs:= [((pix l2 (ix (ix t.sT ((ix ql i).1).toNat).next k4,ix (ix ((tR s).1).sT ((ix ql i).2).toNat).next k4):Nat):Int)]) (css:= [[int ((pix l2 (ix (ix t.sT ((ix ql i).1).toNat).next k4,ix (ix ((tR s).1).sT ((ix ql i).2).toNat).next k4):Nat):Int)]]) T.mk63 ⟨J,J,p1 (φ:=int ((pix l2 (ix (ix t.sT ((ix ql i).1).toNat).next k4,ix (ix ((tR s).1).sT ((ix ql i).2).toNat).next k4):Nat):Int)) J,tV⟩ J J J J (ap (key:=161) (zs:= [((pix l2 (ix (ix t.sT ((ix ql i).1).toNat).next k4,ix (ix ((tR s).1).sT ((ix ql i).2).toNat).next k4):Nat):Int)]) osl_eq J J J T.mk63 (by unfold maxL at*;simp;omega) (by unfold maxL at*;simp;omega) fun v156=>(fP J T.fld72_1 (storePO J J J J T.one63 J (nl (eb (th (rg (bi J J (b_add i6) (mv (nl ?_)))))))))))))))))
          have hN0:(k4+1)≤t.aC.length:=by
                      first|omega|simp_all
          have hN1:RN t (tR s).1 i ql (k4+1) (pushL l2 (ix ((ix t.sT (((ix ql i).1).toNat)).next) k4,ix ((ix (((tR s).1).sT) (((ix ql i).2).toNat)).next) k4)) (nx++ [((pix l2 (ix ((ix t.sT (((ix ql i).1).toNat)).next) k4,ix ((ix (((tR s).1).sT) (((ix ql i).2).toNat)).next) k4):Nat):Int)]):=by
                      have hN:qN t (tR s).1 (ix ql i) k4=(ix (ix t.sT (ix ql i).1.toNat).next k4,ix (ix (tR s).1.sT (ix ql i).2.toNat).next k4):=by
                       unfold qN
                       rw[if_pos ⟨hnb,hu2.1 (hc8 hc9)⟩]
                      have h9:=rn_place hI4 hh (qN_ok ht hT hU hTa (hRW.ok _ (ix_memS hc2)) hh) (v:=_) rfl
                      rw[pix_push,hN] at h9
                      exact h9
          exact ln (⟨k4+1,(sv (β1 12)),pushL l2 (ix (ix t.sT ((ix ql i).1).toNat).next k4,ix (ix ((tR s).1).sT ((ix ql i).2).toNat).next k4),v156,nx++ [((pix l2 (ix (ix t.sT ((ix ql i).1).toNat).next k4,ix (ix ((tR s).1).sT ((ix ql i).2).toNat).next k4):Nat):Int)]⟩:Nat × Value × (List (Int × Int)) × Value × (List Int)) ⟨hN0,hN1⟩ dO ⟨id,id,id,id,id,id,id,id,id,id,id,id,id,id,tV⟩ ⟨rI,rI,rI,rI,rI,rI,rI,rI,rI,rI,rI,rI,rI,tV⟩
         ·try simp at hc9
          have hh:has (orAll (qA t (tR s).1 (ix ql i))) (k4:Int)=false:=by rw[←hcA];simpa using hc9
          refine sk (th (rg (fP J T.fld72_1 (lP J J J T.one63 (mv (bsE (enc:=nE) (xs:= [(-1)]) (css:= [[int (-1)]]) T.mk63 ⟨J,J,p1 (φ:=int (-1)) J,tV⟩ J J J J (ap (key:=161) (zs:= [(-1)]) osl_eq J J J T.mk63 (by unfold maxL at*;simp;omega) (by unfold maxL at*;simp;omega) fun v156=>(fP J T.fld72_1 (storePO J J J J T.one63 J (nl (eb (th (rg (bi J J (b_add i6) (mv (nl ?_))))))))))))))))
          have hN0:(k4+1)≤t.aC.length:=by
                      first|omega|simp_all
          have hN1:RN t (tR s).1 i ql (k4+1) l2 (nx++ [(-1)]):=by
                      exact rn_none hI4 hh
          exact ln (⟨k4+1,v2,l2,v156,nx++ [(-1)]⟩:Nat × Value × (List (Int × Int)) × Value × (List Int)) ⟨hN0,hN1⟩ dO ⟨id,id,id,id,id,id,id,id,id,id,id,id,id,id,tV⟩ ⟨rI,rI,rI,rI,rI,rI,rI,rI,rI,rI,rI,rI,rI,tV⟩
       ·try simp at hc7
        refine ex (xt_ (xt_ (xb (th (rg (fP J T.fld25_1 (lP J J J T.one23 (fzc 16 160 0 J J J J (fzc 16 161 1 J J J J (lPA J J T.agg72 J (bsE (enc:=sE) (xs:= [(⟨ac,nx⟩)]) (css:= [[sl 1 nE ac,sl 1 nE nx]]) T.mk23 ⟨J,J,pA (cs:= [sl 1 nE ac,sl 1 nE nx]) J,tV⟩ J J J J (ap (key:=70) (zs:= [(⟨ac,nx⟩)]) osl_eq J J J T.mk23 (by unfold maxL at*;simp;omega) (by unfold maxL at*;simp;omega) fun v163=>(fP J T.fld25_1 (storePO J J J J T.one23 J (nl (eb (th (rg (mv (bi J J (b_add i6) (ag (nl ?_))))))))))))))))))))))
        have hN0:RW t (tR s).1 (i+1) l2 (outs++ [(⟨ac,nx⟩)]):=by
         rw[show k4=t.aC.length by omega] at hI4
         rw[hac]
         exact rw_next hn8 hRW hI4 hc2
        exact ln (⟨i+1,v2,l2,v163,outs++ [(⟨ac,nx⟩)]⟩:Nat × Value × (List (Int × Int)) × Value × (List SA)) hN0 O ⟨id,id,id,id,id,id,id,tV⟩ ⟨rI,rI,rI,rI,rI,rI,rI,tV⟩
   ·try simp at hc2
    refine ex (xt_ (xt_ (xb (th (sq (rg (fzc 7 70 1 J J J J (lPA J J T.agg25 J (sPA (cs':= [sl 1 rE_ t.aC,sl 2 sE outs]) J J J T.agg25 J J (nl (th (rt ?_))))))))))))
    exact rE ⟨⟨t.aC,outs⟩,rw_done ht hs h00 hRW O⟩ [.cell 4 25] J [agg [sl 1 rE_ t.aC,sl 2 sE outs]] ⟨.agg J J T.agg25 J J,tV⟩ J trivial eX
end divm
end
section
namespace PartM
open ref01 ref03 ref04 ref06 prog15 starts Part Rungs LeftM TrimM RoundM MergeM BisM BisM4 BisM5 BisM6 WalkM StepM WitM JudgM JudgM2 divr divs divd dive divg divw divv refj sysw ChsM BisS TrimI ValidM WitSat WitVal FailM FitM
open QuoM (subs qA qN bes)
theorem path_in {T:SS} {w:List Int} {u:Int} {p:PP} (h:p∈pathL T w u):(p.2=u)∨∃j,j<w.length∧p.2=leadI (ix T.sT p.1.toNat) (ix w j):=by
 unfold pathL at h
 rcases List.mem_append.1 h with g|g
 ·obtain⟨j,hj,rfl⟩:=List.mem_map.1 g
  exact .inr ⟨j,List.mem_range.1 hj,rfl⟩
 ·rw[List.mem_singleton.1 g];exact .inl rfl
theorem sat_trim {m:SSys} {s:SS} (hs:oK s) (h:SatM m (tR s).1):SatM m s:=by
 unfold SatM at h ⊢
 rw[sat_solid (trim_ok hs) (off_ok m)] at h
 rw[sat_solid hs (off_ok m)]
 exact sat_sim h (sim_trim hs)
theorem part_ok {x:SSys} {t s:SS} (hx:okSys x) (ht:oK t) (hs:oK s) (hts:t.aC=s.aC) (hxt:x.aC=t.aC) (hb:x.sT.length*(t.sT.length*s.sT.length)+s.sT.length+1≤5000) {v:Bool × SSys} (hv:JdgOK x t s v) (e:v.1=false):
 sysOK v.2=true∧v.2.aC=s.aC∧SatM v.2 s∧¬WellT v.2 x t:=by
 obtain⟨h0,q,i,u,hq,hi,hu,hn,hm⟩:=hv.no e
 have ets:(tR s).1=tS s:=by rw[trimmed_not h0]
 have hT:oK (tS s):=tS_ok hs
 have hU:LevM.Used (tS s):=by rw[←ets];exact trim_used hs
 have hxa:x.aC.length=(tS s).aC.length:=by show x.aC.length=s.aC.length;rw[hxt,hts]
 have hne:∀y,y<(tS s).sT.length→0<(acc (tS s) y).length:=fun y hy=>tS_ne hs h0 hy
 have htl:(tS s).sT.length≤s.sT.length:=by have:=trim_len hs;rwa [ets] at this
 have hql:q.length≤x.sT.length*(t.sT.length*s.sT.length):=by
  have h1:=qf_len hx ht hT hU hxa hq
  exact Nat.le_trans h1 (Nat.mul_le_mul_left _ (Nat.mul_le_mul_left _ htl))
 have hruns:=(qf_runs hx ht hT hU hxa hq i hi).1
 have hal:=hruns.alive hT
 have hgo:=hruns.go hT
 have hwl:=wordTo_len (qf_back hq) i (by simpa using hi)
 have hwl:(wordF q i).length≤i:=hwl
 have hw:Wants (tS s) (pathL (tS s) (wordF q i) u):=⟨pathL_mem hT hal (by rw[hgo,Int.toNat_natCast];exact hu),hne,by rw[pathL_len];omega⟩
 have hsat:=wit_sat hT hw (want_zero _ _ _) hm
 refine⟨?_,?_,sat_trim hs (by rw[ets];exact hsat),part_bad hx ht hT hU hxa hne hq O hi hu hn hm⟩
 ·obtain⟨ss,qq,mm,hss,hW,ha⟩:=hm
  have hqq:qq.length≤(tS s).sT.length+(pathL (tS s) (wordF q i) u).length:=wq_len hW.wq hss
  rw[pathL_len] at hqq
  refine wit_valid (K:=10) hT hw hss hW ha (fun y hy=> ?_) O O
  have hin:∀z∈ix ss y,z∈ix (acc (tS s) y) 0::u::(List.range 8).map fun(a:Nat)=>leadI (ix (tS s).sT y) (a:Int):=fun z hz=>by
   rcases(hss.mem y hy z).1 hz with g|g
   ·rw[g];exact List.mem_cons_self
   ·refine List.mem_cons_of_mem _ ?_
    rcases path_in g with g2|⟨j,hj,g2⟩
    ·have g2:z=u:=g2
     rw[g2];exact List.mem_cons_self
    ·refine List.mem_cons_of_mem _ ?_
     have g2:z=leadI (ix (tS s).sT (y:Int).toNat) (ix (wordF q i) j):=g2
     rw[Int.toNat_natCast] at g2
     have hact:=alive_act hT hal hj
     have h8:=hT.n8
     refine List.mem_map.2 ⟨(ix (wordF q i) j).toNat,List.mem_range.2 O,?_⟩
     rw[g2,Int.toNat_of_nonneg hact.1]
  have:=List.Nodup.length_le_of_subset (hss.nd y hy) hin
  simpa using this
 ·obtain⟨_,_,_,_,_,ha⟩:=hm
  exact ha
def x0S:SSys:=⟨[⟨#[97]⟩,⟨#[98]⟩],[[]]⟩
theorem goal_valid:specOK goalS=true:=by decide+kernel
theorem part_valid:specOK partS=true:=by decide+kernel
theorem x0_valid:sysOK x0S=true:=by decide+kernel
theorem goal_ok:oK goalS:=okSpec_of goal_valid
theorem part_okS:oK partS:=okSpec_of part_valid
theorem gp_fine:fineE goalS partS=0:=by
 unfold fineE
 rw[if_pos ⟨goal_valid,part_valid⟩,if_pos (show goalS.aC=partS.aC from rfl)]
theorem xgp_fine:fineX x0S goalS partS=0:=by
 unfold fineX
 rw[if_pos x0_valid,if_pos gp_fine,if_pos (show x0S.aC=goalS.aC from rfl)]
theorem not_hol {s:SS} (hl:0<s.sT.length) (ha:0<(ix s.sT 0).aP.length) (hn:∀a,a<(ix s.sT 0).next.length→ix (ix s.sT 0).next a≤0) (h0:∃u∈(ix s.sT 0).aP,True):ix (hOl s) 0=false:=by
 cases e:ix (hOl s) 0 with
 |false=>rfl
 |true=>
  exfalso
  refine(hollow_ix hl).1 e (fun y=>y≠0) (fun y hy hc=> ?_) rfl
  intro ey
  subst ey
  obtain⟨a,h1,h2,_,h4⟩:=hc 0 ha
  have:=hn a h1
  exact h4 O
theorem part_not:ix (hOl partS) 0=false:=not_hol (by decide) (by decide) (by decide) ⟨1,by decide,tV⟩
theorem goal_not:ix (hOl goalS) 0=false:=not_hol (by decide) (by decide) (by decide) ⟨1,by decide,tV⟩
theorem part_trim:(tR partS).1=partS:=by
 have hs:=part_okS
 have hn:=part_not
 have ho:ordS partS= [0]:=by
  have h1:(ordS partS).length≤1:=ord_le hs
  have h2:=ordS_pos partS
  have h3:=BisM2.ord_zero partS
  match hq:ordS partS,h1,h2,h3 with
  | [y],_,_,h3=>rw[show y=0 from h3]
 have hk:keep partS 0= [1,3]:=by
  rw[keep_filter hn]
  refine List.filter_eq_self.2 fun u hu=> ?_
  rw[Bool.not_eq_true']
  cases hf:falls (ix partS.sT 0) u (hOl partS) with
  |false=>rfl
  |true=>
   obtain⟨a,ha,_,_,hv⟩:=falls_iff.1 hf
   have h0:∀a,a<(ix partS.sT 0).next.length→ix (ix partS.sT 0).next a=0:=by decide
   rw[h0 a ha] at hv
   rw[show(0:Int).toNat=0 from rfl,hn] at hv;cases hv
 rw[trimmed_not hn]
 show(⟨partS.aC,(ordS partS).map (tstate partS)⟩:SS)=partS
 rw[ho]
 show(⟨partS.aC,[tstate partS 0]⟩:SS)=partS
 unfold tstate tnext
 rw[show(0:Int).toNat=0 from rfl,hk,ho]
 decide
theorem gp_A:qA goalS partS (0,0)= [1]:=by decide
theorem gp_ref:DivM.RefQ goalS partS goalS:=by
 refine⟨rfl,fun h=>(by rw[part_not] at h;cases h),fun _=>⟨[(0,0)],?_,by decide⟩⟩
 rw[part_trim]
 refine⟨rfl,by decide,by decide,rfl,fun i hi=> ?_,fun i hi=> ?_,fun i hi a ha=> ?_,fun i hi a ha hh=> ?_⟩
 ·obtain rfl:i=0:=by have hi:i<1:=hi;omega
  show _=qA goalS partS (0,0)
  rw[gp_A];rfl
 ·obtain rfl:i=0:=by have hi:i<1:=hi;omega
  rfl
 ·obtain rfl:i=0:=by have hi:i<1:=hi;omega
  have hA:qA goalS partS (ix [((0,0):PP)] 0)= [1]:=gp_A
  rw[hA]
  have ha:a<2:=ha
  match a,ha with
  |0,_=>decide
  |1,_=>decide
 ·obtain rfl:i=0:=by have hi:i<1:=hi;omega
  have hA:qA goalS partS (ix [((0,0):PP)] 0)= [1]:=gp_A
  rw[hA] at hh
  have ha:a<2:=ha
  match a,ha,hh with
  |0,_,_=>decide
  |1,_,hh=>exact absurd hh (by decide)
theorem gp_large:largeB goalS partS=false:=by decide
theorem gp_quo:(DivM.quoS goalS partS).2=true:=by
 cases e:(DivM.quoS goalS partS).2 with
 |true=>rfl
 |false=>
  have:=DivM.quo_large goal_ok part_okS rfl e
  rw[gp_large] at this;cases this
theorem gp_div:(DivM.divS goalS partS).2=0∧fineR (DivM.divS goalS partS).1 goalS=true:=by
 have hS:=DivM.quo_same goal_ok part_okS rfl gp_ref (by decide) gp_quo
 have e:DivM.divS goalS partS=((DivM.quoS goalS partS).1,0):=by unfold DivM.divS;rw[if_pos gp_fine,if_pos gp_quo]
 rw[e]
 exact⟨rfl,DivM.fine_same hS⟩
theorem gp_miss {z:SSys × Int} (h:DivM.MissOK goalS partS z):z.2=0∧madeB z.1 goalS=true:=by
 rcases DivM.miss_ok gp_fine gp_ref (by decide) h with⟨_,g,_⟩|⟨_,_,g⟩|⟨g1,_,g2⟩
 ·rw[gp_large] at g;cases g
 ·rw[goal_not] at g;cases g
 ·exact⟨g1,g2⟩
theorem gp_fits {v:Bool × SSys} (h:JdgOK x0S goalS partS v):v.1=false∧madeB v.2 partS=true:=by
 have h1:v.1=false:=by
  cases e:v.1 with
  |false=>rfl
  |true=>
   rcases(h.yes e).2 with g|g
   ·rw[part_not] at g;cases g
   ·rw[part_trim] at g
    exact absurd ⟨1,by decide,by decide⟩ (g (0,0,0) .zero)
 refine⟨h1,?_⟩
 obtain⟨g1,g2,g3,_⟩:=part_ok (sysOK_ok x0_valid) goal_ok part_okS rfl rfl (by decide) h h1
 unfold madeB
 rw[g1,decide_eq_true g2,satD_iff.2 g3];rfl
end PartM
end
section
namespace EncM
theorem map_inj {α β:Type} {f:α→β} (hf:∀a b,f a=f b→a=b):∀{l m:List α},l.map f=m.map f→l=m
 | [],[],_=>rfl
 | [],b::m,h=>by simp at h
 |a::l,[],h=>by simp at h
 |a::l,b::m,h=>by
  rw[List.map_cons,List.map_cons] at h
  injection h with h1 h2
  rw[hf _ _ h1,map_inj hf h2]
theorem agg_inj {l m:List Value} (h:Value.agg l.toArray=Value.agg m.toArray):l=m:=by
 injection h with h
 exact congrArg Array.toList h
def encS (s:SS):Value:= .agg #[.agg (s.aC.map Value.string).toArray,.agg (s.sT.map fun x=>Value.agg #[.agg (x.aP.map (Value.int .i64)).toArray,.agg (x.next.map (Value.int .i64)).toArray]).toArray]
theorem encS_inj {a b:SS} (h:encS a=encS b):a=b:=by
 obtain⟨a1,a2⟩:=a
 obtain⟨b1,b2⟩:=b
 have h:=agg_inj (l:= [_,_]) (m:= [_,_]) h
 simp only [List.cons.injEq,and_true] at h
 obtain⟨h1,h2⟩:=h
 have hi:∀x y:Int,Value.int .i64 x=Value.int .i64 y→x=y:=fun x y g=>by
  simp only [Value.int.injEq,true_and] at g;exact g
 have e1:a1=b1:=map_inj (fun x y g=>by injection g) (agg_inj h1)
 have e2:a2=b2:=map_inj (fun x y g=>by
  obtain⟨x1,x2⟩:=x
  obtain⟨y1,y2⟩:=y
  have g:=agg_inj (l:= [_,_]) (m:= [_,_]) g
  simp only [List.cons.injEq,and_true] at g
  rw[map_inj hi (agg_inj g.1),map_inj hi (agg_inj g.2)]) (agg_inj h2)
 rw[e1,e2]
open Classical in
noncomputable def decS (v:Value):SS:=if h:∃s,encS s=v then Classical.choose h else default
theorem decS_enc (s:SS):decS (encS s)=s:=by
 have h:∃y,encS y=encS s:=⟨s,rfl⟩
 unfold decS
 rw[dif_pos h]
 exact encS_inj (Classical.choose_spec h)
end EncM
end
section
open ref01 ref03 ref04 ref06 prog prog2 prog3 prog6 prog13 starts Part Rungs LeftM TrimM RoundM MergeM BisM BisM4 BisM5 WalkM StepM WitM JudgM JudgM2 refw judg wit refj sysw divr divs divd dive divg divw divv divf divc divj divq divp divm LevM LevM2 ChsM QuoM FailM DivM QuoW RefM FitM PartM EncM
attribute [local semireducible] sl eqv in
theorem edges0 {w:World} {F:Fz} {v:Value} (h:(sl 1 id [[eqv (.slice none 0 0)]]).p w F v):(sl 1 gE [([]:List (Int × Int))]).p w F v:=by
 obtain⟨A,cap,hv,hc,hm,h⟩:=h
 refine⟨A,cap,hv,hc,hm,fun _=> ?_⟩
 obtain⟨b,off,vs,hA,hb,hr,hl,he⟩:=h (by simp)
 refine⟨b,off,vs,hA,hb,hr,hl,fun i x hi=> ?_⟩
 have hi0:i=0:=by
  cases i with
  |zero=>rfl
  |succ i=>simp at hi
 subst hi0
 have hx:x= []:=by simpa using hi.symm
 subst hx
 have:=he 0 [eqv (.slice none 0 0)] rfl
 match hq:(vs.drop (0*1)).take 1,this with
 | [u],⟨h1,_⟩=>exact⟨slnil (n:=2) (enc:=pE) h1,tV⟩
namespace T
theorem ent38:Ent Tryz.prog 38:=ent_of kR
theorem ent39:Ent Tryz.prog 39:=ent_of kR
theorem ent16:Ent Tryz.prog 16:=ent_of kR
theorem ent25:Ent Tryz.prog 25:=ent_of kR
theorem ent40:Ent Tryz.prog 40:=ent_of kR
theorem ent20:Ent Tryz.prog 20:=ent_of kR
theorem fld49_0:FieldAt Tryz.prog 49 0 0:=fieldAt_of kR
theorem fld49_1:FieldAt Tryz.prog 49 1 1:=fieldAt_of kR
end T
namespace diva
theorem awake_ok:
 Fn0 Tryz.prog 10 [] (bl true):=by
 refine fnI Tryz.func10 rfl rfl (fun w0 F0=> ?_)
 have hgm:=PartM.goal_ok.small;have hpm:=part_okS.small;have hgo:=PartM.goal_ok;have hpo:=part_okS;have hz0:x0S.sT.length*(goalS.sT.length*partS.sT.length)≤1000000000:=by decide
 refine sq (rg (ag (nl (th (sq (rg (cal0 (φs:= []) (φ:=agg [sl 1 rE_ goalS.aC,sl 2 sE goalS.sT]) trivial divs.goal_ok T.ent38 (cal0 (φs:= []) (φ:=agg [sl 1 rE_ partS.aC,sl 2 sE partS.sT]) trivial divs.part_ok T.ent39 (cal0 (φs:= [agg [sl 1 rE_ goalS.aC,sl 2 sE goalS.sT],agg [sl 1 rE_ partS.aC,sl 2 sE partS.sT]]) (φ:=tup [agg [sl 1 rE_ ((divS goalS partS).1).aC,sl 2 sE ((divS goalS partS).1).sT],int ((divS goalS partS).2)]) ⟨J,J,tV⟩ (divq.Divide_ok goalS partS aS aS) T.ent14 (mv (xt J J (xt J J (al (key:=1) T.z25 (eC (eC eZ)) fun b1=>(sPA (cs':= [sl 1 rE_ ((divS goalS partS).1).aC,sl 2 sE ((divS goalS partS).1).sT]) J J J T.agg25 J J (ag (nl (th (sq (rg (cal0 (φs:= []) (φ:=agg [sl 1 rE_ goalS.aC,sl 2 sE goalS.sT]) trivial divs.goal_ok T.ent38 (cal0 (φs:= []) (φ:=agg [sl 1 rE_ partS.aC,sl 2 sE partS.sT]) trivial divs.part_ok T.ent39 (cl (divq.Missing_ok goalS partS aS aS) T.ent16 trivial fun N16 i16=>(mv (xt J J (xt J J (al (key:=3) T.z38 (eC (eC eZ)) fun b3=>(sPA (cs':= [sl 1 rE_ i16.1.1.aC,sl 1 gE i16.1.1.sT]) J J J T.agg38 J J (ag (nl (th (sq (rg (bsE (enc:=rE_) (xs:= [({ data:= #[97] }),({ data:= #[98] })]) (css:= [[str ({ data:= #[97] })],[str ({ data:= #[98] })]]) T.mk22 ⟨J,J,p1 (φ:=str ({ data:= #[97] })) J,⟨J,J,p1 (φ:=str ({ data:= #[98] })) J,tV⟩⟩ J J J J (bs (css:= [[eqv (.slice none 0 0)]]) T.mk36 ⟨J,J,p1 (φ:=eqv (.slice none 0 0)) J,tV⟩ J J J (kn 21 (sl 1 gE [[]]) J edges0 (bd (css:= [(0,_),(1,_)]) T.st38 (eC (eC eZ)) ⟨J,J,p1 (φ:=sl 1 rE_ [({ data:= #[97] }),({ data:= #[98] })]) J,⟨J,J,p1 (φ:=sl 1 gE [[]]) J,tV⟩⟩ (kn 22 (sys x0S) J (fun h=>h) (cal0 (φs:= []) (φ:=agg [sl 1 rE_ goalS.aC,sl 2 sE goalS.sT]) trivial divs.goal_ok T.ent38 (cal0 (φs:= []) (φ:=agg [sl 1 rE_ partS.aC,sl 2 sE partS.sT]) trivial divs.part_ok T.ent39 (cl (divj.Fits_ok x0S goalS partS aS aS O) T.ent25 trivial fun N25 i25=>(mv (xt J J (xt J J (al (key:=5) T.z49 (eC (eC (eC eZ))) fun b5=>(sPA (cs':= [bl i25.1.1,sl 1 rE_ i25.1.2.aC,sl 1 gE i25.1.2.sT]) J J J T.agg49 J J (ag (nl (th (sq (dr (nh:=32) [0,1,3,7,7,31,63,127,255,511,1023,2047,4095,4095,16383,32767,65535,131071,262143,524287,1048575,2097151,4194303,8388607,16777215,33554431,67108863,134217727,67108863,536870911,1073741823,2147483647] T.mixed kR ?_))))))))))))))))))))))))))))))))))))))))))))))))))
 refine st_ J (fun _ _ _ gq kq=>mv' (gq.1.trans J) kq) ?_
 refine st_ J (fun _ _ _ gq kq=>bi (gq.1.trans J) J b_eql kq) ?_
 refine st_ J (fun _ _ _ gq kq=>mv' (gq.1.trans J) kq) ?_
 refine sg_ (φ:=agg [sl 1 rE_ ((divS goalS partS).1).aC,sl 2 sE ((divS goalS partS).1).sT]) J J J J (List.mem_of_elem_eq_true J) (fun hgd=> ?_) ?_
 ·have hgd':=hgd
  try simp at hgd'
  exact fun _ _ _ gq kq=>lPA (gq.1.trans J) J T.agg25 J kq
 refine sg_ (φ:=agg [sl 1 rE_ goalS.aC,sl 2 sE goalS.sT]) J J J J (List.mem_of_elem_eq_true J) (fun hgd=> ?_) ?_
 ·have hgd':=hgd
  try simp at hgd'
  exact fun _ _ _ gq kq=>cal0 (φs:= []) (φ:=agg [sl 1 rE_ goalS.aC,sl 2 sE goalS.sT]) trivial divs.goal_ok T.ent38 kq
 refine sg_ (φ:=bl (fineR ((divS goalS partS).1) goalS)) J J J J (List.mem_of_elem_eq_true J) (fun hgd=> ?_) ?_
 ·have hgd':=hgd
  try simp at hgd'
  exact fun _ _ _ gq kq=>cal0 (φs:= [agg [sl 1 rE_ ((divS goalS partS).1).aC,sl 2 sE ((divS goalS partS).1).sT],agg [sl 1 rE_ goalS.aC,sl 2 sE goalS.sT]]) (φ:=bl (fineR ((divS goalS partS).1) goalS)) ⟨(gq.1.trans (gif_t hgd)),(gq.2.1.trans (gif_t hgd)),tV⟩ (dive.Fine_ok ((divS goalS partS).1) goalS aS) T.ent40 kq
 refine st_ J (fun _ _ _ gq kq=>pk (gq.1.trans J) (pk_and (x:= .tmp 30) (gq.1.trans J) (gq.2.1.trans J) J) kq) ?_
 refine st_ J (fun _ _ _ gq kq=>mv' (gq.1.trans J) kq) ?_
 refine sg_ (φ:=int i16.1.2) J J J J (List.mem_of_elem_eq_true J) (fun hgd=> ?_) ?_
 ·have hgd':=hgd
  try simp at hgd'
  exact fun _ _ _ gq kq=>mv' (gq.1.trans J) kq
 refine sg_ (φ:=bl (decide (i16.1.2=0))) J J J J (List.mem_of_elem_eq_true J) (fun hgd=> ?_) ?_
 ·have hgd':=hgd
  try simp at hgd'
  exact fun _ _ _ gq kq=>bi (gq.1.trans (gif_t hgd)) J b_eql kq
 refine st_ J (fun _ _ _ gq kq=>pk (gq.1.trans J) (pk_and (x:= .tmp 35) (gq.1.trans J) (gq.2.1.trans J) J) kq) ?_
 refine st_ J (fun _ _ _ gq kq=>mv' (gq.1.trans J) kq) ?_
 refine sg_ (φ:=agg [sl 1 rE_ i16.1.1.aC,sl 1 gE i16.1.1.sT]) J J J J (List.mem_of_elem_eq_true J) (fun hgd=> ?_) ?_
 ·have hgd':=hgd
  try simp at hgd'
  exact fun _ _ _ gq kq=>lPA (gq.1.trans J) J T.agg38 J kq
 refine sg_ (φ:=agg [sl 1 rE_ goalS.aC,sl 2 sE goalS.sT]) J J J J (List.mem_of_elem_eq_true J) (fun hgd=> ?_) ?_
 ·have hgd':=hgd
  try simp at hgd'
  exact fun _ _ _ gq kq=>cal0 (φs:= []) (φ:=agg [sl 1 rE_ goalS.aC,sl 2 sE goalS.sT]) trivial divs.goal_ok T.ent38 kq
 refine sg_ (φ:=bl (madeB i16.1.1 goalS)) J J J J (List.mem_of_elem_eq_true J) (fun hgd=> ?_) ?_
 ·have hgd':=hgd
  try simp at hgd'
  exact fun _ _ _ gq kq=>cal0 (φs:= [agg [sl 1 rE_ i16.1.1.aC,sl 1 gE i16.1.1.sT],agg [sl 1 rE_ goalS.aC,sl 2 sE goalS.sT]]) (φ:=bl (madeB i16.1.1 goalS)) ⟨(gq.1.trans (gif_t hgd)),(gq.2.1.trans (gif_t hgd)),tV⟩ (divg.Made_ok i16.1.1 goalS aS) T.ent20 kq
 refine st_ J (fun _ _ _ gq kq=>pk (gq.1.trans J) (pk_and (x:= .tmp 39) (gq.1.trans J) (gq.2.1.trans J) J) kq) ?_
 refine st_ J (fun _ _ _ gq kq=>mv' (gq.1.trans J) kq) ?_
 refine sg_ (φ:=int (fineX x0S goalS partS)) J J J J (List.mem_of_elem_eq_true J) (fun hgd=> ?_) ?_
 ·have hgd':=hgd
  try simp at hgd'
  exact fun _ _ _ gq kq=>mv' (gq.1.trans J) kq
 refine sg_ (φ:=bl (decide ((fineX x0S goalS partS)=0))) J J J J (List.mem_of_elem_eq_true J) (fun hgd=> ?_) ?_
 ·have hgd':=hgd
  try simp at hgd'
  exact fun _ _ _ gq kq=>bi (gq.1.trans (gif_t hgd)) J b_eql kq
 refine st_ J (fun _ _ _ gq kq=>pk (gq.1.trans J) (pk_and (x:= .tmp 44) (gq.1.trans J) (gq.2.1.trans J) J) kq) ?_
 refine st_ J (fun _ _ _ gq kq=>mv' (gq.1.trans J) kq) ?_
 refine sg_ (φ:=ptr 5 b5 0) J J J J (List.mem_of_elem_eq_true J) (fun hgd=> ?_) ?_
 ·have hgd':=hgd
  try simp at hgd'
  exact fun _ _ _ gq kq=>fP (gq.1.trans J) T.fld49_0 kq
 refine sg_ (φ:=bl i25.1.1) J J J J (List.mem_of_elem_eq_true J) (fun hgd=> ?_) ?_
 ·have hgd':=hgd
  try simp at hgd'
  exact fun _ _ _ gq kq=>lP (gq.1.trans (gif_t hgd)) J J T.one4 kq
 refine sg_ (φ:=bl (!i25.1.1)) J J J J (List.mem_of_elem_eq_true J) (fun hgd=> ?_) ?_
 ·have hgd':=hgd
  try simp at hgd'
  exact fun _ _ _ gq kq=>no (gq.1.trans (gif_t hgd)) kq
 refine st_ J (fun _ _ _ gq kq=>pk (gq.1.trans J) (pk_and (x:= .tmp 48) (gq.1.trans J) (gq.2.1.trans J) J) kq) ?_
 refine st_ J (fun _ _ _ gq kq=>mv' (gq.1.trans J) kq) ?_
 refine sg_ (φ:=ptr 5 b5 1) J J J J (List.mem_of_elem_eq_true J) (fun hgd=> ?_) ?_
 ·have hgd':=hgd
  try simp at hgd'
  exact fun _ _ _ gq kq=>fP (gq.1.trans J) T.fld49_1 kq
 refine sg_ (φ:=agg [sl 1 rE_ i25.1.2.aC,sl 1 gE i25.1.2.sT]) J J J J (List.mem_of_elem_eq_true J) (fun hgd=> ?_) ?_
 ·have hgd':=hgd
  try simp at hgd'
  exact fun _ _ _ gq kq=>lPA (gq.1.trans (gif_t hgd)) J T.agg38 J kq
 refine sg_ (φ:=agg [sl 1 rE_ partS.aC,sl 2 sE partS.sT]) J J J J (List.mem_of_elem_eq_true J) (fun hgd=> ?_) ?_
 ·have hgd':=hgd
  try simp at hgd'
  exact fun _ _ _ gq kq=>cal0 (φs:= []) (φ:=agg [sl 1 rE_ partS.aC,sl 2 sE partS.sT]) trivial divs.part_ok T.ent39 kq
 refine sg_ (φ:=bl (madeB i25.1.2 partS)) J J J J (List.mem_of_elem_eq_true J) (fun hgd=> ?_) ?_
 ·have hgd':=hgd
  try simp at hgd'
  exact fun _ _ _ gq kq=>cal0 (φs:= [agg [sl 1 rE_ i25.1.2.aC,sl 1 gE i25.1.2.sT],agg [sl 1 rE_ partS.aC,sl 2 sE partS.sT]]) (φ:=bl (madeB i25.1.2 partS)) ⟨(gq.1.trans (gif_t hgd)),(gq.2.1.trans (gif_t hgd)),tV⟩ (divg.Made_ok i25.1.2 partS aS) T.ent20 kq
 refine st_ J (fun _ _ _ gq kq=>pk (gq.1.trans J) (pk_and (x:= .tmp 53) (gq.1.trans J) (gq.2.1.trans J) J) kq) ?_
 refine st_ J (fun _ _ _ gq kq=>ag' (gq.1.trans J) kq) ?_
 refine pn (nl (th (rt ?_)))
 have h1:=gp_div;have h2:=gp_miss i16.2;have h3:=gp_fits (i25.2.2 xgp_fine)
 have hr0:(((((((decide (((divS goalS partS).2)=0))&&(fineR ((divS goalS partS).1) goalS))&&(decide (i16.1.2=0)))&&(madeB i16.1.1 goalS))&&(decide ((fineX x0S goalS partS)=0)))&&(!i25.1.1))&&(madeB i25.1.2 partS))=true:=by
  rw[h1.1,h1.2,h2.1,h2.2,decide_eq_true xgp_fine,h3.1,h3.2];rfl
 exact rE () [.tmp 0] J [bl (((((((decide (((divS goalS partS).2)=0))&&(fineR ((divS goalS partS).1) goalS))&&(decide (i16.1.2=0)))&&(madeB i16.1.1 goalS))&&(decide ((fineX x0S goalS partS)=0)))&&(!i25.1.1))&&(madeB i25.1.2 partS))] ⟨.tmp J,tV⟩ (cA1 (fun x0=>rV [bl x0]) hr0) trivial eX
end diva
end
section
namespace TogM
open ref01 ref03 ref04 ref06 Part Rungs LeftM TrimM RoundM BisM BisM5 BisM6 WalkM WitM JudgM FailM FitM PartM QuoM
variable {m n:SSys} {t:SS}
theorem goT (hm:okSys m) (hn:okSys n) (ht:oK t) {p:T3} (hp:0≤p.1∧p.1<(m.sT.length:Int)∧0≤p.2.1∧p.2.1<(n.sT.length:Int)∧0≤p.2.2∧p.2.2<(t.sT.length:Int)) (hb:¬BadT m n t p) {d e:PP} (hd:d∈edg m p.1.toNat) (he:e∈edg n p.2.1.toNat) (h:d.1=e.1):
 0≤d.2∧d.2<(m.sT.length:Int)∧0≤e.2∧e.2<(n.sT.length:Int)∧0≤ix (nxt t p.2.2.toNat) d.1.toNat∧ix (nxt t p.2.2.toNat) d.1.toNat<(t.sT.length:Int)∧d.1.toNat<t.aC.length:=by
 obtain⟨p0,p1,p2,p3,p4,p5⟩:=hp
 have h1:=hm.ed p.1.toNat O d hd
 have h2:=hn.ed p.2.1.toNat O e he
 have hz:p.2.2.toNat<t.sT.length:=by omega
 have hin:andI (offM m p.1.toNat) (offM n p.2.1.toNat)∈acc t p.2.2.toNat:=Classical.byContradiction hb
 have hg:=LeftM.acc_go (ht.st _ hz) hin (a:=d.1.toNat) (by rw[QuoM.has_and,off_has.2 ⟨d,hd,rfl⟩,off_has.2 ⟨e,he,by rw[h]⟩];rfl)
 exact⟨h1.2.2.1,h1.2.2.2,h2.2.2.1,h2.2.2.2,hg.2,((ht.st _ hz).nx _ hg.1).2,hg.1⟩
theorem rchT_box (hm:okSys m) (hn:okSys n) (ht:oK t) {p:T3} (h:RchT m n t p):0≤p.1∧p.1<(m.sT.length:Int)∧0≤p.2.1∧p.2.1<(n.sT.length:Int)∧0≤p.2.2∧p.2.2<(t.sT.length:Int):=by
 induction h with
 |zero=>
  have f1:=hm.few0
  have f2:=hn.few0
  have f3:=ht.few0
  exact⟨by simp,by show(0:Int)<_;omega,by simp,by show(0:Int)<_;omega,by simp,by show(0:Int)<_;omega⟩
 |step h1 h2 h3 h4 h5 ih=>
  have:=goT hm hn ht ih h2 h3 h4 h5
  exact⟨this.1,this.2.1,this.2.2.1,this.2.2.2.1,this.2.2.2.2.1,this.2.2.2.2.2.1⟩
def sucT (t:SS) (p:T3) (d e:PP):T3:=(d.2,e.2,ix (nxt t p.2.2.toNat) d.1.toNat)
structure TW (m n:SSys) (t:SS) (i:Nat) (l:List T3):Prop where
 nd:l.Nodup
 z:((0,0,0):T3)∈l
 rch:∀p∈l,RchT m n t p
 il:i≤l.length
 dn:∀j,j<i→¬BadT m n t (ix l j)∧∀d∈edg m (ix l j).1.toNat,∀e∈edg n (ix l j).2.1.toNat,d.1=e.1→sucT t (ix l j) d e∈l
theorem tw_zero:TW m n t 0 [(0,0,0)]:=⟨by simp,by simp,fun p hp=>by rw[List.mem_singleton.1 hp];exact .zero,by simp,fun j hj=>absurd hj O⟩
theorem tw_few (hm:okSys m) (hn:okSys n) (ht:oK t) {l:List T3} (hnd:l.Nodup) (h:∀p∈l,RchT m n t p):l.length≤m.sT.length*(n.sT.length*t.sT.length):=
 nodup_triples _ _ _ l hnd (fun p hp=>rchT_box hm hn ht (h p hp))
theorem tw_no {i:Nat} {l:List T3} (h:TW m n t i l) {j:Nat} (hj:j<l.length) (hb:BadT m n t (ix l j)):¬WellT m n t:=fun hw=>hw _ (h.rch _ (ix_memS hj)) hb
theorem tw_yes {i:Nat} {l:List T3} (h:TW m n t i l) (hi:l.length≤i):WellT m n t:=fun p hp=>by
 have hat:∀{p:T3},p∈l→∃j,j<l.length∧ix l j=p:=fun {p} hm=>by
  obtain⟨j,hj,rfl⟩:=List.getElem_of_mem hm
  exact⟨j,hj,ix_get hj⟩
 have hin:p∈l:=by
  induction hp with
  |zero=>exact h.z
  |step h1 h2 h3 h4 h5 ih=>
   obtain⟨j,hj,rfl⟩:=hat ih
   exact(h.dn j O).2 _ h3 _ h4 h5
 obtain⟨j,hj,rfl⟩:=hat hin
 exact(h.dn j O).1
structure TN (m n:SSys) (t:SS) (i:Nat) (l:List T3) (k1 k2:Nat) (l2:List T3):Prop where
 nd:l2.Nodup
 rch:∀p∈l2,RchT m n t p
 pre:l<+:l2
 al1:∀d∈(edg m (ix l i).1.toNat).take k1,∀e∈edg n (ix l i).2.1.toNat,d.1=e.1→sucT t (ix l i) d e∈l2
 al2:∀e∈(edg n (ix l i).2.1.toNat).take k2,(ix (edg m (ix l i).1.toNat) k1).1=e.1→sucT t (ix l i) (ix (edg m (ix l i).1.toNat) k1) e∈l2
variable {i k1 k2:Nat} {l l2:List T3}
theorem tn_zero (h:TW m n t i l):TN m n t i l 0 0 l:=⟨h.nd,h.rch,List.prefix_rfl,fun d hd=>by simp at hd,fun e he=>by simp at he⟩
theorem ixT_left {l m:List T3} {j:Nat} (h:j<l.length):ix (l++m) j=ix l j:=by
 rw[ix_get (by simp;omega),ix_get h,List.getElem_append_left h]
theorem tn_skip (h:TN m n t i l k1 k2 l2) (hk:k2<(edg n (ix l i).2.1.toNat).length) (hs:(ix (edg m (ix l i).1.toNat) k1).1=(ix (edg n (ix l i).2.1.toNat) k2).1→sucT t (ix l i) (ix (edg m (ix l i).1.toNat) k1) (ix (edg n (ix l i).2.1.toNat) k2)∈l2):TN m n t i l k1 (k2+1) l2:=by
 refine⟨h.nd,h.rch,h.pre,h.al1,fun e he hde=> ?_⟩
 rw[take_s hk,List.mem_append] at he
 rcases he with g|g
 ·exact h.al2 e g hde
 ·have:e=_:=List.mem_singleton.1 g
  subst this;exact hs hde
theorem tn_push (hW:TW m n t i l) (h:TN m n t i l k1 k2 l2) (hi:i<l.length) (hb:¬BadT m n t (ix l i)) (hk1:k1<(edg m (ix l i).1.toNat).length) (hk:k2<(edg n (ix l i).2.1.toNat).length) (he:(ix (edg m (ix l i).1.toNat) k1).1=(ix (edg n (ix l i).2.1.toNat) k2).1)
 (hn:sucT t (ix l i) (ix (edg m (ix l i).1.toNat) k1) (ix (edg n (ix l i).2.1.toNat) k2)∉l2):TN m n t i l k1 (k2+1) (l2++ [sucT t (ix l i) (ix (edg m (ix l i).1.toNat) k1) (ix (edg n (ix l i).2.1.toNat) k2)]):=by
 have hp:∀q∈l2,q∈l2++ [sucT t (ix l i) (ix (edg m (ix l i).1.toNat) k1) (ix (edg n (ix l i).2.1.toNat) k2)]:=fun q hq=>List.mem_append.2 (.inl hq)
 refine⟨?_,fun p hp=> ?_,h.pre.trans (List.prefix_append _ _),fun d hd e he hde=>hp _ (h.al1 d hd e he hde),fun e hee hde=> ?_⟩
 ·rw[List.nodup_append]
  refine⟨h.nd,by simp,fun a ha b hb e=>hn ?_⟩
  rw[←List.mem_singleton.1 hb,←e];exact ha
 ·rcases List.mem_append.1 hp with g|g
  ·exact h.rch p g
  ·rw[List.mem_singleton.1 g]
   exact .step (hW.rch _ (ix_memS hi)) hb (ix_memS hk1) (ix_memS hk) he
 ·rw[take_s hk,List.mem_append] at hee
  rcases hee with g|g
  ·exact hp _ (h.al2 e g hde)
  ·have:e=_:=List.mem_singleton.1 g
   subst this
   exact List.mem_append.2 (.inr (List.mem_singleton.2 rfl))
theorem tn_row (h:TN m n t i l k1 k2 l2) (hk1:k1<(edg m (ix l i).1.toNat).length) (hk:(edg n (ix l i).2.1.toNat).length≤k2):TN m n t i l (k1+1) 0 l2:=by
 refine⟨h.nd,h.rch,h.pre,fun d hd e he hde=> ?_,fun e he=>by simp at he⟩
 rw[take_s hk1,List.mem_append] at hd
 rcases hd with g|g
 ·exact h.al1 d g e he hde
 ·have:d=_:=List.mem_singleton.1 g
  subst this
  exact h.al2 e (by rw[List.take_of_length_le hk];exact he) hde
theorem tn_end (hW:TW m n t i l) (h:TN m n t i l k1 k2 l2) (hi:i<l.length) (hb:¬BadT m n t (ix l i)) (hk1:(edg m (ix l i).1.toNat).length≤k1):TW m n t (i+1) l2:=by
 have hl:=h.pre.length_le
 have hix:∀j,j<l.length→ix l2 j=ix l j:=fun j hj=>by
  obtain⟨r,rfl⟩:=h.pre
  exact ixT_left hj
 refine⟨h.nd,h.pre.subset hW.z,h.rch,O,fun j hj=> ?_⟩
 rw[hix j O]
 by_cases e:j=i
 ·subst e
  refine⟨hb,fun d hd e he hde=>h.al1 d (by rw[List.take_of_length_le hk1];exact hd) e he hde⟩
 ·exact⟨(hW.dn j O).1,fun d hd e he hde=>h.pre.subset ((hW.dn j O).2 d hd e he hde)⟩
def codeT (b c:Nat) (p:T3):Nat:=(p.1.toNat*b+p.2.1.toNat)*c+p.2.2.toNat
def boxT (a b c:Nat) (p:T3):Prop:=0≤p.1∧p.1<(a:Int)∧0≤p.2.1∧p.2.1<(b:Int)∧0≤p.2.2∧p.2.2<(c:Int)
theorem code_lt {a b c:Nat} {p:T3} (h:boxT a b c p):codeT b c p<a*b*c:=by
 obtain⟨h0,h1,h2,h3,h4,h5⟩:=h
 unfold codeT
 have g1:p.1.toNat*b+p.2.1.toNat<a*b:=by
  have:(p.1.toNat+1)*b≤a*b:=Nat.mul_le_mul_right b O
  rw[Nat.add_mul] at this
  omega
 have g2:(p.1.toNat*b+p.2.1.toNat+1)*c≤a*b*c:=Nat.mul_le_mul_right c g1
 rw[Nat.add_mul] at g2
 omega
theorem code_inj {a b c:Nat} {p q:T3} (hp:boxT a b c p) (hq:boxT a b c q) (h:codeT b c p=codeT b c q):p=q:=by
 obtain⟨h0,h1,h2,h3,h4,h5⟩:=hp
 obtain⟨g0,g1,g2,g3,g4,g5⟩:=hq
 unfold codeT at h
 have hc:0<c:=by omega
 have hb:0<b:=by omega
 have e1:p.1.toNat*b+p.2.1.toNat=q.1.toNat*b+q.2.1.toNat:=by
  have:=congrArg (· /c) h
  simp only [Nat.mul_comm _ c] at this
  rw[Nat.mul_add_div hc,Nat.mul_add_div hc,Nat.div_eq_of_lt O,Nat.div_eq_of_lt O] at this
  omega
 have e2:p.2.2.toNat=q.2.2.toNat:=by rw[e1] at h;omega
 have e3:p.1.toNat=q.1.toNat:=by
  have:=congrArg (· /b) e1
  simp only [Nat.mul_comm _ b] at this
  rw[Nat.mul_add_div hb,Nat.mul_add_div hb,Nat.div_eq_of_lt O,Nat.div_eq_of_lt O] at this
  omega
 have e4:p.2.1.toNat=q.2.1.toNat:=by rw[e3] at e1;omega
 exact Prod.ext O (Prod.ext O O)
structure Tab (a b c:Nat) (l:List T3) (inn:List Bool):Prop where
 len:inn.length=a*b*c
 at_:∀p,boxT a b c p→ix inn (codeT b c p)=decide (p∈l)
theorem tab_zero (a b c:Nat):Tab a b c [] (List.replicate (a*b*c) false):=⟨by simp,fun p hp=>by
 have:=code_lt hp
 rw[ix_get (by simpa using this)];simp⟩
theorem tab_push {a b c:Nat} {l:List T3} {inn:List Bool} (h:Tab a b c l inn) {q:T3} (hq:boxT a b c q):Tab a b c (l++ [q]) (inn.set (codeT b c q) true):=by
 have hql:=code_lt hq
 refine⟨by simp[h.len],fun p hp=> ?_⟩
 rw[ix_set (by rw[h.len];exact hql)]
 by_cases e:codeT b c p=codeT b c q
 ·have:=code_inj hp hq e
  subst this
  rw[if_pos rfl];simp
 ·rw[if_neg e,h.at_ p hp]
  have:p≠q:=fun g=>e (by rw[g])
  simp[this]
theorem cast_code {b c:Nat} {p:T3} (h0:0≤p.1) (h1:0≤p.2.1) (h2:0≤p.2.2):(p.1*(b:Int)+p.2.1)*(c:Int)+p.2.2=(codeT b c p:Int):=by
 unfold codeT
 rw[Int.natCast_add,Int.natCast_mul,Int.natCast_add,Int.natCast_mul,Int.toNat_of_nonneg h0,Int.toNat_of_nonneg h1,Int.toNat_of_nonneg h2]
noncomputable def togB (m n:SSys) (t:SS):Bool:= @decide (WellT m n t) (Classical.propDecidable _)
theorem togB_iff:togB m n t=true↔WellT m n t:=by unfold togB;simp
end TogM
end
section
open ref01 ref03 ref04 ref06 prog prog2 prog3 prog6 prog13 starts Part Rungs LeftM TrimM RoundM MergeM BisM BisM4 BisM5 WalkM StepM WitM JudgM JudgM2 refw judg wit refj sysw divr divs divd dive divg divw divv divf divc divj divq divp divm diva LevM LevM2 ChsM QuoM FailM DivM QuoW RefM FitM PartM EncM TogM
def triE:Int × Int × Int→List AV:=fun p=> [int p.1,int p.2.1,int p.2.2]
instance (p:Int × Int × Int):OneAll (triE p):=inferInstanceAs (OneAll [int p.1,int p.2.1,int p.2.2])
theorem code_bd {a b c:Nat} {x y z:Int} (hx0:0≤x) (hx:x<(a:Int)) (hy0:0≤y) (hy:y<(b:Int)) (hz0:0≤z) (hz:z<(c:Int)) (h:a*b*c≤1000000000):
 (0≤x*(b:Int)∧x*(b:Int)≤1000000000)∧(0≤(x*(b:Int)+y)*(c:Int)∧(x*(b:Int)+y)*(c:Int)≤1000000000)∧0≤(x*(b:Int)+y)*(c:Int)+z∧(x*(b:Int)+y)*(c:Int)+z<((a*b*c:Nat):Int):=by
 have e1:=cast_code (b:=b) (c:=c) (p:=(x,y,z)) hx0 hy0 hz0
 have e2:=code_lt (a:=a) (b:=b) (c:=c) (p:=(x,y,z)) ⟨hx0,hx,hy0,hy,hz0,hz⟩
 have e1:(x*(b:Int)+y)*(c:Int)+z=(codeT b c (x,y,z):Int):=e1
 have g1:0≤x*(b:Int):=Int.mul_nonneg hx0 O
 have g2:0≤(x*(b:Int)+y)*(c:Int):=Int.mul_nonneg O O
 have g3:(x*(b:Int)+y)*1≤(x*(b:Int)+y)*(c:Int):=Int.mul_le_mul_of_nonneg_left O O
 omega
theorem code_zero (b c:Nat):codeT b c (0,0,0)=0:=by simp[codeT]
theorem tab_one (a b c:Nat) (ha:0<a) (hb:0<b) (hc:0<c):Tab a b c [(0,0,0)] ((List.replicate (a*b*c) false).set 0 true):=by
 have:=tab_push (tab_zero a b c) (q:=(0,0,0)) ⟨by simp,by show(0:Int)<_;omega,by simp,by show(0:Int)<_;omega,by simp,by show(0:Int)<_;omega⟩
 rwa [code_zero] at this
theorem accT {t:SS} {z u:Int} (h:0≤z):accB t z u=decide (u∈acc t z.toNat):=by unfold accB;simp[h]
namespace T
theorem st168:StructT Tryz.prog 168 [(0,1),(1,1),(2,1)] [.int .i64 0,.int .i64 0,.int .i64 0]:=arrT_of kR kR
theorem mk169:MakeT Tryz.prog 169 168 3 24 [.int .i64 0,.int .i64 0,.int .i64 0]:=makeT_of kR kR
theorem sl169:IsSlice Tryz.prog 169 168 3:=isSlice_of kR
theorem agg168:IsAgg Tryz.prog 168 3:=isAgg_of kR
theorem z168:ZeroIs Tryz.prog 168 [.int .i64 0,.int .i64 0,.int .i64 0]:=zeroIs_of kR
theorem arr168:Tryz.prog.underlying 168=some (.array 3 3):=by kernel_rfl
end T
namespace divt
theorem Together_ok (m n:SSys) (t:SS) (hm:okSys m) (hn:okSys n) (ht:oK t) (hz:m.sT.length*n.sT.length*t.sT.length≤1000000000):
 Fn0 Tryz.prog 90 [sys m,sys n,spec t] (bl (togB m n t)):=by
 refine fnI Tryz.func90 rfl rfl (fun w0 F0=> ?_)
 have f0:=hm.few0;have f1:=hn.few0;have f2:=ht.few0;have f3:=hm.few1;have f4:=hn.few1;have f5:=ht.few1;have hm8:=hm.n8;have hn8:=hn.n8
 have hmn:m.sT.length*n.sT.length≤m.sT.length*n.sT.length*t.sT.length:=Nat.le_mul_of_pos_right _ O
 have hpz:0<m.sT.length*n.sT.length*t.sT.length:=Nat.mul_pos (Nat.mul_pos O O) O
 have hcm:((m.sT.length*n.sT.length*t.sT.length:Nat):Int)=(m.sT.length:Int)*(n.sT.length:Int)*(t.sT.length:Int):=by simp
 have has:m.sT.length*(n.sT.length*t.sT.length)=m.sT.length*n.sT.length*t.sT.length:=(Nat.mul_assoc _ _ _).symm
 refine fcC (inhS 0 J) (fun hS0=> ?_)
 obtain⟨hma0,hms0,hme0⟩:=sys_lens hS0
 refine fcC (inhS 1 J) (fun hS1=> ?_)
 obtain⟨hma1,hms1,hme1⟩:=sys_lens hS1
 refine fcC (inhS 2 J) (fun hS2=> ?_)
 obtain⟨hsa2,hss2,hse2⟩:=sLn hS2
 refine sq (rg (bx (key:=3) (cs:= [sl 1 rE_ m.aC,sl 1 gE m.sT]) J fun b3=>(bx (key:=4) (cs:= [sl 1 rE_ n.aC,sl 1 gE n.sT]) J fun b4=>(bx (key:=5) (cs:= [sl 1 rE_ t.aC,sl 2 sE t.sT]) J fun b5=>(ag (nl (th (sq (rg (fP J T.fld38_1 (lP J J J T.one36 (fc (slenI 18 J) fun hm18=>(lnF J T.sl36 (fP J T.fld38_1 (lP J J J T.one36 (fc (slenI 21 J) fun hm21=>(lnF J T.sl36 (bi J J (b_mul i6) (fP J T.fld25_1 (lP J J J T.one23 (fc (slenI 25 J) fun hm25=>(lnF J T.sl23 (bi J J (b_mul i6) (kn 27 (int ((m.sT.length*n.sT.length*t.sT.length:Nat):Int)) J (by rw[hcm];exact fun h=>h) (mk (key:=28) (m:=m.sT.length*n.sT.length*t.sT.length) (enc:=blE) (y:=false) J J T.mk31 (eC eZ) mL mL fun v28=>(ag (nl (th (sq (rg (bd (css:= [(0,_),(1,_),(2,_)]) T.st168 (eC (eC (eC eZ))) ⟨J,J,p1 (φ:=int 0) J,⟨J,J,p1 (φ:=int 0) J,⟨J,J,p1 (φ:=int 0) J,tV⟩⟩⟩ (bsO 30 (enc:=triE) (xs:= [(0,0,0)]) (css:= [[int 0,int 0,int 0]]) T.mk169 ⟨J,J,pA (cs:= [int 0,int 0,int 0]) J,tV⟩ J J J J fun v30=>(ag (nl (th (sq (rg (mv (iO J J J T.sl31 O (by simp;omega) (sO (φ:=bl true) J J J T.one4 (gN (by simp;omega)) J (y':=true) J (nl (th (sq (sq (rg (ag (nl (th (bk ?_)))))))))))))))))))))))))))))))))))))))))))))))))
 have hI0_0:TW m n t 0 ([(0,0,0)]:List (Int × Int × Int))∧Tab m.sT.length n.sT.length t.sT.length ([(0,0,0)]:List (Int × Int × Int)) ((List.replicate (m.sT.length*n.sT.length*t.sT.length) false).set 0 true):=by
  exact⟨tw_zero,tab_one _ _ _ O O O⟩
 refine lp (κ:=Nat × Value × (List (Int × Int × Int)) × (List Bool)) (fun p=> [(3,ptr 3 b3 0),(4,ptr 4 b4 0),(5,ptr 5 b5 0),(7,osl 28 v28),(8,osl 30 p.2.1),(9,int (p.1:Int))]) (fun p=> [(3,cell b3 [sl 1 rE_ m.aC,sl 1 gE m.sT]),(4,cell b4 [sl 1 rE_ n.aC,sl 1 gE n.sT]),(5,cell b5 [sl 1 rE_ t.aC,sl 2 sE t.sT]),(28,own v28 4 1 blE p.2.2.2),(30,own p.2.1 168 3 triE p.2.2.1)]) (fun p=>TW m n t p.1 p.2.2.1∧Tab m.sT.length n.sT.length t.sT.length p.2.2.1 p.2.2.2) (fun p=>m.sT.length*n.sT.length*t.sT.length- p.1) ⟨0,v30,([(0,0,0)]:List (Int × Int × Int)),(List.replicate (m.sT.length*n.sT.length*t.sT.length) false).set 0 true⟩ hI0_0 ⟨id,id,id,id,id,id,tV⟩ ⟨rI,rI,rI,rI,rI,tV⟩ ?_
 intro⟨i,v,l,inn⟩ hG0
 obtain⟨hTW,hTab⟩:TW m n t i l∧Tab m.sT.length n.sT.length t.sT.length l inn:=hG0
 show Ct _ _ _ _ [(3,ptr 3 b3 0),(4,ptr 4 b4 0),(5,ptr 5 b5 0),(7,osl 28 v28),(8,osl 30 v),(9,int (i:Int))] [(3,cell b3 [sl 1 rE_ m.aC,sl 1 gE m.sT]),(4,cell b4 [sl 1 rE_ n.aC,sl 1 gE n.sT]),(5,cell b5 [sl 1 rE_ t.aC,sl 2 sE t.sT]),(28,own v28 4 1 blE inn),(30,own v 168 3 triE l)] _
 have hlf:=tw_few hm hn ht hTW.nd hTW.rch
 have hil:=hTW.il
 have hinl:=hTab.len
 refine sq (sq (rg (mv (mv (lnO J J T.sl169 (bi J J b_lss (nl (th ?_))))))))
 refine cd J (fun hc0=> ?_) (fun hc0=> ?_)
 ·try simp at hc0
  have hbx:=rchT_box hm hn ht (hTW.rch _ (ix_memS hc0))
  obtain⟨hb0,hb1,hb2,hb3,hb4,hb5⟩:=hbx
  have h8m:=off8 hm (x:=(ix l i).1.toNat) O
  have h8n:=off8 hn (x:=(ix l i).2.1.toNat) O
  have hom:0≤offM m (ix l i).1.toNat∧offM m (ix l i).1.toNat<256:=offE_lt h8m
  have hon:0≤offM n (ix l i).2.1.toNat∧offM n (ix l i).2.1.toNat<256:=offE_lt h8n
  have hst:=ht.st (ix l i).2.2.toNat O
  have htl:=hst.len
  refine sk (th (sq (bk (sq (rg (mv (mv (iO J J J T.sl169 O O (lOA J J gB T.agg168 (by decide) (al (key:=10) T.z168 (eC (eC (eC eZ))) fun b10=>(sPA (cs':= [int ((ix l i).1),int ((ix l i).2.1),int ((ix l i).2.2)]) J J J T.agg168 J J (nl (th (sq (sq (dr (nh:=14) [0,0,2,0,0,16,56,0,0,256,1016,2040,4095,8191] T.mixed kR ?_))))))))))))))))
  refine st_ J (fun _ _ _ gq kq=>lPA (gq.1.trans J) J T.agg25 J kq) ?_
  refine st_ J (fun _ _ _ gq kq=>iPA (gq.1.trans J) J T.arr168 T.one3 J kq) ?_
  refine st_ J (fun _ _ _ gq kq=>lP (gq.1.trans J) J J T.one3 kq) ?_
  refine st_ J (fun _ _ _ gq kq=>lPA (gq.1.trans J) J T.agg38 J kq) ?_
  refine st_ J (fun _ _ _ gq kq=>iPA (gq.1.trans J) J T.arr168 T.one3 J kq) ?_
  refine st_ J (fun _ _ _ gq kq=>lP (gq.1.trans J) J J T.one3 kq) ?_
  refine st_ J (fun _ _ _ gq kq=>cal0 (φs:= [agg [sl 1 rE_ m.aC,sl 1 gE m.sT],int ((ix l i).1)]) (φ:=int (offM m ((ix l i).1).toNat)) ⟨(gq.1.trans J),(gq.2.1.trans J),tV⟩ (divs.Offer_ok m ((ix l i).1) aS O O) T.ent119 kq) ?_
  refine st_ J (fun _ _ _ gq kq=>lPA (gq.1.trans J) J T.agg38 J kq) ?_
  refine st_ J (fun _ _ _ gq kq=>iPA (gq.1.trans J) J T.arr168 T.one3 J kq) ?_
  refine st_ J (fun _ _ _ gq kq=>lP (gq.1.trans J) J J T.one3 kq) ?_
  refine st_ J (fun _ _ _ gq kq=>cal0 (φs:= [agg [sl 1 rE_ n.aC,sl 1 gE n.sT],int ((ix l i).2.1)]) (φ:=int (offM n ((ix l i).2.1).toNat)) ⟨(gq.1.trans J),(gq.2.1.trans J),tV⟩ (divs.Offer_ok n ((ix l i).2.1) aS O O) T.ent119 kq) ?_
  refine st_ J (fun _ _ _ gq kq=>bi (gq.1.trans J) (gq.2.1.trans J) (b_andI O O O O) kq) ?_
  refine st_ J (fun _ _ _ gq kq=>cal0 (φs:= [agg [sl 1 rE_ t.aC,sl 2 sE t.sT],int ((ix l i).2.2),int (((offM m ((ix l i).1).toNat).toNat&&&(offM n ((ix l i).2.1).toNat).toNat:Nat):Int)]) (φ:=bl (accB t ((ix l i).2.2) (((offM m ((ix l i).1).toNat).toNat&&&(offM n ((ix l i).2.1).toNat).toNat:Nat):Int))) ⟨(gq.1.trans J),(gq.2.1.trans J),(gq.2.2.1.trans J),tV⟩ (divs.Accepts_ok t ((ix l i).2.2) (((offM m ((ix l i).1).toNat).toNat&&&(offM n ((ix l i).2.1).toNat).toNat:Nat):Int) O) T.ent118 kq) ?_
  refine st_ J (fun _ _ _ gq kq=>no (gq.1.trans J) kq) ?_
  refine pn (nl (th ?_))
  refine cd J (fun hc1=> ?_) (fun hc1=> ?_)
  ·skip
   have hbd:BadT m n t (ix l i):=by
    unfold BadT andI
    rw[accT hb4] at hc1
    simpa using hc1
   refine sq (rg (ag (nl (th (rt (rt_ (rb (rt_ (rt_ (rb (rt_ ?_)))))))))))
   have hr0:false=(togB m n t):=by
    have h:=tw_no hTW hc0 hbd
    rw[Bool.eq_false_iff.2 (fun g=>h (togB_iff.1 g))]
   exact rE () [.tmp 6] J [bl false] ⟨.tmp J,tV⟩ (cA1 (fun x0=>rV [bl x0]) hr0) trivial eX
  ·skip
   have hnb:¬BadT m n t (ix l i):=by
    unfold BadT andI
    rw[accT hb4] at hc1
    simpa using hc1
   refine sk (th (sq (rg (fP J T.fld38_1 (lP J J J T.one36 (iPA J J T.arr168 T.one3 J (lP J J J T.one3 (iF J J T.sl36 O gB (lF J J T.one88 (fc (slenI 62 J) fun hm62=>(lnF J T.sl88 (mv (nl (th (bk ?_)))))))))))))))
   have hI1_0:0≤(ix m.sT ((ix l i).1).toNat).length:=by
    first|omega|simp
   have hI1_1:TN m n t i l 0 0 l∧Tab m.sT.length n.sT.length t.sT.length l inn:=by
    exact⟨tn_zero hTW,hTab⟩
   refine lp (κ:=Nat × Value × (List (Int × Int × Int)) × (List Bool)) (fun p=> [(3,ptr 3 b3 0),(4,ptr 4 b4 0),(5,ptr 5 b5 0),(7,osl 28 v28),(8,osl 30 p.2.1),(9,int (i:Int)),(10,ptr 10 b10 0),(62,sl 2 pE (ix m.sT ((ix l i).1).toNat)),(63,int ((ix m.sT ((ix l i).1).toNat).length:Int)),(64,int (p.1:Int))]) (fun p=> [(3,cell b3 [sl 1 rE_ m.aC,sl 1 gE m.sT]),(4,cell b4 [sl 1 rE_ n.aC,sl 1 gE n.sT]),(5,cell b5 [sl 1 rE_ t.aC,sl 2 sE t.sT]),(10,cell b10 [int ((ix l i).1),int ((ix l i).2.1),int ((ix l i).2.2)]),(28,own v28 4 1 blE p.2.2.2),(30,own p.2.1 168 3 triE p.2.2.1)]) (fun p=>(p.1≤(ix m.sT ((ix l i).1).toNat).length)∧(TN m n t i l p.1 0 p.2.2.1∧Tab m.sT.length n.sT.length t.sT.length p.2.2.1 p.2.2.2)) (fun p=>(ix m.sT ((ix l i).1).toNat).length- p.1) ⟨0,v,l,inn⟩ ⟨hI1_0,hI1_1⟩ ⟨id,id,id,id,id,id,id,id,id,id,tV⟩ ⟨rI,rI,rI,rI,rI,rI,tV⟩ ?_
   intro⟨k1,v1,l1,inn1⟩ hG1
   obtain⟨hk1,⟨hTN1,hTab1⟩⟩:(k1≤(ix m.sT ((ix l i).1).toNat).length)∧(TN m n t i l k1 0 l1∧Tab m.sT.length n.sT.length t.sT.length l1 inn1):=hG1
   show Ct _ _ _ _ [(3,ptr 3 b3 0),(4,ptr 4 b4 0),(5,ptr 5 b5 0),(7,osl 28 v28),(8,osl 30 v1),(9,int (i:Int)),(10,ptr 10 b10 0),(62,sl 2 pE (ix m.sT ((ix l i).1).toNat)),(63,int ((ix m.sT ((ix l i).1).toNat).length:Int)),(64,int (k1:Int))] [(3,cell b3 [sl 1 rE_ m.aC,sl 1 gE m.sT]),(4,cell b4 [sl 1 rE_ n.aC,sl 1 gE n.sT]),(5,cell b5 [sl 1 rE_ t.aC,sl 2 sE t.sT]),(10,cell b10 [int ((ix l i).1),int ((ix l i).2.1),int ((ix l i).2.2)]),(28,own v28 4 1 blE inn1),(30,own v1 168 3 triE l1)] _
   have hlf1:=tw_few hm hn ht hTN1.nd hTN1.rch
   have hinl1:=hTab1.len
   refine sq (rg (bi J J b_lss (nl (th (sq ?_)))))
   refine cd J (fun hc2=> ?_) (fun hc2=> ?_)
   ·try simp at hc2
    refine sk (th (sq (bk (sq (rg (iF J J T.sl88 O gB (lFA J T.agg94 (Nat.le_of_ble_eq_true J) (al (key:=12) T.z94 (eC (eC eZ)) fun b12=>(sPA (cs':= [int ((ix (ix m.sT ((ix l i).1).toNat) k1).1),int ((ix (ix m.sT ((ix l i).1).toNat) k1).2)]) J J J T.agg94 J J (nl (th (sq (rg (fP J T.fld38_1 (lP J J J T.one36 (iPA J J T.arr168 T.one3 J (lP J J J T.one3 (iF J J T.sl36 O gB (lF J J T.one88 (fc (slenI 73 J) fun hm73=>(lnF J T.sl88 (mv (nl (th (bk ?_)))))))))))))))))))))))))
    have hI2_0:0≤(ix n.sT ((ix l i).2.1).toNat).length:=by
     first|omega|simp
    have hI2_1:TN m n t i l k1 0 l1∧Tab m.sT.length n.sT.length t.sT.length l1 inn1:=by
     exact⟨hTN1,hTab1⟩
    refine lp (κ:=Nat × Value × (List (Int × Int × Int)) × (List Bool)) (fun p=> [(3,ptr 3 b3 0),(4,ptr 4 b4 0),(5,ptr 5 b5 0),(7,osl 28 v28),(8,osl 30 p.2.1),(9,int (i:Int)),(10,ptr 10 b10 0),(12,ptr 12 b12 0),(62,sl 2 pE (ix m.sT ((ix l i).1).toNat)),(63,int ((ix m.sT ((ix l i).1).toNat).length:Int)),(64,int (k1:Int)),(73,sl 2 pE (ix n.sT ((ix l i).2.1).toNat)),(74,int ((ix n.sT ((ix l i).2.1).toNat).length:Int)),(75,int (p.1:Int))]) (fun p=> [(3,cell b3 [sl 1 rE_ m.aC,sl 1 gE m.sT]),(4,cell b4 [sl 1 rE_ n.aC,sl 1 gE n.sT]),(5,cell b5 [sl 1 rE_ t.aC,sl 2 sE t.sT]),(10,cell b10 [int ((ix l i).1),int ((ix l i).2.1),int ((ix l i).2.2)]),(12,cell b12 [int ((ix (ix m.sT ((ix l i).1).toNat) k1).1),int ((ix (ix m.sT ((ix l i).1).toNat) k1).2)]),(28,own v28 4 1 blE p.2.2.2),(30,own p.2.1 168 3 triE p.2.2.1)]) (fun p=>(p.1≤(ix n.sT ((ix l i).2.1).toNat).length)∧(TN m n t i l k1 p.1 p.2.2.1∧Tab m.sT.length n.sT.length t.sT.length p.2.2.1 p.2.2.2)) (fun p=>(ix n.sT ((ix l i).2.1).toNat).length- p.1) ⟨0,v1,l1,inn1⟩ ⟨hI2_0,hI2_1⟩ ⟨id,id,id,id,id,id,id,id,id,id,id,id,id,id,tV⟩ ⟨rI,rI,rI,rI,rI,rI,rI,tV⟩ ?_
    intro⟨k2,v2,l2,inn2⟩ hG2
    obtain⟨hk2,⟨hTN2,hTab2⟩⟩:(k2≤(ix n.sT ((ix l i).2.1).toNat).length)∧(TN m n t i l k1 k2 l2∧Tab m.sT.length n.sT.length t.sT.length l2 inn2):=hG2
    show Ct _ _ _ _ [(3,ptr 3 b3 0),(4,ptr 4 b4 0),(5,ptr 5 b5 0),(7,osl 28 v28),(8,osl 30 v2),(9,int (i:Int)),(10,ptr 10 b10 0),(12,ptr 12 b12 0),(62,sl 2 pE (ix m.sT ((ix l i).1).toNat)),(63,int ((ix m.sT ((ix l i).1).toNat).length:Int)),(64,int (k1:Int)),(73,sl 2 pE (ix n.sT ((ix l i).2.1).toNat)),(74,int ((ix n.sT ((ix l i).2.1).toNat).length:Int)),(75,int (k2:Int))] [(3,cell b3 [sl 1 rE_ m.aC,sl 1 gE m.sT]),(4,cell b4 [sl 1 rE_ n.aC,sl 1 gE n.sT]),(5,cell b5 [sl 1 rE_ t.aC,sl 2 sE t.sT]),(10,cell b10 [int ((ix l i).1),int ((ix l i).2.1),int ((ix l i).2.2)]),(12,cell b12 [int ((ix (ix m.sT ((ix l i).1).toNat) k1).1),int ((ix (ix m.sT ((ix l i).1).toNat) k1).2)]),(28,own v28 4 1 blE inn2),(30,own v2 168 3 triE l2)] _
    have hlf2:=tw_few hm hn ht hTN2.nd hTN2.rch
    have hinl2:=hTab2.len
    refine sq (rg (bi J J b_lss (nl (th (sq ?_)))))
    refine cd J (fun hc3=> ?_) (fun hc3=> ?_)
    ·try simp at hc3
     have hdm:(ix (ix m.sT (ix l i).1.toNat) k1)∈edg m (ix l i).1.toNat:=ix_memS hc2
     have hen:(ix (ix n.sT (ix l i).2.1.toNat) k2)∈edg n (ix l i).2.1.toNat:=ix_memS hc3
     have hed:0≤(ix (ix m.sT (ix l i).1.toNat) k1).1∧(ix (ix m.sT (ix l i).1.toNat) k1).1<(m.aC.length:Int):=⟨(hm.ed _ O _ hdm).1,(hm.ed _ O _ hdm).2.1⟩
     refine sk (th (sq (bk (sq (rg (iF J J T.sl88 O gB (lFA J T.agg94 (Nat.le_of_ble_eq_true J) (al (key:=14) T.z94 (eC (eC eZ)) fun b14=>(sPA (cs':= [int ((ix (ix n.sT ((ix l i).2.1).toNat) k2).1),int ((ix (ix n.sT ((ix l i).2.1).toNat) k2).2)]) J J J T.agg94 J J (nl (th (sq (sq (rg (fP J T.fld94_0 (lP J J J T.one3 (fP J T.fld94_0 (lP J J J T.one3 (bi J J b_neq (nl (th ?_)))))))))))))))))))))
     refine cd J (fun hc4=> ?_) (fun hc4=> ?_)
     ·try simp at hc4
      refine ex (xt_ (xb (th (rg (bi J J (b_add i6) (mv (nl ?_)))))))
      have hN0:(k2+1)≤(ix n.sT ((ix l i).2.1).toNat).length:=by
       first|omega|simp_all
      have hN1:TN m n t i l k1 (k2+1) l2∧Tab m.sT.length n.sT.length t.sT.length l2 inn2:=by
       exact⟨tn_skip hTN2 hc3 (fun h=>absurd h hc4),hTab2⟩
      exact ln (⟨k2+1,v2,l2,inn2⟩:Nat × Value × (List (Int × Int × Int)) × (List Bool)) ⟨hN0,hN1⟩ dO ⟨id,id,id,id,id,id,id,id,id,id,id,id,id,id,tV⟩ ⟨rI,rI,rI,rI,rI,rI,rI,tV⟩
     ·try simp at hc4
      have hgt:0≤(ix (ix m.sT (ix l i).1.toNat) k1).2∧(ix (ix m.sT (ix l i).1.toNat) k1).2<(m.sT.length:Int)∧0≤(ix (ix n.sT (ix l i).2.1.toNat) k2).2∧(ix (ix n.sT (ix l i).2.1.toNat) k2).2<(n.sT.length:Int)∧0≤(ix (ix t.sT (ix l i).2.2.toNat).next (ix (ix m.sT (ix l i).1.toNat) k1).1.toNat)∧(ix (ix t.sT (ix l i).2.2.toNat).next (ix (ix m.sT (ix l i).1.toNat) k1).1.toNat)<(t.sT.length:Int)∧(ix (ix m.sT (ix l i).1.toNat) k1).1.toNat<t.aC.length:=goT hm hn ht ⟨hb0,hb1,hb2,hb3,hb4,hb5⟩ hnb hdm hen O
      obtain⟨q0,q1,q2,q3,q4,q5,q6⟩:=hgt
      have hcb:=code_bd q0 q1 q2 q3 q4 q5 hz
      have hbq:boxT m.sT.length n.sT.length t.sT.length ((ix (ix m.sT (ix l i).1.toNat) k1).2,(ix (ix n.sT (ix l i).2.1.toNat) k2).2,(ix (ix t.sT (ix l i).2.2.toNat).next (ix (ix m.sT (ix l i).1.toNat) k1).1.toNat)):=⟨q0,q1,q2,q3,q4,q5⟩
      have hcd:(((ix (ix m.sT (ix l i).1.toNat) k1).2*(n.sT.length:Int)+(ix (ix n.sT (ix l i).2.1.toNat) k2).2)*(t.sT.length:Int)+(ix (ix t.sT (ix l i).2.2.toNat).next (ix (ix m.sT (ix l i).1.toNat) k1).1.toNat)).toNat=codeT n.sT.length t.sT.length ((ix (ix m.sT (ix l i).1.toNat) k1).2,(ix (ix n.sT (ix l i).2.1.toNat) k2).2,(ix (ix t.sT (ix l i).2.2.toNat).next (ix (ix m.sT (ix l i).1.toNat) k1).1.toNat)):=by
       have h:=cast_code (b:=n.sT.length) (c:=t.sT.length) (p:=((ix (ix m.sT (ix l i).1.toNat) k1).2,(ix (ix n.sT (ix l i).2.1.toNat) k2).2,(ix (ix t.sT (ix l i).2.2.toNat).next (ix (ix m.sT (ix l i).1.toNat) k1).1.toNat))) q0 q2 q4
       have h:(((ix (ix m.sT (ix l i).1.toNat) k1).2*(n.sT.length:Int)+(ix (ix n.sT (ix l i).2.1.toNat) k2).2)*(t.sT.length:Int)+(ix (ix t.sT (ix l i).2.2.toNat).next (ix (ix m.sT (ix l i).1.toNat) k1).1.toNat))=(codeT n.sT.length t.sT.length ((ix (ix m.sT (ix l i).1.toNat) k1).2,(ix (ix n.sT (ix l i).2.1.toNat) k2).2,(ix (ix t.sT (ix l i).2.2.toNat).next (ix (ix m.sT (ix l i).1.toNat) k1).1.toNat)):Int):=h
       rw[h,Int.toNat_natCast]
      refine sk (th (sq ?_))
      refine drH (nh:=18) [0,1,0,4,0,16,0,64,240,496,1008,0,2048,8176,16368,32767,0,131071] [(none,[]),(none,[12]),(none,[]),(none,[14]),(none,[]),(none,[5]),(none,[]),(none,[10]),(none,[]),(none,[]),(none,[]),(none,[]),(none,[12]),(none,[]),(none,[]),(none,[]),(some 15,[]),(some 15,[15])] T.mixed kR kR ?_
      refine stv (d:=84) (fun β0=>ptr 12 b12 1) [] J (fun β β' hb=>J) (fun β0 _ _ _ _ gq gh kq=>fP (gq.1.trans J) T.fld94_1 kq) ?_
      refine stv (d:=85) (fun β0=>int ((ix (ix m.sT ((ix l i).1).toNat) k1).2)) [12] J (fun β β' hb=>J) (fun β0 _ _ _ _ gq gh kq=>lP (gq.1.trans J) (gh.1.trans J) J T.one3 kq) ?_
      refine stv (d:=86) (fun β0=>ptr 14 b14 1) [] J (fun β β' hb=>J) (fun β0 _ _ _ _ gq gh kq=>fP (gq.1.trans J) T.fld94_1 kq) ?_
      refine stv (d:=87) (fun β0=>int ((ix (ix n.sT ((ix l i).2.1).toNat) k2).2)) [14] J (fun β β' hb=>J) (fun β0 _ _ _ _ gq gh kq=>lP (gq.1.trans J) (gh.1.trans J) J T.one3 kq) ?_
      refine stv (d:=88) (fun β0=>ptr 5 b5 1) [] J (fun β β' hb=>J) (fun β0 _ _ _ _ gq gh kq=>fP (gq.1.trans J) T.fld25_1 kq) ?_
      refine stv (d:=89) (fun β0=>sl 2 sE t.sT) [5] J (fun β β' hb=>J) (fun β0 _ _ _ _ gq gh kq=>lP (gq.1.trans J) (gh.1.trans J) J T.one23 kq) ?_
      refine stv (d:=90) (fun β0=>ptr 10 b10 2) [] J (fun β β' hb=>J) (fun β0 _ _ _ _ gq gh kq=>iPA (gq.1.trans J) J T.arr168 T.one3 J kq) ?_
      refine stv (d:=91) (fun β0=>int ((ix l i).2.2)) [10] J (fun β β' hb=>J) (fun β0 _ _ _ _ gq gh kq=>lP (gq.1.trans J) (gh.1.trans J) J T.one3 kq) ?_
      refine stv (d:=92) (fun β0=>fp [sl 1 nE (ix t.sT ((ix l i).2.2).toNat).aP,sl 1 nE (ix t.sT ((ix l i).2.2).toNat).next]) [] J (fun β β' hb=>J) (fun β0 _ _ _ _ gq gh kq=>iF (gq.1.trans J) (gq.2.1.trans J) T.sl23 O gB kq) ?_
      refine stv (d:=93) (fun β0=>fp [sl 1 nE (ix t.sT ((ix l i).2.2).toNat).next]) [] J (fun β β' hb=>J) (fun β0 _ _ _ _ gq gh kq=>fF (gq.1.trans J) T.fld72_1 kq) ?_
      refine stv (d:=94) (fun β0=>sl 1 nE (ix t.sT ((ix l i).2.2).toNat).next) [] J (fun β β' hb=>J) (fun β0 _ _ _ _ gq gh kq=>lF (gq.1.trans J) J T.one63 kq) ?_
      refine stv (d:=95) (fun β0=>ptr 12 b12 0) [] J (fun β β' hb=>J) (fun β0 _ _ _ _ gq gh kq=>fP (gq.1.trans J) T.fld94_0 kq) ?_
      refine stv (d:=96) (fun β0=>int ((ix (ix m.sT ((ix l i).1).toNat) k1).1)) [12] J (fun β β' hb=>J) (fun β0 _ _ _ _ gq gh kq=>lP (gq.1.trans J) (gh.1.trans J) J T.one3 kq) ?_
      refine stv (d:=97) (fun β0=>fp [int (ix (ix t.sT ((ix l i).2.2).toNat).next ((ix (ix m.sT ((ix l i).1).toNat) k1).1).toNat)]) [] J (fun β β' hb=>J) (fun β0 _ _ _ _ gq gh kq=>iF (gq.1.trans J) (gq.2.1.trans J) T.sl63 O gB kq) ?_
      refine stv (d:=98) (fun β0=>int (ix (ix t.sT ((ix l i).2.2).toNat).next ((ix (ix m.sT ((ix l i).1).toNat) k1).1).toNat)) [] J (fun β β' hb=>J) (fun β0 _ _ _ _ gq gh kq=>lF (gq.1.trans J) J T.one3 kq) ?_
      refine stv (d:=99) (fun β0=>agg [int ((ix (ix m.sT ((ix l i).1).toNat) k1).2),int ((ix (ix n.sT ((ix l i).2.1).toNat) k2).2),int (ix (ix t.sT ((ix l i).2.2).toNat).next ((ix (ix m.sT ((ix l i).1).toNat) k1).1).toNat)]) [] J (fun β β' hb=>J) (fun β0 _ _ _ _ gq gh kq=>bd (css:= [(0,_),(1,_),(2,_)]) T.st168 (eC (eC (eC eZ))) ⟨J,J,p1 (φ:=int ((ix (ix m.sT ((ix l i).1).toNat) k1).2)) (by exact(gq.1.trans J)),⟨J,J,p1 (φ:=int ((ix (ix n.sT ((ix l i).2.1).toNat) k2).2)) (by exact(gq.2.1.trans J)),⟨J,J,p1 (φ:=int (ix (ix t.sT ((ix l i).2.2).toNat).next ((ix (ix m.sT ((ix l i).1).toNat) k1).1).toNat)) (by exact(gq.2.2.1.trans J)),tV⟩⟩⟩ kq) ?_
      refine sta 15 T.z168 (eC (eC (eC eZ))) ?_
      refine stw 15 (fun β0=>cell (gbk (β0 16)) [int ((ix (ix m.sT ((ix l i).1).toNat) k1).2),int ((ix (ix n.sT ((ix l i).2.1).toNat) k2).2),int (ix (ix t.sT ((ix l i).2.2).toNat).next ((ix (ix m.sT ((ix l i).1).toNat) k1).1).toNat)]) [15] J (fun β β' hb=>by first|rw[hb 16 J]|(dsimp only;rw[hb 16 J])) (fun β0 _ _ _ _ gq gh kq=>sPA (cs':= [int ((ix (ix m.sT ((ix l i).1).toNat) k1).2),int ((ix (ix n.sT ((ix l i).2.1).toNat) k2).2),int (ix (ix t.sT ((ix l i).2.2).toNat).next ((ix (ix m.sT ((ix l i).1).toNat) k1).1).toNat)]) (gq.1.trans J) (gh.1.trans J) (gq.2.1.trans J) T.agg168 J J kq) ?_
      refine pnH fun β0=>(nl (th (sq (rg (iPA J J T.arr168 T.one3 J (lP J J J T.one3 (fP J T.fld38_1 (lP J J J T.one36 (lnF J T.sl36 (bi J J (b_mul i6) (iPA J J T.arr168 T.one3 J (lP J J J T.one3 (bi J J (b_add i6) (fP J T.fld25_1 (lP J J J T.one23 (lnF J T.sl23 (bi J J (b_mul i6) (iPA J J T.arr168 T.one3 J (lP J J J T.one3 (bi J J (b_add i6) (ag (nl (th (sq (rg (mv (mv (iO J J J T.sl31 O O (lO J J gB J T.one4 (no J (nl (th ?_))))))))))))))))))))))))))))))))
      refine cd J (fun hc5=> ?_) (fun hc5=> ?_)
      ·skip
       have hnq:((ix (ix m.sT (ix l i).1.toNat) k1).2,(ix (ix n.sT (ix l i).2.1.toNat) k2).2,(ix (ix t.sT (ix l i).2.2.toNat).next (ix (ix m.sT (ix l i).1.toNat) k1).1.toNat))∉l2:=by
        rw[hcd,hTab2.at_ _ hbq] at hc5
        simpa using hc5
       refine sq (rg (mv (mv (iO J J J T.sl31 O O (sO (φ:=bl true) J J J T.one4 gB J (y':=true) J (nl (th (rg (mv (lPA J J T.agg168 J (bsE (enc:=triE) (xs:= [((ix (ix m.sT ((ix l i).1).toNat) k1).2,(ix (ix n.sT ((ix l i).2.1).toNat) k2).2,ix (ix t.sT ((ix l i).2.2).toNat).next ((ix (ix m.sT ((ix l i).1).toNat) k1).1).toNat)]) (css:= [[int ((ix (ix m.sT ((ix l i).1).toNat) k1).2),int ((ix (ix n.sT ((ix l i).2.1).toNat) k2).2),int (ix (ix t.sT ((ix l i).2.2).toNat).next ((ix (ix m.sT ((ix l i).1).toNat) k1).1).toNat)]]) T.mk169 ⟨J,J,pA (cs:= [int ((ix (ix m.sT ((ix l i).1).toNat) k1).2),int ((ix (ix n.sT ((ix l i).2.1).toNat) k2).2),int (ix (ix t.sT ((ix l i).2.2).toNat).next ((ix (ix m.sT ((ix l i).1).toNat) k1).1).toNat)]) J,tV⟩ J J J J (ap (key:=30) (zs:= [((ix (ix m.sT ((ix l i).1).toNat) k1).2,(ix (ix n.sT ((ix l i).2.1).toNat) k2).2,ix (ix t.sT ((ix l i).2.2).toNat).next ((ix (ix m.sT ((ix l i).1).toNat) k1).1).toNat)]) osl_eq J J J T.mk169 (by unfold maxL at*;simp;omega) (by unfold maxL at*;simp;omega) fun v127=>(ag (nl (eb (th (rg (bi J J (b_add i6) (mv (nl ?_))))))))))))))))))))
       have hN0:(k2+1)≤(ix n.sT ((ix l i).2.1).toNat).length:=by
        first|omega|simp_all
       have hN1:TN m n t i l k1 (k2+1) (l2++ [((ix (ix m.sT ((ix l i).1).toNat) k1).2,(ix (ix n.sT ((ix l i).2.1).toNat) k2).2,ix (ix t.sT ((ix l i).2.2).toNat).next ((ix (ix m.sT ((ix l i).1).toNat) k1).1).toNat)])∧Tab m.sT.length n.sT.length t.sT.length (l2++ [((ix (ix m.sT ((ix l i).1).toNat) k1).2,(ix (ix n.sT ((ix l i).2.1).toNat) k2).2,ix (ix t.sT ((ix l i).2.2).toNat).next ((ix (ix m.sT ((ix l i).1).toNat) k1).1).toNat)]) (inn2.set ((((((ix (ix m.sT ((ix l i).1).toNat) k1).2)*(n.sT.length:Int))+((ix (ix n.sT ((ix l i).2.1).toNat) k2).2))*(t.sT.length:Int))+(ix (ix t.sT ((ix l i).2.2).toNat).next ((ix (ix m.sT ((ix l i).1).toNat) k1).1).toNat)).toNat true):=by
        refine⟨tn_push hTW hTN2 hc0 hnb hc2 hc3 O hnq,?_⟩
        rw[hcd]
        exact tab_push hTab2 hbq
       exact ln (⟨k2+1,v127,l2++ [((ix (ix m.sT ((ix l i).1).toNat) k1).2,(ix (ix n.sT ((ix l i).2.1).toNat) k2).2,ix (ix t.sT ((ix l i).2.2).toNat).next ((ix (ix m.sT ((ix l i).1).toNat) k1).1).toNat)],inn2.set ((((((ix (ix m.sT ((ix l i).1).toNat) k1).2)*(n.sT.length:Int))+((ix (ix n.sT ((ix l i).2.1).toNat) k2).2))*(t.sT.length:Int))+(ix (ix t.sT ((ix l i).2.2).toNat).next ((ix (ix m.sT ((ix l i).1).toNat) k1).1).toNat)).toNat true⟩:Nat × Value × (List (Int × Int × Int)) × (List Bool)) ⟨hN0,hN1⟩ dO ⟨id,id,id,id,id,id,id,id,id,id,id,id,id,id,tV⟩ ⟨rI,rI,rI,rI,rI,rI,rI,tV⟩
      ·skip
       have hyq:((ix (ix m.sT (ix l i).1.toNat) k1).2,(ix (ix n.sT (ix l i).2.1.toNat) k2).2,(ix (ix t.sT (ix l i).2.2.toNat).next (ix (ix m.sT (ix l i).1.toNat) k1).1.toNat))∈l2:=by
        rw[hcd,hTab2.at_ _ hbq] at hc5
        simpa using hc5
       refine sk (eb (th (rg (bi J J (b_add i6) (mv (nl ?_))))))
       have hN0:(k2+1)≤(ix n.sT ((ix l i).2.1).toNat).length:=by
        first|omega|simp_all
       have hN1:TN m n t i l k1 (k2+1) l2∧Tab m.sT.length n.sT.length t.sT.length l2 inn2:=by
        exact⟨tn_skip hTN2 hc3 (fun _=>hyq),hTab2⟩
       exact ln (⟨k2+1,v2,l2,inn2⟩:Nat × Value × (List (Int × Int × Int)) × (List Bool)) ⟨hN0,hN1⟩ dO ⟨id,id,id,id,id,id,id,id,id,id,id,id,id,id,tV⟩ ⟨rI,rI,rI,rI,rI,rI,rI,tV⟩
    ·try simp at hc3
     refine ex (xt_ (xt_ (xb (eb (th (rg (bi J J (b_add i6) (mv (nl ?_)))))))))
     have hN0:(k1+1)≤(ix m.sT ((ix l i).1).toNat).length:=by
      first|omega|simp_all
     have hN1:TN m n t i l (k1+1) 0 l2∧Tab m.sT.length n.sT.length t.sT.length l2 inn2:=by
      exact⟨tn_row hTN2 hc2 (by show(ix n.sT (ix l i).2.1.toNat).length≤k2;omega),hTab2⟩
     exact ln (⟨k1+1,v2,l2,inn2⟩:Nat × Value × (List (Int × Int × Int)) × (List Bool)) ⟨hN0,hN1⟩ dO ⟨id,id,id,id,id,id,id,id,id,id,tV⟩ ⟨rI,rI,rI,rI,rI,rI,tV⟩
   ·try simp at hc2
    refine ex (xt_ (xt_ (xb (eb (th (rg (mv (bi J J (b_add i6) (ag (nl ?_))))))))))
    have hN0:TW m n t (i+1) l1∧Tab m.sT.length n.sT.length t.sT.length l1 inn1:=by
     exact⟨tn_end hTW hTN1 hc0 hnb (by show(ix m.sT (ix l i).1.toNat).length≤k1;omega),hTab1⟩
    exact ln (⟨i+1,v1,l1,inn1⟩:Nat × Value × (List (Int × Int × Int)) × (List Bool)) hN0 dO ⟨id,id,id,id,id,id,tV⟩ ⟨rI,rI,rI,rI,rI,tV⟩
 ·try simp at hc0
  refine ex (xt_ (xt_ (xb (th (sq (rg (ag (nl (th (rt ?_))))))))))
  have hr0:true=(togB m n t):=by
   rw[togB_iff.2 (tw_yes hTW O)]
  exact rE () [.tmp 6] J [bl true] ⟨.tmp J,tV⟩ (cA1 (fun x0=>rV [bl x0]) hr0) trivial eX
end divt
end
end Go.Proofs.YtcjemmihcplgdaaGreat
