/- The walks of the functions and the plain laws. Own texts of this claim, packed: Zdprodr, ZdForkM, Zdprodk. -/
import Derived.Test.YtcjemmihcplgdaaGreatDoorX24
import Derived.Test.YtcjemmihcplgdaaGreatDoorX21
set_option linter.all false
namespace Go.Proofs.YtcjemmihcplgdaaGreatDoor
open AL Go
set_option maxRecDepth 100000
section
open ref01 ref03 ref04 ref06 prog prog2 prog3 prog4 prog5 prog6 prog7 prog8 prog9 prog10 prog13 prog15 starts Part Rungs LeftM TrimM Itoa Keys RoundM MergeM BisM BisM4 BisM5 WalkM StepM WitM JudgM JudgM2 refw judg wit refj sysw satj divr divs divd dive divg divw divv LevM LevM2 ChsM TrimI QuoM FailM DivM RefM GenW CompM CrossM CompP EncM prodc divp prodm prodp BesM shelfI prodb
instance (l:List Int):OneAll (intsE l):=inferInstanceAs (OneAll [ints l])
theorem ix_fst {l:List Sd} {i:Nat} (h:i<l.length):ix (l.map Prod.fst) i=(ix l i).1:=by rw[ix_get (by simpa using h),List.getElem_map,ix_get h]
theorem ix_snd {l:List Sd} {i:Nat} (h:i<l.length):ix (l.map Prod.snd) i=(ix l i).2:=by rw[ix_get (by simpa using h),List.getElem_map,ix_get h]
structure PutI (m:SSys) (l:List Int) (k:Nat) (out:List Int):Prop where
 rise:out.Pairwise (· < ·)
 mem:∀u,u∈out↔u∈offL m (l.take k)
theorem puti_zero (m:SSys) (l:List Int):PutI m l 0 []:=⟨List.Pairwise.nil,fun u=>by simp[offL]⟩
theorem puti_next {m:SSys} {l:List Int} {k:Nat} {out:List Int} (h:PutI m l k out) (hk:k<l.length):PutI m l (k+1) (putS out (offM m (ix l k).toNat)):=by
 refine⟨put_rise h.rise _,fun u=> ?_⟩
 rw[put_mem,h.mem u,off_snoc hk,List.mem_append,List.mem_singleton]
theorem cross_congr {a a' b:List Int} (h:∀u,u∈a↔u∈a'):crossL a b=crossL a' b:=by
 unfold crossL
 congr 1
 funext u
 rw[Bool.eq_iff_iff,List.any_eq_true,List.any_eq_true]
 exact⟨fun⟨x,hx,g⟩=>⟨x,(h x).1 hx,g⟩,fun⟨x,hx,g⟩=>⟨x,(h x).2 hx,g⟩⟩
theorem refs_hol {m:SSys} {t:SS} (h:ix (hOl t) 0=true):RefS m t (tR t).1:= { hol:=fun _=>(by rw[trimmed_hol h]),num:=fun g=>(by rw[h] at g;cases g) }
theorem refs_num {m:SSys} {t:SS} (hm:okSys m) (ht:oK t) (hal:m.aC.length=(tR t).1.aC.length) (h:ix (hOl t) 0=false) {i:Nat} {l:List Sd} {outs:List SA} (hw:HW (sA m (tR t).1) (sN m (tR t).1) (sOk m (tR t).1) ([0],0) m.aC.length i l outs) (hi:l.length≤i):RefS m t ⟨m.aC,outs⟩:=by
 have hd:=hw_done (s_GS hm (trim_ok ht) hal) hw hi m.aC
 exact⟨fun g=>(by rw[h] at g;cases g),fun _=>⟨l,⟨hd.1,hw.okl,rfl⟩,Nat.le_trans hd.2 (trimS_len ht)⟩⟩
theorem find_no {l:List Sd} {q:Sd} {j:Nat} (h:∀x,x<j→ix l x≠q) (hj:l.length≤j):q∉l:=fun g=>by
 obtain⟨i,hi,e⟩:=List.getElem_of_mem g
 exact h i O (by rw[ix_get hi,e])
theorem find_pxa {l:List Sd} {q:Sd} {j:Nat} (h:∀x,x<j→ix l x≠q) (hj:j<l.length) (e:ix l j=q):j=pxa l q:=by
 have hm:q∈l:=by rw[←e];exact ix_memS hj
 have h1:pxa l q≤j:=QuoM.idx_le hj e
 have h2:ix l (pxa l q)=q:=QuoM.idx_at hm
 by_cases g:pxa l q<j
 ·exact absurd h2 (h _ g)
 ·omega
theorem hn_ix {A:Sd→List Int} {N:Sd→Nat→Sd} {ok:Sd→Prop} {i k:Nat} {l l2:List Sd} {nx:List Int} (h:HN A N ok i l k l2 nx) (hi:i<l.length):ix l2 i=ix l i∧i<l2.length:=⟨ix_pre h.pre hi,Nat.lt_of_lt_of_le hi h.pre.length_le⟩
theorem side_eq {p q:Sd} (h1:p.2=q.2) (h2:p.1=q.1):p=q:=Prod.ext h2 h1
namespace T
theorem ent56:Ent Tryz.prog 56:=ent_of kR
theorem ent57:Ent Tryz.prog 57:=ent_of kR
theorem ent58:Ent Tryz.prog 58:=ent_of kR
end T
namespace prodr
theorem RefBeside_ok (m:SSys) (t:SS) (hm:okSys m) (ht:oK t) (hmt:m.aC=t.aC) (hz:2^m.sT.length*t.sT.length≤10000):
 AL.Fn Tryz.prog 34 [sys m,spec t] [] (ι:= { D:SS//RefS m t D }) (fun _ i=>spec i.1) (fun _=> []):=by
 refine fnI Tryz.func34 rfl rfl (fun w0 F0=> ?_)
 have hT:=trim_ok ht;have hzz:=trimS_len (m:=m) ht;have f1:=hT.few1;have f2:=hm.few1;have hn8:=hT.n8;have hm8:=hm.n8
 have hMU:m.aC.length=(tR t).1.aC.length:=by rw[trim_acts,hmt]
 have hG:=s_GS hm hT hMU
 have hcz:=s_zero hm hT
 refine fcC (inhS 0 J) (fun hS0=> ?_)
 obtain⟨hma0,hms0,hme0⟩:=sys_lens hS0
 refine fcC (inhS 1 J) (fun hS1=> ?_)
 obtain⟨hsa1,hss1,hse1⟩:=sLn hS1
 refine sq (rg (bx (key:=2) (cs:= [sl 1 rE_ m.aC,sl 1 gE m.sT]) J fun b2=>(bx (key:=3) (cs:= [sl 1 rE_ t.aC,sl 2 sE t.sT]) J fun b3=>(al (key:=4) T.z25 (eC (eC eZ)) fun b4=>(nl (th (sq (rg (lPA J J T.agg25 J (cal0 (φs:= [agg [sl 1 rE_ t.aC,sl 2 sE t.sT]]) (φ:=tup [agg [sl 1 rE_ ((tR t).1).aC,sl 2 sE ((tR t).1).sT],sl 1 nE ((tR t).2)]) ⟨J,tV⟩ (divr.Trim_ok t aS) T.ent55 (mv (xt J J (xt J J (sPA (cs':= [sl 1 rE_ ((tR t).1).aC,sl 2 sE ((tR t).1).sT]) J J J T.agg25 J J (nl (th (sq (sq (rg (lPA J J T.agg25 J (cal0 (φs:= [agg [sl 1 rE_ ((tR t).1).aC,sl 2 sE ((tR t).1).sT]]) (φ:=bl (isNoneS ((tR t).1))) ⟨J,tV⟩ (divr.IsNone_ok ((tR t).1) O) T.ent56 (nl (th ?_)))))))))))))))))))))))
 refine cd J (fun hc0=> ?_) (fun hc0=> ?_)
 ·skip
  have hh:ix (hOl t) 0=true:=by rw[←isNone_trim ht];exact hc0
  refine sq (rg (lPA J J T.agg25 J (sPA (cs':= [sl 1 rE_ ((tR t).1).aC,sl 2 sE ((tR t).1).sT]) J J J T.agg25 J J (nl (th (rt (rt_ ?_)))))))
  exact rE ⟨(tR t).1,refs_hol hh⟩ [.cell 4 25] J [agg [sl 1 rE_ ((tR t).1).aC,sl 2 sE ((tR t).1).sT]] ⟨.agg J J T.agg25 J J,tV⟩ J trivial eX
 ·skip
  have hh:ix (hOl t) 0=false:=by rw[←isNone_trim ht];exact hc0
  refine sk (th (sq (rg (fP J T.fld43_0 (lP J J J T.one22 (appendF (enc:=rE_) (ys:=m.aC) J J T.mk22 mL (bd (css:= [(0,_)]) T.st25 (eC (eC eZ)) ⟨J,J,p1 (φ:=sl 1 rE_ m.aC) J,tV⟩ (al (key:=5) T.z25 (eC (eC eZ)) fun b5=>(sPA (cs':= [sl 1 rE_ m.aC,eqv (.slice none 0 0)]) J J J T.agg25 J J (nl (th (sq (rg (bsE (enc:=nE) (xs:= [0]) (css:= [[int 0]]) T.mk36 ⟨J,J,p1 (φ:=int 0) J,tV⟩ J J J J (bsO 31 (enc:=intsE) (xs:= [[0]]) (css:= [[sl 1 nE [0]]]) T.mk108 ⟨J,J,p1 (φ:=sl 1 nE [0]) J,tV⟩ J J J J fun v31=>(bsO 32 (enc:=nE) (xs:= [0]) (css:= [[int 0]]) T.mk36 ⟨J,J,p1 (φ:=int 0) J,tV⟩ J J J J fun v32=>(ag (ag (nl (th (sq (sq (rg (ag (nl (th (bk ?_)))))))))))))))))))))))))))
  refine nwC 50 81 2 sE (kncC 5 1 (osl 50 (.slice none 0 0)) rfl rfl eq_osl ?_)
  have hI0_0:HW (sA m (tR t).1) (sN m (tR t).1) (sOk m (tR t).1) ([0],0) m.aC.length 0 ([([0],0)]:List Sd) ([]:List SA):=by
   exact hw_zero hcz
  refine lp (κ:=Nat × Value × Value × (List Sd) × Value × (List SA)) (fun p=> [(2,ptr 2 b2 0),(3,ptr 3 b3 0),(4,ptr 4 b4 0),(5,ptr 5 b5 0),(6,osl 31 p.2.1),(7,osl 32 p.2.2.1),(8,int (p.1:Int))]) (fun p=> [(2,cell b2 [sl 1 rE_ m.aC,sl 1 gE m.sT]),(3,cell b3 [sl 1 rE_ ((tR t).1).aC,sl 2 sE ((tR t).1).sT]),(4,cell b4 [eqv (.slice none 0 0),eqv (.slice none 0 0)]),(5,cell b5 [sl 1 rE_ m.aC,osl 50 p.2.2.2.2.1]),(31,own p.2.1 36 1 intsE (p.2.2.2.1.map Prod.fst)),(32,own p.2.2.1 3 1 nE (p.2.2.2.1.map Prod.snd)),(50,own p.2.2.2.2.1 81 2 sE p.2.2.2.2.2)]) (fun p=>HW (sA m (tR t).1) (sN m (tR t).1) (sOk m (tR t).1) ([0],0) m.aC.length p.1 p.2.2.2.1 p.2.2.2.2.2) (fun p=>10001- p.1) ⟨0,v31,v32,([([0],0)]:List Sd),(.slice none 0 0),([]:List SA)⟩ hI0_0 ⟨id,id,id,id,id,id,id,tV⟩ ⟨rI,rI,rI,rI,rI,rI,rI,tV⟩ ?_
  intro⟨i,v,w,ql,v5,outs⟩ hG0
  have hHW:HW (sA m (tR t).1) (sN m (tR t).1) (sOk m (tR t).1) ([0],0) m.aC.length i ql outs:=hG0
  show Ct _ _ _ _ [(2,ptr 2 b2 0),(3,ptr 3 b3 0),(4,ptr 4 b4 0),(5,ptr 5 b5 0),(6,osl 31 v),(7,osl 32 w),(8,int (i:Int))] [(2,cell b2 [sl 1 rE_ m.aC,sl 1 gE m.sT]),(3,cell b3 [sl 1 rE_ ((tR t).1).aC,sl 2 sE ((tR t).1).sT]),(4,cell b4 [eqv (.slice none 0 0),eqv (.slice none 0 0)]),(5,cell b5 [sl 1 rE_ m.aC,osl 50 v5]),(31,own v 36 1 intsE (ql.map Prod.fst)),(32,own w 3 1 nE (ql.map Prod.snd)),(50,own v5 81 2 sE outs)] _
  have hlf:=hw_few hG hHW
  have hil:=hHW.il
  have hol:outs.length≤i:=by rw[hHW.out];simp;omega
  refine sq (sq (rg (mv (mv (lnO J J T.sl108 (bi J J b_lss (nl (th ?_))))))))
  refine cd J (fun hc1=> ?_) (fun hc1=> ?_)
  ·try simp at hc1
   have hc1q:i<ql.length:=by simpa using hc1
   have hPm:=ix_memS hc1q
   have hokP:=hHW.okl _ hPm
   have hx0:=hokP.x0;have hx1:=hokP.x1
   have hbd:=hokP.bd
   have hpl:=inc_le hokP.rise hokP.bd
   have hss:=hT.st (ix ql i).2.toNat O
   have hsl:=hss.len
   have hsa:=hss.ac
   have hs8:=hss.acl
   have e1:=ix_fst hc1q
   have e2:=ix_snd hc1q
   have hm1:(ql.map Prod.fst).length=ql.length:=List.length_map _
   have hm2:(ql.map Prod.snd).length=ql.length:=List.length_map _
   have hcl:(sA m (tR t).1 (ix ql i)).length≤256:=cross_len _ _
   have hcb:∀u∈(sA m (tR t).1 (ix ql i)),0≤u∧u<256:=fun u hu=>cross_sub hu
   have hcor:=or_bdC hcb
   refine sk (th (sq (bk (sq (rg (ag (kn 9 (sl 1 nE []) J slnil (nl (th (sq (sq (rg (mv (mv (iO J J J T.sl108 O O (lO J J gB J T.one36 (kn 42 (ints (ix ql i).1) J (by rw[e1];exact fun h=>h) (fc (slenI 42 J) fun hm42=>(lnF J T.sl36 (mv (nl (th (bk ?_)))))))))))))))))))))))
   have hI1_0:0≤(ix ql i).1.length:=by
    first|omega|simp
   have hI1_1:PutI m (ix ql i).1 0 ([]:List Int):=by
    exact puti_zero _ _
   refine lp (κ:=Nat × (List Int)) (fun p=> [(2,ptr 2 b2 0),(3,ptr 3 b3 0),(4,ptr 4 b4 0),(5,ptr 5 b5 0),(6,osl 31 v),(7,osl 32 w),(8,int (i:Int)),(9,sl 1 nE p.2),(42,sl 1 nE ((ix ql i).1)),(43,int (((ix ql i).1).length:Int)),(44,int (p.1:Int))]) (fun p=> [(2,cell b2 [sl 1 rE_ m.aC,sl 1 gE m.sT]),(3,cell b3 [sl 1 rE_ ((tR t).1).aC,sl 2 sE ((tR t).1).sT]),(4,cell b4 [eqv (.slice none 0 0),eqv (.slice none 0 0)]),(5,cell b5 [sl 1 rE_ m.aC,osl 50 v5]),(31,own v 36 1 intsE (ql.map Prod.fst)),(32,own w 3 1 nE (ql.map Prod.snd)),(50,own v5 81 2 sE outs)]) (fun p=>(p.1≤(ix ql i).1.length)∧(PutI m (ix ql i).1 p.1 p.2)) (fun p=>(ix ql i).1.length- p.1) ⟨0,([]:List Int)⟩ ⟨hI1_0,hI1_1⟩ ⟨id,id,id,id,id,id,id,id,id,id,id,tV⟩ ⟨rI,rI,rI,rI,rI,rI,rI,tV⟩ ?_
   intro⟨k1,out⟩ hG1
   obtain⟨hk1,hI1⟩:(k1≤(ix ql i).1.length)∧(PutI m (ix ql i).1 k1 out):=hG1
   show Ct _ _ _ _ [(2,ptr 2 b2 0),(3,ptr 3 b3 0),(4,ptr 4 b4 0),(5,ptr 5 b5 0),(6,osl 31 v),(7,osl 32 w),(8,int (i:Int)),(9,sl 1 nE out),(42,sl 1 nE ((ix ql i).1)),(43,int (((ix ql i).1).length:Int)),(44,int (k1:Int))] [(2,cell b2 [sl 1 rE_ m.aC,sl 1 gE m.sT]),(3,cell b3 [sl 1 rE_ ((tR t).1).aC,sl 2 sE ((tR t).1).sT]),(4,cell b4 [eqv (.slice none 0 0),eqv (.slice none 0 0)]),(5,cell b5 [sl 1 rE_ m.aC,osl 50 v5]),(31,own v 36 1 intsE (ql.map Prod.fst)),(32,own w 3 1 nE (ql.map Prod.snd)),(50,own v5 81 2 sE outs)] _
   have hobd:∀u∈out,0≤u∧u<256:=fun u hu=>off_bd hm (fun x hx=>hbd x (List.mem_of_mem_take hx)) u ((hI1.mem u).1 hu)
   have hoba:∀k,k<out.length→0≤ix out k∧ix out k<256:=fun k hk=>hobd _ (ix_memS hk)
   have hobl:out.length≤256:=rise_len hI1.rise hobd
   refine sq (rg (bi J J b_lss (nl (th (sq ?_)))))
   refine cd J (fun hc2=> ?_) (fun hc2=> ?_)
   ·try simp at hc2
    have hlk:=hbd _ (ix_memS (l:=(ix ql i).1) (i:=k1) O)
    have hoff:∀e∈ix m.sT (ix (ix ql i).1 k1).toNat,0≤e.1∧e.1<8:=fun e he=>by have:=hm.ed (ix (ix ql i).1 k1).toNat O e he;omega
    have hob:=offM_bd hm (x:=(ix (ix ql i).1 k1).toNat) O
    have hrs:=hI1.rise
    refine sk (th (sq (bk (sq (rg (iF J J T.sl36 O gB (lF J J T.one3 (ag (nl (th (rg (mv (lPA J J T.agg43 J (mv (cal0 (φs:= [agg [sl 1 rE_ m.aC,sl 1 gE m.sT],int (ix ((ix ql i).1) k1)]) (φ:=int (offM m (ix ((ix ql i).1) k1).toNat)) ⟨J,J,tV⟩ (divs.Offer_ok m (ix ((ix ql i).1) k1) aS O O) T.ent74 (cal0 (φs:= [sl 1 nE out,int (offM m (ix ((ix ql i).1) k1).toNat)]) (φ:=sl 1 nE (putS out (offM m (ix ((ix ql i).1) k1).toNat))) ⟨J,J,tV⟩ (prodm.Put_ok out aS (offM m (ix ((ix ql i).1) k1).toNat) O) T.ent81 (ag (nl (eb (th (rg (bi J J (b_add i6) (mv (nl ?_))))))))))))))))))))))))
    have hN0:(k1+1)≤(ix ql i).1.length:=by
     first|omega|simp_all
    have hN1:PutI m (ix ql i).1 (k1+1) (putS out (offM m (ix ((ix ql i).1) k1).toNat)):=by
     exact puti_next hI1 O
    exact ln (⟨k1+1,putS out (offM m (ix ((ix ql i).1) k1).toNat)⟩:Nat × (List Int)) ⟨hN0,hN1⟩ dO ⟨id,id,id,id,id,id,id,id,id,id,id,tV⟩ ⟨rI,rI,rI,rI,rI,rI,rI,tV⟩
   ·try simp at hc2
    have hcrs:crossL out (ix (tR t).1.sT (ix ql i).2.toNat).aP=(sA m (tR t).1 (ix ql i)):=by
     unfold sA
     exact cross_congr (fun u=>by rw[hI1.mem u,show k1=(ix ql i).1.length by omega,List.take_length])
    refine ex (xt_ (xt_ (xb (th (sq ?_)))))
    refine drH (nh:=14) [0,0,2,0,0,24,56,126,254,510,1023,2047,0,8191] [(none,[]),(none,[]),(none,[3]),(none,[]),(none,[]),(none,[32]),(none,[32]),(none,[]),(none,[]),(none,[]),(none,[]),(none,[]),(some 12,[]),(some 12,[12])] T.mixed kR kR ?_
    refine stv (d:=54) (fun β0=>sl 1 nE out) [] J (fun β β' hb=>J) (fun β0 _ _ _ _ gq gh kq=>mv' (gq.1.trans J) kq) ?_
    refine stv (d:=55) (fun β0=>ptr 3 b3 1) [] J (fun β β' hb=>J) (fun β0 _ _ _ _ gq gh kq=>fP (gq.1.trans J) T.fld25_1 kq) ?_
    refine stv (d:=56) (fun β0=>sl 2 sE ((tR t).1).sT) [3] J (fun β β' hb=>J) (fun β0 _ _ _ _ gq gh kq=>lP (gq.1.trans J) (gh.1.trans J) J T.one23 kq) ?_
    refine stv (d:=57) (fun β0=>osl 32 w) [] J (fun β β' hb=>J) (fun β0 _ _ _ _ gq gh kq=>mv' (gq.1.trans J) kq) ?_
    refine stv (d:=58) (fun β0=>int (i:Int)) [] J (fun β β' hb=>J) (fun β0 _ _ _ _ gq gh kq=>mv' (gq.1.trans J) kq) ?_
    refine stv (d:=59) (fun β0=>eptr 32 w 1 i 0) [32] J (fun β β' hb=>J) (fun β0 _ _ _ _ gq gh kq=>iO (gq.1.trans J) (gh.1.trans J) (gq.2.1.trans J) T.sl36 O O kq) ?_
    refine stv (d:=60) (fun β0=>int ((ix ql i).2)) [32] J (fun β β' hb=>J) (fun β0 _ _ _ _ gq gh kq=>lO (gq.1.trans J) (gh.1.trans J) gB J T.one3 (kd (φ':=int (ix ql i).2) (by rw[e2];exact fun h=>h) kq)) ?_
    refine stv (d:=61) (fun β0=>fp [sl 1 nE (ix ((tR t).1).sT ((ix ql i).2).toNat).aP,sl 1 nE (ix ((tR t).1).sT ((ix ql i).2).toNat).next]) [] J (fun β β' hb=>J) (fun β0 _ _ _ _ gq gh kq=>iF (gq.1.trans J) (gq.2.1.trans J) T.sl23 O gB kq) ?_
    refine stv (d:=62) (fun β0=>fp [sl 1 nE (ix ((tR t).1).sT ((ix ql i).2).toNat).aP,sl 1 nE (ix ((tR t).1).sT ((ix ql i).2).toNat).next]) [] J (fun β β' hb=>J) (fun β0 _ _ _ _ gq gh kq=>fF (gq.1.trans J) T.fld81_0 kq) ?_
    refine stv (d:=63) (fun β0=>sl 1 nE (ix ((tR t).1).sT ((ix ql i).2).toNat).aP) [] J (fun β β' hb=>J) (fun β0 _ _ _ _ gq gh kq=>lF (gq.1.trans J) J T.one36 kq) ?_
    refine stv (d:=64) (fun β0=>sl 1 nE (sA m (tR t).1 (ix ql i))) [] J (fun β β' hb=>J) (fun β0 _ _ _ _ gq gh kq=>cal0 (φs:= [sl 1 nE out,sl 1 nE (ix ((tR t).1).sT ((ix ql i).2).toNat).aP]) (φ:=sl 1 nE (crossL out (ix ((tR t).1).sT ((ix ql i).2).toNat).aP)) ⟨(gq.1.trans J),(gq.2.1.trans J),tV⟩ (prodm.bothR_ok out (ix ((tR t).1).sT ((ix ql i).2).toNat).aP aS aS aS aS) T.ent57 (kd (φ':=ints (sA m (tR t).1 (ix ql i))) (by rw[hcrs];exact fun h=>h) kq)) ?_
    refine stv (d:=65) (fun β0=>agg [sl 1 nE (sA m (tR t).1 (ix ql i)),eqv (.slice none 0 0)]) [] J (fun β β' hb=>J) (fun β0 _ _ _ _ gq gh kq=>bd (css:= [(0,_)]) T.st81 (eC (eC eZ)) ⟨J,J,p1 (φ:=sl 1 nE (sA m (tR t).1 (ix ql i))) (by exact(gq.1.trans J)),tV⟩ kq) ?_
    refine sta 12 T.z81 (eC (eC eZ)) ?_
    refine stw 12 (fun β0=>cell (gbk (β0 12)) [sl 1 nE (sA m (tR t).1 (ix ql i)),eqv (.slice none 0 0)]) [12] J (fun β β' hb=>by first|rw[hb 12 J]|(dsimp only;rw[hb 12 J])) (fun β0 _ _ _ _ gq gh kq=>sPA (cs':= [sl 1 nE (sA m (tR t).1 (ix ql i)),eqv (.slice none 0 0)]) (gq.1.trans J) (gh.1.trans J) (gq.2.1.trans J) T.agg81 J J kq) ?_
    refine pnH fun β0=>(nl (th (sq (rg (fP J T.fld81_0 (lP J J J T.one36 (cal0 (φs:= [sl 1 nE (sA m (tR t).1 (ix ql i))]) (φ:=int (orAll (sA m (tR t).1 (ix ql i)))) ⟨J,tV⟩ (prodm.union_ok (sA m (tR t).1 (ix ql i)) aS) T.ent58 (ag (nl (th (sq (sq (rg (fP J T.fld43_0 (lP J J J T.one22 (fc (slenI 70 J) fun hm70=>(lnF J T.sl22 (mv (nl (th (bk ?_)))))))))))))))))))))
    refine nwC 90 3 1 nE (kncC 12 1 (osl 90 (.slice none 0 0)) rfl rfl eq_osl ?_)
    have hI2_0:0≤m.aC.length:=by
     first|omega|simp
    have hI2_1:HN (sA m (tR t).1) (sN m (tR t).1) (sOk m (tR t).1) i ql 0 ql ([]:List Int):=by
     exact hn_zero hHW
    refine lp (κ:=Nat × Value × Value × (List Sd) × Value × (List Int)) (fun p=> [(2,ptr 2 b2 0),(3,ptr 3 b3 0),(4,ptr 4 b4 0),(5,ptr 5 b5 0),(6,osl 31 p.2.1),(7,osl 32 p.2.2.1),(8,int (i:Int)),(12,ptr 12 (gbk (β0 12)) 0),(13,int (orAll (sA m (tR t).1 (ix ql i)))),(71,int (m.aC.length:Int)),(72,int (p.1:Int))]) (fun p=> [(2,cell b2 [sl 1 rE_ m.aC,sl 1 gE m.sT]),(3,cell b3 [sl 1 rE_ ((tR t).1).aC,sl 2 sE ((tR t).1).sT]),(4,cell b4 [eqv (.slice none 0 0),eqv (.slice none 0 0)]),(5,cell b5 [sl 1 rE_ m.aC,osl 50 v5]),(12,cell (gbk (β0 12)) [sl 1 nE (sA m (tR t).1 (ix ql i)),osl 90 p.2.2.2.2.1]),(31,own p.2.1 36 1 intsE (p.2.2.2.1.map Prod.fst)),(32,own p.2.2.1 3 1 nE (p.2.2.2.1.map Prod.snd)),(50,own v5 81 2 sE outs),(90,own p.2.2.2.2.1 3 1 nE p.2.2.2.2.2)]) (fun p=>(p.1≤m.aC.length)∧(HN (sA m (tR t).1) (sN m (tR t).1) (sOk m (tR t).1) i ql p.1 p.2.2.2.1 p.2.2.2.2.2)) (fun p=>m.aC.length- p.1) ⟨0,v,w,ql,(.slice none 0 0),([]:List Int)⟩ ⟨hI2_0,hI2_1⟩ ⟨id,id,id,id,id,id,id,id,id,id,id,tV⟩ ⟨rI,rI,rI,rI,rI,rI,rI,rI,rI,tV⟩ ?_
    intro⟨k2,v2,w2,l2,v9,nx⟩ hG2
    obtain⟨hk2,hI2⟩:(k2≤m.aC.length)∧(HN (sA m (tR t).1) (sN m (tR t).1) (sOk m (tR t).1) i ql k2 l2 nx):=hG2
    show Ct _ _ _ _ [(2,ptr 2 b2 0),(3,ptr 3 b3 0),(4,ptr 4 b4 0),(5,ptr 5 b5 0),(6,osl 31 v2),(7,osl 32 w2),(8,int (i:Int)),(12,ptr 12 (gbk (β0 12)) 0),(13,int (orAll (sA m (tR t).1 (ix ql i)))),(71,int (m.aC.length:Int)),(72,int (k2:Int))] [(2,cell b2 [sl 1 rE_ m.aC,sl 1 gE m.sT]),(3,cell b3 [sl 1 rE_ ((tR t).1).aC,sl 2 sE ((tR t).1).sT]),(4,cell b4 [eqv (.slice none 0 0),eqv (.slice none 0 0)]),(5,cell b5 [sl 1 rE_ m.aC,osl 50 v5]),(12,cell (gbk (β0 12)) [sl 1 nE (sA m (tR t).1 (ix ql i)),osl 90 v9]),(31,own v2 36 1 intsE (l2.map Prod.fst)),(32,own w2 3 1 nE (l2.map Prod.snd)),(50,own v5 81 2 sE outs),(90,own v9 3 1 nE nx)] _
    have hnl:=hn_len hI2
    have hlf1:=hn_few hG hI2
    obtain⟨hixP,hil2⟩:=hn_ix hI2 hc1q
    have hn1:(l2.map Prod.fst).length=l2.length:=List.length_map _
    have hn2:(l2.map Prod.snd).length=l2.length:=List.length_map _
    have e3:ix (l2.map Prod.fst) i=(ix ql i).1:=by rw[ix_fst hil2,hixP]
    have e4:ix (l2.map Prod.snd) i=(ix ql i).2:=by rw[ix_snd hil2,hixP]
    refine sq (rg (bi J J b_lss (nl (th (sq ?_)))))
    refine cd J (fun hc3=> ?_) (fun hc3=> ?_)
    ·try simp at hc3
     refine sk (th (sq (bk (sq (rg (mv (ag (nl (th (sq (rg (ag (nl (th (sq (sq (rg (mv (mv (cal0 (φs:= [int (orAll (sA m (tR t).1 (ix ql i))),int (k2:Int)]) (φ:=bl (has (orAll (sA m (tR t).1 (ix ql i))) (k2:Int))) ⟨J,J,tV⟩ (ref01.Has_ok _ _ O O O O) T.ent59 (nl (th ?_))))))))))))))))))))))
     refine jn (κ:=Value × Value × (List Sd) × Int) (fun p=> [(2,ptr 2 b2 0),(3,ptr 3 b3 0),(4,ptr 4 b4 0),(5,ptr 5 b5 0),(6,osl 31 p.1),(7,osl 32 p.2.1),(8,int (i:Int)),(12,ptr 12 (gbk (β0 12)) 0),(13,int (orAll (sA m (tR t).1 (ix ql i)))),(15,int p.2.2.2),(71,int (m.aC.length:Int)),(72,int (k2:Int))]) (fun p=> [(2,cell b2 [sl 1 rE_ m.aC,sl 1 gE m.sT]),(3,cell b3 [sl 1 rE_ ((tR t).1).aC,sl 2 sE ((tR t).1).sT]),(4,cell b4 [eqv (.slice none 0 0),eqv (.slice none 0 0)]),(5,cell b5 [sl 1 rE_ m.aC,osl 50 v5]),(12,cell (gbk (β0 12)) [sl 1 nE (sA m (tR t).1 (ix ql i)),osl 90 v9]),(31,own p.1 36 1 intsE (p.2.2.1.map Prod.fst)),(32,own p.2.1 3 1 nE (p.2.2.1.map Prod.snd)),(50,own v5 81 2 sE outs),(90,own v9 3 1 nE nx)]) (fun p=>HN (sA m (tR t).1) (sN m (tR t).1) (sOk m (tR t).1) i ql (k2+1) p.2.2.1 (nx++ [p.2.2.2])) ?_ ?_
     ·
      refine cd J (fun hc4=> ?_) (fun hc4=> ?_)
      ·skip
       have hh3:has (orAll (sA m (tR t).1 (ix ql i))) (k2:Int)=true:=hc4
       obtain⟨hal9,hokN⟩:=sN_go hm hT hokP hh3
       refine sq (dr (nh:=21) [0,0,0,6,14,0,63,0,128,0,0,1536,3584,8064,16256,32640,0,130944,262016,127,1048575] T.mixed kR ?_)
       refine st_ J (fun _ _ _ gq kq=>lPA (gq.1.trans J) J T.agg43 J kq) ?_
       refine st_ J (fun _ _ _ gq kq=>mv' (gq.1.trans J) kq) ?_
       refine st_ J (fun _ _ _ gq kq=>mv' (gq.1.trans J) kq) ?_
       refine st_ J (fun _ _ _ gq kq=>iO (gq.1.trans J) J (gq.2.1.trans J) T.sl108 O O kq) ?_
       refine st_ J (fun _ _ _ gq kq=>lO (gq.1.trans J) J gB J T.one36 (kd (φ':=ints (ix ql i).1) (by rw[e3];exact fun h=>h) kq)) ?_
       refine st_ J (fun _ _ _ gq kq=>mv' (gq.1.trans J) kq) ?_
       refine st_ J (fun _ _ _ gq kq=>cal0 (φs:= [agg [sl 1 rE_ m.aC,sl 1 gE m.sT],sl 1 nE ((ix ql i).1),int (k2:Int)]) (φ:=sl 1 nE (nextM m ((ix ql i).1) (k2:Int))) ⟨(gq.1.trans J),(gq.2.1.trans J),(gq.2.2.1.trans J),tV⟩ (prodp.Next_ok m aS ((ix ql i).1) aS O (k2:Int)) T.ent82 kq) ?_
       refine st_ J (fun _ _ _ gq kq=>fP (gq.1.trans J) T.fld25_1 kq) ?_
       refine st_ J (fun _ _ _ gq kq=>lP (gq.1.trans J) J J T.one23 kq) ?_
       refine st_ J (fun _ _ _ gq kq=>mv' (gq.1.trans J) kq) ?_
       refine st_ J (fun _ _ _ gq kq=>mv' (gq.1.trans J) kq) ?_
       refine st_ J (fun _ _ _ gq kq=>iO (gq.1.trans J) J (gq.2.1.trans J) T.sl36 O O kq) ?_
       refine st_ J (fun _ _ _ gq kq=>lO (gq.1.trans J) J gB J T.one3 (kd (φ':=int (ix ql i).2) (by rw[e4];exact fun h=>h) kq)) ?_
       refine st_ J (fun _ _ _ gq kq=>iF (gq.1.trans J) (gq.2.1.trans J) T.sl23 O gB kq) ?_
       refine st_ J (fun _ _ _ gq kq=>fF (gq.1.trans J) T.fld81_1 kq) ?_
       refine st_ J (fun _ _ _ gq kq=>lF (gq.1.trans J) J T.one36 kq) ?_
       refine st_ J (fun _ _ _ gq kq=>mv' (gq.1.trans J) kq) ?_
       refine st_ J (fun _ _ _ gq kq=>iF (gq.1.trans J) (gq.2.1.trans J) T.sl36 O gB kq) ?_
       refine st_ J (fun _ _ _ gq kq=>lF (gq.1.trans J) J T.one3 kq) ?_
       refine st_ J (fun _ _ _ gq kq=>ag' (gq.1.trans J) kq) ?_
       refine st_ J (fun _ _ _ gq kq=>ag' (gq.1.trans J) kq) ?_
       refine pn (nl (th (sq (rg (ag (nl (th (sq (bk ?_)))))))))
       have hI3_0:0≤l2.length∧∀x,x<0→ix l2 x≠(sN m (tR t).1 (ix ql i) k2):=by
        exact⟨O,fun x hx=>by omega⟩
       refine lp (κ:=Nat) (fun p=> [(2,ptr 2 b2 0),(3,ptr 3 b3 0),(4,ptr 4 b4 0),(5,ptr 5 b5 0),(6,osl 31 v2),(7,osl 32 w2),(8,int (i:Int)),(12,ptr 12 (gbk (β0 12)) 0),(13,int (orAll (sA m (tR t).1 (ix ql i)))),(15,int (p:Int)),(16,sl 1 nE (nextM m ((ix ql i).1) (k2:Int))),(17,int (ix (ix ((tR t).1).sT ((ix ql i).2).toNat).next k2)),(71,int (m.aC.length:Int)),(72,int (k2:Int))]) (fun p=> [(2,cell b2 [sl 1 rE_ m.aC,sl 1 gE m.sT]),(3,cell b3 [sl 1 rE_ ((tR t).1).aC,sl 2 sE ((tR t).1).sT]),(4,cell b4 [eqv (.slice none 0 0),eqv (.slice none 0 0)]),(5,cell b5 [sl 1 rE_ m.aC,osl 50 v5]),(12,cell (gbk (β0 12)) [sl 1 nE (sA m (tR t).1 (ix ql i)),osl 90 v9]),(31,own v2 36 1 intsE (l2.map Prod.fst)),(32,own w2 3 1 nE (l2.map Prod.snd)),(50,own v5 81 2 sE outs),(90,own v9 3 1 nE nx)]) (fun p=>p≤l2.length∧∀x,x<p→ix l2 x≠(sN m (tR t).1 (ix ql i) k2)) (fun p=>l2.length- p) 0 hI3_0 ⟨id,id,id,id,id,id,id,id,id,id,id,id,id,id,tV⟩ ⟨rI,rI,rI,rI,rI,rI,rI,rI,rI,tV⟩ ?_
       intro j hG3
       obtain⟨hjl,hjn⟩:j≤l2.length∧∀x,x<j→ix l2 x≠(sN m (tR t).1 (ix ql i) k2):=hG3
       refine sq (sq (rg (mv (mv (lnO J J T.sl108 (bi J J b_lss (mv ?_)))))))
       apply gAnd (t:=101) (pd:=117) rfl
       rotate_left
       ·intro hg0 fin
        have hg0':=hg0
        try simp at hg0'
        refine gy rfl rfl rfl hg0 (mv (gy rfl rfl rfl hg0 (mv (gy rfl rfl rfl hg0 (iO rfl rfl rfl T.sl36 O O (gy rfl rfl rfl hg0 (lO rfl rfl gB rfl T.one3 (gy rfl rfl rfl hg0 (mv (gy rfl rfl rfl hg0 (bi rfl rfl b_neq (gy rfl rfl rfl hg0 (mv ?_)))))))))))))
        apply gOr (t:=108) (pd:=116) rfl
        rotate_left
        ·intro hg1 fin
         have hg1':=hg1
         try simp at hg1'
         exact gy J J J hg1 (mv (gy J J J hg1 (mv (gy J J J hg1 (iO J J J T.sl108 O O (gy J J J hg1 (lO J J gB J T.one36 (gy J J J hg1 (mv (gy J J J hg1 (cal0 (φs:= [sl 1 nE (ix (l2.map Prod.fst) j),sl 1 nE (nextM m ((ix ql i).1) (k2:Int))]) (φ:=bl (decide ((ix (l2.map Prod.fst) j)=(nextM m ((ix ql i).1) (k2:Int))))) ⟨J,J,tV⟩ (ref01.SameInts_ok _ _) T.ent41 (gy J J J hg1 (no J (gy J J J hg0 (pkF J hg1 J (drp (X:= [(115,_),(114,_),(113,_),(112,_),(111,_),(110,_),(109,_)]) ⟨J,J,J,J,J,J,J,tV⟩ fin))))))))))))))))
        ·intro hg1 fin
         exact gn J J J hg1 J J (gn J J J hg1 J J (gn J J J hg1 J J (gn J J J hg1 J J (gn J J J hg1 J J (gn J J J hg1 J J (gn J J J hg1 J J (gy J J J hg0 (pkT J hg1 J (drp (X:= [(115,_),(114,_),(113,_),(112,_),(111,_),(110,_),(109,_)]) ⟨J,J,J,J,J,J,J,tV⟩ fin)))))))))
        exact pkT rfl hg0 rfl (drp (X:= [(116,_),(108,_),(107,_),(106,_),(105,_),(104,_),(103,_),(102,_)]) ⟨rfl,rfl,rfl,rfl,rfl,rfl,rfl,rfl,tV⟩ fin)
       ·intro hg0 fin
        exact gn J J J hg0 J J (gn J J J hg0 J J (gn J J J hg0 J J (gn J J J hg0 J J (gn J J J hg0 J J (gn J J J hg0 J J (gn J J J hg0 J J (gu J J J J J (gu J J J J J (gu J J J J J (gu J J J J J (gu J J J J J (gu J J J J J (gu J J J J J (gn J J J hg0 J J (pkF J hg0 J (drp (X:= [(116,_),(115,_),(114,_),(113,_),(112,_),(111,_),(110,_),(109,_),(108,_),(107,_),(106,_),(105,_),(104,_),(103,_),(102,_)]) ⟨J,J,J,J,J,J,J,J,J,J,J,J,J,J,J,tV⟩ fin))))))))))))))))
       refine nl (th ?_)
       refine cd J (fun hc5=> ?_) (fun hc5=> ?_)
       ·try simp at hc5
        have hjq5:j<l2.length:=hc5.1
        have hne:ix l2 j≠(sN m (tR t).1 (ix ql i) k2):=fun e=>hc5.2.elim (fun h=>h (by rw[ix_snd hc5.1,e];rfl)) (fun h=>h (by rw[ix_fst hc5.1,e];rfl))
        refine sk (th (bk (rg (mv (bi J J (b_add i6) (ag (nl (eb ?_))))))))
        have hN0:(j+1)≤l2.length∧∀x,x<(j+1)→ix l2 x≠(sN m (tR t).1 (ix ql i) k2):=by
         refine⟨O,fun x hx=> ?_⟩
         by_cases e:x=j
         ·subst e;exact hne
         ·exact hjn x O
        exact ln (j+1) hN0 dO ⟨id,id,id,id,id,id,id,id,id,id,id,id,id,id,tV⟩ ⟨rI,rI,rI,rI,rI,rI,rI,rI,rI,tV⟩
       ·try simp at hc5
        refine ex (xt_ (xt_ (xb (th (sq (rg (mv (mv (lnO J J T.sl108 (bi J J b_eql (nl (th ?_))))))))))))
        refine cd J (fun hc6=> ?_) (fun hc6=> ?_)
        ·skip
         have hje:j=l2.length:=by have:=of_decide_eq_true hc6;omega
         have hnm:=find_no hjn O
         have hpu:pushL l2 (sN m (tR t).1 (ix ql i) k2)=l2++ [(sN m (tR t).1 (ix ql i) k2)]:=by unfold pushL;rw[if_neg hnm]
         have hpx:(j:Int)=(pxa l2 (sN m (tR t).1 (ix ql i) k2):Int):=by rw[hje];exact congrArg (fun(x:Nat)=>(x:Int)) (QuoM.idx_none hnm).symm
         refine rg (mv (mv (bsE (enc:=intsE) (xs:= [(nextM m ((ix ql i).1) (k2:Int))]) (css:= [[sl 1 nE (nextM m ((ix ql i).1) (k2:Int))]]) T.mk108 ⟨J,J,p1 (φ:=sl 1 nE (nextM m ((ix ql i).1) (k2:Int))) J,tV⟩ J J J J (ap (key:=31) (zs:= [(nextM m ((ix ql i).1) (k2:Int))]) osl_eq J J J T.mk108 (by unfold maxL at*;simp;omega) (by unfold maxL at*;simp;omega) fun v127=>(mv (mv (bsE (enc:=nE) (xs:= [(ix (ix ((tR t).1).sT ((ix ql i).2).toNat).next k2)]) (css:= [[int (ix (ix ((tR t).1).sT ((ix ql i).2).toNat).next k2)]]) T.mk36 ⟨J,J,p1 (φ:=int (ix (ix ((tR t).1).sT ((ix ql i).2).toNat).next k2)) J,tV⟩ J J J J (ap (key:=32) (zs:= [(ix (ix ((tR t).1).sT ((ix ql i).2).toNat).next k2)]) osl_eq J J J T.mk36 (by unfold maxL at*;simp;omega) (by unfold maxL at*;simp;omega) fun v131=>(ownEq (enc':=intsE) (ys:=((l2++ [(sN m (tR t).1 (ix ql i) k2)]).map Prod.fst)) 31 J (congrArg (List.map intsE) (by rw[List.map_append];rfl)) (ownEq (enc':=nE) (ys:=((l2++ [(sN m (tR t).1 (ix ql i) k2)]).map Prod.snd)) 32 J (congrArg (List.map nE) (by rw[List.map_append];rfl)) (ag (ag (nl ?_)))))))))))))
         have hN0:HN (sA m (tR t).1) (sN m (tR t).1) (sOk m (tR t).1) i ql (k2+1) (l2++ [(sN m (tR t).1 (ix ql i) k2)]) (nx++ [(j:Int)]):=by
          have hpl3:=hn_place hI2 hh3 hokN hpx
          rw[hpu] at hpl3;exact hpl3
         exact jx ⟨v127,v131,(l2++ [(sN m (tR t).1 (ix ql i) k2)]),(j:Int)⟩ hN0 ⟨id,id,id,id,id,id,id,id,id,id,id,id,tV⟩ ⟨rI,rI,rI,rI,rI,rI,rI,rI,rI,tV⟩
        ·skip
         have hje:j<l2.length:=by have:=of_decide_eq_false hc6;omega
         have hjq:ix l2 j=(sN m (tR t).1 (ix ql i) k2):=side_eq (by rw[←ix_snd hje];exact(hc5 hje).1) (by rw[←ix_fst hje];exact(hc5 hje).2)
         have hpu:pushL l2 (sN m (tR t).1 (ix ql i) k2)=l2:=by unfold pushL;rw[if_pos (by rw[←hjq];exact ix_memS hje)]
         have hpx:(j:Int)=(pxa l2 (sN m (tR t).1 (ix ql i) k2):Int):=by rw[←find_pxa hjn hje hjq]
         refine sk ?_
         have hN0:HN (sA m (tR t).1) (sN m (tR t).1) (sOk m (tR t).1) i ql (k2+1) l2 (nx++ [(j:Int)]):=by
          have hpl3:=hn_place hI2 hh3 hokN hpx
          rw[hpu] at hpl3;exact hpl3
         exact jx ⟨v2,w2,l2,(j:Int)⟩ hN0 ⟨id,id,id,id,id,id,id,id,id,id,id,id,tV⟩ ⟨rI,rI,rI,rI,rI,rI,rI,rI,rI,tV⟩
      ·skip
       have hh3:has (orAll (sA m (tR t).1 (ix ql i))) (k2:Int)=false:=hc4
       refine sk ?_
       have hN0:HN (sA m (tR t).1) (sN m (tR t).1) (sOk m (tR t).1) i ql (k2+1) l2 (nx++ [(-1:Int)]):=by
        exact hn_none hI2 hh3
       exact jx ⟨v2,w2,l2,(-1:Int)⟩ hN0 ⟨id,id,id,id,id,id,id,id,id,id,id,id,tV⟩ ⟨rI,rI,rI,rI,rI,rI,rI,rI,rI,tV⟩
     ·intro⟨v3,w3,l3,q⟩ hG
      have hJ4:HN (sA m (tR t).1) (sN m (tR t).1) (sOk m (tR t).1) i ql (k2+1) l3 (nx++ [q]):=hG
      skip
      show At _ _ _ [(2,ptr 2 b2 0),(3,ptr 3 b3 0),(4,ptr 4 b4 0),(5,ptr 5 b5 0),(6,osl 31 v3),(7,osl 32 w3),(8,int (i:Int)),(12,ptr 12 (gbk (β0 12)) 0),(13,int (orAll (sA m (tR t).1 (ix ql i)))),(15,int q),(71,int (m.aC.length:Int)),(72,int (k2:Int))] [(2,cell b2 [sl 1 rE_ m.aC,sl 1 gE m.sT]),(3,cell b3 [sl 1 rE_ ((tR t).1).aC,sl 2 sE ((tR t).1).sT]),(4,cell b4 [eqv (.slice none 0 0),eqv (.slice none 0 0)]),(5,cell b5 [sl 1 rE_ m.aC,osl 50 v5]),(12,cell (gbk (β0 12)) [sl 1 nE (sA m (tR t).1 (ix ql i)),osl 90 v9]),(31,own v3 36 1 intsE (l3.map Prod.fst)),(32,own w3 3 1 nE (l3.map Prod.snd)),(50,own v5 81 2 sE outs),(90,own v9 3 1 nE nx)]
      refine th (rg (fP rfl T.fld81_1 (lP rfl rfl rfl T.one36 (mv (bsE (enc:=nE) (xs:= [q]) (css:= [[int q]]) T.mk36 ⟨rfl,rfl,p1 (φ:=int q) rfl,tV⟩ rfl rfl rfl rfl (ap (key:=90) (zs:= [q]) osl_eq rfl rfl rfl T.mk36 (by unfold maxL at*;simp;omega) (by unfold maxL at*;simp;omega) fun v136=>(fP rfl T.fld81_1 (storePO rfl rfl rfl rfl T.one36 rfl (nl (eb (th (rg (bi rfl rfl (b_add i6) (mv (nl ?_)))))))))))))))
      have hN0:(k2+1)≤m.aC.length:=by
       first|omega|simp_all
      have hN1:HN (sA m (tR t).1) (sN m (tR t).1) (sOk m (tR t).1) i ql (k2+1) l3 (nx++ [q]):=by
       exact hJ4
      exact ln (⟨k2+1,v3,w3,l3,v136,nx++ [q]⟩:Nat × Value × Value × (List Sd) × Value × (List Int)) ⟨hN0,hN1⟩ dO ⟨id,id,id,id,id,id,id,id,id,id,id,tV⟩ ⟨rI,rI,rI,rI,rI,rI,rI,rI,rI,tV⟩
    ·try simp at hc3
     refine ex (xt_ (xt_ (xb (th (rg (fP J T.fld25_1 (lP J J J T.one23 (fzc 12 90 1 J J J J (lPA J J T.agg81 J (bsE (enc:=sE) (xs:= [(⟨sA m (tR t).1 (ix ql i),nx⟩)]) (css:= [[sl 1 nE (sA m (tR t).1 (ix ql i)),sl 1 nE nx]]) T.mk23 ⟨J,J,pA (cs:= [sl 1 nE (sA m (tR t).1 (ix ql i)),sl 1 nE nx]) J,tV⟩ J J J J (ap (key:=50) (zs:= [(⟨sA m (tR t).1 (ix ql i),nx⟩)]) osl_eq J J J T.mk23 (by unfold maxL at*;simp;omega) (by unfold maxL at*;simp;omega) fun v143=>(fP J T.fld25_1 (storePO J J J J T.one23 J (nl (eb (th (rg (mv (bi J J (b_add i6) (ag (nl ?_)))))))))))))))))))))
     have hN0:HW (sA m (tR t).1) (sN m (tR t).1) (sOk m (tR t).1) ([0],0) m.aC.length (i+1) l2 (outs++ [(⟨sA m (tR t).1 (ix ql i),nx⟩)]):=by
      rw[show k2=m.aC.length by omega] at hI2
      exact hw_next hG hHW hI2 hc1q
     exact ln (⟨i+1,v2,w2,l2,v143,outs++ [(⟨sA m (tR t).1 (ix ql i),nx⟩)]⟩:Nat × Value × Value × (List Sd) × Value × (List SA)) hN0 O ⟨id,id,id,id,id,id,id,tV⟩ ⟨rI,rI,rI,rI,rI,rI,rI,tV⟩
  ·try simp at hc1
   refine ex (xt_ (xt_ (xb (th (sq (rg (fzc 5 50 1 J J J J (lPA J J T.agg25 J (sPA (cs':= [sl 1 rE_ m.aC,sl 2 sE outs]) J J J T.agg25 J J (nl (th (rt ?_))))))))))))
   exact rE ⟨⟨m.aC,outs⟩,refs_num hm ht hMU hh hHW (by simpa using hc1)⟩ [.cell 4 25] J [agg [sl 1 rE_ m.aC,sl 2 sE outs]] ⟨.agg J J T.agg25 J J,tV⟩ J trivial eX
end prodr
end
section
namespace ForkM
open ref01 ref03 ref04 ref06 prog15 starts Part Rungs LeftM TrimM RoundM MergeM BisM BisM4 BisM5 BisM6 WalkM StepM WitM JudgM JudgM2 divr divs divd dive divg divw divv refj sysw judg ChsM BisS TrimI ValidM WitSat WitVal FailM FitM QuoM DivM RefM GenW CompM CompP EncM prodc prodm prodp
theorem parts_yes {s t:SS} {w:List Int} {u:Int} {z:(SSys × SSys) × Int} (hs:specOK s=true) (ht:specOK t=true) (hst:s.aC=t.aC) (hw:wordOK (s.aC.length:Int) w=true) (hp:partE s t w u=0) (hB:Both2 s t w u) (h:PartsOK s t w u z):
 z.2=0∧madeB z.1.1 s=true∧madeB z.1.2 t=true∧showB z.1.1 z.1.2 w u=true:=by
 obtain⟨h0,a,b,ha,hb,hab,hm,hn⟩:=h.some hp hB
 obtain⟨n1,n2⟩:=not_hol2 hB.1
 have hwl:=word_len hw
 have ls:s.sT.length≤500:=by unfold specOK at hs;simp only [Bool.and_eq_true,decide_eq_true_eq] at hs;exact hs.1.2
 have lt:t.sT.length≤500:=by unfold specOK at ht;simp only [Bool.and_eq_true,decide_eq_true_eq] at ht;exact ht.1.2
 obtain⟨g1,x,hx,ex⟩:=path_made (okSpec_of hs) ls n1 (fun k hk=>word_ix hw hk) O hB.2.1 ha hm
 obtain⟨g2,y,hy,ey⟩:=path_made (okSpec_of ht) lt n2 (fun k hk=>by rw[←hst];exact word_ix hw hk) O hB.2.2.1 hb hn
 refine⟨h0,g1,g2,?_⟩
 unfold showB
 exact List.any_eq_true.2 ⟨x,hx,List.any_eq_true.2 ⟨y,hy,decide_eq_true (by rw[ex,ey];exact hab)⟩⟩
theorem made_ok {m:SSys} {s:SS} (h:madeB m s=true):okSys m:=by
 unfold madeB at h
 rw[Bool.and_eq_true,Bool.and_eq_true] at h
 exact sysOK_ok h.1.1
def forkS:SS:=⟨[⟨#[97]⟩,⟨#[98]⟩],[⟨[1,2],[0,0]⟩]⟩
def wantS:SS:=⟨[⟨#[97]⟩,⟨#[98]⟩],[⟨[0,1,2],[0,0]⟩]⟩
theorem fork_valid:specOK forkS=true:=by decide+kernel
theorem want_valid:specOK wantS=true:=by decide+kernel
theorem fork_okS:oK forkS:=okSpec_of fork_valid
theorem want_okS:oK wantS:=okSpec_of want_valid
theorem fork_fine:fineE forkS forkS=0:=by
 unfold fineE
 rw[if_pos ⟨fork_valid,fork_valid⟩,if_pos rfl]
theorem fork_not:ix (hOl forkS) 0=false:=CompP.not_hol (by decide) (by decide)
theorem fork_hol:¬hol2 forkS forkS:=by
 unfold hol2
 rw[fork_not];simp
theorem fork_trim:(tR forkS).1=forkS:=by
 have hs:=fork_okS
 have hn:=fork_not
 have ho:ordS forkS= [0]:=by
  have h1:(ordS forkS).length≤1:=ord_le hs
  have h2:=ordS_pos forkS
  have h3:=BisM2.ord_zero forkS
  match hq:ordS forkS,h1,h2,h3 with
  | [y],_,_,h3=>rw[show y=0 from h3]
 have hk:keep forkS 0= [1,2]:=keep_all hs (by decide) (by decide)
 rw[trimmed_not hn]
 show(⟨forkS.aC,(ordS forkS).map (tstate forkS)⟩:SS)=forkS
 rw[ho]
 show(⟨forkS.aC,[tstate forkS 0]⟩:SS)=forkS
 unfold tstate tnext
 rw[show(0:Int).toNat=0 from rfl,hk,ho]
 decide
theorem fork_A:cA forkS forkS (0,0)= [0,1,2]:=by decide
theorem fork_ref:RefC forkS forkS wantS:=by
 refine⟨rfl,fun h=>absurd h fork_hol,fun _=>⟨[(0,0)],?_,by decide⟩⟩
 rw[fork_trim]
 refine⟨⟨rfl,by decide,by decide,rfl,fun i hi=> ?_,fun i hi=> ?_,fun i hi a ha=> ?_,fun i hi a ha hh=> ?_⟩,fun p hp=> ?_,rfl⟩
 ·obtain rfl:i=0:=by have hi:i<1:=hi;omega
  show _=cA forkS forkS (0,0)
  rw[fork_A];rfl
 ·obtain rfl:i=0:=by have hi:i<1:=hi;omega
  rfl
 ·obtain rfl:i=0:=by have hi:i<1:=hi;omega
  have hA:cA forkS forkS (ix [((0,0):PP)] 0)= [0,1,2]:=fork_A
  rw[hA]
  have ha:a<2:=ha
  match a,ha with
  |0,_=>decide
  |1,_=>decide
 ·obtain rfl:i=0:=by have hi:i<1:=hi;omega
  have ha:a<2:=ha
  match a,ha with
  |0,_=>decide
  |1,_=>decide
 ·rw[List.mem_singleton.1 hp];exact c_zero fork_okS fork_okS
theorem fork_com:(comS forkS forkS).2=true:=by
 cases e:(comS forkS forkS).2 with
 |true=>rfl
 |false=>
  have:=com_large fork_okS fork_okS e
  exact absurd this (by decide)
theorem fork_cmp:(cmpS forkS forkS).2=0∧fineR (cmpS forkS forkS).1 wantS=true:=by
 have hS:=com_same fork_okS fork_okS fork_ref (by decide) fork_com
 have e:cmpS forkS forkS=((comS forkS forkS).1,0):=by unfold cmpS;rw[if_pos fork_fine,if_pos fork_com]
 rw[e]
 exact⟨rfl,fine_same hS⟩
theorem fork_word:wordOK (forkS.aC.length:Int) [0,1]=true:=by decide
theorem fork_part:partE forkS forkS [0,1] 0=0:=by
 unfold partE
 rw[if_pos fork_fine,if_pos ⟨fork_word,by decide⟩]
theorem fork_both:Both2 forkS forkS [0,1] 0:=by
 refine⟨fork_hol,?_⟩
 rw[fork_trim]
 exact⟨by decide,by decide,1,by decide,2,by decide,by decide⟩
theorem fork_parts {z:(SSys × SSys) × Int} (h:PartsOK forkS forkS [0,1] 0 z):z.2=0∧madeB z.1.1 forkS=true∧madeB z.1.2 forkS=true∧showB z.1.1 z.1.2 [0,1] 0=true:=
 parts_yes fork_valid fork_valid rfl fork_word fork_part fork_both h
end ForkM
end
section
open ref01 ref03 ref04 ref06 prog prog2 prog3 prog4 prog5 prog6 prog7 prog8 prog9 prog13 prog15 starts Part Rungs LeftM TrimM Itoa Keys RoundM MergeM BisM BisM4 BisM5 WalkM StepM WitM JudgM JudgM2 refw judg wit refj sysw divr divs divd dive divg divw divv LevM LevM2 ChsM TrimI QuoM FailM DivM RefM GenW CompM CrossM CompP EncM prodc divp prodm prodp ForkM
theorem few_leC {s:SS} {k:Int} (h:few s k=true):(size s:Int)≤k:=by unfold few at h;simpa using h
namespace T
theorem ent53:Ent Tryz.prog 53:=ent_of kR
theorem ent15:Ent Tryz.prog 15:=ent_of kR
theorem ent22:Ent Tryz.prog 22:=ent_of kR
theorem ent24:Ent Tryz.prog 24:=ent_of kR
theorem ent25:Ent Tryz.prog 25:=ent_of kR
end T
namespace prodk
theorem fork_ok:
 Fn0 Tryz.prog 53 [] (spec forkS):=by
 refine fnI Tryz.func53 rfl rfl (fun w0 F0=> ?_)
 refine sq (rg (al (key:=0) T.z25 (eC (eC eZ)) fun b0=>(nl (th (sq (rg (bsE (enc:=rE_) (xs:= [({ data:= #[97] }),({ data:= #[98] })]) (css:= [[str ({ data:= #[97] })],[str ({ data:= #[98] })]]) T.mk22 ⟨J,J,p1 (φ:=str ({ data:= #[97] })) J,⟨J,J,p1 (φ:=str ({ data:= #[98] })) J,tV⟩⟩ J J J J (bsE (enc:=nE) (xs:= [1,2]) (css:= [[int 1],[int 2]]) T.mk36 ⟨J,J,p1 (φ:=int 1) J,⟨J,J,p1 (φ:=int 2) J,tV⟩⟩ J J J J (bsE (enc:=nE) (xs:= [0,0]) (css:= [[int 0],[int 0]]) T.mk36 ⟨J,J,p1 (φ:=int 0) J,⟨J,J,p1 (φ:=int 0) J,tV⟩⟩ J J J J (bd (css:= [(0,_),(1,_)]) T.st81 (eC (eC eZ)) ⟨J,J,p1 (φ:=sl 1 nE [1,2]) J,⟨J,J,p1 (φ:=sl 1 nE [0,0]) J,tV⟩⟩ (bsE (enc:=sE) (xs:= [(⟨[1,2],[0,0]⟩)]) (css:= [[sl 1 nE [1,2],sl 1 nE [0,0]]]) T.mk23 ⟨J,J,pA (cs:= [sl 1 nE [1,2],sl 1 nE [0,0]]) J,tV⟩ J J J J (bd (css:= [(0,_),(1,_)]) T.st25 (eC (eC eZ)) ⟨J,J,p1 (φ:=sl 1 rE_ [({ data:= #[97] }),({ data:= #[98] })]) J,⟨J,J,p1 (φ:=sl 2 sE [(⟨[1,2],[0,0]⟩)]) J,tV⟩⟩ (sPA (cs':= [sl 1 rE_ [({ data:= #[97] }),({ data:= #[98] })],sl 2 sE [(⟨[1,2],[0,0]⟩)]]) J J J T.agg25 J J (nl (th (rt ?_))))))))))))))))
 have hr0: [({ data:= #[97] }),({ data:= #[98] })]=forkS.aC:=by
  first|rfl|simp_all|omega
 have hr1: [(⟨[1,2],[0,0]⟩)]=forkS.sT:=by
  first|rfl|simp_all|omega
 exact rE () [.cell 0 25] J [agg [sl 1 rE_ [({ data:= #[97] }),({ data:= #[98] })],sl 2 sE [(⟨[1,2],[0,0]⟩)]]] ⟨.agg J J T.agg25 J J,tV⟩ (cA2 (fun x0 x1=>rV [agg [sl 1 rE_ x0,sl 2 sE x1]]) hr0 hr1) trivial eX
theorem awake_ok:
 AL.Fn Tryz.prog 12 [] [(998,ambH tab)] (ι:=Unit) (fun _ _=>bl true) (fun _=> []):=by
 refine fnI Tryz.func12 rfl rfl (fun w0 F0=> ?_)
 have hfk:smallSpec forkS:=fork_okS.small;have hfo:=fork_okS;have hwo:=want_okS
 refine tbH 9999 998 rfl ?_
 refine sq (rg (ag (nl (th (sq (rg (cal0 (φs:= []) (φ:=agg [sl 1 rE_ forkS.aC,sl 2 sE forkS.sT]) trivial prodk.fork_ok T.ent53 (cal0 (φs:= []) (φ:=agg [sl 1 rE_ forkS.aC,sl 2 sE forkS.sT]) trivial prodk.fork_ok T.ent53 (tbU (ψ:=tab) 8 9999 J J (cal0 (φs:= [both (agg [sl 1 rE_ forkS.aC,sl 2 sE forkS.sT]) tab,agg [sl 1 rE_ forkS.aC,sl 2 sE forkS.sT]]) (φ:=tup [agg [sl 1 rE_ ((cmpS forkS forkS).1).aC,sl 2 sE ((cmpS forkS forkS).1).sT],int ((cmpS forkS forkS).2)]) ⟨J,J,tV⟩ (prodc.Compose_ok forkS forkS aS aS) T.ent15 (mv (xt J J (xt J J (al (key:=1) T.z25 (eC (eC eZ)) fun b1=>(sPA (cs':= [sl 1 rE_ ((cmpS forkS forkS).1).aC,sl 2 sE ((cmpS forkS forkS).1).sT]) J J J T.agg25 J J (ag (nl (th (sq (rg (bsE (enc:=rE_) (xs:= [({ data:= #[97] }),({ data:= #[98] })]) (css:= [[str ({ data:= #[97] })],[str ({ data:= #[98] })]]) T.mk22 ⟨J,J,p1 (φ:=str ({ data:= #[97] })) J,⟨J,J,p1 (φ:=str ({ data:= #[98] })) J,tV⟩⟩ J J J J (bsE (enc:=nE) (xs:= [0,1,2]) (css:= [[int 0],[int 1],[int 2]]) T.mk36 ⟨J,J,p1 (φ:=int 0) J,⟨J,J,p1 (φ:=int 1) J,⟨J,J,p1 (φ:=int 2) J,tV⟩⟩⟩ J J J J (bsE (enc:=nE) (xs:= [0,0]) (css:= [[int 0],[int 0]]) T.mk36 ⟨J,J,p1 (φ:=int 0) J,⟨J,J,p1 (φ:=int 0) J,tV⟩⟩ J J J J (bd (css:= [(0,_),(1,_)]) T.st81 (eC (eC eZ)) ⟨J,J,p1 (φ:=sl 1 nE [0,1,2]) J,⟨J,J,p1 (φ:=sl 1 nE [0,0]) J,tV⟩⟩ (bsE (enc:=sE) (xs:= [(⟨[0,1,2],[0,0]⟩)]) (css:= [[sl 1 nE [0,1,2],sl 1 nE [0,0]]]) T.mk23 ⟨J,J,pA (cs:= [sl 1 nE [0,1,2],sl 1 nE [0,0]]) J,tV⟩ J J J J (bd (css:= [(0,_),(1,_)]) T.st25 (eC (eC eZ)) ⟨J,J,p1 (φ:=sl 1 rE_ [({ data:= #[97] }),({ data:= #[98] })]) J,⟨J,J,p1 (φ:=sl 2 sE [(⟨[0,1,2],[0,0]⟩)]) J,tV⟩⟩ (kn 18 (spec wantS) J (fun h=>h) (al (key:=3) T.z25 (eC (eC eZ)) fun b3=>(sPA (cs':= [sl 1 rE_ wantS.aC,sl 2 sE wantS.sT]) J J J T.agg25 J J (nl (th (sq (rg (cal0 (φs:= []) (φ:=agg [sl 1 rE_ forkS.aC,sl 2 sE forkS.sT]) trivial prodk.fork_ok T.ent53 (cal0 (φs:= []) (φ:=agg [sl 1 rE_ forkS.aC,sl 2 sE forkS.sT]) trivial prodk.fork_ok T.ent53 (bsE (enc:=nE) (xs:= [0,1]) (css:= [[int 0],[int 1]]) T.mk36 ⟨J,J,p1 (φ:=int 0) J,⟨J,J,p1 (φ:=int 1) J,tV⟩⟩ J J J J (cl (prodp.Parts_ok forkS forkS aS aS [0,1] 0) T.ent22 trivial fun N23 i23=> ?_)))))))))))))))))))))))))))))))))))))
 have hpf:=fork_parts i23.2
 have hm1:=made_ok hpf.2.1
 have hm2:=made_ok hpf.2.2.1
 refine mv (xt rfl rfl (xt rfl rfl (xt rfl rfl (al (key:=4) T.z43 (eC (eC eZ)) fun b4=>(al (key:=5) T.z43 (eC (eC eZ)) fun b5=>(sPA (cs':= [sl 1 rE_ i23.1.1.1.aC,sl 1 gE i23.1.1.1.sT]) rfl rfl rfl T.agg43 rfl rfl (sPA (cs':= [sl 1 rE_ i23.1.1.2.aC,sl 1 gE i23.1.1.2.sT]) rfl rfl rfl T.agg43 rfl rfl (ag (nl (th (sq (dr (nh:=28) [0,1,3,7,7,31,63,127,255,511,1023,2047,4095,4095,16383,32767,65535,131071,131071,524287,1048575,2097151,4194303,4194303,4194303,33554431,67108863,134217727] T.mixed kR ?_))))))))))))
 refine st_ J (fun _ _ _ gq kq=>mv' (gq.1.trans J) kq) ?_
 refine st_ J (fun _ _ _ gq kq=>bi (gq.1.trans J) J b_eql kq) ?_
 refine st_ J (fun _ _ _ gq kq=>mv' (gq.1.trans J) kq) ?_
 refine sg_ (φ:=agg [sl 1 rE_ ((cmpS forkS forkS).1).aC,sl 2 sE ((cmpS forkS forkS).1).sT]) J J J J (List.mem_of_elem_eq_true J) (fun hgd=> ?_) ?_
 ·have hgd':=hgd
  try simp at hgd'
  exact fun _ _ _ gq kq=>lPA (gq.1.trans J) J T.agg25 J kq
 refine sg_ (φ:=agg [sl 1 rE_ wantS.aC,sl 2 sE wantS.sT]) J J J J (List.mem_of_elem_eq_true J) (fun hgd=> ?_) ?_
 ·have hgd':=hgd
  try simp at hgd'
  exact fun _ _ _ gq kq=>lPA (gq.1.trans J) J T.agg25 J kq
 refine sg_ (φ:=bl (fineR ((cmpS forkS forkS).1) wantS)) J J J J (List.mem_of_elem_eq_true J) (fun hgd=> ?_) ?_
 ·have hgd':=hgd
  try simp at hgd'
  exact fun _ _ _ gq kq=>cal0 (φs:= [agg [sl 1 rE_ ((cmpS forkS forkS).1).aC,sl 2 sE ((cmpS forkS forkS).1).sT],agg [sl 1 rE_ wantS.aC,sl 2 sE wantS.sT]]) (φ:=bl (fineR ((cmpS forkS forkS).1) wantS)) ⟨(gq.1.trans (gif_t hgd)),(gq.2.1.trans (gif_t hgd)),tV⟩ (dive.Fine_ok ((cmpS forkS forkS).1) wantS aS) T.ent54 kq
 refine st_ J (fun _ _ _ gq kq=>pk (gq.1.trans J) (pk_and (x:= .tmp 29) (gq.1.trans J) (gq.2.1.trans J) J) kq) ?_
 refine st_ J (fun _ _ _ gq kq=>mv' (gq.1.trans J) kq) ?_
 refine sg_ (φ:=int i23.1.2) J J J J (List.mem_of_elem_eq_true J) (fun hgd=> ?_) ?_
 ·have hgd':=hgd
  try simp at hgd'
  exact fun _ _ _ gq kq=>mv' (gq.1.trans J) kq
 refine sg_ (φ:=bl (decide (i23.1.2=0))) J J J J (List.mem_of_elem_eq_true J) (fun hgd=> ?_) ?_
 ·have hgd':=hgd
  try simp at hgd'
  exact fun _ _ _ gq kq=>bi (gq.1.trans (gif_t hgd)) J b_eql kq
 refine st_ J (fun _ _ _ gq kq=>pk (gq.1.trans J) (pk_and (x:= .tmp 34) (gq.1.trans J) (gq.2.1.trans J) J) kq) ?_
 refine st_ J (fun _ _ _ gq kq=>mv' (gq.1.trans J) kq) ?_
 refine sg_ (φ:=agg [sl 1 rE_ i23.1.1.1.aC,sl 1 gE i23.1.1.1.sT]) J J J J (List.mem_of_elem_eq_true J) (fun hgd=> ?_) ?_
 ·have hgd':=hgd
  try simp at hgd'
  exact fun _ _ _ gq kq=>lPA (gq.1.trans J) J T.agg43 J kq
 refine sg_ (φ:=agg [sl 1 rE_ forkS.aC,sl 2 sE forkS.sT]) J J J J (List.mem_of_elem_eq_true J) (fun hgd=> ?_) ?_
 ·have hgd':=hgd
  try simp at hgd'
  exact fun _ _ _ gq kq=>cal0 (φs:= []) (φ:=agg [sl 1 rE_ forkS.aC,sl 2 sE forkS.sT]) trivial prodk.fork_ok T.ent53 kq
 refine sg_ (φ:=bl (madeB i23.1.1.1 forkS)) J J J J (List.mem_of_elem_eq_true J) (fun hgd=> ?_) ?_
 ·have hgd':=hgd
  try simp at hgd'
  exact fun _ _ _ gq kq=>cal0 (φs:= [agg [sl 1 rE_ i23.1.1.1.aC,sl 1 gE i23.1.1.1.sT],agg [sl 1 rE_ forkS.aC,sl 2 sE forkS.sT]]) (φ:=bl (madeB i23.1.1.1 forkS)) ⟨(gq.1.trans (gif_t hgd)),(gq.2.1.trans (gif_t hgd)),tV⟩ (divg.Made_ok i23.1.1.1 forkS aS) T.ent24 kq
 refine st_ J (fun _ _ _ gq kq=>pk (gq.1.trans J) (pk_and (x:= .tmp 38) (gq.1.trans J) (gq.2.1.trans J) J) kq) ?_
 refine st_ J (fun _ _ _ gq kq=>mv' (gq.1.trans J) kq) ?_
 refine sg_ (φ:=agg [sl 1 rE_ i23.1.1.2.aC,sl 1 gE i23.1.1.2.sT]) J J J J (List.mem_of_elem_eq_true J) (fun hgd=> ?_) ?_
 ·have hgd':=hgd
  try simp at hgd'
  exact fun _ _ _ gq kq=>lPA (gq.1.trans J) J T.agg43 J kq
 refine sg_ (φ:=agg [sl 1 rE_ forkS.aC,sl 2 sE forkS.sT]) J J J J (List.mem_of_elem_eq_true J) (fun hgd=> ?_) ?_
 ·have hgd':=hgd
  try simp at hgd'
  exact fun _ _ _ gq kq=>cal0 (φs:= []) (φ:=agg [sl 1 rE_ forkS.aC,sl 2 sE forkS.sT]) trivial prodk.fork_ok T.ent53 kq
 refine sg_ (φ:=bl (madeB i23.1.1.2 forkS)) J J J J (List.mem_of_elem_eq_true J) (fun hgd=> ?_) ?_
 ·have hgd':=hgd
  try simp at hgd'
  exact fun _ _ _ gq kq=>cal0 (φs:= [agg [sl 1 rE_ i23.1.1.2.aC,sl 1 gE i23.1.1.2.sT],agg [sl 1 rE_ forkS.aC,sl 2 sE forkS.sT]]) (φ:=bl (madeB i23.1.1.2 forkS)) ⟨(gq.1.trans (gif_t hgd)),(gq.2.1.trans (gif_t hgd)),tV⟩ (divg.Made_ok i23.1.1.2 forkS aS) T.ent24 kq
 refine st_ J (fun _ _ _ gq kq=>pk (gq.1.trans J) (pk_and (x:= .tmp 43) (gq.1.trans J) (gq.2.1.trans J) J) kq) ?_
 refine st_ J (fun _ _ _ gq kq=>mv' (gq.1.trans J) kq) ?_
 refine sg_ (φ:=agg [sl 1 rE_ i23.1.1.1.aC,sl 1 gE i23.1.1.1.sT]) J J J J (List.mem_of_elem_eq_true J) (fun hgd=> ?_) ?_
 ·have hgd':=hgd
  try simp at hgd'
  exact fun _ _ _ gq kq=>lPA (gq.1.trans J) J T.agg43 J kq
 refine sg_ (φ:=agg [sl 1 rE_ i23.1.1.2.aC,sl 1 gE i23.1.1.2.sT]) J J J J (List.mem_of_elem_eq_true J) (fun hgd=> ?_) ?_
 ·have hgd':=hgd
  try simp at hgd'
  exact fun _ _ _ gq kq=>lPA (gq.1.trans J) J T.agg43 J kq
 refine sg_ (φ:=sl 1 nE [0,1]) J J J J (List.mem_of_elem_eq_true J) (fun hgd=> ?_) ?_
 ·have hgd':=hgd
  try simp at hgd'
  exact fun _ _ _ gq kq=>bsE (enc:=nE) (xs:= [0,1]) (css:= [[int 0],[int 1]]) T.mk36 ⟨J,J,p1 (φ:=int 0) J,⟨J,J,p1 (φ:=int 1) J,tV⟩⟩ J J J J kq
 refine sg_ (φ:=bl (showB i23.1.1.1 i23.1.1.2 [0,1] 0)) J J J J (List.mem_of_elem_eq_true J) (fun hgd=> ?_) ?_
 ·have hgd':=hgd
  try simp at hgd'
  exact fun _ _ _ gq kq=>cal0 (φs:= [agg [sl 1 rE_ i23.1.1.1.aC,sl 1 gE i23.1.1.1.sT],agg [sl 1 rE_ i23.1.1.2.aC,sl 1 gE i23.1.1.2.sT],sl 1 nE [0,1],int 0]) (φ:=bl (showB i23.1.1.1 i23.1.1.2 [0,1] 0)) ⟨(gq.1.trans (gif_t hgd)),(gq.2.1.trans (gif_t hgd)),(gq.2.2.1.trans (gif_t hgd)),J,tV⟩ (prodp.Shows_ok i23.1.1.1 i23.1.1.2 aS aS [0,1] 0) T.ent25 kq
 refine st_ J (fun _ _ _ gq kq=>pk (gq.1.trans J) (pk_and (x:= .tmp 48) (gq.1.trans J) (gq.2.1.trans J) J) kq) ?_
 refine st_ J (fun _ _ _ gq kq=>ag' (gq.1.trans J) kq) ?_
 refine pn (nl (th (rt ?_)))
 have hr0:((((((decide (((cmpS forkS forkS).2)=0))&&(fineR ((cmpS forkS forkS).1) wantS))&&(decide (i23.1.2=0)))&&(madeB i23.1.1.1 forkS))&&(madeB i23.1.1.2 forkS))&&(showB i23.1.1.1 i23.1.1.2 [0,1] 0))=true:=by
  have h1:=fork_cmp
  rw[h1.2,hpf.2.1,hpf.2.2.1,hpf.2.2.2,decide_eq_true h1.1,decide_eq_true hpf.1];rfl
 exact rE () [.tmp 0] J [bl ((((((decide (((cmpS forkS forkS).2)=0))&&(fineR ((cmpS forkS forkS).1) wantS))&&(decide (i23.1.2=0)))&&(madeB i23.1.1.1 forkS))&&(madeB i23.1.1.2 forkS))&&(showB i23.1.1.1 i23.1.1.2 [0,1] 0))] ⟨.tmp J,tV⟩ (cA1 (fun x0=>rV [bl x0]) hr0) trivial eX
end prodk
end
end Go.Proofs.YtcjemmihcplgdaaGreatDoor
