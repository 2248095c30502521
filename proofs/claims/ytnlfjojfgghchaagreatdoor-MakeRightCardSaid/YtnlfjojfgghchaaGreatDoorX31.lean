/- The walks of the functions and the plain laws. Own texts of this claim, packed: Mkmks, Mkmks2, MkFixM, Mkmkv, Mkmkw. -/
import Derived.Test.YtnlfjojfgghchaaGreatDoorX29
import Derived.Test.YtnlfjojfgghchaaGreatDoorX22
import Derived.Test.YtnlfjojfgghchaaGreatDoorX06
import Derived.Test.YtnlfjojfgghchaaGreatDoorX30
import Derived.Test.YtnlfjojfgghchaaGreatDoorX23
import Derived.Test.YtnlfjojfgghchaaGreatDoorX14
set_option linter.all false
namespace Go.Proofs.YtnlfjojfgghchaaGreatDoor
open AL Go
set_option maxRecDepth 100000
section
open ref01 ref03 ref04 ref06 prog prog2 prog3 prog4 prog5 prog6 prog7 prog8 prog9 prog13 prog15 starts Part Rungs LeftM TrimM RoundM MergeM BisM BisM4 BisM5 Itoa Keys WalkM StepM WitM JudgM JudgM2 search refw judg wit refj sysw satj divr divs divd dive divg divw divv divp divt LevM LevM2 TrimI QuoM FailM DivM RefM FitM TogM ProdM prodw GenW CompM CompP CrossM KeepK GuardM MakeM LsysM LsysM2 MakeM2 KeepB AtM ClsM LstM MakeM3 GuaW LeadM ValidM mkk mkp mkl mkc mkq mkg mkr
theorem keepsX_no {m:SSys} {u:Int} {k:Nat} (hk:k<(ordY m).length) (h:¬andI (offM m (ix (ordY m) k).toNat) u=u):keepsB m u=false:=by
 cases e:keepsB m u with
 |false=>rfl
 |true=>
  unfold keepsB at e
  exact absurd (of_decide_eq_true (List.all_eq_true.1 e _ (ix_memS hk))) h
theorem keepsX_yes {m:SSys} {u:Int} (h:∀j,j<(ordY m).length→andI (offM m (ix (ordY m) j).toNat) u=u):keepsB m u=true:=by
 unfold keepsB
 refine List.all_eq_true.2 fun x hx=> ?_
 obtain⟨j,hj,rfl⟩:=List.getElem_of_mem hx
 have:=h j hj
 rw[ix_get hj] at this
 exact decide_eq_true this
namespace T
theorem ent112:Ent Tryz.prog 112:=ent_of kR
theorem ent64:Ent Tryz.prog 64:=ent_of kR
theorem ent65:Ent Tryz.prog 65:=ent_of kR
end T
namespace mks
theorem Order_ok (m:SSys) (hm:okSys m):
 Fn0 Tryz.prog 112 [sys m,int 0] (ints (ordY m)):=by
 refine fnI Tryz.func112 rfl rfl (fun w0 F0=> ?_)
 have f1:=hm.few1;have f0:=hm.few0;have hle:=ordY_le hm
 refine fcC (inhS 0 J) (fun hS0=> ?_)
 obtain⟨hma0,hms0,hme0⟩:=sys_lens hS0
 refine sq (rg (bx (key:=2) (cs:= [sl 1 rE_ m.aC,sl 1 gE m.sT]) J fun b2=>(ag (nl (th (sq (rg (fP J T.fld25_1 (lP J J J T.one23 (fc (slenI 11 J) fun hm11=>(lnF J T.sl23 (mk (key:=13) (m:=m.sT.length) (enc:=blE) (y:=false) J J T.mk90 (eC eZ) mL mL fun v13=>(ag (nl (th (sq (rg (mv (mv (iO J J J T.sl90 O (by simp;omega) (sO (φ:=bl true) J J J T.one4 (gN (by simp;omega)) J (y':=true) J (nl (th (sq (rg (mv (bsO 18 (enc:=nE) (xs:= [0]) (css:= [[int 0]]) T.mk66 ⟨J,J,p1 (φ:=int 0) J,tV⟩ J J J J fun v18=>(ag (nl (th (sq (sq (rg (ag (nl (th (bk ?_)))))))))))))))))))))))))))))))))))))
 have hI0_0:([0]:List Int)=bqY m 0∧((List.replicate m.sT.length false).set 0 true)=fndY m.sT.length ([0]:List Int)∧0≤([0]:List Int).length:=by
  exact⟨rfl,fndY_one f0,by simp⟩
 refine lp (κ:=Nat × Value × (List Int) × (List Bool)) (fun p=> [(2,ptr 2 b2 0),(4,eqv (.slice none 0 0)),(5,osl 13 v13),(6,osl 18 p.2.1),(7,int (p.1:Int))]) (fun p=> [(2,cell b2 [sl 1 rE_ m.aC,sl 1 gE m.sT]),(13,own v13 4 1 blE p.2.2.2),(18,own p.2.1 3 1 nE p.2.2.1)]) (fun p=>p.2.2.1=bqY m p.1∧p.2.2.2=fndY m.sT.length p.2.2.1∧p.1≤p.2.2.1.length) (fun p=>m.sT.length- p.1) ⟨0,v18,([0]:List Int),(List.replicate m.sT.length false).set 0 true⟩ hI0_0 ⟨id,id,id,id,id,tV⟩ ⟨rI,rI,rI,tV⟩ ?_
 intro⟨i,v,q,fn⟩ hG0
 obtain⟨hqe,hfn,hiq⟩:q=bqY m i∧fn=fndY m.sT.length q∧i≤q.length:=hG0
 show Ct _ _ _ _ [(2,ptr 2 b2 0),(4,eqv (.slice none 0 0)),(5,osl 13 v13),(6,osl 18 v),(7,int (i:Int))] [(2,cell b2 [sl 1 rE_ m.aC,sl 1 gE m.sT]),(13,own v13 4 1 blE fn),(18,own v 3 1 nE q)] _
 have hqlen:q.length≤m.sT.length:=by rw[hqe];exact bqY_le hm i
 have hfl:fn.length=m.sT.length:=by rw[hfn];exact fndY_len _ _
 refine sq (sq (rg (mv (mv (lnO J J T.sl66 (bi J J b_lss (nl (th ?_))))))))
 refine cd J (fun hc0=> ?_) (fun hc0=> ?_)
 ·try simp at hc0
  have hqb:=(qy_all hm i).bd _ (by rw[←hqe];exact ix_memS hc0)
  have hi5:i≤m.sT.length:=by omega
  refine sk (th (sq (bk (sq (dr (nh:=10) [0,1,0,0,12,28,63,127,255,0] T.mixed kR ?_)))))
  refine st_ J (fun _ _ _ gq kq=>fP (gq.1.trans J) T.fld25_1 kq) ?_
  refine st_ J (fun _ _ _ gq kq=>lP (gq.1.trans J) J J T.one23 kq) ?_
  refine st_ J (fun _ _ _ gq kq=>mv' (gq.1.trans J) kq) ?_
  refine st_ J (fun _ _ _ gq kq=>mv' (gq.1.trans J) kq) ?_
  refine st_ J (fun _ _ _ gq kq=>iO (gq.1.trans J) J (gq.2.1.trans J) T.sl66 O O kq) ?_
  refine st_ J (fun _ _ _ gq kq=>lO (gq.1.trans J) J gB J T.one3 kq) ?_
  refine st_ J (fun _ _ _ gq kq=>iF (gq.1.trans J) (gq.2.1.trans J) T.sl23 O gB kq) ?_
  refine st_ J (fun _ _ _ gq kq=>lF (gq.1.trans J) J T.one87 kq) ?_
  refine st_ J (fun _ _ _ gq kq=>lnF (gq.1.trans J) T.sl87 kq) ?_
  refine st_ J (fun _ _ _ gq kq=>mv kq) ?_
  refine pn (nl (th (bk ?_)))
  have hI1_0:0≤(ix m.sT (ix q i).toNat).length:=by
   first|omega|simp
  have hI1_1:q=visit q ((tgtY m (ix q i)).take 0)∧fn=fndY m.sT.length q∧q.length≤10000+0:=by
   exact⟨by rw[List.take_zero];rfl,hfn,O⟩
  refine lp (κ:=Nat × Value × (List Int) × (List Bool)) (fun p=> [(2,ptr 2 b2 0),(4,eqv (.slice none 0 0)),(5,osl 13 v13),(6,osl 18 p.2.1),(7,int (i:Int)),(32,sl 2 pE (ix m.sT (ix q i).toNat)),(33,int ((ix m.sT (ix q i).toNat).length:Int)),(34,int (p.1:Int))]) (fun p=> [(2,cell b2 [sl 1 rE_ m.aC,sl 1 gE m.sT]),(13,own v13 4 1 blE p.2.2.2),(18,own p.2.1 3 1 nE p.2.2.1)]) (fun p=>(p.1≤(ix m.sT (ix q i).toNat).length)∧(p.2.2.1=visit q ((tgtY m (ix q i)).take p.1)∧p.2.2.2=fndY m.sT.length p.2.2.1∧p.2.2.1.length≤10000+p.1)) (fun p=>(ix m.sT (ix q i).toNat).length- p.1) ⟨0,v,q,fn⟩ ⟨hI1_0,hI1_1⟩ ⟨id,id,id,id,id,id,id,id,tV⟩ ⟨rI,rI,rI,tV⟩ ?_
  intro⟨k1,v2,q2,fn2⟩ hG1
  obtain⟨hk1,⟨hq2,hfn2,hq2l⟩⟩:(k1≤(ix m.sT (ix q i).toNat).length)∧(q2=visit q ((tgtY m (ix q i)).take k1)∧fn2=fndY m.sT.length q2∧q2.length≤10000+k1):=hG1
  show Ct _ _ _ _ [(2,ptr 2 b2 0),(4,eqv (.slice none 0 0)),(5,osl 13 v13),(6,osl 18 v2),(7,int (i:Int)),(32,sl 2 pE (ix m.sT (ix q i).toNat)),(33,int ((ix m.sT (ix q i).toNat).length:Int)),(34,int (k1:Int))] [(2,cell b2 [sl 1 rE_ m.aC,sl 1 gE m.sT]),(13,own v13 4 1 blE fn2),(18,own v2 3 1 nE q2)] _
  have hmany:(ix m.sT (ix q i).toNat).length≤400000:=hm.many (ix q i).toNat O
  have hfl2:fn2.length=m.sT.length:=by rw[hfn2];exact fndY_len _ _
  refine sq (rg (bi J J b_lss (nl (th (sq ?_)))))
  refine cd J (fun hc1=> ?_) (fun hc1=> ?_)
  ·try simp at hc1
   have hek:=hm.ed (ix q i).toNat O _ (ix_memS hc1)
   have hek2:0≤(ix (ix m.sT (ix q i).toNat) k1).2∧(ix (ix m.sT (ix q i).toNat) k1).2<(m.sT.length:Int):=hek.2.2
   refine sk (th (sq (bk (sq (rg (iF J J T.sl87 O gB (lFA J T.agg94 (Nat.le_of_ble_eq_true J) (al (key:=9) T.z94 (eC (eC eZ)) fun b9=>(sPA (cs':= [int ((ix (ix m.sT (ix q i).toNat) k1).1),int ((ix (ix m.sT (ix q i).toNat) k1).2)]) J J J T.agg94 J J (nl (th (sq (rg (mv (fP J T.fld94_1 (lP J J J T.one3 (iO J J J T.sl90 O O (lO J J gB J T.one4 (no J (nl (th ?_)))))))))))))))))))))
   refine cd J (fun hc2=> ?_) (fun hc2=> ?_)
   ·skip
    have hnin:(ix (edg m (ix q i).toNat) k1).2∉q2:=by
     rw[hfn2,fndY_ix hek2.1 hek2.2] at hc2
     simpa using hc2
    refine sq (rg (mv (fP J T.fld94_1 (lP J J J T.one3 (iO J J J T.sl90 O O (sO (φ:=bl true) J J J T.one4 gB J (y':=true) J (nl (th (rg (mv (fP J T.fld94_1 (lP J J J T.one3 (bsE (enc:=nE) (xs:= [((ix (ix m.sT (ix q i).toNat) k1).2)]) (css:= [[int ((ix (ix m.sT (ix q i).toNat) k1).2)]]) T.mk66 ⟨J,J,p1 (φ:=int ((ix (ix m.sT (ix q i).toNat) k1).2)) J,tV⟩ J J J J (ap (key:=18) (zs:= [((ix (ix m.sT (ix q i).toNat) k1).2)]) osl_eq J J J T.mk66 (by unfold maxL at*;simp;omega) (by unfold maxL at*;simp;omega) fun v52=>(ag (nl (eb (th (rg (bi J J (b_add i6) (mv (nl ?_))))))))))))))))))))))
    have hN0:(k1+1)≤(ix m.sT (ix q i).toNat).length:=by
     first|omega|simp_all
    have hN1:(q2++ [((ix (ix m.sT (ix q i).toNat) k1).2)])=visit q ((tgtY m (ix q i)).take (k1+1))∧(fn2.set ((ix (ix m.sT (ix q i).toNat) k1).2).toNat true)=fndY m.sT.length (q2++ [((ix (ix m.sT (ix q i).toNat) k1).2)])∧(q2++ [((ix (ix m.sT (ix q i).toNat) k1).2)]).length≤10000+(k1+1):=by
     refine⟨?_,?_,by simp;omega⟩
     ·rw[tgt_at (m:=m) (x:=ix q i) hc1,visit_new hek2.1 (by rw[←hq2];exact hnin),←hq2]
     ·rw[hfn2];exact fndY_new hek2.1 hek2.2
    exact ln (⟨k1+1,v52,q2++ [((ix (ix m.sT (ix q i).toNat) k1).2)],fn2.set ((ix (ix m.sT (ix q i).toNat) k1).2).toNat true⟩:Nat × Value × (List Int) × (List Bool)) ⟨hN0,hN1⟩ dO ⟨id,id,id,id,id,id,id,id,tV⟩ ⟨rI,rI,rI,tV⟩
   ·skip
    have hin:(ix (edg m (ix q i).toNat) k1).2∈q2:=by
     rw[hfn2,fndY_ix hek2.1 hek2.2] at hc2
     simpa using hc2
    refine sk (eb (th (rg (bi J J (b_add i6) (mv (nl ?_))))))
    have hN0:(k1+1)≤(ix m.sT (ix q i).toNat).length:=by
     first|omega|simp_all
    have hN1:q2=visit q ((tgtY m (ix q i)).take (k1+1))∧fn2=fndY m.sT.length q2∧q2.length≤10000+(k1+1):=by
     refine⟨?_,hfn2,O⟩
     rw[tgt_at (m:=m) (x:=ix q i) hc1,visit_old (by rw[←hq2];exact hin),←hq2]
    exact ln (⟨k1+1,v2,q2,fn2⟩:Nat × Value × (List Int) × (List Bool)) ⟨hN0,hN1⟩ dO ⟨id,id,id,id,id,id,id,id,tV⟩ ⟨rI,rI,rI,tV⟩
  ·try simp at hc1
   refine ex (xt_ (xt_ (xb (eb (th (rg (mv (bi J J (b_add i6) (ag (nl ?_))))))))))
   have hN0:q2=bqY m (i+1)∧fn2=fndY m.sT.length q2∧(i+1)≤q2.length:=by
    have he:q2=bqY m (i+1):=by
     rw[bqY_succ (by rw[←hqe];exact hc0),←hqe,hq2,show k1=(ix m.sT (ix q i).toNat).length by omega]
     congr 1
     exact List.take_of_length_le (by unfold tgtY;rw[List.length_map];exact Nat.le_refl _)
    have hpre:q<+:q2:=by rw[hq2];exact visit_prefix _ _
    have hle2:=hpre.length_le
    exact⟨he,hfn2,O⟩
   exact ln (⟨i+1,v2,q2,fn2⟩:Nat × Value × (List Int) × (List Bool)) hN0 (by show m.sT.length- (i+1)<m.sT.length- i;omega) ⟨id,id,id,id,id,tV⟩ ⟨rI,rI,rI,tV⟩
 ·try simp at hc0
  have hqo:q=ordY m:=by rw[hqe];exact bqY_end hm O (by rw[←hqe];omega)
  refine ex (xt_ (xt_ (xb (th (sq (rg (mv (ag (nl (th (rt ?_)))))))))))
  refine fzA 18 4 rfl rfl ?_
  have hr0:q=(ordY m):=by
   exact hqo
  exact rE () [.tmp 4] J [sl 1 nE q] ⟨.tmp J,tV⟩ (cA1 (fun x0=>rV [sl 1 nE x0]) hr0) trivial eX
theorem Keeps_ok (m:SSys) (hm:okSys m) (u:Int) (h0:0≤u) (h1:u<256):
 Fn0 Tryz.prog 65 [sys m,int u] (bl (keepsB m u)):=by
 refine fnI Tryz.func65 rfl rfl (fun w0 F0=> ?_)
 have f1:=hm.few1;have hle:=ordY_le hm;have hm8:=hm.n8
 refine fcC (inhS 0 J) (fun hS0=> ?_)
 obtain⟨hma0,hms0,hme0⟩:=sys_lens hS0
 refine sq (rg (bx (key:=2) (cs:= [sl 1 rE_ m.aC,sl 1 gE m.sT]) J fun b2=>(ag (nl (th (sq (sq (rg (lPA J J T.agg25 J (cal0 (φs:= [agg [sl 1 rE_ m.aC,sl 1 gE m.sT],int 0]) (φ:=sl 1 nE (ordY m)) ⟨J,J,tV⟩ (mks.Order_ok m aS) T.ent112 (fc (slenI 8 J) fun hm8=>(lnF J T.sl66 (mv (nl (th (bk ?_))))))))))))))))
 have hI0_0:0≤(ordY m).length:=by
  first|omega|simp
 have hI0_1:∀j,j<0→andI (offM m (ix (ordY m) j).toNat) u=u:=by
  exact fun j hj=>absurd hj O
 refine lp (κ:=Nat) (fun p=> [(1,int u),(2,ptr 2 b2 0),(8,sl 1 nE (ordY m)),(9,int ((ordY m).length:Int)),(10,int (p:Int))]) (fun p=> [(2,cell b2 [sl 1 rE_ m.aC,sl 1 gE m.sT])]) (fun p=>(p≤(ordY m).length)∧(∀j,j<p→andI (offM m (ix (ordY m) j).toNat) u=u)) (fun p=>(ordY m).length- p) 0 ⟨hI0_0,hI0_1⟩ ⟨id,id,id,id,id,tV⟩ ⟨rI,tV⟩ ?_
 intro k hG0
 obtain⟨hk0,hI0⟩:(k≤(ordY m).length)∧(∀j,j<k→andI (offM m (ix (ordY m) j).toNat) u=u):=hG0
 refine sq (rg (bi J J b_lss (nl (th (sq ?_)))))
 refine cd J (fun hc0=> ?_) (fun hc0=> ?_)
 ·try simp at hc0
  have hxb:=(ordY_q hm).bd _ (ix_memS (l:=ordY m) (i:=k) O)
  have hof:=off8 hm (x:=(ix (ordY m) k).toNat) O
  have hob:0≤offM m (ix (ordY m) k).toNat∧offM m (ix (ordY m) k).toNat<256:=offM_bd hm O
  refine sk (th (sq (bk (sq (rg (iF J J T.sl66 O gB (lF J J T.one3 (ag (nl (th (sq (rg (lPA J J T.agg25 J (mv (cal0 (φs:= [agg [sl 1 rE_ m.aC,sl 1 gE m.sT],int (ix (ordY m) k)]) (φ:=int (offM m (ix (ordY m) k).toNat)) ⟨J,J,tV⟩ (divs.Offer_ok m (ix (ordY m) k) aS O O) T.ent89 (mv (bi J J (b_andI O O O O) (mv (bi J J b_neq (nl (th ?_)))))))))))))))))))))
  refine cd J (fun hc1=> ?_) (fun hc1=> ?_)
  ·try simp at hc1
   refine sq (rg (ag (nl (th (rt (rb (rt_ (rt_ (rb (rt_ ?_))))))))))
   have hr0:false=(keepsB m u):=by
    exact(keepsX_no O (by simpa [andI] using hc1)).symm
   exact rE () [.tmp 4] J [bl false] ⟨.tmp J,tV⟩ (cA1 (fun x0=>rV [bl x0]) hr0) trivial eX
  ·try simp at hc1
   refine sk (eb (th (rg (bi J J (b_add i6) (mv (nl ?_))))))
   have hN0:(k+1)≤(ordY m).length:=by
    first|omega|simp_all
   have hN1:∀j,j<(k+1)→andI (offM m (ix (ordY m) j).toNat) u=u:=by
    intro j hj
    by_cases e:j=k
    ·subst e;simpa [andI] using hc1
    ·exact hI0 j O
   exact ln (k+1) ⟨hN0,hN1⟩ dO ⟨id,id,id,id,id,tV⟩ ⟨rI,tV⟩
 ·try simp at hc0
  refine ex (xt_ (xt_ (xb (th (sq (rg (ag (nl (th (rt ?_))))))))))
  have hr0:true=(keepsB m u):=by
   exact(keepsX_yes (fun j hj=>hI0 j O)).symm
  exact rE () [.tmp 4] J [bl true] ⟨.tmp J,tV⟩ (cA1 (fun x0=>rV [bl x0]) hr0) trivial eX
theorem RefRight_ok (m x:SSys) (t:SS) (hm:okSys m) (hx:okSys x) (ht:oK t) (hz:m.sT.length*x.sT.length*t.sT.length≤1000000000) (u:Int) (h0:0≤u) (h1:u<256):
 Fn0 Tryz.prog 29 [sys m,sys x,spec t,int u] (bl (togB m x t&&keepsB x u)):=by
 refine fnI Tryz.func29 rfl rfl (fun w0 F0=> ?_)
 refine fcC (inhS 0 J) (fun hS0=> ?_)
 obtain⟨hma0,hms0,hme0⟩:=sys_lens hS0
 refine fcC (inhS 1 J) (fun hS1=> ?_)
 obtain⟨hma1,hms1,hme1⟩:=sys_lens hS1
 refine fcC (inhS 2 J) (fun hS2=> ?_)
 obtain⟨hsa2,hss2,hse2⟩:=sLn hS2
 refine sq (rg (bx (key:=4) (cs:= [sl 1 rE_ m.aC,sl 1 gE m.sT]) J fun b4=>(bx (key:=5) (cs:= [sl 1 rE_ x.aC,sl 1 gE x.sT]) J fun b5=>(bx (key:=6) (cs:= [sl 1 rE_ t.aC,sl 2 sE t.sT]) J fun b6=>(ag (nl (th (sq (rg (lPA J J T.agg25 J (lPA J J T.agg25 J (lPA J J T.agg28 J (cal0 (φs:= [agg [sl 1 rE_ m.aC,sl 1 gE m.sT],agg [sl 1 rE_ x.aC,sl 1 gE x.sT],agg [sl 1 rE_ t.aC,sl 2 sE t.sT]]) (φ:=bl (togB m x t)) ⟨J,J,J,tV⟩ (divt.Together_ok m x t aS aS aS aS) T.ent64 (mv ?_))))))))))))))
 apply gAnd (t:=13) (pd:=17) rfl
 rotate_left
 ·intro hg0 fin
  have hg0':=hg0
  try simp at hg0'
  exact gy J J J hg0 (lPA J J T.agg25 J (gy J J J hg0 (mv (gy J J J hg0 (cal0 (φs:= [agg [sl 1 rE_ x.aC,sl 1 gE x.sT],int u]) (φ:=bl (keepsB x u)) ⟨J,J,tV⟩ (mks.Keeps_ok x aS u O O) T.ent65 (pkT J hg0 J (drp (X:= [(16,_),(15,_),(14,_)]) ⟨J,J,J,tV⟩ fin)))))))
 ·intro hg0 fin
  exact gn J J J hg0 J J (gn J J J hg0 J J (gn J J J hg0 J J (pkF J hg0 J (drp (X:= [(16,_),(15,_),(14,_)]) ⟨J,J,J,tV⟩ fin))))
 refine ag (nl (th (rt ?_)))
 have hr0:((togB m x t)&&(keepsB x u))=(togB m x t&&keepsB x u):=by
  rfl
 exact rE () [.tmp 8] J [bl ((togB m x t)&&(keepsB x u))] ⟨.tmp J,tV⟩ (cA1 (fun x0=>rV [bl x0]) hr0) trivial eX
end mks
end
section
open ref01 ref03 ref04 ref06 prog prog2 prog3 prog4 prog5 prog6 prog7 prog8 prog9 prog13 prog15 starts Part Rungs LeftM TrimM RoundM MergeM BisM BisM4 BisM5 Itoa Keys WalkM StepM WitM JudgM JudgM2 search refw judg wit refj sysw satj divr divs divd dive divg divw divv divp divt LevM LevM2 TrimI QuoM FailM DivM RefM FitM TogM ProdM prodw GenW CompM CompP CrossM KeepK GuardM MakeM LsysM LsysM2 MakeM2 KeepB AtM ClsM LstM MakeM3 GuaW LeadM ValidM mkk mkp mkl mkc mkq mkg mkr mks
namespace mks2
end mks2
end
section
namespace FixM
open CompP ref01 ref03 ref04 ref06 Part Rungs LeftM TrimM RoundM MergeM BisM BisM3 BisM4 BisM5 BisM6 Keys WalkM WitM JudgM JudgM2 LevM divr divs divd dive divf divv judg refj sysw satj ChsM BisS TrimI ValidM WitSat WitVal QuoM FailM DivM RefM GenW CompM CrossM FitM TogM KeepK GuardM MakeM LsysM LsysM2 MakeM2 KeepB LstM MakeM3 GuaW LeadM
section
variable {s:SS} (hs:oK s) {ch:SS→Nat→Int} (hc:∀y,y<s.sT.length→ch s y∈acc s y)
include hs hc
theorem mde_small (hf:s.sT.length≤500):(mdeM ch s).sT.length≤500∧sumLen (mdeM ch s).sT≤4000:=by
 have hm:=mkM_ok hs hc
 obtain⟨g,hk,_⟩:=kY_ok (prt_ok hm)
 have ho:=lst_ok (prt_ok hm) hk
 have e1:(mkM (ch s) s).sT.length=s.sT.length:=by simp[mkM]
 have e2:=ordY_le hm
 have e3:=hk.few
 rw[prtM_len] at e3
 have hl:=lst_len (prtM (mkM (ch s) s)) (kY (prtM (mkM (ch s) s))) (classesY (prtM (mkM (ch s) s)))
 have h5:(mdeM ch s).sT.length≤500:=by
  show(lstM (prtM (mkM (ch s) s)) (kY (prtM (mkM (ch s) s))) (classesY (prtM (mkM (ch s) s)))).sT.length≤500
  omega
 refine⟨h5,Nat.le_trans (sum_le (K:=8) fun l hl2=> ?_) O⟩
 obtain⟨c,hc2,rfl⟩:=List.getElem_of_mem hl2
 have hc3:c<kY (prtM (mkM (ch s) s)):=by
  have hc4:c<(lstM (prtM (mkM (ch s) s)) (kY (prtM (mkM (ch s) s))) (classesY (prtM (mkM (ch s) s)))).sT.length:=hc2
  omega
 have:=made_len hs hc hk hc3
 rw[←ix_get hc2]
 exact this
end
structure MadeP (x:SSys) (g:SS) (u:Int):Prop where
 ok:sysOK x=true
 acts:x.aC=g.aC
 sat:SatM x g
 keep:KeepsP x u
 few:x.sT.length≤500
 sum:sumLen x.sT≤4000
theorem mad_cases {g:SS} {ok:Bool} {u:Int} (hg:ok=true→oK g∧g.sT.length≤500):
 (ok=false∧madS g ok u=(⟨[],[]⟩,2))∨(ok=true∧ix (hOl (keepK u g)) 0=true∧madS g ok u=(⟨[],[]⟩,3))∨(ok=true∧ix (hOl (keepK u g)) 0=false∧(madS g ok u).2=0∧MadeP (madS g ok u).1 g u):=by
 cases ok with
 |false=>exact .inl ⟨rfl,mad_large⟩
 |true=>
  obtain⟨hk,hf⟩:=hg rfl
  right
  obtain⟨hT,hT5⟩:=keepT_few hk hf u
  have hh:=keepT_hollow hk hf u
  cases e:ix (hOl (tR (keepK u g)).1) 0 with
  |true=>exact .inl ⟨rfl,by rw[←hh];exact e,mad_none e⟩
  |false=>
   right
   rw[mad_yes e]
   have hfree:=keepT_free hk hf e
   have hc:=lgC_in hfree
   have hv:=mde_valid hT (ch:=lgC) hc hT5
   have hsat:=(sat_keepT hk (u:=u)).1 (mde_sat hT (ch:=lgC) hc)
   have hsm:=mde_small hT (ch:=lgC) hc hT5
   exact⟨rfl,by rw[←hh];exact e,rfl,hv,(mde_acts hT (ch:=lgC) hc).trans (trim_acts _),hsat.1,hsat.2,hsm.1,hsm.2⟩
theorem ctl_cases {m:SSys} {t:SS} {u:Int} (hf:fineSE m t=0) (hu:isSet (t.aC.length:Int) u=true):
 ((guaS m t).2=false∧ctlS m t u=(⟨[],[]⟩,2))∨((guaS m t).2=true∧ix (hOl (keepK u (guaS m t).1)) 0=true∧ctlS m t u=(⟨[],[]⟩,3))∨
 ((guaS m t).2=true∧ix (hOl (keepK u (guaS m t).1)) 0=false∧(ctlS m t u).2=0∧sysOK (ctlS m t u).1=true∧(ctlS m t u).1.aC=t.aC∧WellT m (ctlS m t u).1 t∧KeepsP (ctlS m t u).1 u∧(ctlS m t u).1.sT.length≤500∧sumLen (ctlS m t u).1.sT≤4000):=by
 obtain⟨hmv,htv,hmt⟩:=fineSE_ok hf
 have hm:=sysOK_ok hmv
 have ht:=okSpec_of htv
 have e:ctlS m t u=madS (guaS m t).1 (guaS m t).2 u:=by unfold ctlS;rw[if_pos hf,if_pos hu]
 rw[e]
 rcases mad_cases (u:=u) (fun h=>⟨(gua_ok hm ht h).1,(gua_ok hm ht h).2.1⟩:(guaS m t).2=true→oK (guaS m t).1∧(guaS m t).1.sT.length≤500) with h|h|⟨h1,h2,h3,h4⟩
 ·exact .inl h
 ·exact .inr (.inl h)
 ·refine .inr (.inr ⟨h1,h2,h3,h4.ok,h4.acts.trans (gua_ok hm ht h1).2.2,?_,h4.keep,h4.few,h4.sum⟩)
  exact(gua_sat hm (sysOK_ok h4.ok) ht (h4.acts.trans (gua_ok hm ht h1).2.2) h1).1 h4.sat
def looseS:SSys:=⟨[⟨#[97]⟩,⟨#[98]⟩],[[(0,0),(1,0)]]⟩
def strictS:SS:=⟨[⟨#[97]⟩,⟨#[98]⟩],[⟨[1],[0,-1]⟩]⟩
theorem loose_valid:sysOK looseS=true:=by decide+kernel
theorem strict_valid:specOK strictS=true:=by decide+kernel
theorem strict_okS:oK strictS:=okSpec_of strict_valid
theorem fix_fine:fineSE looseS strictS=0:=by
 unfold fineSE
 rw[if_pos loose_valid,if_pos strict_valid,if_pos (show looseS.aC=strictS.aC from rfl)]
theorem fix_gl:gL looseS strictS= [[(0,0)]]:=by unfold gL;decide+kernel
theorem fix_gd:gD looseS strictS=strictS:=by unfold gD;rw[fix_gl];decide+kernel
theorem strict_not:ix (hOl strictS) 0=false:=CompP.not_hol (by decide) (by decide)
theorem strict_trim:(tR strictS).1=strictS:=by
 have hs:=strict_okS
 have hn:=strict_not
 have ho:ordS strictS= [0]:=by
  have h1:(ordS strictS).length≤1:=ord_le hs
  have h2:=ordS_pos strictS
  have h3:=BisM2.ord_zero strictS
  match hq:ordS strictS,h1,h2,h3 with
  | [y],_,_,h3=>rw[show y=0 from h3]
 have hk:keep strictS 0= [1]:=keep_all hs (by decide) (by decide)
 rw[trimmed_not hn]
 show(⟨strictS.aC,(ordS strictS).map (tstate strictS)⟩:SS)=strictS
 rw[ho]
 show(⟨strictS.aC,[tstate strictS 0]⟩:SS)=strictS
 unfold tstate tnext
 rw[show(0:Int).toNat=0 from rfl,hk,ho]
 decide
theorem fix_gua:guaS looseS strictS=(strictS,true):=by
 unfold guaS
 rw[fix_gl,if_pos (by decide),fix_gd,strict_trim]
theorem fix_gds:gdS looseS strictS=(strictS,0):=by
 unfold gdS
 rw[if_pos fix_fine,fix_gua,if_pos rfl]
theorem fix_set (u:Int) (h:u=1∨u=2):isSet (strictS.aC.length:Int) u=true:=by
 rcases h with rfl|rfl<;>decide
theorem fix_hol:ix (hOl (keepK 2 strictS)) 0=true:=by
 cases e:ix (hOl (keepK 2 strictS)) 0 with
 |true=>rfl
 |false=>
  obtain⟨x,R,hR,h0⟩:=(hollow_iff (keepK_ok strict_okS 2)).1 e
  have:=hR.acc h0
  have:=(keepK_acc (s:=strictS) (k:=0) (by decide)).1 this
  have h1:offM x 0=1:=List.mem_singleton.1 this.1
  rw[h1] at this
  exact absurd this.2 (by decide)
theorem fix_ctl2:ctlS looseS strictS 2=(⟨[],[]⟩,3):=by
 rcases ctl_cases fix_fine (fix_set 2 (.inr rfl)) with⟨h,_⟩|⟨_,_,h⟩|⟨_,h,_⟩
 ·rw[fix_gua] at h;cases h
 ·exact h
 ·rw[fix_gua] at h
  rw[show((strictS,true):SS × Bool).1=strictS from rfl,fix_hol] at h;cases h
theorem one_sys:SatM ⟨[⟨#[97]⟩,⟨#[98]⟩],[[(0,0)]]⟩ (keepK 1 strictS):=by
 refine sat_keeps.2 ⟨⟨fun x y=>x=0∧y=0,⟨fun {x y} h=>by rw[h.2];decide,fun {x y} h=>by rw[h.1,h.2];decide,fun {x y} h e he=> ?_,fun {x y} h e he=> ?_⟩,rfl,rfl⟩,fun x hx=> ?_⟩
 ·rw[h.1] at he
  rw[h.2]
  have:e=(0,0):=by
   obtain⟨d,hd,rfl⟩:=List.mem_map.1 he
   rw[List.mem_singleton.1 (show d∈[((0,0):PP)] from hd)];rfl
  rw[this];decide
 ·rw[h.1] at he
  rw[h.2]
  have:e=(0,0):=by
   obtain⟨d,hd,rfl⟩:=List.mem_map.1 he
   rw[List.mem_singleton.1 (show d∈[((0,0):PP)] from hd)];rfl
  rw[this];exact⟨by decide,by decide,by decide⟩
 ·have:x=0:=by
   induction hx with
   |zero=>rfl
   |step h1 h2 ih=>
    rw[ih] at h2
    have:=List.mem_singleton.1 h2
    rw[this];rfl
  rw[this];decide
theorem fix_ctl1:(ctlS looseS strictS 1).2=0∧sysOK (ctlS looseS strictS 1).1=true∧(ctlS looseS strictS 1).1.aC=strictS.aC∧WellT looseS (ctlS looseS strictS 1).1 strictS∧KeepsP (ctlS looseS strictS 1).1 1∧(ctlS looseS strictS 1).1.sT.length≤500∧sumLen (ctlS looseS strictS 1).1.sT≤4000:=by
 rcases ctl_cases fix_fine (fix_set 1 (.inl rfl)) with⟨h,_⟩|⟨_,h,_⟩|⟨_,_,h⟩
 ·rw[fix_gua] at h;cases h
 ·rw[fix_gua] at h
  have:ix (hOl (keepK 1 strictS)) 0=false:=(hollow_iff (keepK_ok strict_okS 1)).2 ⟨_,one_sys⟩
  rw[show((strictS,true):SS × Bool).1=strictS from rfl,this] at h;cases h
 ·exact h
theorem rgt_zero {x m:SSys} {t:SS} {u:Int} (hx:sysOK x=true) (hm:sysOK m=true) (ht:specOK t=true) (h1:x.aC=m.aC) (h2:x.aC=t.aC) (hu:isSet (t.aC.length:Int) u=true):rgtE x m t u=0:=by
 unfold rgtE
 rw[if_pos ⟨hx,hm⟩,if_pos ht,if_pos ⟨h1,h2⟩,if_pos hu]
theorem rgt_true {x m:SSys} {t:SS} {u:Int} (hE:rgtE x m t u=0) (hx:okSys x) (hw:WellT m x t) (hk:KeepsP x u):rgtB x m t u=true:=by
 unfold rgtB
 rw[hE,decide_eq_true rfl,Bool.true_and,(keeps_iff hx).2 hk,Bool.and_true]
 simp[hw]
theorem fix_right:rgtE (ctlS looseS strictS 1).1 looseS strictS 1=0∧rgtB (ctlS looseS strictS 1).1 looseS strictS 1=true:=by
 obtain⟨_,h1,h2,h3,h4,_⟩:=fix_ctl1
 have e:=rgt_zero h1 loose_valid strict_valid (h2.trans rfl) h2 (fix_set 1 (.inl rfl))
 exact⟨e,rgt_true e (sysOK_ok h1) h3 h4⟩
noncomputable def fltE (m:SSys) (t:SS) (u:Int):Int:=if sysOK m=true then(if specOK t=true then(if m.aC=t.aC then(if isSet (t.aC.length:Int) u=true then 0 else 1) else 10) else 30) else 20
theorem rgt_err (x m:SSys) (t:SS) (u:Int):rgtE x m t u=(let e:=if sysOK x=true then fltE m t u else 20;if (e=0∨e=1)∧¬x.aC=t.aC then 10 else e):=by
 unfold rgtE fltE
 by_cases gx:sysOK x=true<;>by_cases gm:sysOK m=true<;>by_cases gt:specOK t=true<;>by_cases ga:m.aC=t.aC<;>by_cases gb:x.aC=t.aC<;>by_cases gs:isSet (t.aC.length:Int) u=true<;>simp[gx,gm,gt,ga,gb,gs]
 all_goals (intro h;first|exact absurd (h.symm.trans gb) ga|exact absurd (h.trans ga) gb|exact absurd h.symm ga|skip)
end FixM
end
section
open ref01 ref03 ref04 ref06 prog prog2 prog3 prog4 prog5 prog6 prog7 prog8 prog9 prog13 prog15 starts Part Rungs LeftM TrimM RoundM MergeM BisM BisM4 BisM5 Itoa Keys WalkM StepM WitM JudgM JudgM2 search refw judg wit refj sysw satj divr divs divd dive divg divw divv divp divt LevM LevM2 TrimI QuoM FailM DivM RefM FitM TogM ProdM prodw GenW CompM CompP CrossM KeepK GuardM MakeM LsysM LsysM2 MakeM2 KeepB AtM ClsM LstM MakeM3 GuaW LeadM FixM ValidM mkk mkp mkl mkc mkq mkg mkr mks mks2
def fewK (m:SSys) (n:Int):Bool:=decide ((m.sT.length:Int)≤n)&&fewM m 300
def lightK (s:SS) (n:Int):Bool:=decide ((s.sT.length:Int)≤n)&&few s 400
theorem fewK_f {m:SSys} {n:Int} (h:fewK m n=true):(m.sT.length:Int)≤n∧sizeM m≤300:=by
 unfold fewK fewM at h
 rw[Bool.and_eq_true,decide_eq_true_eq,decide_eq_true_eq] at h
 exact⟨h.1,O⟩
theorem lightK_f {s:SS} {n:Int} (h:lightK s n=true):(s.sT.length:Int)≤n∧(size s:Int)≤400:=by
 unfold lightK few at h
 rw[Bool.and_eq_true,decide_eq_true_eq,decide_eq_true_eq] at h
 exact h
theorem size_sum {m:SSys} {n:Nat} (h:sizeM m≤n):sumLen m.sT≤n:=by unfold sizeM at h;omega
theorem or_not3 {a b c:Bool} (h:((!a|| !b)|| !c)=false):a=true∧b=true∧c=true:=by
 cases a<;>cases b<;>cases c<;>simp_all
namespace T
theorem ent45:Ent Tryz.prog 45:=ent_of kR
theorem ent46:Ent Tryz.prog 46:=ent_of kR
theorem ent27:Ent Tryz.prog 27:=ent_of kR
theorem ent21:Ent Tryz.prog 21:=ent_of kR
theorem ent28:Ent Tryz.prog 28:=ent_of kR
theorem ent47:Ent Tryz.prog 47:=ent_of kR
theorem ent48:Ent Tryz.prog 48:=ent_of kR
theorem ent16:Ent Tryz.prog 16:=ent_of kR
theorem ent25:Ent Tryz.prog 25:=ent_of kR
theorem ent30:Ent Tryz.prog 30:=ent_of kR
theorem ent49:Ent Tryz.prog 49:=ent_of kR
end T
namespace mkv
theorem few18_ok (m:SSys) (n:Int):
 Fn0 Tryz.prog 11 [sys m,int n] (bl (fewK m n)):=by
 refine fnI Tryz.func11 rfl rfl (fun w0 F0=> ?_)
 refine fcC (inhS 0 J) (fun hS0=> ?_)
 obtain⟨hma0,hms0,hme0⟩:=sys_lens hS0
 refine sq (rg (bx (key:=2) (cs:= [sl 1 rE_ m.aC,sl 1 gE m.sT]) J fun b2=>(ag (nl (th (sq (rg (fP J T.fld25_1 (lP J J J T.one23 (fc (slenI 6 J) fun hm6=>(lnF J T.sl23 (mv (bi J J b_leq (mv ?_))))))))))))))
 apply gAnd (t:=10) (pd:=13) rfl
 rotate_left
 ·intro hg0 fin
  have hg0':=hg0
  try simp at hg0'
  exact gy J J J hg0 (lPA J J T.agg25 J (gy J J J hg0 (cal0 (φs:= [agg [sl 1 rE_ m.aC,sl 1 gE m.sT],int 300]) (φ:=bl (fewM m 300)) ⟨J,J,tV⟩ (sysw.Few_ok m 300 O) T.ent45 (pkT J hg0 J (drp (X:= [(12,_),(11,_)]) ⟨J,J,tV⟩ fin)))))
 ·intro hg0 fin
  exact gn J J J hg0 J J (gn J J J hg0 J J (pkF J hg0 J (drp (X:= [(12,_),(11,_)]) ⟨J,J,tV⟩ fin)))
 refine ag (nl (th (rt ?_)))
 have hr0:((decide ((m.sT.length:Int)≤n))&&(fewM m 300))=(fewK m n):=by
  rfl
 exact rE () [.tmp 4] J [bl ((decide ((m.sT.length:Int)≤n))&&(fewM m 300))] ⟨.tmp J,tV⟩ (cA1 (fun x0=>rV [bl x0]) hr0) trivial eX
theorem light18_ok (s:SS) (n:Int):
 Fn0 Tryz.prog 12 [spec s,int n] (bl (lightK s n)):=by
 refine fnI Tryz.func12 rfl rfl (fun w0 F0=> ?_)
 refine fcC (inhS 0 J) (fun hS0=> ?_)
 obtain⟨hsa0,hss0,hse0⟩:=sLn hS0
 refine sq (rg (bx (key:=2) (cs:= [sl 1 rE_ s.aC,sl 2 sE s.sT]) J fun b2=>(ag (nl (th (sq (rg (fP J T.fld28_1 (lP J J J T.one26 (fc (slenI 6 J) fun hm6=>(lnF J T.sl26 (mv (bi J J b_leq (mv ?_))))))))))))))
 apply gAnd (t:=10) (pd:=13) rfl
 rotate_left
 ·intro hg0 fin
  have hg0':=hg0
  try simp at hg0'
  exact gy J J J hg0 (lPA J J T.agg28 J (gy J J J hg0 (cal0 (φs:= [agg [sl 1 rE_ s.aC,sl 2 sE s.sT],int 400]) (φ:=bl (few s 400)) ⟨J,J,tV⟩ (ref03.Few_ok s _ O) T.ent46 (pkT J hg0 J (drp (X:= [(12,_),(11,_)]) ⟨J,J,tV⟩ fin)))))
 ·intro hg0 fin
  exact gn J J J hg0 J J (gn J J J hg0 J J (pkF J hg0 J (drp (X:= [(12,_),(11,_)]) ⟨J,J,tV⟩ fin)))
 refine ag (nl (th (rt ?_)))
 have hr0:((decide ((s.sT.length:Int)≤n))&&(few s 400))=(lightK s n):=by
  rfl
 exact rE () [.tmp 4] J [bl ((decide ((s.sT.length:Int)≤n))&&(few s 400))] ⟨.tmp J,tV⟩ (cA1 (fun x0=>rV [bl x0]) hr0) trivial eX
theorem loose_ok:
 Fn0 Tryz.prog 47 [] (sys looseS):=by
 refine fnI Tryz.func47 rfl rfl (fun w0 F0=> ?_)
 refine sq (rg (al (key:=0) T.z25 (eC (eC eZ)) fun b0=>(nl (th (sq (rg (bsE (enc:=rE_) (xs:= [({ data:= #[97] }),({ data:= #[98] })]) (css:= [[str ({ data:= #[97] })],[str ({ data:= #[98] })]]) T.mk22 ⟨J,J,p1 (φ:=str ({ data:= #[97] })) J,⟨J,J,p1 (φ:=str ({ data:= #[98] })) J,tV⟩⟩ J J J J (bd (css:= []) T.st94 (eC (eC eZ)) trivial (bd (css:= [(0,_)]) T.st94 (eC (eC eZ)) ⟨J,J,p1 (φ:=int 1) J,tV⟩ (bsE (enc:=pE) (xs:= [(0,0),(1,0)]) (css:= [[int 0,int 0],[int 1,int 0]]) T.mk87 ⟨J,J,pA (cs:= [int 0,int 0]) J,⟨J,J,pA (cs:= [int 1,int 0]) J,tV⟩⟩ J J J J (bsE (enc:=gE) (xs:= [[(0,0),(1,0)]]) (css:= [[sl 2 pE [(0,0),(1,0)]]]) T.mk23 ⟨J,J,p1 (φ:=sl 2 pE [(0,0),(1,0)]) J,tV⟩ J J J J (bd (css:= [(0,_),(1,_)]) T.st25 (eC (eC eZ)) ⟨J,J,p1 (φ:=sl 1 rE_ [({ data:= #[97] }),({ data:= #[98] })]) J,⟨J,J,p1 (φ:=sl 1 gE [[(0,0),(1,0)]]) J,tV⟩⟩ (sPA (cs':= [sl 1 rE_ [({ data:= #[97] }),({ data:= #[98] })],sl 1 gE [[(0,0),(1,0)]]]) J J J T.agg25 J J (nl (th (rt ?_))))))))))))))))
 have hr0: [({ data:= #[97] }),({ data:= #[98] })]=looseS.aC:=by
  first|rfl|simp_all|omega
 have hr1: [[(0,0),(1,0)]]=looseS.sT:=by
  first|rfl|simp_all|omega
 exact rE () [.cell 0 25] J [agg [sl 1 rE_ [({ data:= #[97] }),({ data:= #[98] })],sl 1 gE [[(0,0),(1,0)]]]] ⟨.agg J J T.agg25 J J,tV⟩ (cA2 (fun x0 x1=>rV [agg [sl 1 rE_ x0,sl 1 gE x1]]) hr0 hr1) trivial eX
theorem strict_ok:
 Fn0 Tryz.prog 48 [] (spec strictS):=by
 refine fnI Tryz.func48 rfl rfl (fun w0 F0=> ?_)
 refine sq (rg (al (key:=0) T.z28 (eC (eC eZ)) fun b0=>(nl (th (sq (rg (bsE (enc:=rE_) (xs:= [({ data:= #[97] }),({ data:= #[98] })]) (css:= [[str ({ data:= #[97] })],[str ({ data:= #[98] })]]) T.mk22 ⟨J,J,p1 (φ:=str ({ data:= #[97] })) J,⟨J,J,p1 (φ:=str ({ data:= #[98] })) J,tV⟩⟩ J J J J (bsE (enc:=nE) (xs:= [1]) (css:= [[int 1]]) T.mk66 ⟨J,J,p1 (φ:=int 1) J,tV⟩ J J J J (bsE (enc:=nE) (xs:= [0,(-1)]) (css:= [[int 0],[int (-1)]]) T.mk66 ⟨J,J,p1 (φ:=int 0) J,⟨J,J,p1 (φ:=int (-1)) J,tV⟩⟩ J J J J (bd (css:= [(0,_),(1,_)]) T.st79 (eC (eC eZ)) ⟨J,J,p1 (φ:=sl 1 nE [1]) J,⟨J,J,p1 (φ:=sl 1 nE [0,(-1)]) J,tV⟩⟩ (bsE (enc:=sE) (xs:= [(⟨[1],[0,(-1)]⟩)]) (css:= [[sl 1 nE [1],sl 1 nE [0,(-1)]]]) T.mk26 ⟨J,J,pA (cs:= [sl 1 nE [1],sl 1 nE [0,(-1)]]) J,tV⟩ J J J J (bd (css:= [(0,_),(1,_)]) T.st28 (eC (eC eZ)) ⟨J,J,p1 (φ:=sl 1 rE_ [({ data:= #[97] }),({ data:= #[98] })]) J,⟨J,J,p1 (φ:=sl 2 sE [(⟨[1],[0,(-1)]⟩)]) J,tV⟩⟩ (sPA (cs':= [sl 1 rE_ [({ data:= #[97] }),({ data:= #[98] })],sl 2 sE [(⟨[1],[0,(-1)]⟩)]]) J J J T.agg28 J J (nl (th (rt ?_))))))))))))))))
 have hr0: [({ data:= #[97] }),({ data:= #[98] })]=strictS.aC:=by
  first|rfl|simp_all|omega
 have hr1: [(⟨[1],[0,(-1)]⟩)]=strictS.sT:=by
  first|rfl|simp_all|omega
 exact rE () [.cell 0 28] J [agg [sl 1 rE_ [({ data:= #[97] }),({ data:= #[98] })],sl 2 sE [(⟨[1],[0,(-1)]⟩)]]] ⟨.agg J J T.agg28 J J,tV⟩ (cA2 (fun x0 x1=>rV [agg [sl 1 rE_ x0,sl 2 sE x1]]) hr0 hr1) trivial eX
theorem fault_ok (m:SSys) (t:SS) (u:Int):
 Fn0 Tryz.prog 14 [sys m,spec t,int u] (int (fltE m t u)):=by
 refine fnI Tryz.func14 rfl rfl (fun w0 F0=> ?_)
 refine fcC (inhS 0 J) (fun hS0=> ?_)
 obtain⟨hma0,hms0,hme0⟩:=sys_lens hS0
 refine fcC (inhS 1 J) (fun hS1=> ?_)
 obtain⟨hsa1,hss1,hse1⟩:=sLn hS1
 refine sq (rg (bx (key:=3) (cs:= [sl 1 rE_ m.aC,sl 1 gE m.sT]) J fun b3=>(bx (key:=4) (cs:= [sl 1 rE_ t.aC,sl 2 sE t.sT]) J fun b4=>(ag (nl (th (sq (bk (sq (rg (lPA J J T.agg25 J (cal0 (φs:= [agg [sl 1 rE_ m.aC,sl 1 gE m.sT]]) (φ:=bl (sysOK m)) ⟨J,tV⟩ (divs.Is_ok m) T.ent27 (no J (ag (nl (th ?_))))))))))))))))
 refine cd J (fun hc0=> ?_) (fun hc0=> ?_)
 ·try simp at hc0
  refine sq (rg (ag (nl (th (rt (rb (rt_ ?_)))))))
  have hr0:(20:Int)=(fltE m t u):=by
   unfold fltE;rw[if_neg (by simpa using hc0)]
  exact rE () [.tmp 6] J [int 20] ⟨.tmp J,tV⟩ (cA1 (fun x0=>rV [int x0]) hr0) trivial eX
 ·try simp at hc0
  refine sq (rg (lPA J J T.agg28 J (cal0 (φs:= [agg [sl 1 rE_ t.aC,sl 2 sE t.sT]]) (φ:=bl (specOK t)) ⟨J,tV⟩ (ref03.Is_ok t) T.ent21 (no J (ag (nl (th ?_)))))))
  refine cd J (fun hc1=> ?_) (fun hc1=> ?_)
  ·try simp at hc1
   refine sq (rg (ag (nl (th (rt (rb (rt_ ?_)))))))
   have hr0:(30:Int)=(fltE m t u):=by
    unfold fltE;rw[if_pos (by simpa using hc0),if_neg (by simpa using hc1)]
   exact rE () [.tmp 6] J [int 30] ⟨.tmp J,tV⟩ (cA1 (fun x0=>rV [int x0]) hr0) trivial eX
  ·try simp at hc1
   have htv:specOK t=true:=by simpa using hc1
   have hn8:=(okSpec_of htv).n8
   refine sq (rg (fP J T.fld25_0 (lP J J J T.one22 (fP J T.fld28_0 (lP J J J T.one22 (cal0 (φs:= [sl 1 rE_ m.aC,sl 1 rE_ t.aC]) (φ:=bl (decide (m.aC=t.aC))) ⟨J,J,tV⟩ (ref01.SameStrings_ok _ _) T.ent28 (no J (ag (nl (th ?_))))))))))
   refine cd J (fun hc2=> ?_) (fun hc2=> ?_)
   ·try simp at hc2
    refine sq (rg (ag (nl (th (rt (rb (rt_ ?_)))))))
    have hr0:(10:Int)=(fltE m t u):=by
     unfold fltE;rw[if_pos (by simpa using hc0),if_pos htv,if_neg (by simpa using hc2)]
    exact rE () [.tmp 6] J [int 10] ⟨.tmp J,tV⟩ (cA1 (fun x0=>rV [int x0]) hr0) trivial eX
   ·try simp at hc2
    refine sq (rg (fP J T.fld28_0 (lP J J J T.one22 (fc (slenI 24 J) fun hm24=>(lnF J T.sl22 (mv (cal0 (φs:= [int (t.aC.length:Int),int u]) (φ:=bl (isSet (t.aC.length:Int) u)) ⟨J,J,tV⟩ (ref01.Set_ok _ _ O O) T.ent31 (no J (ag (nl (th ?_)))))))))))
    refine cd J (fun hc3=> ?_) (fun hc3=> ?_)
    ·try simp at hc3
     refine sq (rg (ag (nl (th (rt (rb (rt_ ?_)))))))
     have hr0:(1:Int)=(fltE m t u):=by
      unfold fltE;rw[if_pos (by simpa using hc0),if_pos htv,if_pos (by simpa using hc2),if_neg (by simpa using hc3)]
     exact rE () [.tmp 6] J [int 1] ⟨.tmp J,tV⟩ (cA1 (fun x0=>rV [int x0]) hr0) trivial eX
    ·try simp at hc3
     refine sk (eb (th (sq (rg (ag (nl (th (rt ?_))))))))
     have hr0:(0:Int)=(fltE m t u):=by
      unfold fltE;rw[if_pos (by simpa using hc0),if_pos htv,if_pos (by simpa using hc2),if_pos (by simpa using hc3)]
     exact rE () [.tmp 6] J [int 0] ⟨.tmp J,tV⟩ (cA1 (fun x0=>rV [int x0]) hr0) trivial eX
theorem awake18_ok:
 AL.Fn Tryz.prog 13 [] [(998,ambH tab)] (ι:=Unit) (fun _ _=>bl true) (fun _=> []):=by
 refine fnI Tryz.func13 rfl rfl (fun w0 F0=> ?_)
 have hsm:smallSpec strictS:=strict_okS.small
 obtain⟨q1,q2,q3,q4,q5,q6,q7⟩:=fix_ctl1
 obtain⟨r1,r2⟩:=fix_right
 have q8:=fix_ctl2
 have q9:=fix_gds
 have hz:looseS.sT.length*(ctlS looseS strictS 1).1.sT.length<5000:=by show 1*_<5000;omega
 have hz2:sumLen looseS.sT*sumLen (ctlS looseS strictS 1).1.sT≤400000:=by show 2*_≤400000;omega
 refine tbH 9999 998 rfl ?_
 refine sq (rg (ag (nl (th (sq (rg (cal0 (φs:= []) (φ:=agg [sl 1 rE_ looseS.aC,sl 1 gE looseS.sT]) trivial mkv.loose_ok T.ent47 (cal0 (φs:= []) (φ:=agg [sl 1 rE_ strictS.aC,sl 2 sE strictS.sT]) trivial mkv.strict_ok T.ent48 (tbU (ψ:=tab) 10 9999 J J (cal0 (φs:= [both (agg [sl 1 rE_ looseS.aC,sl 1 gE looseS.sT]) tab,agg [sl 1 rE_ strictS.aC,sl 2 sE strictS.sT]]) (φ:=tup [agg [sl 1 rE_ ((gdS looseS strictS).1).aC,sl 2 sE ((gdS looseS strictS).1).sT],int ((gdS looseS strictS).2)]) ⟨J,J,tV⟩ (mkg.Guard_ok looseS strictS aS) T.ent16 (mv (xt J J (kn 13 (spec strictS) J (by rw[q9];exact fun h=>h) (xt J J (al (key:=1) T.z28 (eC (eC eZ)) fun b1=>(sPA (cs':= [sl 1 rE_ strictS.aC,sl 2 sE strictS.sT]) J J J T.agg28 J J (ag (nl (th (sq (rg (cal0 (φs:= []) (φ:=agg [sl 1 rE_ looseS.aC,sl 1 gE looseS.sT]) trivial mkv.loose_ok T.ent47 (cal0 (φs:= []) (φ:=agg [sl 1 rE_ strictS.aC,sl 2 sE strictS.sT]) trivial mkv.strict_ok T.ent48 (tbU (ψ:=tab) 16 9999 J J (calW (φs:= [both (agg [sl 1 rE_ looseS.aC,sl 1 gE looseS.sT]) tab,agg [sl 1 rE_ strictS.aC,sl 2 sE strictS.sT],int 1]) (φ:=tup [agg [sl 1 rE_ ((ctlS looseS strictS 1).1).aC,sl 1 gE ((ctlS looseS strictS 1).1).sT],int ((ctlS looseS strictS 1).2)]) ⟨J,J,J,tV⟩ (mkr.Control_ok looseS strictS aS 1) T.ent25 (fun N hN=>fun h=>tup_le (cs:= [agg [fre N (sl 1 rE_ ((ctlS looseS strictS 1).1).aC),fre N (sl 1 gE ((ctlS looseS strictS 1).1).sT)],int ((ctlS looseS strictS 1).2)]) (ds:= [agg [sl 1 rE_ ((ctlS looseS strictS 1).1).aC,sl 1 gE ((ctlS looseS strictS 1).1).sT],int ((ctlS looseS strictS 1).2)]) ⟨fun h=>agg_le (cs:= [fre N (sl 1 rE_ ((ctlS looseS strictS 1).1).aC),fre N (sl 1 gE ((ctlS looseS strictS 1).1).sT)]) (ds:= [sl 1 rE_ ((ctlS looseS strictS 1).1).aC,sl 1 gE ((ctlS looseS strictS 1).1).sT]) ⟨fun h=>nw_le h,fun h=>nw_le h,tV⟩ h,fun h=>h,tV⟩ h) (mv (xt J J (xt J J (al (key:=3) T.z25 (eC (eC eZ)) fun b3=>(sPA (cs':= [sl 1 rE_ ((ctlS looseS strictS 1).1).aC,sl 1 gE ((ctlS looseS strictS 1).1).sT]) J J J T.agg25 J J (ag (nl (th (sq (rg (cal0 (φs:= []) (φ:=agg [sl 1 rE_ looseS.aC,sl 1 gE looseS.sT]) trivial mkv.loose_ok T.ent47 (cal0 (φs:= []) (φ:=agg [sl 1 rE_ strictS.aC,sl 2 sE strictS.sT]) trivial mkv.strict_ok T.ent48 (tbU (ψ:=tab) 22 9999 J J (calW (φs:= [both (agg [sl 1 rE_ looseS.aC,sl 1 gE looseS.sT]) tab,agg [sl 1 rE_ strictS.aC,sl 2 sE strictS.sT],int 2]) (φ:=tup [agg [sl 1 rE_ ((ctlS looseS strictS 2).1).aC,sl 1 gE ((ctlS looseS strictS 2).1).sT],int ((ctlS looseS strictS 2).2)]) ⟨J,J,J,tV⟩ (mkr.Control_ok looseS strictS aS 2) T.ent25 (fun N hN=>fun h=>tup_le (cs:= [agg [fre N (sl 1 rE_ ((ctlS looseS strictS 2).1).aC),fre N (sl 1 gE ((ctlS looseS strictS 2).1).sT)],int ((ctlS looseS strictS 2).2)]) (ds:= [agg [sl 1 rE_ ((ctlS looseS strictS 2).1).aC,sl 1 gE ((ctlS looseS strictS 2).1).sT],int ((ctlS looseS strictS 2).2)]) ⟨fun h=>agg_le (cs:= [fre N (sl 1 rE_ ((ctlS looseS strictS 2).1).aC),fre N (sl 1 gE ((ctlS looseS strictS 2).1).sT)]) (ds:= [sl 1 rE_ ((ctlS looseS strictS 2).1).aC,sl 1 gE ((ctlS looseS strictS 2).1).sT]) ⟨fun h=>nw_le h,fun h=>nw_le h,tV⟩ h,fun h=>h,tV⟩ h) (mv (xt J J (xt J J (al (key:=5) T.z25 (eC (eC eZ)) fun b5=>(sPA (cs':= [sl 1 rE_ ((ctlS looseS strictS 2).1).aC,sl 1 gE ((ctlS looseS strictS 2).1).sT]) J J J T.agg25 J J (ag (nl (th (sq (dr (nh:=9) [0,0,2,7,15,31,31,63,255] T.mixed kR ?_)))))))))))))))))))))))))))))))))))))))))))))))))
 refine st_ J (fun _ _ _ gq kq=>lPA (gq.1.trans J) J T.agg25 J kq) ?_
 refine st_ J (fun _ _ _ gq kq=>cal0 (φs:= []) (φ:=agg [sl 1 rE_ looseS.aC,sl 1 gE looseS.sT]) trivial mkv.loose_ok T.ent47 kq) ?_
 refine st_ J (fun _ _ _ gq kq=>cal0 (φs:= []) (φ:=agg [sl 1 rE_ strictS.aC,sl 2 sE strictS.sT]) trivial mkv.strict_ok T.ent48 kq) ?_
 refine st_ J (fun _ _ _ gq kq=>cal0 (φs:= [agg [sl 1 rE_ ((ctlS looseS strictS 1).1).aC,sl 1 gE ((ctlS looseS strictS 1).1).sT],agg [sl 1 rE_ looseS.aC,sl 1 gE looseS.sT],agg [sl 1 rE_ strictS.aC,sl 2 sE strictS.sT],int 1]) (φ:=tup [bl (rgtB ((ctlS looseS strictS 1).1) looseS strictS 1),int (rgtE ((ctlS looseS strictS 1).1) looseS strictS 1)]) ⟨(gq.1.trans J),(gq.2.1.trans J),(gq.2.2.1.trans J),J,tV⟩ (mkr.Right_ok ((ctlS looseS strictS 1).1) looseS strictS aS 1 aS aS) T.ent30 kq) ?_
 refine st_ J (fun _ _ _ gq kq=>mv' (gq.1.trans J) kq) ?_
 refine st_ J (fun _ _ _ gq kq=>xt (gq.1.trans J) J kq) ?_
 refine st_ J (fun _ _ _ gq kq=>xt (gq.1.trans J) J kq) ?_
 refine st_ J (fun _ _ _ gq kq=>ag' (gq.1.trans J) kq) ?_
 refine st_ J (fun _ _ _ gq kq=>ag' (gq.1.trans J) kq) ?_
 refine pn (nl (th (sq (rg (mv (bi J J b_eql (mv ?_)))))))
 apply gAnd (t:=36) (pd:=41) rfl
 rotate_left
 ·intro hg0 fin
  have hg0':=hg0
  try simp at hg0'
  exact gy J J J hg0 (fP J T.fld28_1 (gy J J J hg0 (lP J J J T.one26 (gy J J J hg0 (fc (slenI 38 J) fun hm38=>(lnF J T.sl26 (gy J J J hg0 (bi J J b_gtr (pkT J hg0 J (drp (X:= [(40,_),(39,_),(38,_),(37,_)]) ⟨J,J,J,J,tV⟩ fin))))))))))
 ·intro hg0 fin
  exact gn J J J hg0 J J (gn J J J hg0 J J (gn J J J hg0 J J (gn J J J hg0 J J (pkF J hg0 J (drp (X:= [(40,_),(39,_),(38,_),(37,_)]) ⟨J,J,J,J,tV⟩ fin)))))
 refine mv ?_
 apply gAnd (t:=42) (pd:=50) rfl
 rotate_left
 ·intro hg1 fin
  have hg1':=hg1
  try simp at hg1'
  exact gy J J J hg1 (fP J T.fld28_1 (gy J J J hg1 (lP J J J T.one26 (gy J J J hg1 (iF J J T.sl26 O gB (gy J J J hg1 (fF J T.fld79_0 (gy J J J hg1 (lF J J T.one66 (gy J J J hg1 (bsE (enc:=nE) (xs:= [1]) (css:= [[int 1]]) T.mk66 ⟨J,J,p1 (φ:=int 1) J,tV⟩ J J J J (gy J J J hg1 (cal0 (φs:= [sl 1 nE (ix strictS.sT 0).aP,sl 1 nE [1]]) (φ:=bl (decide ((ix strictS.sT 0).aP= [1]))) ⟨J,J,tV⟩ (ref01.SameInts_ok _ _) T.ent49 (pkT J hg1 J (drp (X:= [(49,_),(48,_),(47,_),(46,_),(45,_),(44,_),(43,_)]) ⟨J,J,J,J,J,J,J,tV⟩ fin)))))))))))))))
 ·intro hg1 fin
  exact gn J J J hg1 J J (gn J J J hg1 J J (gn J J J hg1 J J (gn J J J hg1 J J (gn J J J hg1 J J (gn J J J hg1 J J (gn J J J hg1 J J (pkF J hg1 J (drp (X:= [(49,_),(48,_),(47,_),(46,_),(45,_),(44,_),(43,_)]) ⟨J,J,J,J,J,J,J,tV⟩ fin))))))))
 refine mv ?_
 apply gAnd (t:=51) (pd:=54) rfl
 rotate_left
 ·intro hg2 fin
  have hg2':=hg2
  try simp at hg2'
  exact gy J J J hg2 (mv (gy J J J hg2 (bi J J b_eql (pkT J hg2 J (drp (X:= [(53,_),(52,_)]) ⟨J,J,tV⟩ fin)))))
 ·intro hg2 fin
  exact gn J J J hg2 J J (gn J J J hg2 J J (pkF J hg2 J (drp (X:= [(53,_),(52,_)]) ⟨J,J,tV⟩ fin)))
 refine mv ?_
 apply gAnd (t:=55) (pd:=58) rfl
 rotate_left
 ·intro hg3 fin
  have hg3':=hg3
  try simp at hg3'
  exact gy J J J hg3 (mv (gy J J J hg3 (bi J J b_eql (pkT J hg3 J (drp (X:= [(57,_),(56,_)]) ⟨J,J,tV⟩ fin)))))
 ·intro hg3 fin
  exact gn J J J hg3 J J (gn J J J hg3 J J (pkF J hg3 J (drp (X:= [(57,_),(56,_)]) ⟨J,J,tV⟩ fin)))
 refine mv ?_
 apply gAnd (t:=59) (pd:=62) rfl
 rotate_left
 ·intro hg4 fin
  have hg4':=hg4
  try simp at hg4'
  exact gy J J J hg4 (mv (gy J J J hg4 (bi J J b_eql (pkT J hg4 J (drp (X:= [(61,_),(60,_)]) ⟨J,J,tV⟩ fin)))))
 ·intro hg4 fin
  exact gn J J J hg4 J J (gn J J J hg4 J J (pkF J hg4 J (drp (X:= [(61,_),(60,_)]) ⟨J,J,tV⟩ fin)))
 refine mv ?_
 apply gAnd (t:=63) (pd:=65) rfl
 rotate_left
 ·intro hg5 fin
  have hg5':=hg5
  try simp at hg5'
  exact gy J J J hg5 (mv (pkT J hg5 J (drp (X:= [(64,_)]) ⟨J,tV⟩ fin)))
 ·intro hg5 fin
  exact gn J J J hg5 J J (pkF J hg5 J (drp (X:= [(64,_)]) ⟨J,tV⟩ fin))
 refine ag (nl (th (rt ?_)))
 have hr0:(((((((decide (((gdS looseS strictS).2)=0))&&(decide (0<(strictS.sT.length:Int))))&&(decide ((ix strictS.sT 0).aP= [1])))&&(decide (((ctlS looseS strictS 1).2)=0)))&&(decide (((ctlS looseS strictS 2).2)=3)))&&(decide ((rgtE ((ctlS looseS strictS 1).1) looseS strictS 1)=0)))&&(rgtB ((ctlS looseS strictS 1).1) looseS strictS 1))=true:=by
  rw[q9,q1,q8,r1,r2];rfl
 exact rE () [.tmp 0] J [bl (((((((decide (((gdS looseS strictS).2)=0))&&(decide (0<(strictS.sT.length:Int))))&&(decide ((ix strictS.sT 0).aP= [1])))&&(decide (((ctlS looseS strictS 1).2)=0)))&&(decide (((ctlS looseS strictS 2).2)=3)))&&(decide ((rgtE ((ctlS looseS strictS 1).1) looseS strictS 1)=0)))&&(rgtB ((ctlS looseS strictS 1).1) looseS strictS 1))] ⟨.tmp J,tV⟩ (cA1 (fun x0=>rV [bl x0]) hr0) trivial eX
end mkv
end
section
open ref01 ref03 ref04 ref06 prog prog2 prog3 prog4 prog5 prog6 prog7 prog8 prog9 prog13 prog15 starts Part Rungs LeftM TrimM RoundM MergeM BisM BisM4 BisM5 Itoa Keys WalkM StepM WitM JudgM JudgM2 search refw judg wit refj sysw satj divr divs divd dive divg divw divv divp divt LevM LevM2 TrimI QuoM FailM DivM RefM FitM TogM ProdM prodw GenW CompM CompP CrossM KeepK GuardM MakeM LsysM LsysM2 MakeM2 KeepB AtM ClsM LstM MakeM3 GuaW LeadM FixM ValidM mkk mkp mkl mkc mkq mkg mkr mks mks2 mkv
theorem rgt_f0 {x m:SSys} {t:SS} (h:((!fewK x 20|| !fewK m 20)|| !lightK t 20)=false):x.sT.length≤20∧m.sT.length≤20∧t.sT.length≤20∧sizeM x≤300∧sizeM m≤300∧(size t:Int)≤400:=by
 obtain⟨h1,h2,h3⟩:=or_not3 h
 have a:=fewK_f h1
 have b:=fewK_f h2
 have c:=lightK_f h3
 omega
theorem rgt_j2 {x m:SSys} {t:SS} {u e:Int} (he:e=(if sysOK x=true then fltE m t u else 20)) (h:((decide (e=0)||decide (e=1))&& !decide (x.aC=t.aC))=true):(10:Int)=rgtE x m t u:=by
 rw[rgt_err]
 rw[Bool.and_eq_true,Bool.or_eq_true,decide_eq_true_eq,decide_eq_true_eq,Bool.not_eq_true',decide_eq_false_iff_not] at h
 rw[he] at h
 exact(if_pos h).symm
theorem rgt_j3 {x m:SSys} {t:SS} {u e:Int} (he:e=(if sysOK x=true then fltE m t u else 20)) (h:((decide (e=0)||decide (e=1))&& !decide (x.aC=t.aC))=false):e=rgtE x m t u:=by
 rw[rgt_err]
 have h2:¬((e=0∨e=1)∧¬x.aC=t.aC):=fun g=>by
  rw[Bool.and_eq_false_iff,Bool.or_eq_false_iff,decide_eq_false_iff_not,decide_eq_false_iff_not,Bool.not_eq_false',decide_eq_true_eq] at h
  rcases h with h|h
  ·rcases g.1 with k|k
   ·exact h.1 k
   ·exact h.2 k
  ·exact g.2 h
 rw[he] at h2
 rw[he]
 exact(if_neg h2).symm
theorem rgt_inv {x m:SSys} {t:SS} {u:Int} (h:rgtE x m t u=0):sysOK x=true∧sysOK m=true∧specOK t=true∧x.aC=m.aC∧x.aC=t.aC∧isSet (t.aC.length:Int) u=true:=by
 unfold rgtE at h
 split at h
 ·next g1=>
  split at h
  ·next g2=>
   split at h
   ·next g3=>
    split at h
    ·next g4=>exact⟨g1.1,g1.2,g2,g3.1,g3.2,g4⟩
    ·cases h
   ·cases h
  ·cases h
 ·cases h
theorem rgt_same {x m:SSys} {t:SS} {u:Int} (h:rgtE x m t u=0):(togB m x t&&keepsB x u)=rgtB x m t u:=by
 unfold rgtB
 rw[h,decide_eq_true rfl,Bool.true_and]
 congr 1
namespace T
theorem ent11:Ent Tryz.prog 11:=ent_of kR
theorem ent12:Ent Tryz.prog 12:=ent_of kR
theorem ent13:Ent Tryz.prog 13:=ent_of kR
theorem ent14:Ent Tryz.prog 14:=ent_of kR
theorem ent29:Ent Tryz.prog 29:=ent_of kR
theorem ent17:Ent Tryz.prog 17:=ent_of kR
theorem ent18:Ent Tryz.prog 18:=ent_of kR
theorem bool4:Tryz.prog.underlying 4=some .bool:=by kernel_rfl
end T
namespace mkw
theorem MakeRight_ok (x m:SSys) (t:SS) (hts:smallSpec t) (u:Int):
 Fn0 Tryz.prog 5 [tabbed (sys x),sys m,spec t,int u] (bl true):=by
 refine fnI Tryz.func5 rfl rfl (fun w0 F0=> ?_)
 refine tbI 0 9999 rfl ?_
 refine tbJC (ψ:=tab) 9999 997 rfl ?_
 refine fcC (inhS 0 J) (fun hS0=> ?_)
 obtain⟨hma0,hms0,hme0⟩:=sys_lens hS0
 refine fcC (inhS 1 J) (fun hS1=> ?_)
 obtain⟨hma1,hms1,hme1⟩:=sys_lens hS1
 refine fcC (inhS 2 J) (fun hS2=> ?_)
 obtain⟨hsa2,hss2,hse2⟩:=sLn hS2
 refine sq (rg (bx (key:=4) (cs:= [sl 1 rE_ x.aC,sl 1 gE x.sT]) J fun b4=>(bx (key:=5) (cs:= [sl 1 rE_ m.aC,sl 1 gE m.sT]) J fun b5=>(bx (key:=6) (cs:= [sl 1 rE_ t.aC,sl 2 sE t.sT]) J fun b6=>(ag (nl (th (sq (sq (rg (lPA J J T.agg25 J (cal0 (φs:= [agg [sl 1 rE_ x.aC,sl 1 gE x.sT],int 20]) (φ:=bl (fewK x 20)) ⟨J,J,tV⟩ (mkv.few18_ok x 20) T.ent11 (no J (mv ?_))))))))))))))
 apply gOr (t:=16) (pd:=20) rfl
 rotate_left
 ·intro hg0 fin
  have hg0':=hg0
  try simp at hg0'
  exact gy J J J hg0 (lPA J J T.agg25 J (gy J J J hg0 (cal0 (φs:= [agg [sl 1 rE_ m.aC,sl 1 gE m.sT],int 20]) (φ:=bl (fewK m 20)) ⟨J,J,tV⟩ (mkv.few18_ok m 20) T.ent11 (gy J J J hg0 (no J (pkF J hg0 J (drp (X:= [(19,_),(18,_),(17,_)]) ⟨J,J,J,tV⟩ fin)))))))
 ·intro hg0 fin
  exact gn J J J hg0 J J (gn J J J hg0 J J (gn J J J hg0 J J (pkT J hg0 J (drp (X:= [(19,_),(18,_),(17,_)]) ⟨J,J,J,tV⟩ fin))))
 refine mv ?_
 apply gOr (t:=21) (pd:=25) rfl
 rotate_left
 ·intro hg1 fin
  have hg1':=hg1
  try simp at hg1'
  exact gy J J J hg1 (lPA J J T.agg28 J (gy J J J hg1 (cal0 (φs:= [agg [sl 1 rE_ t.aC,sl 2 sE t.sT],int 20]) (φ:=bl (lightK t 20)) ⟨J,J,tV⟩ (mkv.light18_ok t 20) T.ent12 (gy J J J hg1 (no J (pkF J hg1 J (drp (X:= [(24,_),(23,_),(22,_)]) ⟨J,J,J,tV⟩ fin)))))))
 ·intro hg1 fin
  exact gn J J J hg1 J J (gn J J J hg1 J J (gn J J J hg1 J J (pkT J hg1 J (drp (X:= [(24,_),(23,_),(22,_)]) ⟨J,J,J,tV⟩ fin))))
 refine nl (th ?_)
 refine cd J (fun hc0=> ?_) (fun hc0=> ?_)
 ·skip
  refine sq (rg (calT (ψ:=tab) (φs:= []) (φ:=bl true) trivial mkv.awake18_ok T.ent13 9999 J J (ag (nl (th (rt (rt_ ?_)))))))
  exact rE () [.tmp 8] J [bl true] ⟨.tmp J,tV⟩ J trivial eX
 ·skip
  obtain⟨hz1,hz2,hz3,hz4,hz5,hz6⟩:=rgt_f0 hc0
  have hx3:=size_sum hz4
  have hm3:=size_sum hz5
  have hmx:m.sT.length*x.sT.length≤20*20:=Nat.mul_le_mul O O
  have hmt:m.sT.length*x.sT.length*t.sT.length≤400*20:=Nat.mul_le_mul O O
  have hz:m.sT.length*x.sT.length<5000:=by omega
  have hzz:sumLen m.sT*sumLen x.sT≤400000:=Nat.le_trans (Nat.mul_le_mul hm3 hx3) (by decide)
  have hzT:m.sT.length*x.sT.length*t.sT.length≤1000000000:=by omega
  refine sk (th (sq (rg (lPA J J T.agg25 J (lPA J J T.agg28 J (mv (cal0 (φs:= [agg [sl 1 rE_ m.aC,sl 1 gE m.sT],agg [sl 1 rE_ t.aC,sl 2 sE t.sT],int u]) (φ:=int (fltE m t u)) ⟨J,J,J,tV⟩ (mkv.fault_ok m t u) T.ent14 (ag (ag (nl (th (sq (sq (rg (lPA J J T.agg25 J (cal0 (φs:= [agg [sl 1 rE_ x.aC,sl 1 gE x.sT]]) (φ:=bl (sysOK x)) ⟨J,tV⟩ (divs.Is_ok x) T.ent27 (no J (nl (th ?_)))))))))))))))))))
  refine jn (κ:=Int) (fun p=> [(3,int u),(4,ptr 4 b4 0),(5,ptr 5 b5 0),(6,ptr 6 b6 0),(8,bl false),(9,int p),(10,bl false),(9999,tab)]) (fun p=> [(4,cell b4 [sl 1 rE_ x.aC,sl 1 gE x.sT]),(5,cell b5 [sl 1 rE_ m.aC,sl 1 gE m.sT]),(6,cell b6 [sl 1 rE_ t.aC,sl 2 sE t.sT]),(997,ambH tab)]) (fun p=>p=(if sysOK x=true then fltE m t u else 20)) ?_ ?_
  ·
   refine cd J (fun hc1=> ?_) (fun hc1=> ?_)
   ·try simp at hc1
    refine rg (ag (nl ?_))
    have hN0:(20:Int)=(if sysOK x=true then fltE m t u else 20):=by
     rw[if_neg (by simpa using hc1)]
    exact jx (20:Int) hN0 ⟨id,id,id,id,id,id,id,id,tV⟩ ⟨rI,rI,rI,rI,tV⟩
   ·try simp at hc1
    refine sk ?_
    have hN0:(fltE m t u)=(if sysOK x=true then fltE m t u else 20):=by
     rw[if_pos (by simpa using hc1)]
    exact jx (fltE m t u) hN0 ⟨id,id,id,id,id,id,id,id,tV⟩ ⟨rI,rI,rI,rI,tV⟩
  ·intro e1 hG
   have hJ1:e1=(if sysOK x=true then fltE m t u else 20):=hG
   skip
   show At _ _ _ [(3,int u),(4,ptr 4 b4 0),(5,ptr 5 b5 0),(6,ptr 6 b6 0),(8,bl false),(9,int e1),(10,bl false),(9999,tab)] [(4,cell b4 [sl 1 rE_ x.aC,sl 1 gE x.sT]),(5,cell b5 [sl 1 rE_ m.aC,sl 1 gE m.sT]),(6,cell b6 [sl 1 rE_ t.aC,sl 2 sE t.sT]),(997,ambH tab)]
   refine th (sq (sq (rg (mv (bi rfl rfl b_eql (mv ?_))))))
   apply gOr (t:=36) (pd:=39) rfl
   rotate_left
   ·intro hg2 fin
    have hg2':=hg2
    try simp at hg2'
    exact gy J J J hg2 (mv (gy J J J hg2 (bi J J b_eql (pkF J hg2 J (drp (X:= [(38,_),(37,_)]) ⟨J,J,tV⟩ fin)))))
   ·intro hg2 fin
    exact gn J J J hg2 J J (gn J J J hg2 J J (pkT J hg2 J (drp (X:= [(38,_),(37,_)]) ⟨J,J,tV⟩ fin)))
   refine mv ?_
   apply gAnd (t:=40) (pd:=47) rfl
   rotate_left
   ·intro hg3 fin
    have hg3':=hg3
    try simp at hg3'
    exact gy J J J hg3 (fP J T.fld25_0 (gy J J J hg3 (lP J J J T.one22 (gy J J J hg3 (fP J T.fld28_0 (gy J J J hg3 (lP J J J T.one22 (gy J J J hg3 (cal0 (φs:= [sl 1 rE_ x.aC,sl 1 rE_ t.aC]) (φ:=bl (decide (x.aC=t.aC))) ⟨J,J,tV⟩ (ref01.SameStrings_ok _ _) T.ent28 (gy J J J hg3 (no J (pkT J hg3 J (drp (X:= [(46,_),(45,_),(44,_),(43,_),(42,_),(41,_)]) ⟨J,J,J,J,J,J,tV⟩ fin)))))))))))))
   ·intro hg3 fin
    exact gn J J J hg3 J J (gn J J J hg3 J J (gn J J J hg3 J J (gn J J J hg3 J J (gn J J J hg3 J J (gn J J J hg3 J J (pkF J hg3 J (drp (X:= [(46,_),(45,_),(44,_),(43,_),(42,_),(41,_)]) ⟨J,J,J,J,J,J,tV⟩ fin)))))))
   refine nl (th ?_)
   refine jn (κ:=Int) (fun p=> [(3,int u),(4,ptr 4 b4 0),(5,ptr 5 b5 0),(6,ptr 6 b6 0),(8,bl false),(9,int p),(10,bl false),(9999,tab)]) (fun p=> [(4,cell b4 [sl 1 rE_ x.aC,sl 1 gE x.sT]),(5,cell b5 [sl 1 rE_ m.aC,sl 1 gE m.sT]),(6,cell b6 [sl 1 rE_ t.aC,sl 2 sE t.sT]),(997,ambH tab)]) (fun p=>p=rgtE x m t u) ?_ ?_
   ·
    refine cd J (fun hc2=> ?_) (fun hc2=> ?_)
    ·skip
     refine rg (ag (nl ?_))
     have hN0:(10:Int)=rgtE x m t u:=by
      exact rgt_j2 hJ1 hc2
     exact jx (10:Int) hN0 ⟨id,id,id,id,id,id,id,id,tV⟩ ⟨rI,rI,rI,rI,tV⟩
    ·skip
     refine sk ?_
     have hN0:e1=rgtE x m t u:=by
      exact rgt_j3 hJ1 hc2
     exact jx e1 hN0 ⟨id,id,id,id,id,id,id,id,tV⟩ ⟨rI,rI,rI,rI,tV⟩
   ·intro e2 hG
    have hJ2:e2=rgtE x m t u:=hG
    skip
    show At _ _ _ [(3,int u),(4,ptr 4 b4 0),(5,ptr 5 b5 0),(6,ptr 6 b6 0),(8,bl false),(9,int e2),(10,bl false),(9999,tab)] [(4,cell b4 [sl 1 rE_ x.aC,sl 1 gE x.sT]),(5,cell b5 [sl 1 rE_ m.aC,sl 1 gE m.sT]),(6,cell b6 [sl 1 rE_ t.aC,sl 2 sE t.sT]),(997,ambH tab)]
    refine th (sq (sq (rg (mv (bi rfl rfl b_eql (nl (th ?_)))))))
    refine jn (κ:=Bool) (fun p=> [(3,int u),(4,ptr 4 b4 0),(5,ptr 5 b5 0),(6,ptr 6 b6 0),(8,bl false),(9,int e2),(10,bl p),(9999,tab)]) (fun p=> [(4,cell b4 [sl 1 rE_ x.aC,sl 1 gE x.sT]),(5,cell b5 [sl 1 rE_ m.aC,sl 1 gE m.sT]),(6,cell b6 [sl 1 rE_ t.aC,sl 2 sE t.sT]),(997,ambH tab)]) (fun p=>p=rgtB x m t u) ?_ ?_
    ·
     refine cd J (fun hc3=> ?_) (fun hc3=> ?_)
     ·try simp at hc3
      have hE:rgtE x m t u=0:=by rw[←hJ2];exact of_decide_eq_true (by simpa using hc3)
      obtain⟨hxv,hmv,htv,hxm,hxt,hse⟩:=rgt_inv hE
      have hx:=sysOK_ok hxv
      have hm:=sysOK_ok hmv
      have ht:=okSpec_of htv
      obtain⟨hu0,hu1⟩:=isSet_b8 ht.n8 hse
      have hrs:=rgt_same hE
      refine rg (lPA J J T.agg25 J (lPA J J T.agg25 J (lPA J J T.agg28 J (mv (cal0 (φs:= [agg [sl 1 rE_ m.aC,sl 1 gE m.sT],agg [sl 1 rE_ x.aC,sl 1 gE x.sT],agg [sl 1 rE_ t.aC,sl 2 sE t.sT],int u]) (φ:=bl (togB m x t&&keepsB x u)) ⟨J,J,J,J,tV⟩ (mks.RefRight_ok m x t aS aS aS aS u O O) T.ent29 (ag (nl ?_)))))))
      have hN0:(togB m x t&&keepsB x u)=rgtB x m t u:=by
       exact hrs
      exact jx (togB m x t&&keepsB x u) hN0 ⟨id,id,id,id,id,id,id,id,tV⟩ ⟨rI,rI,rI,rI,tV⟩
     ·try simp at hc3
      have hE:rgtE x m t u≠0:=by rw[←hJ2];simpa using hc3
      have hrn:=rgt_no hE
      refine sk ?_
      have hN0:false=rgtB x m t u:=by
       exact hrn.symm
      exact jx false hN0 ⟨id,id,id,id,id,id,id,id,tV⟩ ⟨rI,rI,rI,rI,tV⟩
    ·intro wb hG
     have hJ3:wb=rgtB x m t u:=hG
     skip
     show At _ _ _ [(3,int u),(4,ptr 4 b4 0),(5,ptr 5 b5 0),(6,ptr 6 b6 0),(8,bl false),(9,int e2),(10,bl wb),(9999,tab)] [(4,cell b4 [sl 1 rE_ x.aC,sl 1 gE x.sT]),(5,cell b5 [sl 1 rE_ m.aC,sl 1 gE m.sT]),(6,cell b6 [sl 1 rE_ t.aC,sl 2 sE t.sT]),(997,ambH tab)]
     refine th (sq (dr (nh:=13) [0,1,0,7,0,31,0,127,255,511,511,1023,4095] T.mixed kR ?_))
     refine st_ J (fun _ _ _ gq kq=>lPA (gq.1.trans J) J T.agg25 J kq) ?_
     refine st_ J (fun _ _ _ gq kq=>calW (φs:= [agg [sl 1 rE_ x.aC,sl 1 gE x.sT]]) (φ:=agg [sl 1 rE_ x.aC,sl 1 gE x.sT]) ⟨(gq.1.trans J),tV⟩ (sysw.Copy_ok x O) T.ent17 (fun N hN=>fun h=>agg_le (cs:= [fre N (sl 1 rE_ x.aC),fre N (sl 1 gE x.sT)]) (ds:= [sl 1 rE_ x.aC,sl 1 gE x.sT]) ⟨fun h=>nw_le h,fun h=>nw_le h,tV⟩ h) kq) ?_
     refine st_ J (fun _ _ _ gq kq=>lPA (gq.1.trans J) J T.agg25 J kq) ?_
     refine st_ J (fun _ _ _ gq kq=>calW (φs:= [agg [sl 1 rE_ m.aC,sl 1 gE m.sT]]) (φ:=agg [sl 1 rE_ m.aC,sl 1 gE m.sT]) ⟨(gq.1.trans J),tV⟩ (sysw.Copy_ok m O) T.ent17 (fun N hN=>fun h=>agg_le (cs:= [fre N (sl 1 rE_ m.aC),fre N (sl 1 gE m.sT)]) (ds:= [sl 1 rE_ m.aC,sl 1 gE m.sT]) ⟨fun h=>nw_le h,fun h=>nw_le h,tV⟩ h) kq) ?_
     refine st_ J (fun _ _ _ gq kq=>lPA (gq.1.trans J) J T.agg28 J kq) ?_
     refine st_ J (fun _ _ _ gq kq=>calW (φs:= [agg [sl 1 rE_ t.aC,sl 2 sE t.sT]]) (φ:=agg [sl 1 rE_ t.aC,sl 2 sE t.sT]) ⟨(gq.1.trans J),tV⟩ (ref03.Copy_ok t O) T.ent18 (fun N hN=>fun h=>agg_le (cs:= [fre N (sl 1 rE_ t.aC),fre N (sl 2 sE t.sT)]) (ds:= [sl 1 rE_ t.aC,sl 2 sE t.sT]) ⟨fun h=>nw_le h,fun h=>nw_le h,tV⟩ h) kq) ?_
     refine st_ J (fun _ _ _ gq kq=>mv' (gq.1.trans J) kq) ?_
     refine st_ J (fun _ _ _ gq kq=>cal0 (φs:= [agg [sl 1 rE_ x.aC,sl 1 gE x.sT],agg [sl 1 rE_ m.aC,sl 1 gE m.sT],agg [sl 1 rE_ t.aC,sl 2 sE t.sT],int u]) (φ:=tup [bl (rgtB x m t u),int (rgtE x m t u)]) ⟨(gq.1.trans J),(gq.2.1.trans J),(gq.2.2.1.trans J),(gq.2.2.2.1.trans J),tV⟩ (mkr.Right_ok x m t aS u aS aS) T.ent30 kq) ?_
     refine st_ J (fun _ _ _ gq kq=>mv' (gq.1.trans J) kq) ?_
     refine st_ J (fun _ _ _ gq kq=>xt (gq.1.trans J) J kq) ?_
     refine st_ J (fun _ _ _ gq kq=>xt (gq.1.trans J) J kq) ?_
     refine st_ J (fun _ _ _ gq kq=>ag' (gq.1.trans J) kq) ?_
     refine st_ J (fun _ _ _ gq kq=>ag' (gq.1.trans J) kq) ?_
     refine pn (nl (th (sq (rg (mv (mv (bi J J b_eql (mv ?_))))))))
     apply gAnd (t:=69) (pd:=73) rfl
     rotate_left
     ·intro hg4 fin
      have hg4':=hg4
      try simp at hg4'
      exact gy J J J hg4 (mv (gy J J J hg4 (mv (gy J J J hg4 (bi J J (b_eqlB T.bool4) (pkT J hg4 J (drp (X:= [(72,_),(71,_),(70,_)]) ⟨J,J,J,tV⟩ fin)))))))
     ·intro hg4 fin
      exact gn J J J hg4 J J (gn J J J hg4 J J (gn J J J hg4 J J (pkF J hg4 J (drp (X:= [(72,_),(71,_),(70,_)]) ⟨J,J,J,tV⟩ fin))))
     refine mv ?_
     apply gAnd (t:=74) (pd:=76) rfl
     rotate_left
     ·intro hg5 fin
      have hg5':=hg5
      try simp at hg5'
      exact gy J J J hg5 (calT (ψ:=tab) (φs:= []) (φ:=bl true) trivial mkv.awake18_ok T.ent13 9999 J J (pkT J hg5 J (drp (X:= [(75,_)]) ⟨J,tV⟩ fin)))
     ·intro hg5 fin
      exact gn J J J hg5 J J (pkF J hg5 J (drp (X:= [(75,_)]) ⟨J,tV⟩ fin))
     refine ag (nl (th (rt ?_)))
     have hr0:(((decide ((rgtE x m t u)=e2))&&((rgtB x m t u)==wb))&&true)=true:=by
      rw[hJ2,hJ3,decide_eq_true rfl];simp
     exact rE () [.tmp 8] J [bl (((decide ((rgtE x m t u)=e2))&&((rgtB x m t u)==wb))&&true)] ⟨.tmp J,tV⟩ (cA1 (fun x0=>rV [bl x0]) hr0) trivial eX
end mkw
end
end Go.Proofs.YtnlfjojfgghchaaGreatDoor
