/- The walks of the functions and the plain laws. Own texts of this claim, packed: Zddivp, Zdprodm, ZdFitM, ZdPartM, ZdCompP, ZdEncM, Zdprodp, ZdForkM, Zdprodk, ZdSevM. -/
import Derived.Test.YtcjemmihcplgdaaGreatDoorX15
import Derived.Test.YtcjemmihcplgdaaGreatDoorX16
import Derived.Test.YtcjemmihcplgdaaGreatDoorX23
import Derived.Test.YtcjemmihcplgdaaGreatDoorX22
import Derived.Test.YtcjemmihcplgdaaGreatDoorX18
import Derived.Test.YtcjemmihcplgdaaGreatDoorX21
import Derived.Test.YtcjemmihcplgdaaGreatDoorX19
import Derived.Test.YtcjemmihcplgdaaGreatDoorX11
import Derived.Test.YtcjemmihcplgdaaGreatDoorX07
set_option linter.all false
namespace Go.Proofs.YtcjemmihcplgdaaGreatDoor
open AL Go
set_option maxRecDepth 100000
section
open ref01 ref03 ref04 ref06 prog prog2 prog3 prog6 Part Rungs LeftM QuoM
theorem pix_first {l:List (Int × Int)} {pr:Int × Int} {k:Nat} (hk:k<l.length) (h:ix l k=pr) (hn:∀j,j<k→ix l j≠pr):pix l pr=k:=by
 have hm:pr∈l:=by rw[←h];exact ix_memS hk
 have h1:pix l pr≤k:=idx_le hk h
 rcases Nat.lt_or_ge (pix l pr) k with g|g
 ·exact absurd (pix_at hm) (hn _ g)
 ·omega
theorem pix_none {l:List (Int × Int)} {pr:Int × Int} (h:pr∉l):pix l pr=l.length:=QuoM.idx_none h
namespace divp
end divp
end
section
open ref01 ref03 ref04 ref06 prog prog2 prog3 prog4 prog5 prog6 prog7 prog8 prog9 prog13 starts Part Rungs LeftM TrimM Itoa Keys RoundM MergeM BisM BisM4 BisM5 WalkM StepM WitM JudgM JudgM2 refw judg wit refj sysw divr divs divd dive divg divw divv LevM LevM2 ChsM TrimI QuoM FailM DivM RefM GenW CompM CrossM prodc divp
theorem or_bdC {l:List Int} (h:∀u∈l,0≤u∧u<256):0≤orAll l∧orAll l<256:=by
 revert h
 refine snoc_ind (p:=fun l=>(∀u∈l,0≤u∧u<256)→0≤orAll l∧orAll l<256) ?_ (fun l a ih=> ?_) l
 ·intro _;exact⟨by decide,by decide⟩
 ·intro h
  rw[orAll_snoc]
  have h1:=ih fun u hu=>h u (List.mem_append_left _ hu)
  have h2:=h a (by simp)
  exact⟨O,or_lt256 h1.2 h2.2⟩
theorem refc_hol {s t:SS} (h:hol2 s t):RefC s t (nothing (tR s).1.aC):=by
 have e:(tR s).1.aC=s.aC:=trim_acts s
 rw[e]
 exact⟨rfl,fun _=>rfl,fun g=>absurd h g⟩
theorem refc_num {s t:SS} (hs:oK s) (ht:oK t) (h:¬hol2 s t) {i:Nat} {l:List (Int × Int)} {outs:List SA} (hw:HW (cA (tR s).1 (tR t).1) (cN (tR s).1 (tR t).1) (cOk (tR s).1 (tR t).1) (0,0) (tR s).1.aC.length i l outs) (hi:l.length≤i):RefC s t ⟨(tR s).1.aC,outs⟩:=by
 have hd:=hw_done (c_GS (trim_ok hs) (trim_ok ht)) hw hi (tR s).1.aC
 exact⟨trim_acts s,fun g=>absurd g h,fun _=>⟨l,⟨hd.1,hw.okl,rfl⟩,Nat.le_trans hd.2 (trims_len hs ht)⟩⟩
theorem hol_cond {s t:SS} (hs:oK s) (ht:oK t):(isNoneS (tR s).1||isNoneS (tR t).1)=true↔hol2 s t:=by
 rw[isNone_trim hs,isNone_trim ht,Bool.or_eq_true];exact Iff.rfl
namespace T
theorem ent81:Ent Tryz.prog 81:=ent_of kR
theorem ent56:Ent Tryz.prog 56:=ent_of kR
theorem ent57:Ent Tryz.prog 57:=ent_of kR
theorem ent58:Ent Tryz.prog 58:=ent_of kR
theorem ent60:Ent Tryz.prog 60:=ent_of kR
end T
namespace prodm
theorem place8_ok (l:List (Int × Int)) (pr:Int × Int) (v:Value) (hl:l.length≤1000000000):
 AL.Fn Tryz.prog 60 [osl 37 v,agg [int pr.1,int pr.2]] [(37,own v 84 2 pE l)] (ι:=Value) (fun _ v2=>tup [int ((pix l pr:Nat):Int),osl 37 v2]) (fun v2=> [(37,own v2 84 2 pE (pushL l pr))]):=by
 refine fnI Tryz.func60 rfl rfl (fun w0 F0=> ?_)
 refine sq (rg (bx (key:=3) (cs:= [int pr.1,int pr.2]) J fun b3=>(ag (ag (nl (th (sq (sq (rg (mv (lnO J J T.sl67 (mv (nl (th (bk ?_)))))))))))))))
 have hI0_0:0≤l.length:=by
  first|omega|simp
 have hI0_1:∀j,j<0→ix l j≠pr:=by
  intro j hj;omega
 refine lp (κ:=Nat) (fun p=> [(0,osl 37 v),(3,ptr 3 b3 0),(8,osl 37 v),(9,int (l.length:Int)),(10,int (p:Int))]) (fun p=> [(3,cell b3 [int pr.1,int pr.2]),(37,own v 84 2 pE l)]) (fun p=>(p≤l.length)∧(∀j,j<p→ix l j≠pr)) (fun p=>l.length- p) 0 ⟨hI0_0,hI0_1⟩ ⟨id,id,id,id,id,tV⟩ ⟨rI,rI,tV⟩ ?_
 intro k hG0
 obtain⟨hk0,hI0⟩:(k≤l.length)∧(∀j,j<k→ix l j≠pr):=hG0
 refine sq (rg (bi J J b_lss (nl (th (sq ?_)))))
 refine cd J (fun hc0=> ?_) (fun hc0=> ?_)
 ·try simp at hc0
  refine sk (th (sq (bk (sq (rg (mv (iO J J J T.sl67 O O (lOA J J gB T.agg84 (by decide) (al (key:=7) T.z84 (eC (eC eZ)) fun b7=>(ag (sPA (cs':= [int ((ix l k).1),int ((ix l k).2)]) J J J T.agg84 J J (nl (th (sq (rg (lPA J J T.agg84 J (lPA J J T.agg84 J (biA J J T.arr84 T.kd3 kR kR (nl (th ?_))))))))))))))))))))
  refine cd J (fun hc1=> ?_) (fun hc1=> ?_)
  ·skip
   have hkk:ix l k=pr:=(of_decide_eq_true hc1).symm
   have hin:pr∈l:=by rw[←hkk];exact ix_memS O
   have hput:pushL l pr=l:=by unfold pushL;rw[if_pos hin]
   refine sq (rg (mv (mv (ag (ag (nl (th (rt (rb (rt_ (rt_ (rb (rt_ ?_)))))))))))))
   have hr0:((k:Int):Int)=((pix l pr:Nat):Int):=by
    exact(by rw[pix_first O hkk hI0])
   exact rE v [.tmp 4,.tmp 5] J [int (k:Int),osl 37 v] ⟨.tmp J,.tmp J,tV⟩ (cA1 (fun x0=>rV [int x0,osl 37 v]) hr0) (by rw[hput];exact⟨rI,tV⟩) eX
  ·skip
   have hkn:ix l k≠pr:=fun e=>by
    have:=of_decide_eq_false hc1
    rw[e] at this;exact this rfl
   refine sk (eb (th (rg (bi J J (b_add i6) (mv (nl ?_))))))
   have hN0:(k+1)≤l.length:=by
    first|omega|simp_all
   have hN1:∀j,j<(k+1)→ix l j≠pr:=by
    intro j hj
    by_cases e:j=k
    ·subst e;exact hkn
    ·exact hI0 j O
   exact ln (k+1) ⟨hN0,hN1⟩ dO ⟨id,id,id,id,id,tV⟩ ⟨rI,rI,tV⟩
 ·try simp at hc0
  refine ex (xt_ (xt_ (xb (th (sq (rg (mv (lnO J J T.sl67 (mv (lPA J J T.agg84 J (bsE (enc:=pE) (xs:= [(pr.1,pr.2)]) (css:= [[int pr.1,int pr.2]]) T.mk67 ⟨J,J,pA (cs:= [int pr.1,int pr.2]) J,tV⟩ J J J J (ap (key:=37) (zs:= [(pr.1,pr.2)]) osl_eq J J J T.mk67 (by unfold maxL at*;simp;omega) (by unfold maxL at*;simp;omega) fun v26=>(ag (ag (nl (th (rt ?_)))))))))))))))))
  have hni:pr∉l:=fun hm=>by
   obtain⟨j,hj,e⟩:=List.getElem_of_mem hm
   exact hI0 j O (by rw[ix_get hj];exact e)
  have hput:pushL l pr=l++ [pr]:=by unfold pushL;rw[if_neg hni]
  have hr0:((l.length:Int):Int)=((pix l pr:Nat):Int):=by
   rw[pix_none hni]
  exact rE v26 [.tmp 4,.tmp 5] J [int (l.length:Int),osl 37 v26] ⟨.tmp J,.tmp J,tV⟩ (cA1 (fun x0=>rV [int x0,osl 37 v26]) hr0) (by rw[hput];exact⟨rI,tV⟩) eX
theorem Put_ok (l:List Int) (hr:l.Pairwise (· < ·)) (x:Int) (hl:l.length≤1000000):
 Fn0 Tryz.prog 81 [ints l,int x] (ints (putS l x)):=by
 refine fnI Tryz.func81 rfl rfl (fun w0 F0=> ?_)
 refine fcC (slenI 0 J) (fun hm0=> ?_)
 refine sq (rg (ag (nl (th (sq (rg (ag (nl (th (sq (bk ?_)))))))))))
 have hI0_0:0≤l.length∧∀j,j<0→ix l j<x:=by
  exact⟨O,fun j hj=>by omega⟩
 refine lp (κ:=Nat) (fun p=> [(0,sl 1 nE l),(1,int x),(4,eqv (.slice none 0 0)),(5,int (p:Int))]) (fun p=> []) (fun p=>p≤l.length∧∀j,j<p→ix l j<x) (fun p=>l.length- p) 0 hI0_0 ⟨id,id,id,id,tV⟩ trivial ?_
 intro i hG0
 obtain⟨hil,hlt⟩:i≤l.length∧∀j,j<i→ix l j<x:=hG0
 refine sq (sq (rg (mv (mv (lnF J T.sl36 (bi J J b_lss (mv ?_)))))))
 apply gAnd (t:=10) (pd:=17) rfl
 rotate_left
 ·intro hg0 fin
  have hg0':=hg0
  try simp at hg0'
  exact gy J J J hg0 (mv (gy J J J hg0 (mv (gy J J J hg0 (iF J J T.sl36 O gB (gy J J J hg0 (lF J J T.one3 (gy J J J hg0 (mv (gy J J J hg0 (bi J J b_lss (pkT J hg0 J (drp (X:= [(16,_),(15,_),(14,_),(13,_),(12,_),(11,_)]) ⟨J,J,J,J,J,J,tV⟩ fin)))))))))))))
 ·intro hg0 fin
  exact gn J J J hg0 J J (gn J J J hg0 J J (gn J J J hg0 J J (gn J J J hg0 J J (gn J J J hg0 J J (gn J J J hg0 J J (pkF J hg0 J (drp (X:= [(16,_),(15,_),(14,_),(13,_),(12,_),(11,_)]) ⟨J,J,J,J,J,J,tV⟩ fin)))))))
 refine nl (th ?_)
 refine cd J (fun hc0=> ?_) (fun hc0=> ?_)
 ·try simp at hc0
  refine sk (th (bk (rg (mv (bi J J (b_add i6) (ag (nl (eb ?_))))))))
  have hN0:(i+1)≤l.length∧∀j,j<(i+1)→ix l j<x:=by
   refine⟨O,fun j hj=> ?_⟩
   by_cases e:j=i
   ·subst e;exact hc0.2
   ·exact hlt j O
  exact ln (i+1) hN0 dO ⟨id,id,id,id,tV⟩ trivial
 ·try simp at hc0
  refine ex (xt_ (xt_ (xb (th (sq (sq (rg (mv (mv (lnF J T.sl36 (bi J J b_lss (mv ?_))))))))))))
  apply gAnd (t:=24) (pd:=31) rfl
  rotate_left
  ·intro hg1 fin
   have hg1':=hg1
   try simp at hg1'
   exact gy J J J hg1 (mv (gy J J J hg1 (mv (gy J J J hg1 (iF J J T.sl36 O gB (gy J J J hg1 (lF J J T.one3 (gy J J J hg1 (mv (gy J J J hg1 (bi J J b_eql (pkT J hg1 J (drp (X:= [(30,_),(29,_),(28,_),(27,_),(26,_),(25,_)]) ⟨J,J,J,J,J,J,tV⟩ fin)))))))))))))
  ·intro hg1 fin
   exact gn J J J hg1 J J (gn J J J hg1 J J (gn J J J hg1 J J (gn J J J hg1 J J (gn J J J hg1 J J (gn J J J hg1 J J (pkF J hg1 J (drp (X:= [(30,_),(29,_),(28,_),(27,_),(26,_),(25,_)]) ⟨J,J,J,J,J,J,tV⟩ fin)))))))
  refine nl (th ?_)
  refine cd J (fun hc1=> ?_) (fun hc1=> ?_)
  ·try simp at hc1
   refine sq (rg (mv (ag (nl (th (rt (rt_ ?_)))))))
   have hr0:l=(putS l x):=by
    exact(put_old hc1.1 hc1.2).symm
   exact rE () [.tmp 4] J [sl 1 nE l] ⟨.tmp J,tV⟩ (cA1 (fun x0=>rV [sl 1 nE x0]) hr0) trivial eX
  ·try simp at hc1
   have htk:(l.take i).length≤1000000:=by rw[List.length_take];omega
   have htl:=put_tail hr (x:=x) (k:=i) (fun h=>by have h1:=hc0 h;have h2:=hc1 h;omega)
   refine sk (th (sq ?_))
   refine drH (nh:=12) [0,0,3,7,0,16,63,0,0,384,1023,2047] [(none,[]),(none,[]),(none,[]),(some 360,[]),(none,[]),(none,[]),(some 360,[360]),(none,[]),(none,[]),(none,[]),(some 360,[360]),(none,[])] T.mixed kR kR ?_
   refine stv (d:=33) (fun β0=>sl 1 nE l) [] J (fun β β' hb=>J) (fun β0 _ _ _ _ gq gh kq=>mv' (gq.1.trans J) kq) ?_
   refine stv (d:=34) (fun β0=>int (i:Int)) [] J (fun β β' hb=>J) (fun β0 _ _ _ _ gq gh kq=>mv' (gq.1.trans J) kq) ?_
   refine stv (d:=35) (fun β0=>sl 1 nE (l.take i)) [] J (fun β β' hb=>J) (fun β0 _ _ _ _ gq gh kq=>sliceF (l:=0) (m:=i) (gq.1.trans J) T.sl36 J (gq.2.1.trans J) O O kq) ?_
   refine stc (d:=36) (e:=3) (n:=1) (enc:=nE) (xs:=l.take i) 360 [] rfl (fun β0 _ _ _ _ gq gh kq=>apO 360 (gq.1.trans rfl) rfl T.mk36 (by unfold maxL at*;omega) (by unfold maxL at*;omega) fun v=>kq v) ?_
   refine stv (d:=37) (fun β0=>int x) [] J (fun β β' hb=>J) (fun β0 _ _ _ _ gq gh kq=>mv' (gq.1.trans J) kq) ?_
   refine stv (d:=38) (fun β0=>sl 1 nE [x]) [] J (fun β β' hb=>J) (fun β0 _ _ _ _ gq gh kq=>bsE (enc:=nE) (xs:= [x]) (css:= [[int x]]) T.mk36 ⟨J,J,p1 (φ:=int x) (by exact(gq.1.trans J)),tV⟩ J J J J kq) ?_
   refine stc (d:=39) (e:=3) (n:=1) (enc:=nE) (xs:=(l.take i)++ [x]) 360 [360] rfl (fun β0 _ _ _ _ gq gh kq=>ap (key:=360) (zs:= [x]) (fun h=>osl_of (gq.1.trans rfl) h) (gh.1.trans rfl) (gq.2.1.trans rfl) rfl T.mk36 (by unfold maxL at*;simp;omega) (by unfold maxL at*;simp;omega) fun v=>kq v) ?_
   refine stv (d:=40) (fun β0=>sl 1 nE l) [] J (fun β β' hb=>J) (fun β0 _ _ _ _ gq gh kq=>mv' (gq.1.trans J) kq) ?_
   refine stv (d:=41) (fun β0=>int (i:Int)) [] J (fun β β' hb=>J) (fun β0 _ _ _ _ gq gh kq=>mv' (gq.1.trans J) kq) ?_
   refine stv (d:=42) (fun β0=>sl 1 nE ((l.take l.length).drop i)) [] J (fun β β' hb=>J) (fun β0 _ _ _ _ gq gh kq=>sliceF (l:=i) (m:=l.length) (gq.1.trans J) T.sl36 (gq.2.1.trans J) J O O kq) ?_
   refine stc (d:=43) (e:=3) (n:=1) (enc:=nE) (xs:=((l.take i)++ [x])++((l.take l.length).drop i)) 360 [360] rfl (fun β0 _ _ _ _ gq gh kq=>ap (key:=360) (zs:=(l.take l.length).drop i) (fun h=>osl_of (gq.1.trans rfl) h) (gh.1.trans rfl) (gq.2.1.trans rfl) rfl T.mk36 (by unfold maxL at*;simp;omega) (by unfold maxL at*;simp;omega) fun v=>kq v) ?_
   refine stv (d:=4) (fun β0=>osl 360 (sv (β0 10))) [] J (fun β β' hb=>by first|rw[hb 10 J]|(dsimp only;rw[hb 10 J])) (fun β0 _ _ _ _ gq gh kq=>ag' (gq.1.trans J) kq) ?_
   refine pnH fun β0=>(nl (th (rt ?_)))
   refine fzA 360 4 rfl rfl ?_
   have hr0:(((l.take i)++ [x])++((l.take l.length).drop i))=(putS l x):=by
    rw[put_new hr hil hlt htl,List.take_length]
   exact rE () [.tmp 4] J [sl 1 nE (((l.take i)++ [x])++((l.take l.length).drop i))] ⟨.tmp J,tV⟩ (cA1 (fun x0=>rV [sl 1 nE x0]) hr0) trivial eX
theorem bothR_ok (a b:List Int) (ha:∀k,k<a.length→0≤ix a k∧ix a k<256) (hb:∀k,k<b.length→0≤ix b k∧ix b k<256) (hal:a.length≤256) (hbl:b.length≤256):
 Fn0 Tryz.prog 57 [ints a,ints b] (ints (crossL a b)):=by
 refine fnI Tryz.func57 rfl rfl (fun w0 F0=> ?_)
 refine fcC (slenI 0 J) (fun hm0=> ?_)
 refine fcC (slenI 1 J) (fun hm1=> ?_)
 refine sq (rg (ag (nl (th (sq (rg (ag (kn 5 (sl 1 nE []) J slnil (nl (th (sq (sq (rg (mv (lnF J T.sl36 (mv (nl (th (bk ?_)))))))))))))))))))
 have hI0_0:0≤a.length:=by
  first|omega|simp
 have hI0_1:BothI a b 0 0 ([]:List Int):=by
  exact both_zero a b
 refine lp (κ:=Nat × (List Int)) (fun p=> [(1,sl 1 nE b),(4,eqv (.slice none 0 0)),(5,sl 1 nE p.2),(10,sl 1 nE a),(11,int (a.length:Int)),(12,int (p.1:Int))]) (fun p=> []) (fun p=>(p.1≤a.length)∧(BothI a b p.1 0 p.2)) (fun p=>a.length- p.1) ⟨0,([]:List Int)⟩ ⟨hI0_0,hI0_1⟩ ⟨id,id,id,id,id,id,tV⟩ trivial ?_
 intro⟨k,out⟩ hG0
 obtain⟨hk0,hI0⟩:(k≤a.length)∧(BothI a b k 0 out):=hG0
 show Ct _ _ _ _ [(1,sl 1 nE b),(4,eqv (.slice none 0 0)),(5,sl 1 nE out),(10,sl 1 nE a),(11,int (a.length:Int)),(12,int (k:Int))] [] _
 refine sq (rg (bi J J b_lss (nl (th (sq ?_)))))
 refine cd J (fun hc0=> ?_) (fun hc0=> ?_)
 ·try simp at hc0
  have hak:=ha k O
  refine sk (th (sq (bk (sq (rg (iF J J T.sl36 O gB (lF J J T.one3 (ag (nl (th (sq (rg (mv (lnF J T.sl36 (mv (nl (th (bk ?_))))))))))))))))))
  have hI1_0:0≤b.length:=by
   first|omega|simp
  have hI1_1:BothI a b k 0 out:=by
   exact hI0
  refine lp (κ:=Nat × (List Int)) (fun p=> [(1,sl 1 nE b),(4,eqv (.slice none 0 0)),(5,sl 1 nE p.2),(7,int (ix a k)),(10,sl 1 nE a),(11,int (a.length:Int)),(12,int (k:Int)),(16,sl 1 nE b),(17,int (b.length:Int)),(18,int (p.1:Int))]) (fun p=> []) (fun p=>(p.1≤b.length)∧(BothI a b k p.1 p.2)) (fun p=>b.length- p.1) ⟨0,out⟩ ⟨hI1_0,hI1_1⟩ ⟨id,id,id,id,id,id,id,id,id,id,tV⟩ trivial ?_
  intro⟨k1,ou2⟩ hG1
  obtain⟨hk1,hI1⟩:(k1≤b.length)∧(BothI a b k k1 ou2):=hG1
  show Ct _ _ _ _ [(1,sl 1 nE b),(4,eqv (.slice none 0 0)),(5,sl 1 nE ou2),(7,int (ix a k)),(10,sl 1 nE a),(11,int (a.length:Int)),(12,int (k:Int)),(16,sl 1 nE b),(17,int (b.length:Int)),(18,int (k1:Int))] [] _
  refine sq (rg (bi J J b_lss (nl (th (sq ?_)))))
  refine cd J (fun hc1=> ?_) (fun hc1=> ?_)
  ·try simp at hc1
   have hbk:=hb k1 O
   have hrs:=hI1.rise
   have hol:=rise_len hrs (both_bd hI1 (all_bd ha) O (fun _=>by omega))
   refine sk (th (sq (bk (sq (rg (iF J J T.sl36 O gB (lF J J T.one3 (ag (nl (th (rg (mv (mv (mv (bi J J (b_andI O O O O) (cal0 (φs:= [sl 1 nE ou2,int (((ix a k).toNat&&&(ix b k1).toNat:Nat):Int)]) (φ:=sl 1 nE (putS ou2 (((ix a k).toNat&&&(ix b k1).toNat:Nat):Int))) ⟨J,J,tV⟩ (prodm.Put_ok ou2 aS (((ix a k).toNat&&&(ix b k1).toNat:Nat):Int) O) T.ent81 (ag (nl (eb (th (rg (bi J J (b_add i6) (mv (nl ?_))))))))))))))))))))))))
   have hN0:(k1+1)≤b.length:=by
    first|omega|simp_all
   have hN1:BothI a b k (k1+1) (putS ou2 (((ix a k).toNat&&&(ix b k1).toNat:Nat):Int)):=by
    exact both_step hI1
   exact ln (⟨k1+1,putS ou2 (((ix a k).toNat&&&(ix b k1).toNat:Nat):Int)⟩:Nat × (List Int)) ⟨hN0,hN1⟩ dO ⟨id,id,id,id,id,id,id,id,id,id,tV⟩ trivial
  ·try simp at hc1
   refine ex (xt_ (xt_ (xb (eb (th (rg (bi J J (b_add i6) (mv (nl ?_)))))))))
   have hN0:(k+1)≤a.length:=by
    first|omega|simp_all
   have hN1:BothI a b (k+1) 0 ou2:=by
    rw[show k1=b.length by omega] at hI1
    exact both_next hI1
   exact ln (⟨k+1,ou2⟩:Nat × (List Int)) ⟨hN0,hN1⟩ dO ⟨id,id,id,id,id,id,tV⟩ trivial
 ·try simp at hc0
  refine ex (xt_ (xt_ (xb (th (sq (rg (mv (ag (nl (th (rt ?_)))))))))))
  have hr0:out=(crossL a b):=by
   rw[show k=a.length by omega] at hI0
   exact both_done hI0 (all_bd ha)
  exact rE () [.tmp 4] J [sl 1 nE out] ⟨.tmp J,tV⟩ (cA1 (fun x0=>rV [sl 1 nE x0]) hr0) trivial eX
theorem union_ok (l:List Int) (hl:∀u∈l,0≤u∧u<256):
 Fn0 Tryz.prog 58 [ints l] (int (orAll l)):=by
 refine fnI Tryz.func58 rfl rfl (fun w0 F0=> ?_)
 refine fcC (slenI 0 J) (fun hm0=> ?_)
 refine sq (rg (ag (nl (th (sq (rg (ag (nl (th (sq (sq (rg (mv (lnF J T.sl36 (mv (nl (th (bk ?_))))))))))))))))))
 have hI0_0:0≤l.length:=by
  first|omega|simp
 have hI0_1:(0:Int)=orAll (l.take 0)∧0≤(0:Int)∧(0:Int)<256:=by
  exact⟨rfl,O,O⟩
 refine lp (κ:=Nat × Int) (fun p=> [(2,int 0),(3,int p.2),(6,sl 1 nE l),(7,int (l.length:Int)),(8,int (p.1:Int))]) (fun p=> []) (fun p=>(p.1≤l.length)∧(p.2=orAll (l.take p.1)∧0≤p.2∧p.2<256)) (fun p=>l.length- p.1) ⟨0,(0:Int)⟩ ⟨hI0_0,hI0_1⟩ ⟨id,id,id,id,id,tV⟩ trivial ?_
 intro⟨k,u⟩ hG0
 obtain⟨hk0,hI0⟩:(k≤l.length)∧(u=orAll (l.take k)∧0≤u∧u<256):=hG0
 show Ct _ _ _ _ [(2,int 0),(3,int u),(6,sl 1 nE l),(7,int (l.length:Int)),(8,int (k:Int))] [] _
 refine sq (rg (bi J J b_lss (nl (th (sq ?_)))))
 refine cd J (fun hc0=> ?_) (fun hc0=> ?_)
 ·try simp at hc0
  have hkb:=hl _ (ix_memS (l:=l) (i:=k) O)
  refine sk (th (sq (bk (sq (rg (iF J J T.sl36 O gB (lF J J T.one3 (ag (nl (th (rg (mv (mv (bi J J (b_orI O O O O) (ag (nl (eb (th (rg (bi J J (b_add i6) (mv (nl ?_))))))))))))))))))))))
  have hN0:(k+1)≤l.length:=by
   first|omega|simp_all
  have hN1:((u.toNat|||(ix l k).toNat:Nat):Int)=orAll (l.take (k+1))∧0≤((u.toNat|||(ix l k).toNat:Nat):Int)∧((u.toNat|||(ix l k).toNat:Nat):Int)<256:=by
   refine⟨?_,O,or_lt256 hI0.2.2 hkb.2⟩
   rw[take_s O,orAll_snoc,←hI0.1]
  exact ln (⟨k+1,((u.toNat|||(ix l k).toNat:Nat):Int)⟩:Nat × Int) ⟨hN0,hN1⟩ dO ⟨id,id,id,id,id,tV⟩ trivial
 ·try simp at hc0
  refine ex (xt_ (xt_ (xb (th (sq (rg (mv (ag (nl (th (rt ?_)))))))))))
  have hr0:(u:Int)=(orAll l):=by
   rw[hI0.1,show k=l.length by omega,List.take_length]
  exact rE () [.tmp 2] J [int u] ⟨.tmp J,tV⟩ (cA1 (fun x0=>rV [int x0]) hr0) trivial eX
theorem RefCompose_ok (s t:SS) (hs:oK s) (ht:oK t) (hst:s.aC=t.aC) (hz:s.sT.length*t.sT.length≤10000):
 AL.Fn Tryz.prog 14 [spec s,spec t] [] (ι:= { D:SS//RefC s t D }) (fun _ i=>spec i.1) (fun _=> []):=by
 refine fnI Tryz.func14 rfl rfl (fun w0 F0=> ?_)
 have hS:=trim_ok hs;have hT:=trim_ok ht;have hzz:=trims_len hs ht;have f1:=hS.few1;have f2:=hT.few1;have hn8:=hS.n8;have hm8:=hT.n8;have hG:=c_GS hS hT
 have hcz:=c_zero hS hT
 have hST:(tR s).1.aC.length=(tR t).1.aC.length:=by rw[trim_acts,trim_acts,hst]
 refine fcC (inhS 0 J) (fun hS0=> ?_)
 obtain⟨hsa0,hss0,hse0⟩:=sLn hS0
 refine fcC (inhS 1 J) (fun hS1=> ?_)
 obtain⟨hsa1,hss1,hse1⟩:=sLn hS1
 refine sq (rg (bx (key:=2) (cs:= [sl 1 rE_ s.aC,sl 2 sE s.sT]) J fun b2=>(bx (key:=3) (cs:= [sl 1 rE_ t.aC,sl 2 sE t.sT]) J fun b3=>(al (key:=4) T.z25 (eC (eC eZ)) fun b4=>(nl (th (sq (rg (lPA J J T.agg25 J (cal0 (φs:= [agg [sl 1 rE_ s.aC,sl 2 sE s.sT]]) (φ:=tup [agg [sl 1 rE_ ((tR s).1).aC,sl 2 sE ((tR s).1).sT],sl 1 nE ((tR s).2)]) ⟨J,tV⟩ (divr.Trim_ok s aS) T.ent55 (mv (xt J J (xt J J (sPA (cs':= [sl 1 rE_ ((tR s).1).aC,sl 2 sE ((tR s).1).sT]) J J J T.agg25 J J (nl (th (sq (rg (lPA J J T.agg25 J (cal0 (φs:= [agg [sl 1 rE_ t.aC,sl 2 sE t.sT]]) (φ:=tup [agg [sl 1 rE_ ((tR t).1).aC,sl 2 sE ((tR t).1).sT],sl 1 nE ((tR t).2)]) ⟨J,tV⟩ (divr.Trim_ok t aS) T.ent55 (mv (xt J J (xt J J (sPA (cs':= [sl 1 rE_ ((tR t).1).aC,sl 2 sE ((tR t).1).sT]) J J J T.agg25 J J (nl (th (sq (sq (rg (lPA J J T.agg25 J (cal0 (φs:= [agg [sl 1 rE_ ((tR s).1).aC,sl 2 sE ((tR s).1).sT]]) (φ:=bl (isNoneS ((tR s).1))) ⟨J,tV⟩ (divr.IsNone_ok ((tR s).1) O) T.ent56 (mv ?_))))))))))))))))))))))))))))))))
 apply gOr (t:=25) (pd:=28) rfl
 rotate_left
 ·intro hg0 fin
  have hg0':=hg0
  try simp at hg0'
  exact gy J J J hg0 (lPA J J T.agg25 J (gy J J J hg0 (cal0 (φs:= [agg [sl 1 rE_ ((tR t).1).aC,sl 2 sE ((tR t).1).sT]]) (φ:=bl (isNoneS ((tR t).1))) ⟨J,tV⟩ (divr.IsNone_ok ((tR t).1) O) T.ent56 (pkF J hg0 J (drp (X:= [(27,_),(26,_)]) ⟨J,J,tV⟩ fin)))))
 ·intro hg0 fin
  exact gn J J J hg0 J J (gn J J J hg0 J J (pkT J hg0 J (drp (X:= [(27,_),(26,_)]) ⟨J,J,tV⟩ fin)))
 refine nl (th ?_)
 refine cd J (fun hc0=> ?_) (fun hc0=> ?_)
 ·skip
  have hh:hol2 s t:=(hol_cond hs ht).1 hc0
  refine sq (rg (fP J T.fld25_0 (lP J J J T.one22 (cal0 (φs:= [sl 1 rE_ ((tR s).1).aC]) (φ:=agg [sl 1 rE_ (nothing (tR s).1.aC).aC,sl 2 sE (nothing (tR s).1.aC).sT]) ⟨J,tV⟩ (ref03.Nothing_ok (tR s).1.aC O) T.ent50 (sPA (cs':= [sl 1 rE_ (nothing (tR s).1.aC).aC,sl 2 sE (nothing (tR s).1.aC).sT]) J J J T.agg25 J J (nl (th (rt (rt_ ?_)))))))))
  exact rE ⟨nothing (tR s).1.aC,refc_hol hh⟩ [.cell 4 25] J [agg [sl 1 rE_ (nothing (tR s).1.aC).aC,sl 2 sE (nothing (tR s).1.aC).sT]] ⟨.agg J J T.agg25 J J,tV⟩ J trivial eX
 ·skip
  have hh:¬hol2 s t:=fun g=>by
   have:=(hol_cond hs ht).2 g
   rw[this] at hc0;cases hc0
  refine sk (th (sq (rg (fP J T.fld25_0 (lP J J J T.one22 (appendF (enc:=rE_) (ys:=((tR s).1).aC) J J T.mk22 mL (bd (css:= [(0,_)]) T.st25 (eC (eC eZ)) ⟨J,J,p1 (φ:=sl 1 rE_ ((tR s).1).aC) J,tV⟩ (al (key:=5) T.z25 (eC (eC eZ)) fun b5=>(sPA (cs':= [sl 1 rE_ ((tR s).1).aC,eqv (.slice none 0 0)]) J J J T.agg25 J J (nl (th (sq (rg (bd (css:= [(0,_),(1,_)]) T.st84 (eC (eC eZ)) ⟨J,J,p1 (φ:=int 0) J,⟨J,J,p1 (φ:=int 0) J,tV⟩⟩ (bsO 37 (enc:=pE) (xs:= [(0,0)]) (css:= [[int 0,int 0]]) T.mk67 ⟨J,J,pA (cs:= [int 0,int 0]) J,tV⟩ J J J J fun v37=>(ag (nl (th (sq (sq (rg (ag (nl (th (bk ?_)))))))))))))))))))))))))
  refine nwC 50 81 2 sE (kncC 5 1 (osl 50 (.slice none 0 0)) rfl rfl eq_osl ?_)
  have hI0_0:HW (cA (tR s).1 (tR t).1) (cN (tR s).1 (tR t).1) (cOk (tR s).1 (tR t).1) (0,0) (tR s).1.aC.length 0 ([(0,0)]:List (Int × Int)) ([]:List SA):=by
   exact hw_zero hcz
  refine lp (κ:=Nat × Value × (List (Int × Int)) × Value × (List SA)) (fun p=> [(2,ptr 2 b2 0),(3,ptr 3 b3 0),(4,ptr 4 b4 0),(5,ptr 5 b5 0),(6,osl 37 p.2.1),(7,int (p.1:Int))]) (fun p=> [(2,cell b2 [sl 1 rE_ ((tR s).1).aC,sl 2 sE ((tR s).1).sT]),(3,cell b3 [sl 1 rE_ ((tR t).1).aC,sl 2 sE ((tR t).1).sT]),(4,cell b4 [eqv (.slice none 0 0),eqv (.slice none 0 0)]),(5,cell b5 [sl 1 rE_ ((tR s).1.aC),osl 50 p.2.2.2.1]),(37,own p.2.1 84 2 pE p.2.2.1),(50,own p.2.2.2.1 81 2 sE p.2.2.2.2)]) (fun p=>HW (cA (tR s).1 (tR t).1) (cN (tR s).1 (tR t).1) (cOk (tR s).1 (tR t).1) (0,0) (tR s).1.aC.length p.1 p.2.2.1 p.2.2.2.2) (fun p=>10001- p.1) ⟨0,v37,([(0,0)]:List (Int × Int)),(.slice none 0 0),([]:List SA)⟩ hI0_0 ⟨id,id,id,id,id,id,tV⟩ ⟨rI,rI,rI,rI,rI,rI,tV⟩ ?_
  intro⟨i,v,ql,v5,outs⟩ hG0
  have hHW:HW (cA (tR s).1 (tR t).1) (cN (tR s).1 (tR t).1) (cOk (tR s).1 (tR t).1) (0,0) (tR s).1.aC.length i ql outs:=hG0
  show Ct _ _ _ _ [(2,ptr 2 b2 0),(3,ptr 3 b3 0),(4,ptr 4 b4 0),(5,ptr 5 b5 0),(6,osl 37 v),(7,int (i:Int))] [(2,cell b2 [sl 1 rE_ ((tR s).1).aC,sl 2 sE ((tR s).1).sT]),(3,cell b3 [sl 1 rE_ ((tR t).1).aC,sl 2 sE ((tR t).1).sT]),(4,cell b4 [eqv (.slice none 0 0),eqv (.slice none 0 0)]),(5,cell b5 [sl 1 rE_ ((tR s).1.aC),osl 50 v5]),(37,own v 84 2 pE ql),(50,own v5 81 2 sE outs)] _
  have hlf:=hw_few hG hHW
  have hil:=hHW.il
  have hol:outs.length≤i:=by rw[hHW.out];simp;omega
  refine sq (sq (rg (mv (mv (lnO J J T.sl67 (bi J J b_lss (nl (th ?_))))))))
  refine cd J (fun hc1=> ?_) (fun hc1=> ?_)
  ·try simp at hc1
   have hPm:=ix_memS hc1
   have hokP:=hHW.okl _ hPm
   obtain⟨hp1,hp2,hp3,hp4⟩:=id hokP
   have hss:=hS.st (ix ql i).1.toNat O
   have hsu:=hT.st (ix ql i).2.toNat O
   have hsl:=hss.len
   have htl:=hsu.len
   have hsa:=hss.ac
   have hta:=hsu.ac
   have hs8:=hss.acl
   have ht8:=hsu.acl
   have hcl:=cross_len (ix (tR s).1.sT (ix ql i).1.toNat).aP (ix (tR t).1.sT (ix ql i).2.toNat).aP
   have hcb:∀u∈crossL (ix (tR s).1.sT (ix ql i).1.toNat).aP (ix (tR t).1.sT (ix ql i).2.toNat).aP,0≤u∧u<256:=fun u hu=>cross_sub hu
   have hcor:=or_bdC hcb
   refine sk (th (sq (bk (sq (rg (mv (mv (iO J J J T.sl67 O O (lOA J J gB T.agg84 (by decide) (al (key:=8) T.z84 (eC (eC eZ)) fun b8=>(sPA (cs':= [int ((ix ql i).1),int ((ix ql i).2)]) J J J T.agg84 J J (nl (th (sq ?_))))))))))))))
   refine drH (nh:=18) [0,1,0,4,15,31,63,0,128,0,512,1920,3968,8064,16383,32767,0,131071] [(none,[]),(none,[2]),(none,[]),(none,[8]),(none,[]),(none,[]),(none,[]),(none,[]),(none,[3]),(none,[]),(none,[8]),(none,[]),(none,[]),(none,[]),(none,[]),(none,[]),(some 9,[]),(some 9,[9])] T.mixed kR kR ?_
   refine stv (d:=48) (fun β0=>ptr 2 b2 1) [] J (fun β β' hb=>J) (fun β0 _ _ _ _ gq gh kq=>fP (gq.1.trans J) T.fld25_1 kq) ?_
   refine stv (d:=49) (fun β0=>sl 2 sE ((tR s).1).sT) [2] J (fun β β' hb=>J) (fun β0 _ _ _ _ gq gh kq=>lP (gq.1.trans J) (gh.1.trans J) J T.one23 kq) ?_
   refine stv (d:=50) (fun β0=>ptr 8 b8 0) [] J (fun β β' hb=>J) (fun β0 _ _ _ _ gq gh kq=>iPA (gq.1.trans J) J T.arr84 T.one3 J kq) ?_
   refine stv (d:=51) (fun β0=>int ((ix ql i).1)) [8] J (fun β β' hb=>J) (fun β0 _ _ _ _ gq gh kq=>lP (gq.1.trans J) (gh.1.trans J) J T.one3 kq) ?_
   refine stv (d:=52) (fun β0=>fp [sl 1 nE (ix ((tR s).1).sT ((ix ql i).1).toNat).aP,sl 1 nE (ix ((tR s).1).sT ((ix ql i).1).toNat).next]) [] J (fun β β' hb=>J) (fun β0 _ _ _ _ gq gh kq=>iF (gq.1.trans J) (gq.2.1.trans J) T.sl23 O gB kq) ?_
   refine stv (d:=53) (fun β0=>fp [sl 1 nE (ix ((tR s).1).sT ((ix ql i).1).toNat).aP,sl 1 nE (ix ((tR s).1).sT ((ix ql i).1).toNat).next]) [] J (fun β β' hb=>J) (fun β0 _ _ _ _ gq gh kq=>fF (gq.1.trans J) T.fld81_0 kq) ?_
   refine stv (d:=54) (fun β0=>sl 1 nE (ix ((tR s).1).sT ((ix ql i).1).toNat).aP) [] J (fun β β' hb=>J) (fun β0 _ _ _ _ gq gh kq=>lF (gq.1.trans J) J T.one36 kq) ?_
   refine stv (d:=55) (fun β0=>ptr 3 b3 1) [] J (fun β β' hb=>J) (fun β0 _ _ _ _ gq gh kq=>fP (gq.1.trans J) T.fld25_1 kq) ?_
   refine stv (d:=56) (fun β0=>sl 2 sE ((tR t).1).sT) [3] J (fun β β' hb=>J) (fun β0 _ _ _ _ gq gh kq=>lP (gq.1.trans J) (gh.1.trans J) J T.one23 kq) ?_
   refine stv (d:=57) (fun β0=>ptr 8 b8 1) [] J (fun β β' hb=>J) (fun β0 _ _ _ _ gq gh kq=>iPA (gq.1.trans J) J T.arr84 T.one3 J kq) ?_
   refine stv (d:=58) (fun β0=>int ((ix ql i).2)) [8] J (fun β β' hb=>J) (fun β0 _ _ _ _ gq gh kq=>lP (gq.1.trans J) (gh.1.trans J) J T.one3 kq) ?_
   refine stv (d:=59) (fun β0=>fp [sl 1 nE (ix ((tR t).1).sT ((ix ql i).2).toNat).aP,sl 1 nE (ix ((tR t).1).sT ((ix ql i).2).toNat).next]) [] J (fun β β' hb=>J) (fun β0 _ _ _ _ gq gh kq=>iF (gq.1.trans J) (gq.2.1.trans J) T.sl23 O gB kq) ?_
   refine stv (d:=60) (fun β0=>fp [sl 1 nE (ix ((tR t).1).sT ((ix ql i).2).toNat).aP,sl 1 nE (ix ((tR t).1).sT ((ix ql i).2).toNat).next]) [] J (fun β β' hb=>J) (fun β0 _ _ _ _ gq gh kq=>fF (gq.1.trans J) T.fld81_0 kq) ?_
   refine stv (d:=61) (fun β0=>sl 1 nE (ix ((tR t).1).sT ((ix ql i).2).toNat).aP) [] J (fun β β' hb=>J) (fun β0 _ _ _ _ gq gh kq=>lF (gq.1.trans J) J T.one36 kq) ?_
   refine stv (d:=62) (fun β0=>sl 1 nE (crossL (ix ((tR s).1).sT ((ix ql i).1).toNat).aP (ix ((tR t).1).sT ((ix ql i).2).toNat).aP)) [] J (fun β β' hb=>J) (fun β0 _ _ _ _ gq gh kq=>cal0 (φs:= [sl 1 nE (ix ((tR s).1).sT ((ix ql i).1).toNat).aP,sl 1 nE (ix ((tR t).1).sT ((ix ql i).2).toNat).aP]) (φ:=sl 1 nE (crossL (ix ((tR s).1).sT ((ix ql i).1).toNat).aP (ix ((tR t).1).sT ((ix ql i).2).toNat).aP)) ⟨(gq.1.trans J),(gq.2.1.trans J),tV⟩ (prodm.bothR_ok (ix ((tR s).1).sT ((ix ql i).1).toNat).aP (ix ((tR t).1).sT ((ix ql i).2).toNat).aP aS aS aS aS) T.ent57 kq) ?_
   refine stv (d:=63) (fun β0=>agg [sl 1 nE (crossL (ix ((tR s).1).sT ((ix ql i).1).toNat).aP (ix ((tR t).1).sT ((ix ql i).2).toNat).aP),eqv (.slice none 0 0)]) [] J (fun β β' hb=>J) (fun β0 _ _ _ _ gq gh kq=>bd (css:= [(0,_)]) T.st81 (eC (eC eZ)) ⟨J,J,p1 (φ:=sl 1 nE (crossL (ix ((tR s).1).sT ((ix ql i).1).toNat).aP (ix ((tR t).1).sT ((ix ql i).2).toNat).aP)) (by exact(gq.1.trans J)),tV⟩ kq) ?_
   refine sta 9 T.z81 (eC (eC eZ)) ?_
   refine stw 9 (fun β0=>cell (gbk (β0 16)) [sl 1 nE (crossL (ix ((tR s).1).sT ((ix ql i).1).toNat).aP (ix ((tR t).1).sT ((ix ql i).2).toNat).aP),eqv (.slice none 0 0)]) [9] J (fun β β' hb=>by first|rw[hb 16 J]|(dsimp only;rw[hb 16 J])) (fun β0 _ _ _ _ gq gh kq=>sPA (cs':= [sl 1 nE (crossL (ix ((tR s).1).sT ((ix ql i).1).toNat).aP (ix ((tR t).1).sT ((ix ql i).2).toNat).aP),eqv (.slice none 0 0)]) (gq.1.trans J) (gh.1.trans J) (gq.2.1.trans J) T.agg81 J J kq) ?_
   refine pnH fun β0=>(nl (th (sq (rg (fP J T.fld81_0 (lP J J J T.one36 (cal0 (φs:= [sl 1 nE (crossL (ix ((tR s).1).sT ((ix ql i).1).toNat).aP (ix ((tR t).1).sT ((ix ql i).2).toNat).aP)]) (φ:=int (orAll (crossL (ix ((tR s).1).sT ((ix ql i).1).toNat).aP (ix ((tR t).1).sT ((ix ql i).2).toNat).aP))) ⟨J,tV⟩ (prodm.union_ok (crossL (ix ((tR s).1).sT ((ix ql i).1).toNat).aP (ix ((tR t).1).sT ((ix ql i).2).toNat).aP) aS) T.ent58 (ag (nl (th (sq (sq (rg (fP J T.fld25_0 (lP J J J T.one22 (fc (slenI 68 J) fun hm68=>(lnF J T.sl22 (mv (nl (th (bk ?_)))))))))))))))))))))
   refine nwC 90 3 1 nE (kncC 9 1 (osl 90 (.slice none 0 0)) rfl rfl eq_osl ?_)
   have hI1_0:0≤(tR s).1.aC.length:=by
    first|omega|simp
   have hI1_1:HN (cA (tR s).1 (tR t).1) (cN (tR s).1 (tR t).1) (cOk (tR s).1 (tR t).1) i ql 0 ql ([]:List Int):=by
    exact hn_zero hHW
   refine lp (κ:=Nat × Value × (List (Int × Int)) × Value × (List Int)) (fun p=> [(2,ptr 2 b2 0),(3,ptr 3 b3 0),(4,ptr 4 b4 0),(5,ptr 5 b5 0),(6,osl 37 p.2.1),(7,int (i:Int)),(8,ptr 8 b8 0),(9,ptr 9 (gbk (β0 16)) 0),(10,int (orAll (crossL (ix ((tR s).1).sT ((ix ql i).1).toNat).aP (ix ((tR t).1).sT ((ix ql i).2).toNat).aP))),(69,int (((tR s).1).aC.length:Int)),(70,int (p.1:Int))]) (fun p=> [(2,cell b2 [sl 1 rE_ ((tR s).1).aC,sl 2 sE ((tR s).1).sT]),(3,cell b3 [sl 1 rE_ ((tR t).1).aC,sl 2 sE ((tR t).1).sT]),(4,cell b4 [eqv (.slice none 0 0),eqv (.slice none 0 0)]),(5,cell b5 [sl 1 rE_ ((tR s).1.aC),osl 50 v5]),(8,cell b8 [int ((ix ql i).1),int ((ix ql i).2)]),(9,cell (gbk (β0 16)) [sl 1 nE (crossL (ix (tR s).1.sT (ix ql i).1.toNat).aP (ix (tR t).1.sT (ix ql i).2.toNat).aP),osl 90 p.2.2.2.1]),(37,own p.2.1 84 2 pE p.2.2.1),(50,own v5 81 2 sE outs),(90,own p.2.2.2.1 3 1 nE p.2.2.2.2)]) (fun p=>(p.1≤(tR s).1.aC.length)∧(HN (cA (tR s).1 (tR t).1) (cN (tR s).1 (tR t).1) (cOk (tR s).1 (tR t).1) i ql p.1 p.2.2.1 p.2.2.2.2)) (fun p=>(tR s).1.aC.length- p.1) ⟨0,v,ql,(.slice none 0 0),([]:List Int)⟩ ⟨hI1_0,hI1_1⟩ ⟨id,id,id,id,id,id,id,id,id,id,id,tV⟩ ⟨rI,rI,rI,rI,rI,rI,rI,rI,rI,tV⟩ ?_
   intro⟨k1,v2,l2,v9,nx⟩ hG1
   obtain⟨hk1,hI1⟩:(k1≤(tR s).1.aC.length)∧(HN (cA (tR s).1 (tR t).1) (cN (tR s).1 (tR t).1) (cOk (tR s).1 (tR t).1) i ql k1 l2 nx):=hG1
   show Ct _ _ _ _ [(2,ptr 2 b2 0),(3,ptr 3 b3 0),(4,ptr 4 b4 0),(5,ptr 5 b5 0),(6,osl 37 v2),(7,int (i:Int)),(8,ptr 8 b8 0),(9,ptr 9 (gbk (β0 16)) 0),(10,int (orAll (crossL (ix ((tR s).1).sT ((ix ql i).1).toNat).aP (ix ((tR t).1).sT ((ix ql i).2).toNat).aP))),(69,int (((tR s).1).aC.length:Int)),(70,int (k1:Int))] [(2,cell b2 [sl 1 rE_ ((tR s).1).aC,sl 2 sE ((tR s).1).sT]),(3,cell b3 [sl 1 rE_ ((tR t).1).aC,sl 2 sE ((tR t).1).sT]),(4,cell b4 [eqv (.slice none 0 0),eqv (.slice none 0 0)]),(5,cell b5 [sl 1 rE_ ((tR s).1.aC),osl 50 v5]),(8,cell b8 [int ((ix ql i).1),int ((ix ql i).2)]),(9,cell (gbk (β0 16)) [sl 1 nE (crossL (ix (tR s).1.sT (ix ql i).1.toNat).aP (ix (tR t).1.sT (ix ql i).2.toNat).aP),osl 90 v9]),(37,own v2 84 2 pE l2),(50,own v5 81 2 sE outs),(90,own v9 3 1 nE nx)] _
   have hnl:=hn_len hI1
   have hlf1:=hn_few hG hI1
   refine sq (rg (bi J J b_lss (nl (th (sq ?_)))))
   refine cd J (fun hc2=> ?_) (fun hc2=> ?_)
   ·try simp at hc2
    refine sk (th (sq (bk (sq (rg (mv (ag (nl (th (sq (rg (ag (nl (th (sq (sq (rg (mv (mv (cal0 (φs:= [int (orAll (crossL (ix ((tR s).1).sT ((ix ql i).1).toNat).aP (ix ((tR t).1).sT ((ix ql i).2).toNat).aP)),int (k1:Int)]) (φ:=bl (has (orAll (crossL (ix ((tR s).1).sT ((ix ql i).1).toNat).aP (ix ((tR t).1).sT ((ix ql i).2).toNat).aP)) (k1:Int))) ⟨J,J,tV⟩ (ref01.Has_ok _ _ O O O O) T.ent59 (nl (th ?_))))))))))))))))))))))
    refine cd J (fun hc3=> ?_) (fun hc3=> ?_)
    ·skip
     have hh3:has (orAll (cA (tR s).1 (tR t).1 (ix ql i))) (k1:Int)=true:=hc3
     obtain⟨hal8,hokN⟩:=cN_go hS hT hokP hh3
     refine drH (nh:=28) [0,0,2,0,8,30,62,126,0,510,1022,0,2048,0,8192,30720,63488,129024,0,522240,1046528,2097150,4194303,8388607,16777215,16777215,33554431,134217727] [(none,[]),(none,[]),(none,[2]),(none,[]),(none,[8]),(none,[]),(none,[]),(none,[]),(none,[]),(none,[]),(none,[]),(none,[]),(none,[3]),(none,[]),(none,[8]),(none,[]),(none,[]),(none,[]),(none,[]),(none,[]),(none,[]),(none,[]),(some 37,[37]),(none,[]),(none,[]),(none,[]),(none,[]),(none,[])] T.mixed kR kR ?_
     refine stv (d:=77) (fun β1=>osl 37 v2) [] J (fun β β' hb=>J) (fun β1 _ _ _ _ gq gh kq=>mv' (gq.1.trans J) kq) ?_
     refine stv (d:=78) (fun β1=>ptr 2 b2 1) [] J (fun β β' hb=>J) (fun β1 _ _ _ _ gq gh kq=>fP (gq.1.trans J) T.fld25_1 kq) ?_
     refine stv (d:=79) (fun β1=>sl 2 sE ((tR s).1).sT) [2] J (fun β β' hb=>J) (fun β1 _ _ _ _ gq gh kq=>lP (gq.1.trans J) (gh.1.trans J) J T.one23 kq) ?_
     refine stv (d:=80) (fun β1=>ptr 8 b8 0) [] J (fun β β' hb=>J) (fun β1 _ _ _ _ gq gh kq=>iPA (gq.1.trans J) J T.arr84 T.one3 J kq) ?_
     refine stv (d:=81) (fun β1=>int ((ix ql i).1)) [8] J (fun β β' hb=>J) (fun β1 _ _ _ _ gq gh kq=>lP (gq.1.trans J) (gh.1.trans J) J T.one3 kq) ?_
     refine stv (d:=82) (fun β1=>fp [sl 1 nE (ix ((tR s).1).sT ((ix ql i).1).toNat).aP,sl 1 nE (ix ((tR s).1).sT ((ix ql i).1).toNat).next]) [] J (fun β β' hb=>J) (fun β1 _ _ _ _ gq gh kq=>iF (gq.1.trans J) (gq.2.1.trans J) T.sl23 O gB kq) ?_
     refine stv (d:=83) (fun β1=>fp [sl 1 nE (ix ((tR s).1).sT ((ix ql i).1).toNat).next]) [] J (fun β β' hb=>J) (fun β1 _ _ _ _ gq gh kq=>fF (gq.1.trans J) T.fld81_1 kq) ?_
     refine stv (d:=84) (fun β1=>sl 1 nE (ix ((tR s).1).sT ((ix ql i).1).toNat).next) [] J (fun β β' hb=>J) (fun β1 _ _ _ _ gq gh kq=>lF (gq.1.trans J) J T.one36 kq) ?_
     refine stv (d:=85) (fun β1=>int (k1:Int)) [] J (fun β β' hb=>J) (fun β1 _ _ _ _ gq gh kq=>mv' (gq.1.trans J) kq) ?_
     refine stv (d:=86) (fun β1=>fp [int (ix (ix ((tR s).1).sT ((ix ql i).1).toNat).next k1)]) [] J (fun β β' hb=>J) (fun β1 _ _ _ _ gq gh kq=>iF (gq.1.trans J) (gq.2.1.trans J) T.sl36 O gB kq) ?_
     refine stv (d:=87) (fun β1=>int (ix (ix ((tR s).1).sT ((ix ql i).1).toNat).next k1)) [] J (fun β β' hb=>J) (fun β1 _ _ _ _ gq gh kq=>lF (gq.1.trans J) J T.one3 kq) ?_
     refine stv (d:=88) (fun β1=>ptr 3 b3 1) [] J (fun β β' hb=>J) (fun β1 _ _ _ _ gq gh kq=>fP (gq.1.trans J) T.fld25_1 kq) ?_
     refine stv (d:=89) (fun β1=>sl 2 sE ((tR t).1).sT) [3] J (fun β β' hb=>J) (fun β1 _ _ _ _ gq gh kq=>lP (gq.1.trans J) (gh.1.trans J) J T.one23 kq) ?_
     refine stv (d:=90) (fun β1=>ptr 8 b8 1) [] J (fun β β' hb=>J) (fun β1 _ _ _ _ gq gh kq=>iPA (gq.1.trans J) J T.arr84 T.one3 J kq) ?_
     refine stv (d:=91) (fun β1=>int ((ix ql i).2)) [8] J (fun β β' hb=>J) (fun β1 _ _ _ _ gq gh kq=>lP (gq.1.trans J) (gh.1.trans J) J T.one3 kq) ?_
     refine stv (d:=92) (fun β1=>fp [sl 1 nE (ix ((tR t).1).sT ((ix ql i).2).toNat).aP,sl 1 nE (ix ((tR t).1).sT ((ix ql i).2).toNat).next]) [] J (fun β β' hb=>J) (fun β1 _ _ _ _ gq gh kq=>iF (gq.1.trans J) (gq.2.1.trans J) T.sl23 O gB kq) ?_
     refine stv (d:=93) (fun β1=>fp [sl 1 nE (ix ((tR t).1).sT ((ix ql i).2).toNat).next]) [] J (fun β β' hb=>J) (fun β1 _ _ _ _ gq gh kq=>fF (gq.1.trans J) T.fld81_1 kq) ?_
     refine stv (d:=94) (fun β1=>sl 1 nE (ix ((tR t).1).sT ((ix ql i).2).toNat).next) [] J (fun β β' hb=>J) (fun β1 _ _ _ _ gq gh kq=>lF (gq.1.trans J) J T.one36 kq) ?_
     refine stv (d:=95) (fun β1=>int (k1:Int)) [] J (fun β β' hb=>J) (fun β1 _ _ _ _ gq gh kq=>mv' (gq.1.trans J) kq) ?_
     refine stv (d:=96) (fun β1=>fp [int (ix (ix ((tR t).1).sT ((ix ql i).2).toNat).next k1)]) [] J (fun β β' hb=>J) (fun β1 _ _ _ _ gq gh kq=>iF (gq.1.trans J) (gq.2.1.trans J) T.sl36 O gB kq) ?_
     refine stv (d:=97) (fun β1=>int (ix (ix ((tR t).1).sT ((ix ql i).2).toNat).next k1)) [] J (fun β β' hb=>J) (fun β1 _ _ _ _ gq gh kq=>lF (gq.1.trans J) J T.one3 kq) ?_
     refine stv (d:=98) (fun β1=>agg [int (ix (ix ((tR s).1).sT ((ix ql i).1).toNat).next k1),int (ix (ix ((tR t).1).sT ((ix ql i).2).toNat).next k1)]) [] J (fun β β' hb=>J) (fun β1 _ _ _ _ gq gh kq=>bd (css:= [(0,_),(1,_)]) T.st84 (eC (eC eZ)) ⟨J,J,p1 (φ:=int (ix (ix ((tR s).1).sT ((ix ql i).1).toNat).next k1)) (by exact(gq.1.trans J)),⟨J,J,p1 (φ:=int (ix (ix ((tR t).1).sT ((ix ql i).2).toNat).next k1)) (by exact(gq.2.1.trans J)),tV⟩⟩ kq) ?_
     refine sty (d:=99) (e:=84) (n:=2) (enc:=pE) (xs:=pushL l2 (ix (ix ((tR s).1).sT ((ix ql i).1).toNat).next k1,ix (ix ((tR t).1).sT ((ix ql i).2).toNat).next k1)) 37 [37] (fun v=>tup [int ((pix l2 (ix (ix ((tR s).1).sT ((ix ql i).1).toNat).next k1,ix (ix ((tR t).1).sT ((ix ql i).2).toNat).next k1):Nat):Int),osl 37 v]) rfl (fun β1 _ _ _ _ gq gh kq=>cal (Hi:= [(37,own v2 84 2 pE l2)]) (φs:= [osl 37 v2,agg [int (ix (ix ((tR s).1).sT ((ix ql i).1).toNat).next k1),int (ix (ix ((tR t).1).sT ((ix ql i).2).toNat).next k1)]]) ⟨(gq.1.trans rfl),(gq.2.1.trans rfl),tV⟩ (place8_ok l2 (ix (ix ((tR s).1).sT ((ix ql i).1).toNat).next k1,ix (ix ((tR t).1).sT ((ix ql i).2).toNat).next k1) v2 O) T.ent60 (subh1 (gh.1.trans rfl)) fun N v=>outdup (kq v)) ?_
     refine stv (d:=76) (fun β1=>tup [int ((pix l2 (ix (ix ((tR s).1).sT ((ix ql i).1).toNat).next k1,ix (ix ((tR t).1).sT ((ix ql i).2).toNat).next k1):Nat):Int),osl 37 (sv (β1 22))]) [] J (fun β β' hb=>by first|rw[hb 22 J]|(dsimp only;rw[hb 22 J])) (fun β1 _ _ _ _ gq gh kq=>mv' (gq.1.trans J) kq) ?_
     refine stv (d:=100) (fun β1=>int ((pix l2 (ix (ix ((tR s).1).sT ((ix ql i).1).toNat).next k1,ix (ix ((tR t).1).sT ((ix ql i).2).toNat).next k1):Nat):Int)) [] J (fun β β' hb=>J) (fun β1 _ _ _ _ gq gh kq=>xt (gq.1.trans J) J kq) ?_
     refine stv (d:=101) (fun β1=>osl 37 (sv (β1 22))) [] J (fun β β' hb=>by first|rw[hb 22 J]|(dsimp only;rw[hb 22 J])) (fun β1 _ _ _ _ gq gh kq=>xt (gq.1.trans J) J kq) ?_
     refine stv (d:=12) (fun β1=>int ((pix l2 (ix (ix ((tR s).1).sT ((ix ql i).1).toNat).next k1,ix (ix ((tR t).1).sT ((ix ql i).2).toNat).next k1):Nat):Int)) [] J (fun β β' hb=>J) (fun β1 _ _ _ _ gq gh kq=>ag' (gq.1.trans J) kq) ?_
     refine stv (d:=6) (fun β1=>osl 37 (sv (β1 22))) [] J (fun β β' hb=>by first|rw[hb 22 J]|(dsimp only;rw[hb 22 J])) (fun β1 _ _ _ _ gq gh kq=>ag' (gq.1.trans J) kq) ?_
     refine pnH fun β1=>(nl (th (rg (fP J T.fld81_1 (lP J J J T.one36 (mv (bsE (enc:=nE) (xs:= [((pix l2 (ix (ix ((tR s).1).sT ((ix ql i).1).toNat).next k1,ix (ix ((tR t).1).sT ((ix ql i).2).toNat).next k1):Nat):Int)]) (css:= [[int ((pix l2 (ix (ix ((tR s).1).sT ((ix ql i).1).toNat).next k1,ix (ix ((tR t).1).sT ((ix ql i).2).toNat).next k1):Nat):Int)]]) T.mk36 ⟨J,J,p1 (φ:=int ((pix l2 (ix (ix ((tR s).1).sT ((ix ql i).1).toNat).next k1,ix (ix ((tR t).1).sT ((ix ql i).2).toNat).next k1):Nat):Int)) J,tV⟩ J J J J (ap (key:=90) (zs:= [((pix l2 (ix (ix ((tR s).1).sT ((ix ql i).1).toNat).next k1,ix (ix ((tR t).1).sT ((ix ql i).2).toNat).next k1):Nat):Int)]) osl_eq J J J T.mk36 (by unfold maxL at*;simp;omega) (by unfold maxL at*;simp;omega) fun v106=>(fP J T.fld81_1 (storePO J J J J T.one36 J (nl (eb (th (rg (bi J J (b_add i6) (mv (nl ?_)))))))))))))))))
     have hN0:(k1+1)≤(tR s).1.aC.length:=by
      first|omega|simp_all
     have hN1:HN (cA (tR s).1 (tR t).1) (cN (tR s).1 (tR t).1) (cOk (tR s).1 (tR t).1) i ql (k1+1) (pushL l2 (ix (ix ((tR s).1).sT ((ix ql i).1).toNat).next k1,ix (ix ((tR t).1).sT ((ix ql i).2).toNat).next k1)) (nx++ [((pix l2 (ix (ix ((tR s).1).sT ((ix ql i).1).toNat).next k1,ix (ix ((tR t).1).sT ((ix ql i).2).toNat).next k1):Nat):Int)]):=by
      exact hn_place hI1 hh3 hokN rfl
     exact ln (⟨k1+1,(sv (β1 22)),pushL l2 (ix (ix ((tR s).1).sT ((ix ql i).1).toNat).next k1,ix (ix ((tR t).1).sT ((ix ql i).2).toNat).next k1),v106,nx++ [((pix l2 (ix (ix ((tR s).1).sT ((ix ql i).1).toNat).next k1,ix (ix ((tR t).1).sT ((ix ql i).2).toNat).next k1):Nat):Int)]⟩:Nat × Value × (List (Int × Int)) × Value × (List Int)) ⟨hN0,hN1⟩ dO ⟨id,id,id,id,id,id,id,id,id,id,id,tV⟩ ⟨rI,rI,rI,rI,rI,rI,rI,rI,rI,tV⟩
    ·skip
     have hh3:has (orAll (cA (tR s).1 (tR t).1 (ix ql i))) (k1:Int)=false:=hc3
     refine sk (th (rg (fP J T.fld81_1 (lP J J J T.one36 (mv (bsE (enc:=nE) (xs:= [(-1)]) (css:= [[int (-1)]]) T.mk36 ⟨J,J,p1 (φ:=int (-1)) J,tV⟩ J J J J (ap (key:=90) (zs:= [(-1)]) osl_eq J J J T.mk36 (by unfold maxL at*;simp;omega) (by unfold maxL at*;simp;omega) fun v106=>(fP J T.fld81_1 (storePO J J J J T.one36 J (nl (eb (th (rg (bi J J (b_add i6) (mv (nl ?_))))))))))))))))
     have hN0:(k1+1)≤(tR s).1.aC.length:=by
      first|omega|simp_all
     have hN1:HN (cA (tR s).1 (tR t).1) (cN (tR s).1 (tR t).1) (cOk (tR s).1 (tR t).1) i ql (k1+1) l2 (nx++ [(-1)]):=by
      exact hn_none hI1 hh3
     exact ln (⟨k1+1,v2,l2,v106,nx++ [(-1)]⟩:Nat × Value × (List (Int × Int)) × Value × (List Int)) ⟨hN0,hN1⟩ dO ⟨id,id,id,id,id,id,id,id,id,id,id,tV⟩ ⟨rI,rI,rI,rI,rI,rI,rI,rI,rI,tV⟩
   ·try simp at hc2
    refine ex (xt_ (xt_ (xb (th (rg (fP J T.fld25_1 (lP J J J T.one23 (fzc 9 90 1 J J J J (lPA J J T.agg81 J (bsE (enc:=sE) (xs:= [(⟨crossL (ix (tR s).1.sT (ix ql i).1.toNat).aP (ix (tR t).1.sT (ix ql i).2.toNat).aP,nx⟩)]) (css:= [[sl 1 nE (crossL (ix (tR s).1.sT (ix ql i).1.toNat).aP (ix (tR t).1.sT (ix ql i).2.toNat).aP),sl 1 nE nx]]) T.mk23 ⟨J,J,pA (cs:= [sl 1 nE (crossL (ix (tR s).1.sT (ix ql i).1.toNat).aP (ix (tR t).1.sT (ix ql i).2.toNat).aP),sl 1 nE nx]) J,tV⟩ J J J J (ap (key:=50) (zs:= [(⟨crossL (ix (tR s).1.sT (ix ql i).1.toNat).aP (ix (tR t).1.sT (ix ql i).2.toNat).aP,nx⟩)]) osl_eq J J J T.mk23 (by unfold maxL at*;simp;omega) (by unfold maxL at*;simp;omega) fun v113=>(fP J T.fld25_1 (storePO J J J J T.one23 J (nl (eb (th (rg (mv (bi J J (b_add i6) (ag (nl ?_)))))))))))))))))))))
    have hN0:HW (cA (tR s).1 (tR t).1) (cN (tR s).1 (tR t).1) (cOk (tR s).1 (tR t).1) (0,0) (tR s).1.aC.length (i+1) l2 (outs++ [(⟨crossL (ix (tR s).1.sT (ix ql i).1.toNat).aP (ix (tR t).1.sT (ix ql i).2.toNat).aP,nx⟩)]):=by
     rw[show k1=(tR s).1.aC.length by omega] at hI1
     exact hw_next hG hHW hI1 hc1
    exact ln (⟨i+1,v2,l2,v113,outs++ [(⟨crossL (ix (tR s).1.sT (ix ql i).1.toNat).aP (ix (tR t).1.sT (ix ql i).2.toNat).aP,nx⟩)]⟩:Nat × Value × (List (Int × Int)) × Value × (List SA)) hN0 O ⟨id,id,id,id,id,id,tV⟩ ⟨rI,rI,rI,rI,rI,rI,tV⟩
  ·try simp at hc1
   refine ex (xt_ (xt_ (xb (th (sq (rg (fzc 5 50 1 J J J J (lPA J J T.agg25 J (sPA (cs':= [sl 1 rE_ ((tR s).1.aC),sl 2 sE outs]) J J J T.agg25 J J (nl (th (rt ?_))))))))))))
   exact rE ⟨⟨(tR s).1.aC,outs⟩,refc_num hs ht hh hHW O⟩ [.cell 4 25] J [agg [sl 1 rE_ ((tR s).1.aC),sl 2 sE outs]] ⟨.agg J J T.agg25 J J,tV⟩ J trivial eX
end prodm
end
section
namespace FitM
open ref01 ref03 ref04 ref06 prog15 starts Part Rungs LeftM TrimM RoundM MergeM BisM BisM4 BisM5 BisM6 WalkM StepM WitM JudgM LevM LevM2 divr divs divd dive divg divw divv refj sysw ChsM BisS TrimI ValidM WitSat WitVal QuoM FailM DivM
structure JdgOK (x:SSys) (t s:SS) (v:Bool × SSys):Prop where
 yes:v.1=true→v.2=⟨[],[]⟩∧(ix (hOl s) 0=true∨Well3 x t (tR s).1)
 no:v.1=false→ix (hOl s) 0=false∧∃q i u,QF x t (tS s) q∧i<q.length∧u∈acc (tS s) (ix q i).s.toNat∧andI (offM x (ix q i).x.toNat) u∉acc t (ix q i).t.toNat∧WitOK (tS s) (pathL (tS s) (wordF q i) u) v.2
def BadT (m n:SSys) (t:SS) (p:T3):Prop:=andI (offM m p.1.toNat) (offM n p.2.1.toNat)∉acc t p.2.2.toNat
inductive RchT (m n:SSys) (t:SS):T3→Prop
 |zero:RchT m n t (0,0,0)
 |step {p:T3} {d e:PP}:RchT m n t p→¬BadT m n t p→d∈edg m p.1.toNat→e∈edg n p.2.1.toNat→d.1=e.1→RchT m n t (d.2,e.2,ix (nxt t p.2.2.toNat) d.1.toNat)
section
variable {x:SSys} {t T:SS} {q:List M5} {i:Nat} {u:Int} {m:SSys}
theorem want_zero (T:SS) (w:List Int) (u:Int):(firstW T (pathL T w u)).1=0:=by
 unfold firstW
 rw[if_pos (by rw[pathL_len];omega)]
 rcases Nat.eq_zero_or_pos w.length with e|e
 ·have h:=pathL_end (T:=T) (w:=w) (u:=u)
  rw[e] at h
  rw[h];exact xAt_zero T w
 ·rw[pathL_at e]
  show xAt T w 0=0
  exact xAt_zero T w
end
end FitM
end
section
namespace PartM
open ref01 ref03 ref04 ref06 prog15 starts Part Rungs LeftM TrimM RoundM MergeM BisM BisM4 BisM5 BisM6 WalkM StepM WitM JudgM JudgM2 divr divs divd dive divg divw divv refj sysw ChsM BisS TrimI ValidM WitSat WitVal FailM FitM
open QuoM (subs qA qN bes)
theorem path_in {T:SS} {w:List Int} {u:Int} {p:PP} (h:p∈pathL T w u):(p.2=u)∨∃j,j<w.length∧p.2=leadI (ix T.sT p.1.toNat) (ix w j):=by
 unfold pathL at h
 rcases List.mem_append.1 h with g|g
 ·obtain⟨j,hj,rfl⟩:=List.mem_map.1 g
  exact .inr ⟨j,List.mem_range.1 hj,rfl⟩
 ·rw[List.mem_singleton.1 g];exact .inl rfl
theorem sat_trim {m:SSys} {s:SS} (hs:oK s) (h:SatM m (tR s).1):SatM m s:=by
 unfold SatM at h ⊢
 rw[sat_solid (trim_ok hs) (off_ok m)] at h
 rw[sat_solid hs (off_ok m)]
 exact sat_sim h (sim_trim hs)
end PartM
end
section
namespace CompP
open ref01 ref03 ref04 ref06 prog15 starts Part Rungs LeftM TrimM RoundM MergeM BisM BisM4 BisM5 BisM6 WalkM StepM WitM JudgM JudgM2 divr divs divd dive divg divw divv refj sysw ChsM BisS TrimI ValidM WitSat WitVal FailM FitM PartM QuoM DivM RefM GenW CompM judg
open LevM (Used)
theorem runs_go {T:SS} (hT:oK T) (hU:Used T):∀(w:List Int),(∀k,k<w.length→0≤ix w k∧ix w k<(T.aC.length:Int))→0≤goS T w→Runs T w (goS T w).toNat:=by
 intro w
 refine snoc_ind (p:=fun w=>(∀k,k<w.length→0≤ix w k∧ix w k<(T.aC.length:Int))→0≤goS T w→Runs T w (goS T w).toNat) ?_ (fun w a ih=> ?_) w
 ·intro _ _;exact .nil
 ·intro hw h0
  rw[goS_snoc] at h0 ⊢
  have hx0:0≤goS T w:=by
   refine Classical.byContradiction fun hn=> ?_
   unfold stepS at h0
   rw[if_pos O] at h0
   omega
  have ha:=hw w.length (by simp)
  rw[show ix (w++ [a]) w.length=a from ixI_last] at ha
  have hr:=ih (fun k hk=>by have:=hw k (by simp;omega);rwa [ixI_left hk] at this) hx0
  have hlt:=hr.lt hT
  obtain⟨b,rfl⟩:∃b:Nat,a=(b:Int):=⟨a.toNat,O⟩
  rw[stepS_nat hx0] at h0 ⊢
  exact .snoc hr ((hU _ hlt b O).1 h0)
theorem not_hol {D:SS} (hne:∀x,x<D.sT.length→0<(acc D x).length) {x:Nat} (hx:x<D.sT.length):ix (hOl D) x=false:=by
 cases e:ix (hOl D) x with
 |false=>rfl
 |true=>
  have hH:=(hollow_ix hx).1 e
  exfalso
  refine hH (fun _=>False) (fun y hy hc=> ?_)
  obtain⟨_,_,_,_,h⟩:=hc 0 (hne y hy)
  exact h
theorem keep_all {D:SS} (hD:oK D) (hne:∀x,x<D.sT.length→0<(acc D x).length) {x:Nat} (hx:x<D.sT.length):keep D x=acc D x:=by
 rw[keep_filter (not_hol hne hx)]
 refine List.filter_eq_self.2 fun u hu=> ?_
 rw[Bool.not_eq_true']
 cases hf:falls (ix D.sT x) u (hOl D) with
 |false=>rfl
 |true=>
  obtain⟨a,ha,h0,_,hv⟩:=falls_iff.1 hf
  have hb:=((hD.st x hx).nx a (by have:=(hD.st x hx).len;omega)).2
  rw[not_hol hne O] at hv;cases hv
section
variable {S T:SS}
inductive RunsC (S T:SS):List Int→PP→Prop
 |nil:RunsC S T [] (0,0)
 |snoc {w:List Int} {p:PP} {a:Nat}:RunsC S T w p→has (orAll (cA S T p)) (a:Int)=true→RunsC S T (w++ [(a:Int)]) (cN S T p a)
end
def Both2 (s t:SS) (w:List Int) (u:Int):Prop:=¬hol2 s t∧0≤goS (tR s).1 w∧0≤goS (tR t).1 w∧∃x∈acc (tR s).1 (goS (tR s).1 w).toNat,∃y∈acc (tR t).1 (goS (tR t).1 w).toNat,andI x y=u
theorem ne_trim {s:SS} (hs:oK s) (h0:ix (hOl s) 0=false):∀x,x<(tR s).1.sT.length→0<(acc (tR s).1 x).length:=by
 rw[trimmed_not h0]
 exact fun x hx=>tS_ne hs h0 hx
theorem not_hol2 {s t:SS} (h:¬hol2 s t):ix (hOl s) 0=false∧ix (hOl t) 0=false:=by
 unfold hol2 at h
 constructor
 ·cases e:ix (hOl s) 0 with
  |false=>rfl
  |true=>exact absurd (.inl e) h
 ·cases e:ix (hOl t) 0 with
  |false=>rfl
  |true=>exact absurd (.inr e) h
def nextM (m:SSys) (l:List Int) (a:Int):List Int:=((List.range m.sT.length).filter fun(x:Nat)=>l.any fun y=>(edg m y.toNat).any fun e=>decide (e.1=a)&&decide (e.2=(x:Int))).map fun(x:Nat)=>(x:Int)
def afterM (m:SSys) (w:List Int):List Int:=w.foldl (nextM m) [0]
theorem afterM_snoc (m:SSys) (w:List Int) (a:Int):afterM m (w++ [a])=nextM m (afterM m w) a:=by unfold afterM;rw[List.foldl_append];rfl
theorem next_mem {m:SSys} {l:List Int} {a:Int} {x:Int}:x∈nextM m l a↔∃k:Nat,x=(k:Int)∧k<m.sT.length∧∃y∈l,∃e∈edg m y.toNat,e.1=a∧e.2=(k:Int):=by
 unfold nextM
 rw[List.mem_map]
 constructor
 ·rintro⟨k,hk,rfl⟩
  obtain⟨h1,h2⟩:=List.mem_filter.1 hk
  obtain⟨y,hy,h3⟩:=List.any_eq_true.1 h2
  obtain⟨e,he,h4⟩:=List.any_eq_true.1 h3
  simp only [Bool.and_eq_true,decide_eq_true_eq] at h4
  exact⟨k,rfl,List.mem_range.1 h1,y,hy,e,he,h4.1,h4.2⟩
 ·rintro⟨k,rfl,hk,y,hy,e,he,h1,h2⟩
  exact⟨k,List.mem_filter.2 ⟨List.mem_range.2 hk,List.any_eq_true.2 ⟨y,hy,List.any_eq_true.2 ⟨e,he,by simp[h1,h2]⟩⟩⟩,rfl⟩
theorem after_bd {m:SSys} (hm:0<m.sT.length) (w:List Int):∀x∈afterM m w,0≤x∧x<(m.sT.length:Int):=by
 refine snoc_ind (p:=fun w=> ∀x∈afterM m w,0≤x∧x<(m.sT.length:Int)) ?_ (fun w a ih=> ?_) w
 ·intro x hx
  rw[List.mem_singleton.1 (show x∈[(0:Int)] from hx)];omega
 ·intro x hx
  rw[afterM_snoc] at hx
  obtain⟨k,rfl,hk,_⟩:=next_mem.1 hx
  omega
theorem wit_after {T:SS} (hT:oK T) {w:List Int} {u:Int} (hal:Alive T w) (hu:u∈acc T (goS T w).toNat) (hw:Wants T (pathL T w u)) {m:SSys} (hm:WitOK T (pathL T w u) m):∃x∈afterM m w,offM m x.toNat=u:=by
 obtain⟨ss,q,mm,hs,h,_⟩:=hm
 have hml:=m_len h
 have hpl:=pathL_len T w u
 have hmem:=pathL_mem hT hal hu
 have h1:∀j,j≤w.length→(ix (pathL T w u) j).1=xAt T w j:=fun j hj=>by
  by_cases e:j<w.length
  ·rw[pathL_at e];rfl
  ·have:j=w.length:=by omega
   subst this;rw[pathL_end]
 have hinS:∀j,j≤w.length→(ix (pathL T w u) j).2∈ix ss (ix (pathL T w u) j).1.toNat:=fun j hj=>by
  have hb:=hmem _ (ix_memS (l:=pathL T w u) (i:=j) O)
  refine(hs.mem _ O _).2 (.inr ?_)
  have e:(((ix (pathL T w u) j).1.toNat:Nat):Int)=(ix (pathL T w u) j).1:=by omega
  rw[e];exact ix_memS O
 have key:∀j,j≤w.length→ix (pathL T w u) j∈q∧((q.idxOf (ix (pathL T w u) j):Nat):Int)∈afterM m (w.take j):=by
  intro j
  induction j with
  |zero=>
   intro _
   have e2:ix q 0=ix (pathL T w u) 0:=by
    rw[h.wq.hd]
    unfold firstW
    rw[if_pos O]
   have hin:ix q 0∈q:=ix_memS h.wq.ne
   rw[←e2]
   refine⟨hin,?_⟩
   have g1:=List.idxOf_lt_length_of_mem hin
   have g2:q.idxOf (ix q 0)=0:=by
    have g3:q[q.idxOf (ix q 0)]=q[0]'h.wq.ne:=by rw[List.getElem_idxOf,ix_get h.wq.ne]
    exact(List.getElem_inj h.wq.nd).1 g3
   rw[g2]
   exact List.mem_singleton.2 rfl
  |succ j ih=>
   intro hj
   have hjl:j<w.length:=by omega
   obtain⟨hin,haf⟩:=ih O
   have hi:=List.idxOf_lt_length_of_mem hin
   have hat:ix q (q.idxOf (ix (pathL T w u) j))=ix (pathL T w u) j:=by rw[ix_get hi];exact List.getElem_idxOf hi
   obtain⟨x0,x1,a,ea,hha⟩:=hal j hjl
   have hlb:leadB (ix T.sT (xAt T w j).toNat) (a:Int)=true:=leadB_of hha
   have e1:ix (pathL T w u) j=(xAt T w j,leadI (ix T.sT (xAt T w j).toNat) (a:Int)):=by rw[pathL_at hjl];unfold StepM.stepL;rw[ea]
   have h2:has (ix (pathL T w u) j).2 (a:Int)=true:=by rw[e1];exact(lead_ix hlb).2.2
   have hax:a<8:=by have:=or_go hT O hha;have:=hT.n8;omega
   have htg:tgt T (ix (pathL T w u) j) (a:Int)=(ix (pathL T w u) (j+1)).1:=by
    rw[h1 (j+1) hj,xAt_succ hjl,ea,stepS_nat x0,e1];rfl
   have hS:=hinS (j+1) hj
   have hnx:ix (pathL T w u) (j+1)∈q:=by
    have:=h.dn _ hi (a:Int) (by rw[hat];exact listOf_mem.2 ⟨a,rfl,O,h2⟩) (ix (pathL T w u) (j+1)).2 (by rw[hat,htg];exact hS)
    rw[hat,htg] at this
    exact this
   have hi2:=List.idxOf_lt_length_of_mem hnx
   refine⟨hnx,?_⟩
   rw[take_s hjl,afterM_snoc]
   refine next_mem.2 ⟨_,rfl,O,_,haf,((a:Int),((q.idxOf (ix (pathL T w u) (j+1)):Nat):Int)),?_,ea.symm,rfl⟩
   rw[Int.toNat_natCast]
   refine(edge_mem h hi).2 ⟨a,rfl,O,by rw[hat];exact h2,(ix (pathL T w u) (j+1)).2,by rw[hat,htg];exact hS,?_⟩
   rw[hat,htg]
 obtain⟨hin,haf⟩:=key w.length (Nat.le_refl _)
 have hi:=List.idxOf_lt_length_of_mem hin
 have hat:ix q (q.idxOf (ix (pathL T w u) w.length))=ix (pathL T w u) w.length:=by rw[ix_get hi];exact List.getElem_idxOf hi
 rw[List.take_length] at haf
 refine⟨_,haf,?_⟩
 rw[Int.toNat_natCast,off_eq hT hw hs h hi,hat,pathL_end]
theorem path_made {s:SS} (hs:oK s) (hl:s.sT.length≤500) (h0:ix (hOl s) 0=false) {w:List Int} (hw:∀k,k<w.length→0≤ix w k∧ix w k<(s.aC.length:Int)) (hwl:w.length≤1000000000) (hg:0≤goS (tR s).1 w) {u:Int} (hu:u∈acc (tR s).1 (goS (tR s).1 w).toNat) {m:SSys} (hm:WitOK (tR s).1 (pathL (tR s).1 w u) m):
 madeB m s=true∧∃x∈afterM m w,offM m x.toNat=u:=by
 have ets:(tR s).1=tS s:=by rw[trimmed_not h0]
 have hT:oK (tR s).1:=trim_ok hs
 have hU:Used (tR s).1:=trim_used hs
 have hne:=ne_trim hs h0
 have htl:=trim_len hs
 have hwT:∀k,k<w.length→0≤ix w k∧ix w k<((tR s).1.aC.length:Int):=fun k hk=>by rw[trim_acts];exact hw k hk
 have hal:=(runs_go hT hU w hwT hg).alive hT
 have hW:Wants (tR s).1 (pathL (tR s).1 w u):=⟨pathL_mem hT hal hu,hne,by rw[pathL_len];omega⟩
 refine⟨?_,wit_after hT hal hu hW hm⟩
 have hsat:=sat_trim hs (wit_sat hT hW (want_zero _ _ _) hm)
 have hact:m.aC=s.aC:=by obtain⟨_,_,_,_,_,ha⟩:=hm;rw[ha,trim_acts]
 have hval:sysOK m=true:=by
  obtain⟨ss,qq,mm,hss,hWI,ha⟩:=hm
  have hin:∀y,y<(tR s).1.sT.length→(ix ss y).length≤10:=fun y hy=>by
   have hsub:∀z∈ix ss y,z∈ix (acc (tR s).1 y) 0::u::(List.range 8).map fun(a:Nat)=>leadI (ix (tR s).1.sT y) (a:Int):=fun z hz=>by
    rcases(hss.mem y hy z).1 hz with g|g
    ·rw[g];exact List.mem_cons_self
    ·refine List.mem_cons_of_mem _ ?_
     rcases path_in g with g2|⟨j,hj,g2⟩
     ·have g2:z=u:=g2
      rw[g2];exact List.mem_cons_self
     ·refine List.mem_cons_of_mem _ ?_
      have g2:z=leadI (ix (tR s).1.sT (y:Int).toNat) (ix w j):=g2
      rw[Int.toNat_natCast] at g2
      have hact:=alive_act hT hal hj
      have h8:=hT.n8
      refine List.mem_map.2 ⟨(ix w j).toNat,List.mem_range.2 O,?_⟩
      rw[g2,Int.toNat_of_nonneg hact.1]
   have:=List.Nodup.length_le_of_subset (hss.nd y hy) hsub
   simpa using this
  have hqq:qq.length≤(tR s).1.sT.length*10:=by
   have:=flat_len (g:=fun(y:Nat)=>(ix ss y).map fun z=>((y:Int),z)) (c:=10) (l:=List.range (tR s).1.sT.length) (fun y hy=>by rw[List.length_map];exact hin y (List.mem_range.1 hy))
   rw[List.length_range] at this
   refine Nat.le_trans (List.Nodup.length_le_of_subset hWI.wq.nd fun p hp=> ?_) this
   obtain⟨b0,b1,b2⟩:=hWI.wq.bd p hp
   exact List.mem_flatMap.2 ⟨p.1.toNat,List.mem_range.2 O,List.mem_map.2 ⟨p.2,b2,Prod.ext (by show((p.1.toNat:Nat):Int)=p.1;omega) rfl⟩⟩
  exact wit_valid (K:=10) hT hW hss hWI ha hin O O
 unfold madeB
 rw[hval,decide_eq_true hact,satD_iff.2 hsat];rfl
end CompP
end
section
namespace EncM
def encZ (z:SSys × Int):Value:= .agg #[.agg (z.1.aC.map Value.string).toArray,.agg (z.1.sT.map fun l=>Value.agg (l.map fun e=>Value.agg #[.int .i64 e.1,.int .i64 e.2]).toArray).toArray,.int .i64 z.2]
theorem map_inj {α β:Type} {f:α→β} (hf:∀a b,f a=f b→a=b):∀{l m:List α},l.map f=m.map f→l=m
 | [],[],_=>rfl
 | [],b::m,h=>by simp at h
 |a::l,[],h=>by simp at h
 |a::l,b::m,h=>by
  rw[List.map_cons,List.map_cons] at h
  injection h with h1 h2
  rw[hf _ _ h1,map_inj hf h2]
theorem agg_inj {l m:List Value} (h:Value.agg l.toArray=Value.agg m.toArray):l=m:=by
 injection h with h
 exact congrArg Array.toList h
theorem encZ_inj {a b:SSys × Int} (h:encZ a=encZ b):a=b:=by
 obtain⟨⟨a1,a2⟩,a3⟩:=a
 obtain⟨⟨b1,b2⟩,b3⟩:=b
 have h:=agg_inj (l:= [_,_,_]) (m:= [_,_,_]) h
 simp only [List.cons.injEq,and_true] at h
 obtain⟨h1,h2,h3⟩:=h
 have e1:a1=b1:=map_inj (fun x y g=>by injection g) (agg_inj h1)
 have e2:a2=b2:=map_inj (fun x y g=>map_inj (fun p q g=>by
  have g:=agg_inj (l:= [_,_]) (m:= [_,_]) g
  simp only [List.cons.injEq,and_true,Value.int.injEq,true_and] at g
  exact Prod.ext g.1 g.2) (agg_inj g)) (agg_inj h2)
 have e3:a3=b3:=by injection h3
 rw[e1,e2,e3]
open Classical in
noncomputable def decZ (v:Value):SSys × Int:=if h:∃z,encZ z=v then Classical.choose h else default
theorem dec_enc (z:SSys × Int):decZ (encZ z)=z:=by
 have h:∃y,encZ y=encZ z:=⟨z,rfl⟩
 unfold decZ
 rw[dif_pos h]
 exact encZ_inj (Classical.choose_spec h)
end EncM
end
section
open ref01 ref03 ref04 ref06 prog prog2 prog3 prog4 prog5 prog6 prog7 prog8 prog9 prog13 prog15 starts Part Rungs LeftM TrimM Itoa Keys RoundM MergeM BisM BisM4 BisM5 WalkM StepM WitM JudgM JudgM2 refw judg wit refj sysw divr divs divd dive divg divw divv LevM LevM2 ChsM TrimI QuoM FailM DivM RefM GenW CompM CrossM CompP PartM EncM prodc divp prodm
theorem int_eqC {x y:Int} (e:x=y) {w:World} {F:Fz} {v:Value} (h:(int x).p w F v):(int y).p w F v:=by subst e;exact h
def encM (m:SSys):Value:=encZ (m,0)
noncomputable def decM (v:Value):SSys:=(decZ v).1
theorem decM_enc (m:SSys):decM (encM m)=m:=by unfold decM encM;rw[dec_enc]
noncomputable def partE (s t:SS) (w:List Int) (u:Int):Int:=if fineE s t=0 then(if wordOK (s.aC.length:Int) w=true∧isSet (s.aC.length:Int) u=true then 0 else 1) else fineE s t
abbrev noSys:SSys:=⟨[],[]⟩
structure PartsOK (s t:SS) (w:List Int) (u:Int) (z:(SSys × SSys) × Int):Prop where
 err:partE s t w u≠0→z=((noSys,noSys),partE s t w u)
 none:partE s t w u=0→¬Both2 s t w u→z=((noSys,noSys),3)
 some:partE s t w u=0→Both2 s t w u→z.2=0∧∃a b,a∈acc (tR s).1 (goS (tR s).1 w).toNat∧b∈acc (tR t).1 (goS (tR t).1 w).toNat∧andI a b=u∧WitOK (tR s).1 (pathL (tR s).1 w a) z.1.1∧WitOK (tR t).1 (pathL (tR t).1 w b) z.1.2
section
variable {s t:SS} {w:List Int} {u:Int}
theorem parts_err {e:Int} (h:partE s t w u=e) (he:e≠0):PartsOK s t w u ((noSys,noSys),e):=⟨fun _=>by rw[h],fun g=>absurd (h.symm.trans g) he,fun g=>absurd (h.symm.trans g) he⟩
theorem parts_none (h:partE s t w u=0) (hn:¬Both2 s t w u):PartsOK s t w u ((noSys,noSys),3):=⟨fun g=>absurd h g,fun _ _=>rfl,fun _ g=>absurd g hn⟩
theorem parts_some (h:partE s t w u=0) (hh:¬hol2 s t) (h1:0≤goS (tR s).1 w) (h2:0≤goS (tR t).1 w) {a b:Int} (ha:a∈acc (tR s).1 (goS (tR s).1 w).toNat) (hb:b∈acc (tR t).1 (goS (tR t).1 w).toNat) (hab:andI a b=u) {m n:SSys} (hm:WitOK (tR s).1 (pathL (tR s).1 w a) m) (hn:WitOK (tR t).1 (pathL (tR t).1 w b) n):PartsOK s t w u ((m,n),0):=
 ⟨fun g=>absurd h g,fun _ g=>absurd ⟨hh,h1,h2,a,ha,b,hb,hab⟩ g,fun _ _=>⟨rfl,a,b,ha,hb,hab,hm,hn⟩⟩
theorem part_c1 {n:Int} (hc:(!wordOK n w|| !isSet n u)=true):¬(wordOK n w=true∧isSet n u=true):=fun⟨h1,h2⟩=>by rw[h1,h2] at hc;cases hc
theorem part_f1 {n:Int} (hc:(!wordOK n w|| !isSet n u)=false):wordOK n w=true∧isSet n u=true:=by
 rw[Bool.or_eq_false_iff,Bool.not_eq_false',Bool.not_eq_false'] at hc;exact hc
theorem part_c2 (hc:(((decide (((tR s).2.length:Int)=0)||decide (((tR t).2.length:Int)=0))|| !decide (0≤goS (tR s).1 w))|| !decide (0≤goS (tR t).1 w))=true):¬Both2 s t w u:=fun⟨h1,h2,h3,_⟩=>by
 rw[decide_eq_true h2,decide_eq_true h3,Bool.not_true,Bool.or_false,Bool.or_false] at hc
 exact h1 (com_cond.1 hc)
theorem part_f2 (hc:(((decide (((tR s).2.length:Int)=0)||decide (((tR t).2.length:Int)=0))|| !decide (0≤goS (tR s).1 w))|| !decide (0≤goS (tR t).1 w))=false):¬hol2 s t∧0≤goS (tR s).1 w∧0≤goS (tR t).1 w:=by
 rw[Bool.or_eq_false_iff,Bool.or_eq_false_iff,Bool.not_eq_false',Bool.not_eq_false',decide_eq_true_eq,decide_eq_true_eq] at hc
 refine⟨fun g=> ?_,hc.1.2,hc.2⟩
 have:=com_cond.2 g
 rw[this] at hc
 cases hc.1.1
theorem word_len {n:Int} (h:wordOK n w=true):w.length≤10000:=by
 unfold wordOK at h
 rw[Bool.and_eq_true,decide_eq_true_eq] at h
 omega
end
theorem witP_ok (s:SS) (hT:oK s) (want:List (Int × Int)) (hw:Wants s want):AL.Fn Tryz.prog 71 [spec s,sl 2 pE want] [] (ι:= { m:SSys//WitOK s want m }) (fun _ i=>agg [strs i.1.aC,sl 1 gE i.1.sT]) (fun _=> []):=
 fn_res (wit.Witness_ok s hT want hw) (fun N i {w F v} h=>agg_le (cs:= [fre N (strs i.1.aC),fre N (sl 1 gE i.1.sT)]) (ds:= [strs i.1.aC,sl 1 gE i.1.sT]) ⟨fun h=>nw_le h,fun h=>nw_le h,tV⟩ h)
def NyI (m:SSys) (l:List Int) (a:Int) (k j x:Nat):Prop:=(∃i,i<k∧∃e∈edg m (ix l i).toNat,e.1=a∧e.2=(x:Int))∨∃i,i<j∧(ix (edg m (ix l k).toNat) i).1=a∧(ix (edg m (ix l k).toNat) i).2=(x:Int)
structure NyS (m:SSys) (l:List Int) (a:Int) (k j:Nat) (b:List Bool):Prop where
 len:b.length=m.sT.length
 mem:∀x,x<m.sT.length→(ix b x=true↔NyI m l a k j x)
section
variable {m:SSys} {l:List Int} {a:Int} {k j:Nat} {b:List Bool}
theorem nys_zero:NyS m l a 0 0 (List.replicate m.sT.length false):=by
 refine⟨by simp,fun x hx=> ?_⟩
 rw[ix_get (by simpa using hx),List.getElem_replicate]
 constructor
 ·intro h;cases h
 ·rintro(⟨i,hi,_⟩|⟨i,hi,_⟩)<;>omega
theorem nys_next (h:NyS m l a k (edg m (ix l k).toNat).length b):NyS m l a (k+1) 0 b:=by
 refine⟨h.len,fun x hx=>(h.mem x hx).trans ?_⟩
 constructor
 ·rintro(⟨i,hi,g⟩|⟨i,hi,g⟩)
  ·exact .inl ⟨i,O,g⟩
  ·exact .inl ⟨k,O,_,ix_memS hi,g⟩
 ·rintro(⟨i,hi,g⟩|⟨i,hi,_⟩)
  ·by_cases e:i=k
   ·subst e
    obtain⟨ed,he,g⟩:=g
    obtain⟨q,hq,rfl⟩:=List.getElem_of_mem he
    exact .inr ⟨q,hq,by rw[ix_get hq];exact g⟩
   ·exact .inl ⟨i,O,g⟩
  ·omega
theorem nys_miss (h:NyS m l a k j b) (hn:(ix (edg m (ix l k).toNat) j).1≠a):NyS m l a k (j+1) b:=by
 refine⟨h.len,fun x hx=>(h.mem x hx).trans ?_⟩
 constructor
 ·rintro(g|⟨i,hi,g⟩)
  ·exact .inl g
  ·exact .inr ⟨i,O,g⟩
 ·rintro(g|⟨i,hi,g⟩)
  ·exact .inl g
  ·by_cases e:i=j
   ·subst e;exact absurd g.1 hn
   ·exact .inr ⟨i,O,g⟩
theorem nys_hit (h:NyS m l a k j b) (hn:(ix (edg m (ix l k).toNat) j).1=a) (h0:0≤(ix (edg m (ix l k).toNat) j).2) (h1:(ix (edg m (ix l k).toNat) j).2<(m.sT.length:Int)):NyS m l a k (j+1) (b.set (ix (edg m (ix l k).toNat) j).2.toNat true):=by
 have hl:=h.len
 refine⟨by simp[hl],fun x hx=> ?_⟩
 rw[ix_set O]
 by_cases e:x=(ix (edg m (ix l k).toNat) j).2.toNat
 ·rw[if_pos e]
  exact⟨fun _=> .inr ⟨j,O,hn,O⟩,fun _=>rfl⟩
 ·rw[if_neg e]
  refine(h.mem x hx).trans ?_
  constructor
  ·rintro(g|⟨i,hi,g⟩)
   ·exact .inl g
   ·exact .inr ⟨i,O,g⟩
  ·rintro(g|⟨i,hi,g⟩)
   ·exact .inl g
   ·by_cases q:i=j
    ·subst q;exact absurd g.2 O
    ·exact .inr ⟨i,O,g⟩
theorem nys_done (h:NyS m l a l.length 0 b):((List.range m.sT.length).filter fun(x:Nat)=>ix b x).map (fun(x:Nat)=>(x:Int))=nextM m l a:=by
 unfold nextM
 congr 1
 refine List.filter_congr fun x hx=> ?_
 have hx:=List.mem_range.1 hx
 rw[Bool.eq_iff_iff,h.mem x hx,List.any_eq_true]
 constructor
 ·rintro(⟨i,hi,e,he,g1,g2⟩|⟨i,hi,_⟩)
  ·exact⟨_,ix_memS hi,List.any_eq_true.2 ⟨e,he,by simp[g1,g2]⟩⟩
  ·omega
 ·rintro⟨y,hy,g⟩
  obtain⟨i,hi,rfl⟩:=List.getElem_of_mem hy
  obtain⟨e,he,g2⟩:=List.any_eq_true.1 g
  simp only [Bool.and_eq_true,decide_eq_true_eq] at g2
  exact .inl ⟨i,hi,e,by rw[ix_get hi];exact he,g2.1,g2.2⟩
end
theorem next_len (m:SSys) (l:List Int) (a:Int):(nextM m l a).length≤m.sT.length:=by
 unfold nextM
 rw[List.length_map]
 exact Nat.le_trans (List.length_filter_le _ _) (by simp)
theorem after_len {m:SSys} (h:0<m.sT.length) (w:List Int):(afterM m w).length≤m.sT.length:=by
 refine snoc_ind (p:=fun w=>(afterM m w).length≤m.sT.length) ?_ (fun w a _=> ?_) w
 ·exact h
 ·rw[afterM_snoc];exact next_len _ _ _
theorem after_take {m:SSys} {w:List Int} {k:Nat} (hk:k<w.length):afterM m (w.take (k+1))=nextM m (afterM m (w.take k)) (ix w k):=by rw[take_s hk,afterM_snoc]
def showB (m n:SSys) (w:List Int) (u:Int):Bool:=(afterM m w).any fun x=>(afterM n w).any fun y=>decide (andI (offM m x.toNat) (offM n y.toNat)=u)
theorem offM_bd {m:SSys} (hm:okSys m) {x:Nat} (hx:x<m.sT.length):0≤offM m x∧offM m x<256:=by
 have h8:=off8 hm hx
 refine⟨orAll_nn _,orAll_lt _ fun t ht=> ?_⟩
 obtain⟨e,he,rfl⟩:=List.mem_map.1 ht
 have:=h8 e he
 have hp:2^e.1.toNat≤2^7:=Nat.pow_le_pow_right O O
 omega
namespace T
theorem ent66:Ent Tryz.prog 66:=ent_of kR
theorem ent67:Ent Tryz.prog 67:=ent_of kR
theorem ent69:Ent Tryz.prog 69:=ent_of kR
theorem ent70:Ent Tryz.prog 70:=ent_of kR
theorem ent71:Ent Tryz.prog 71:=ent_of kR
theorem ent82:Ent Tryz.prog 82:=ent_of kR
theorem ent73:Ent Tryz.prog 73:=ent_of kR
end T
namespace prodp
theorem actIs_ok (n s:Int) (h0:0≤n) (h1:n<63):
 Fn0 Tryz.prog 67 [int n,int s] (bl (isSet n s)):=by
 refine fnI Tryz.func67 rfl rfl (fun w0 F0=> ?_)
 refine sq (rg (ag (nl (th (sq (rg (mv (bi J J b_geq (mv ?_)))))))))
 apply gAnd (t:=7) (pd:=12) rfl
 rotate_left
 ·intro hg0 fin
  have hg0':=hg0
  try simp at hg0'
  exact gy J J J hg0 (mv (gy J J J hg0 (mv (gy J J J hg0 (bi J J (b_shlI O O) (gy J J J hg0 (bi J J b_lss (pkT J hg0 J (drp (X:= [(11,_),(10,_),(9,_),(8,_)]) ⟨J,J,J,J,tV⟩ fin)))))))))
 ·intro hg0 fin
  exact gn J J J hg0 J J (gn J J J hg0 J J (gn J J J hg0 J J (gn J J J hg0 J J (pkF J hg0 J (drp (X:= [(11,_),(10,_),(9,_),(8,_)]) ⟨J,J,J,J,tV⟩ fin)))))
 refine ag (nl (th (rt ?_)))
 have hr0:((decide (0≤s))&&(decide (s<((2^n.toNat:Nat):Int))))=(isSet n s):=by
  first|rfl|simp_all|omega
 exact rE () [.tmp 4] J [bl ((decide (0≤s))&&(decide (s<((2^n.toNat:Nat):Int))))] ⟨.tmp J,tV⟩ (cA1 (fun x0=>rV [bl x0]) hr0) trivial eX
theorem Parts_ok (s t:SS) (hsm:smallSpec s) (htm:smallSpec t) (w:List Int) (u:Int):
 AL.Fn Tryz.prog 22 [spec s,spec t,ints w,int u] [] (ι:= { z:(SSys × SSys) × Int//PartsOK s t w u z }) (fun _ i=>tup [sys i.1.1.1,sys i.1.1.2,int i.1.2]) (fun _=> []):=by
 refine fnI Tryz.func22 rfl rfl (fun w0 F0=> ?_)
 refine fcC (inhS 0 J) (fun hS0=> ?_)
 obtain⟨hsa0,hss0,hse0⟩:=sLn hS0
 refine fcC (inhS 1 J) (fun hS1=> ?_)
 obtain⟨hsa1,hss1,hse1⟩:=sLn hS1
 refine fcC (slenI 2 J) (fun hm2=> ?_)
 refine sq (rg (bx (key:=4) (cs:= [sl 1 rE_ s.aC,sl 2 sE s.sT]) J fun b4=>(bx (key:=5) (cs:= [sl 1 rE_ t.aC,sl 2 sE t.sT]) J fun b5=>(al (key:=8) T.z43 (eC (eC eZ)) fun b8=>(al (key:=9) T.z43 (eC (eC eZ)) fun b9=>(ag (nl (th (sq (sq (rg (lPA J J T.agg25 J (lPA J J T.agg25 J (cal0 (φs:= [agg [sl 1 rE_ s.aC,sl 2 sE s.sT],agg [sl 1 rE_ t.aC,sl 2 sE t.sT]]) (φ:=int (fineE s t)) ⟨J,J,tV⟩ (judg.Fine_ok s t aS aS) T.ent61 (ag (nl (th (sq (rg (mv (bi J J b_neq (nl (th ?_)))))))))))))))))))))))
 refine cd J (fun hc0=> ?_) (fun hc0=> ?_)
 ·skip
  have hfz:fineE s t≠0:=by simpa using hc0
  have hpe:partE s t w u=fineE s t:=by unfold partE;rw[if_neg hfz]
  refine sq (rg (bd (css:= []) T.st43 (eC (eC eZ)) trivial (bd (css:= []) T.st43 (eC (eC eZ)) trivial (mv (sPA (cs':= [eqv (.slice none 0 0),eqv (.slice none 0 0)]) J J J T.agg43 J J (sPA (cs':= [eqv (.slice none 0 0),eqv (.slice none 0 0)]) J J J T.agg43 J J (ag (nl (th (rt (rt_ ?_)))))))))))
  refine kncA 8 0 (sl 1 rE_ []) rfl rfl slnil ?_
  refine kncA 8 1 (sl 1 gE []) rfl rfl slnil ?_
  refine kncA 9 0 (sl 1 rE_ []) rfl rfl slnil ?_
  refine kncA 9 1 (sl 1 gE []) rfl rfl slnil ?_
  exact rE ⟨((noSys,noSys),fineE s t),parts_err hpe hfz⟩ [.cell 8 43,.cell 9 43,.tmp 10] J [agg [sl 1 rE_ [],sl 1 gE []],agg [sl 1 rE_ [],sl 1 gE []],int (fineE s t)] ⟨.agg J J T.agg43 J J,.agg J J T.agg43 J J,.tmp J,tV⟩ J trivial eX
 ·skip
  have hfz:fineE s t=0:=by simpa using hc0
  obtain⟨hsv,htv,hst⟩:=Go.Proofs.YtcjemmihcplgdaaGreatDoor.fine_ok hfz
  have hs:=okSpec_of hsv
  have ht:=okSpec_of htv
  have hn8:=hs.n8
  refine sk (th (sq (sq (rg (fP J T.fld25_0 (lP J J J T.one22 (mv (cal0 (φs:= [sl 1 rE_ s.aC,sl 1 nE w]) (φ:=bl (wordOK (s.aC.length:Int) w)) ⟨J,J,tV⟩ (prog15.pWord_ok s.aC w) T.ent66 (no J (mv ?_))))))))))
  apply gOr (t:=39) (pd:=46) rfl
  rotate_left
  ·intro hg0 fin
   have hg0':=hg0
   try simp at hg0'
   exact gy J J J hg0 (fP J T.fld25_0 (gy J J J hg0 (lP J J J T.one22 (gy J J J hg0 (fc (slenI 41 J) fun hm41=>(lnF J T.sl22 (gy J J J hg0 (mv (gy J J J hg0 (cal0 (φs:= [int (s.aC.length:Int),int u]) (φ:=bl (isSet (s.aC.length:Int) u)) ⟨J,J,tV⟩ (prodp.actIs_ok _ _ O O) T.ent67 (gy J J J hg0 (no J (pkF J hg0 J (drp (X:= [(45,_),(44,_),(43,_),(42,_),(41,_),(40,_)]) ⟨J,J,J,J,J,J,tV⟩ fin))))))))))))))
  ·intro hg0 fin
   exact gn J J J hg0 J J (gn J J J hg0 J J (gn J J J hg0 J J (gn J J J hg0 J J (gn J J J hg0 J J (gn J J J hg0 J J (pkT J hg0 J (drp (X:= [(45,_),(44,_),(43,_),(42,_),(41,_),(40,_)]) ⟨J,J,J,J,J,J,tV⟩ fin)))))))
  refine nl (th ?_)
  refine cd J (fun hc1=> ?_) (fun hc1=> ?_)
  ·skip
   have hpe:partE s t w u=1:=by unfold partE;rw[if_pos hfz,if_neg (part_c1 hc1)]
   refine sq (rg (bd (css:= []) T.st43 (eC (eC eZ)) trivial (bd (css:= []) T.st43 (eC (eC eZ)) trivial (sPA (cs':= [eqv (.slice none 0 0),eqv (.slice none 0 0)]) J J J T.agg43 J J (sPA (cs':= [eqv (.slice none 0 0),eqv (.slice none 0 0)]) J J J T.agg43 J J (ag (nl (th (rt (rt_ ?_))))))))))
   refine kncA 8 0 (sl 1 rE_ []) rfl rfl slnil ?_
   refine kncA 8 1 (sl 1 gE []) rfl rfl slnil ?_
   refine kncA 9 0 (sl 1 rE_ []) rfl rfl slnil ?_
   refine kncA 9 1 (sl 1 gE []) rfl rfl slnil ?_
   exact rE ⟨((noSys,noSys),1),parts_err hpe (by decide)⟩ [.cell 8 43,.cell 9 43,.tmp 10] J [agg [sl 1 rE_ [],sl 1 gE []],agg [sl 1 rE_ [],sl 1 gE []],int 1] ⟨.agg J J T.agg43 J J,.agg J J T.agg43 J J,.tmp J,tV⟩ J trivial eX
  ·skip
   obtain⟨hwo,hse⟩:=part_f1 hc1
   have hpe:partE s t w u=0:=by unfold partE;rw[if_pos hfz,if_pos ⟨hwo,hse⟩]
   have hwl:=word_len hwo
   have hS:=trim_ok hs
   have hT:=trim_ok ht
   have hwS:wordOK ((tR s).1.aC.length:Int) w=true:=by rw[trim_acts];exact hwo
   have hwT:wordOK ((tR t).1.aC.length:Int) w=true:=by rw[trim_acts,←hst];exact hwo
   have hSn:=hS.n8
   have hTn:=hT.n8
   refine sk (th (sq (rg (lPA J J T.agg25 J (calW (φs:= [agg [sl 1 rE_ s.aC,sl 2 sE s.sT]]) (φ:=tup [agg [sl 1 rE_ ((tR s).1.aC),sl 2 sE ((tR s).1.sT)],sl 1 nE ((tR s).2)]) ⟨J,tV⟩ (prog9.Trimmed_ok s aS) T.ent68 (fun N hN=>fun h=>tup_le (cs:= [agg [fre N (sl 1 rE_ ((tR s).1.aC)),frb (ix (hOl s) 0) N (sl 2 sE ((tR s).1.sT))],sl 1 nE ((tR s).2)]) (ds:= [agg [sl 1 rE_ ((tR s).1.aC),sl 2 sE ((tR s).1.sT)],sl 1 nE ((tR s).2)]) ⟨fun h=>agg_le (cs:= [fre N (sl 1 rE_ ((tR s).1.aC)),frb (ix (hOl s) 0) N (sl 2 sE ((tR s).1.sT))]) (ds:= [sl 1 rE_ ((tR s).1.aC),sl 2 sE ((tR s).1.sT)]) ⟨fun h=>nw_le h,fun h=>frb_le h,tV⟩ h,fun h=>h,tV⟩ h) (mv (xt J J (xt J J (sPA (cs':= [sl 1 rE_ ((tR s).1.aC),sl 2 sE ((tR s).1.sT)]) J J J T.agg25 J J (ag (nl (th (sq (rg (lPA J J T.agg25 J (calW (φs:= [agg [sl 1 rE_ t.aC,sl 2 sE t.sT]]) (φ:=tup [agg [sl 1 rE_ ((tR t).1.aC),sl 2 sE ((tR t).1.sT)],sl 1 nE ((tR t).2)]) ⟨J,tV⟩ (prog9.Trimmed_ok t aS) T.ent68 (fun N hN=>fun h=>tup_le (cs:= [agg [fre N (sl 1 rE_ ((tR t).1.aC)),frb (ix (hOl t) 0) N (sl 2 sE ((tR t).1.sT))],sl 1 nE ((tR t).2)]) (ds:= [agg [sl 1 rE_ ((tR t).1.aC),sl 2 sE ((tR t).1.sT)],sl 1 nE ((tR t).2)]) ⟨fun h=>agg_le (cs:= [fre N (sl 1 rE_ ((tR t).1.aC)),frb (ix (hOl t) 0) N (sl 2 sE ((tR t).1.sT))]) (ds:= [sl 1 rE_ ((tR t).1.aC),sl 2 sE ((tR t).1.sT)]) ⟨fun h=>nw_le h,fun h=>frb_le h,tV⟩ h,fun h=>h,tV⟩ h) (mv (xt J J (xt J J (sPA (cs':= [sl 1 rE_ ((tR t).1.aC),sl 2 sE ((tR t).1.sT)]) J J J T.agg25 J J (ag (nl (th (sq (rg (lPA J J T.agg25 J (mv (cal0 (φs:= [agg [sl 1 rE_ ((tR s).1.aC),sl 2 sE ((tR s).1.sT)],sl 1 nE w]) (φ:=tup [int (if goS ((tR s).1) w<0 then 0 else goS ((tR s).1) w),bl (decide (0≤goS ((tR s).1) w))]) ⟨J,J,tV⟩ (prog15.Follow_ok ((tR s).1) aS w (fun _=>word_ix aS)) T.ent69 (mv (xt J J (xt J J (ag (ag (nl (th (sq (rg (lPA J J T.agg25 J (mv (cal0 (φs:= [agg [sl 1 rE_ ((tR t).1.aC),sl 2 sE ((tR t).1.sT)],sl 1 nE w]) (φ:=tup [int (if goS ((tR t).1) w<0 then 0 else goS ((tR t).1) w),bl (decide (0≤goS ((tR t).1) w))]) ⟨J,J,tV⟩ (prog15.Follow_ok ((tR t).1) aS w (fun _=>word_ix aS)) T.ent69 (mv (xt J J (xt J J (ag (ag (nl (th (sq (sq (rg (mv (fc (slenI 71 J) fun hm71=>(lnF J T.sl36 (bi J J b_eql (mv ?_)))))))))))))))))))))))))))))))))))))))))))))))))))))))
   apply gOr (t:=74) (pd:=78) rfl
   rotate_left
   ·intro hg1 fin
    have hg1':=hg1
    try simp at hg1'
    exact gy J J J hg1 (mv (gy J J J hg1 (fc (slenI 75 J) fun hm75=>(lnF J T.sl36 (gy J J J hg1 (bi J J b_eql (pkF J hg1 J (drp (X:= [(77,_),(76,_),(75,_)]) ⟨J,J,J,tV⟩ fin))))))))
   ·intro hg1 fin
    exact gn J J J hg1 J J (gn J J J hg1 J J (gn J J J hg1 J J (pkT J hg1 J (drp (X:= [(77,_),(76,_),(75,_)]) ⟨J,J,J,tV⟩ fin))))
   refine mv ?_
   apply gOr (t:=79) (pd:=82) rfl
   rotate_left
   ·intro hg2 fin
    have hg2':=hg2
    try simp at hg2'
    exact gy J J J hg2 (mv (gy J J J hg2 (no J (pkF J hg2 J (drp (X:= [(81,_),(80,_)]) ⟨J,J,tV⟩ fin)))))
   ·intro hg2 fin
    exact gn J J J hg2 J J (gn J J J hg2 J J (pkT J hg2 J (drp (X:= [(81,_),(80,_)]) ⟨J,J,tV⟩ fin)))
   refine mv ?_
   apply gOr (t:=83) (pd:=86) rfl
   rotate_left
   ·intro hg3 fin
    have hg3':=hg3
    try simp at hg3'
    exact gy J J J hg3 (mv (gy J J J hg3 (no J (pkF J hg3 J (drp (X:= [(85,_),(84,_)]) ⟨J,J,tV⟩ fin)))))
   ·intro hg3 fin
    exact gn J J J hg3 J J (gn J J J hg3 J J (pkT J hg3 J (drp (X:= [(85,_),(84,_)]) ⟨J,J,tV⟩ fin)))
   refine nl (th ?_)
   refine cd J (fun hc2=> ?_) (fun hc2=> ?_)
   ·skip
    have hnb:¬Both2 s t w u:=part_c2 hc2
    refine sq (rg (bd (css:= []) T.st43 (eC (eC eZ)) trivial (bd (css:= []) T.st43 (eC (eC eZ)) trivial (sPA (cs':= [eqv (.slice none 0 0),eqv (.slice none 0 0)]) J J J T.agg43 J J (sPA (cs':= [eqv (.slice none 0 0),eqv (.slice none 0 0)]) J J J T.agg43 J J (ag (nl (th (rt (rt_ ?_))))))))))
    refine kncA 8 0 (sl 1 rE_ []) rfl rfl slnil ?_
    refine kncA 8 1 (sl 1 gE []) rfl rfl slnil ?_
    refine kncA 9 0 (sl 1 rE_ []) rfl rfl slnil ?_
    refine kncA 9 1 (sl 1 gE []) rfl rfl slnil ?_
    exact rE ⟨((noSys,noSys),3),parts_none hpe hnb⟩ [.cell 8 43,.cell 9 43,.tmp 10] J [agg [sl 1 rE_ [],sl 1 gE []],agg [sl 1 rE_ [],sl 1 gE []],int 3] ⟨.agg J J T.agg43 J J,.agg J J T.agg43 J J,.tmp J,tV⟩ J trivial eX
   ·skip
    have hx2:=part_f2 (s:=s) (t:=t) (w:=w) hc2
    have hh:=hx2.1
    have hg1:=hx2.2.1
    have hg2:=hx2.2.2
    have hh1:=(not_hol2 hh).1
    have hh2:=(not_hol2 hh).2
    have e1:(if goS (tR s).1 w<0 then 0 else goS (tR s).1 w)=goS (tR s).1 w:=if_neg O
    have e2:(if goS (tR t).1 w<0 then 0 else goS (tR t).1 w)=goS (tR t).1 w:=if_neg O
    have r1:=runs_go hS (trim_used hs) w (fun _ h=>word_ix hwS h) hg1
    have r2:=runs_go hT (trim_used ht) w (fun _ h=>word_ix hwT h) hg2
    have l1:=r1.lt hS
    have l2:=r2.lt hT
    have a1:Alive (tR s).1 w:=r1.alive hS
    have a2:Alive (tR t).1 w:=r2.alive hT
    have hsa:=(hS.st _ l1).ac
    have hta:=(hT.st _ l2).ac
    have hs8:=(hS.st _ l1).acl
    have ht8:=(hT.st _ l2).acl
    have f1:=hS.few1
    have f2:=hT.few1
    refine knC 14 (int (goS (tR s).1 w)) rfl (fun h=>int_eqC e1 h) (knC 16 (int (goS (tR t).1 w)) rfl (fun h=>int_eqC e2 h) (sk (th (sq (sq (rg (fP rfl T.fld25_1 (lP rfl rfl rfl T.one23 (mv (iF rfl rfl T.sl23 O gB (fF rfl T.fld81_0 (lF rfl rfl T.one36 (fc (slenI 94 rfl) fun hm94=>(lnF rfl T.sl36 (mv (nl (th (bk ?_))))))))))))))))))
    have hI0_0:0≤(ix ((tR s).1.sT) (goS (tR s).1 w).toNat).aP.length:=by
     first|omega|simp
    have hI0_1:∀j,j<0→∀y∈acc (tR t).1 (goS (tR t).1 w).toNat,andI (ix (ix (tR s).1.sT (goS (tR s).1 w).toNat).aP j) y≠u:=by
     intro j hj;omega
    refine lp (κ:=Nat) (fun p=> [(2,sl 1 nE w),(3,int u),(4,ptr 4 b4 0),(5,ptr 5 b5 0),(8,ptr 8 b8 0),(9,ptr 9 b9 0),(16,int (goS (tR t).1 w)),(94,sl 1 nE (ix ((tR s).1.sT) (goS (tR s).1 w).toNat).aP),(95,int ((ix ((tR s).1.sT) (goS (tR s).1 w).toNat).aP.length:Int)),(96,int (p:Int))]) (fun p=> [(4,cell b4 [sl 1 rE_ ((tR s).1.aC),sl 2 sE ((tR s).1.sT)]),(5,cell b5 [sl 1 rE_ ((tR t).1.aC),sl 2 sE ((tR t).1.sT)]),(8,cell b8 [eqv (.slice none 0 0),eqv (.slice none 0 0)]),(9,cell b9 [eqv (.slice none 0 0),eqv (.slice none 0 0)])]) (fun p=>(p≤(ix ((tR s).1.sT) (goS (tR s).1 w).toNat).aP.length)∧(∀j,j<p→∀y∈acc (tR t).1 (goS (tR t).1 w).toNat,andI (ix (ix (tR s).1.sT (goS (tR s).1 w).toNat).aP j) y≠u)) (fun p=>(ix ((tR s).1.sT) (goS (tR s).1 w).toNat).aP.length- p) 0 ⟨hI0_0,hI0_1⟩ ⟨id,id,id,id,id,id,id,id,id,id,tV⟩ ⟨rI,rI,rI,rI,tV⟩ ?_
    intro k hG0
    obtain⟨hk0,hI0⟩:(k≤(ix ((tR s).1.sT) (goS (tR s).1 w).toNat).aP.length)∧(∀j,j<k→∀y∈acc (tR t).1 (goS (tR t).1 w).toNat,andI (ix (ix (tR s).1.sT (goS (tR s).1 w).toNat).aP j) y≠u):=hG0
    refine sq (rg (bi J J b_lss (nl (th (sq ?_)))))
    refine cd J (fun hc3=> ?_) (fun hc3=> ?_)
    ·try simp at hc3
     have hak:=hsa k O
     refine sk (th (sq (bk (sq (rg (iF J J T.sl36 O gB (lF J J T.one3 (ag (nl (th (sq (rg (fP J T.fld25_1 (lP J J J T.one23 (mv (iF J J T.sl23 O gB (fF J T.fld81_0 (lF J J T.one36 (fc (slenI 105 J) fun hm105=>(lnF J T.sl36 (mv (nl (th (bk ?_))))))))))))))))))))))))
     have hI1_0:0≤(ix ((tR t).1.sT) (goS (tR t).1 w).toNat).aP.length:=by
      first|omega|simp
     have hI1_1:∀j,j<0→andI (ix (ix (tR s).1.sT (goS (tR s).1 w).toNat).aP k) (ix (ix (tR t).1.sT (goS (tR t).1 w).toNat).aP j)≠u:=by
      intro j hj;omega
     refine lp (κ:=Nat) (fun p=> [(2,sl 1 nE w),(3,int u),(4,ptr 4 b4 0),(5,ptr 5 b5 0),(8,ptr 8 b8 0),(9,ptr 9 b9 0),(16,int (goS (tR t).1 w)),(19,int (ix (ix ((tR s).1.sT) (goS (tR s).1 w).toNat).aP k)),(94,sl 1 nE (ix ((tR s).1.sT) (goS (tR s).1 w).toNat).aP),(95,int ((ix ((tR s).1.sT) (goS (tR s).1 w).toNat).aP.length:Int)),(96,int (k:Int)),(105,sl 1 nE (ix ((tR t).1.sT) (goS (tR t).1 w).toNat).aP),(106,int ((ix ((tR t).1.sT) (goS (tR t).1 w).toNat).aP.length:Int)),(107,int (p:Int))]) (fun p=> [(4,cell b4 [sl 1 rE_ ((tR s).1.aC),sl 2 sE ((tR s).1.sT)]),(5,cell b5 [sl 1 rE_ ((tR t).1.aC),sl 2 sE ((tR t).1.sT)]),(8,cell b8 [eqv (.slice none 0 0),eqv (.slice none 0 0)]),(9,cell b9 [eqv (.slice none 0 0),eqv (.slice none 0 0)])]) (fun p=>(p≤(ix ((tR t).1.sT) (goS (tR t).1 w).toNat).aP.length)∧(∀j,j<p→andI (ix (ix (tR s).1.sT (goS (tR s).1 w).toNat).aP k) (ix (ix (tR t).1.sT (goS (tR t).1 w).toNat).aP j)≠u)) (fun p=>(ix ((tR t).1.sT) (goS (tR t).1 w).toNat).aP.length- p) 0 ⟨hI1_0,hI1_1⟩ ⟨id,id,id,id,id,id,id,id,id,id,id,id,id,id,tV⟩ ⟨rI,rI,rI,rI,tV⟩ ?_
     intro k1 hG1
     obtain⟨hk1,hI1⟩:(k1≤(ix ((tR t).1.sT) (goS (tR t).1 w).toNat).aP.length)∧(∀j,j<k1→andI (ix (ix (tR s).1.sT (goS (tR s).1 w).toNat).aP k) (ix (ix (tR t).1.sT (goS (tR t).1 w).toNat).aP j)≠u):=hG1
     refine sq (rg (bi J J b_lss (nl (th (sq ?_)))))
     refine cd J (fun hc4=> ?_) (fun hc4=> ?_)
     ·try simp at hc4
      have hbk:=hta k1 O
      refine sk (th (sq (bk (sq (rg (iF J J T.sl36 O gB (lF J J T.one3 (ag (nl (th (sq (rg (mv (mv (bi J J (b_andI O O O O) (mv (bi J J b_eql (nl (th ?_)))))))))))))))))))
      refine cd J (fun hc5=> ?_) (fun hc5=> ?_)
      ·skip
       have hau:andI (ix (ix (tR s).1.sT (goS (tR s).1 w).toNat).aP k) (ix (ix (tR t).1.sT (goS (tR t).1 w).toNat).aP k1)=u:=of_decide_eq_true hc5
       have hma:ix (ix (tR s).1.sT (goS (tR s).1 w).toNat).aP k∈acc (tR s).1 (goS (tR s).1 w).toNat:=ix_memS (l:=(ix (tR s).1.sT (goS (tR s).1 w).toNat).aP) O
       have hmb:ix (ix (tR t).1.sT (goS (tR t).1 w).toNat).aP k1∈acc (tR t).1 (goS (tR t).1 w).toNat:=ix_memS (l:=(ix (tR t).1.sT (goS (tR t).1 w).toNat).aP) O
       have hw1:Wants (tR s).1 (pathL (tR s).1 w (ix (ix (tR s).1.sT (goS (tR s).1 w).toNat).aP k)):=⟨pathL_mem hS a1 hma,ne_trim hs hh1,by rw[pathL_len];omega⟩
       have hw2:Wants (tR t).1 (pathL (tR t).1 w (ix (ix (tR t).1.sT (goS (tR t).1 w).toNat).aP k1)):=⟨pathL_mem hT a2 hmb,ne_trim ht hh2,by rw[pathL_len];omega⟩
       refine sq (rg (lPA J J T.agg25 J (mv (mv (cal0 (φs:= [agg [sl 1 rE_ ((tR s).1.aC),sl 2 sE ((tR s).1.sT)],sl 1 nE w,int (ix (ix ((tR s).1.sT) (goS (tR s).1 w).toNat).aP k)]) (φ:=tup [sl 2 pE (pathL ((tR s).1) w (ix (ix ((tR s).1.sT) (goS (tR s).1 w).toNat).aP k)),bl (decide ((ix (ix ((tR s).1.sT) (goS (tR s).1 w).toNat).aP k)∈acc ((tR s).1) (goS ((tR s).1) w).toNat))]) ⟨J,J,J,tV⟩ (judg.Path_ok ((tR s).1) aS w aS (ix (ix ((tR s).1.sT) (goS (tR s).1 w).toNat).aP k) O) T.ent70 (mv (xt J J (xt J J (ag (ag (nl (th (sq (rg (lPA J J T.agg25 J (mv (mv (cal0 (φs:= [agg [sl 1 rE_ ((tR t).1.aC),sl 2 sE ((tR t).1.sT)],sl 1 nE w,int (ix (ix ((tR t).1.sT) (goS (tR t).1 w).toNat).aP k1)]) (φ:=tup [sl 2 pE (pathL ((tR t).1) w (ix (ix ((tR t).1.sT) (goS (tR t).1 w).toNat).aP k1)),bl (decide ((ix (ix ((tR t).1.sT) (goS (tR t).1 w).toNat).aP k1)∈acc ((tR t).1) (goS ((tR t).1) w).toNat))]) ⟨J,J,J,tV⟩ (judg.Path_ok ((tR t).1) aS w aS (ix (ix ((tR t).1.sT) (goS (tR t).1 w).toNat).aP k1) O) T.ent70 (mv (xt J J (xt J J (ag (ag (nl (th (sq ?_))))))))))))))))))))))))))
       refine drH (nh:=9) [0,0,3,0,0,31,63,127,255] [(none,[4]),(none,[]),(none,[]),(none,[5]),(none,[]),(none,[]),(some 8,[8]),(some 9,[9]),(none,[])] T.mixed kR kR ?_
       refine stv (d:=130) (fun β0=>agg [sl 1 rE_ ((tR s).1.aC),sl 2 sE ((tR s).1.sT)]) [4] J (fun β β' hb=>J) (fun β0 _ _ _ _ gq gh kq=>lPA (gq.1.trans J) (gh.1.trans J) T.agg25 J kq) ?_
       refine stv (d:=131) (fun β0=>sl 2 pE (pathL ((tR s).1) w (ix (ix ((tR s).1.sT) (goS (tR s).1 w).toNat).aP k))) [] J (fun β β' hb=>J) (fun β0 _ _ _ _ gq gh kq=>mv' (gq.1.trans J) kq) ?_
       refine ste (d:=132) encM decM decM_enc (fun z=>WitOK (tR s).1 (pathL (tR s).1 w (ix (ix (tR s).1.sT (goS (tR s).1 w).toNat).aP k)) z) (fun z=>agg [sl 1 rE_ z.aC,sl 1 gE z.sT]) rfl (fun β0 _ _ _ _ gq gh kq=>cal (Hi:= []) (φs:= [agg [sl 1 rE_ ((tR s).1.aC),sl 2 sE ((tR s).1.sT)],sl 2 pE (pathL ((tR s).1) w (ix (ix ((tR s).1.sT) (goS (tR s).1 w).toNat).aP k))]) ⟨(gq.1.trans rfl),(gq.2.1.trans rfl),tV⟩ (witP_ok (tR s).1 hS (pathL (tR s).1 w (ix (ix (tR s).1.sT (goS (tR s).1 w).toNat).aP k)) hw1) T.ent71 trivial fun N i=>kq i.1 i.2) ?_
       refine stv (d:=133) (fun β0=>agg [sl 1 rE_ ((tR t).1.aC),sl 2 sE ((tR t).1.sT)]) [5] J (fun β β' hb=>J) (fun β0 _ _ _ _ gq gh kq=>lPA (gq.1.trans J) (gh.1.trans J) T.agg25 J kq) ?_
       refine stv (d:=134) (fun β0=>sl 2 pE (pathL ((tR t).1) w (ix (ix ((tR t).1.sT) (goS (tR t).1 w).toNat).aP k1))) [] J (fun β β' hb=>J) (fun β0 _ _ _ _ gq gh kq=>mv' (gq.1.trans J) kq) ?_
       refine ste (d:=135) encM decM decM_enc (fun z=>WitOK (tR t).1 (pathL (tR t).1 w (ix (ix (tR t).1.sT (goS (tR t).1 w).toNat).aP k1)) z) (fun z=>agg [sl 1 rE_ z.aC,sl 1 gE z.sT]) rfl (fun β0 _ _ _ _ gq gh kq=>cal (Hi:= []) (φs:= [agg [sl 1 rE_ ((tR t).1.aC),sl 2 sE ((tR t).1.sT)],sl 2 pE (pathL ((tR t).1) w (ix (ix ((tR t).1.sT) (goS (tR t).1 w).toNat).aP k1))]) ⟨(gq.1.trans rfl),(gq.2.1.trans rfl),tV⟩ (witP_ok (tR t).1 hT (pathL (tR t).1 w (ix (ix (tR t).1.sT (goS (tR t).1 w).toNat).aP k1)) hw2) T.ent71 trivial fun N i=>kq i.1 i.2) ?_
       refine stw 8 (fun β0=>cell b8 [sl 1 rE_ (decM (β0 2)).aC,sl 1 gE (decM (β0 2)).sT]) [8] J (fun β β' hb=>by first|rw[hb 2 J]|(dsimp only;rw[hb 2 J])) (fun β0 _ _ _ _ gq gh kq=>sPAW (cs':= [sl 1 rE_ (decM (β0 2)).aC,sl 1 gE (decM (β0 2)).sT]) (gq.1.trans J) (gh.1.trans J) (gq.2.1.trans J) T.agg43 J J kq) ?_
       refine stw 9 (fun β0=>cell b9 [sl 1 rE_ (decM (β0 5)).aC,sl 1 gE (decM (β0 5)).sT]) [9] J (fun β β' hb=>by first|rw[hb 5 J]|(dsimp only;rw[hb 5 J])) (fun β0 _ _ _ _ gq gh kq=>sPAW (cs':= [sl 1 rE_ (decM (β0 5)).aC,sl 1 gE (decM (β0 5)).sT]) (gq.1.trans J) (gh.1.trans J) (gq.2.1.trans J) T.agg43 J J kq) ?_
       refine stv (d:=10) (fun β0=>int 0) [] J (fun β β' hb=>J) (fun β0 _ _ _ _ gq gh kq=>ag kq) ?_
       refine pnH fun β0=>(nl (th (rt (rb (rt_ (rt_ (rb (rb (rt_ (rt_ (rb (rt_ ?_))))))))))))
       refine whXA 132 rfl fun h132=>(whXA 135 rfl fun h135=> ?_)
       exact rE ⟨((decM (β0 2),decM (β0 5)),0),parts_some hpe hh hg1 hg2 hma hmb hau h132 h135⟩ [.cell 8 43,.cell 9 43,.tmp 10] J [agg [sl 1 rE_ (decM (β0 2)).aC,sl 1 gE (decM (β0 2)).sT],agg [sl 1 rE_ (decM (β0 5)).aC,sl 1 gE (decM (β0 5)).sT],int 0] ⟨.agg J J T.agg43 J J,.agg J J T.agg43 J J,.tmp J,tV⟩ J trivial eX
      ·skip
       have hau:andI (ix (ix (tR s).1.sT (goS (tR s).1 w).toNat).aP k) (ix (ix (tR t).1.sT (goS (tR t).1 w).toNat).aP k1)≠u:=of_decide_eq_false hc5
       refine sk (eb (th (rg (bi J J (b_add i6) (mv (nl ?_))))))
       have hN0:(k1+1)≤(ix ((tR t).1.sT) (goS (tR t).1 w).toNat).aP.length:=by
        first|omega|simp_all
       have hN1:∀j,j<(k1+1)→andI (ix (ix (tR s).1.sT (goS (tR s).1 w).toNat).aP k) (ix (ix (tR t).1.sT (goS (tR t).1 w).toNat).aP j)≠u:=by
        intro j hj
        by_cases e:j=k1
        ·subst e;exact hau
        ·exact hI1 j O
       exact ln (k1+1) ⟨hN0,hN1⟩ dO ⟨id,id,id,id,id,id,id,id,id,id,id,id,id,id,tV⟩ ⟨rI,rI,rI,rI,tV⟩
     ·try simp at hc4
      refine ex (xt_ (xt_ (xb (eb (th (rg (bi J J (b_add i6) (mv (nl ?_)))))))))
      have hN0:(k+1)≤(ix ((tR s).1.sT) (goS (tR s).1 w).toNat).aP.length:=by
       first|omega|simp_all
      have hN1:∀j,j<(k+1)→∀y∈acc (tR t).1 (goS (tR t).1 w).toNat,andI (ix (ix (tR s).1.sT (goS (tR s).1 w).toNat).aP j) y≠u:=by
       intro j hj y hy
       by_cases e:j=k
       ·subst e
        obtain⟨i,hi,rfl⟩:=List.getElem_of_mem hy
        have hi:i<(ix (tR t).1.sT (goS (tR t).1 w).toNat).aP.length:=hi
        have:=hI1 i O
        rwa [ix_get hi] at this
       ·exact hI0 j O y hy
      exact ln (k+1) ⟨hN0,hN1⟩ dO ⟨id,id,id,id,id,id,id,id,id,id,tV⟩ ⟨rI,rI,rI,rI,tV⟩
    ·try simp at hc3
     refine ex (xt_ (xt_ (xb (th (sq (rg (bd (css:= []) T.st43 (eC (eC eZ)) trivial (bd (css:= []) T.st43 (eC (eC eZ)) trivial (sPA (cs':= [eqv (.slice none 0 0),eqv (.slice none 0 0)]) J J J T.agg43 J J (sPA (cs':= [eqv (.slice none 0 0),eqv (.slice none 0 0)]) J J J T.agg43 J J (ag (nl (th (rt ?_))))))))))))))
     have hnb:¬Both2 s t w u:=fun⟨_,_,_,x,hx,y,hy,hxy⟩=>by
      obtain⟨i,hi,rfl⟩:=List.getElem_of_mem hx
      have hi:i<(ix (tR s).1.sT (goS (tR s).1 w).toNat).aP.length:=hi
      have:=hI0 i O y hy
      rw[ix_get hi] at this
      exact this hxy
     refine kncA 8 0 (sl 1 rE_ []) rfl rfl slnil ?_
     refine kncA 8 1 (sl 1 gE []) rfl rfl slnil ?_
     refine kncA 9 0 (sl 1 rE_ []) rfl rfl slnil ?_
     refine kncA 9 1 (sl 1 gE []) rfl rfl slnil ?_
     exact rE ⟨((noSys,noSys),3),parts_none hpe hnb⟩ [.cell 8 43,.cell 9 43,.tmp 10] J [agg [sl 1 rE_ [],sl 1 gE []],agg [sl 1 rE_ [],sl 1 gE []],int 3] ⟨.agg J J T.agg43 J J,.agg J J T.agg43 J J,.tmp J,tV⟩ J trivial eX
theorem Next_ok (m:SSys) (hm:okSys m) (l:List Int) (hl:∀x∈l,0≤x∧x<(m.sT.length:Int)) (hll:l.length≤1000000) (a:Int):
 Fn0 Tryz.prog 82 [sys m,ints l,int a] (ints (nextM m l a)):=by
 refine fnI Tryz.func82 rfl rfl (fun w0 F0=> ?_)
 have f1:=hm.few1
 refine fcC (inhS 0 J) (fun hS0=> ?_)
 obtain⟨hma0,hms0,hme0⟩:=sys_lens hS0
 refine fcC (slenI 1 J) (fun hm1=> ?_)
 refine sq (rg (bx (key:=3) (cs:= [sl 1 rE_ m.aC,sl 1 gE m.sT]) J fun b3=>(ag (nl (th (sq (rg (fP J T.fld43_1 (lP J J J T.one41 (fc (slenI 16 J) fun hm16=>(lnF J T.sl41 (mk (key:=18) (m:=m.sT.length) (enc:=blE) (y:=false) J J T.mk143 (eC eZ) (by unfold maxL at*;omega) (by unfold maxL at*;omega) fun v18=>(ag (nl (th (sq (sq (rg (mv (lnF J T.sl36 (mv (nl (th (bk ?_))))))))))))))))))))))))
 have hI0_0:0≤l.length:=by
  first|omega|simp
 have hI0_1:NyS m l a 0 0 (List.replicate m.sT.length false):=by
  exact nys_zero
 refine lp (κ:=Nat × (List Bool)) (fun p=> [(2,int a),(3,ptr 3 b3 0),(6,eqv (.slice none 0 0)),(7,osl 18 v18),(19,sl 1 nE l),(20,int (l.length:Int)),(21,int (p.1:Int))]) (fun p=> [(3,cell b3 [sl 1 rE_ m.aC,sl 1 gE m.sT]),(18,own v18 4 1 blE p.2)]) (fun p=>(p.1≤l.length)∧(NyS m l a p.1 0 p.2)) (fun p=>l.length- p.1) ⟨0,List.replicate m.sT.length false⟩ ⟨hI0_0,hI0_1⟩ ⟨id,id,id,id,id,id,id,tV⟩ ⟨rI,rI,tV⟩ ?_
 intro⟨k,inb⟩ hG0
 obtain⟨hk0,hI0⟩:(k≤l.length)∧(NyS m l a k 0 inb):=hG0
 show Ct _ _ _ _ [(2,int a),(3,ptr 3 b3 0),(6,eqv (.slice none 0 0)),(7,osl 18 v18),(19,sl 1 nE l),(20,int (l.length:Int)),(21,int (k:Int))] [(3,cell b3 [sl 1 rE_ m.aC,sl 1 gE m.sT]),(18,own v18 4 1 blE inb)] _
 have hbl:=hI0.len
 refine sq (rg (bi J J b_lss (nl (th (sq ?_)))))
 refine cd J (fun hc0=> ?_) (fun hc0=> ?_)
 ·try simp at hc0
  have hlk:=hl _ (ix_memS hc0)
  have hes:=hm.ed (ix l k).toNat O
  have hmy:=hm.many (ix l k).toNat O
  refine sk (th (sq (bk (sq (rg (iF J J T.sl36 O gB (lF J J T.one3 (ag (nl (th (sq (rg (fP J T.fld43_1 (lP J J J T.one41 (mv (iF J J T.sl41 O gB (lF J J T.one103 (fc (slenI 29 J) fun hm29=>(lnF J T.sl103 (mv (nl (th (bk ?_)))))))))))))))))))))))
  have hI1_0:0≤(ix m.sT (ix l k).toNat).length:=by
   first|omega|simp
  have hI1_1:NyS m l a k 0 inb:=by
   exact hI0
  refine lp (κ:=Nat × (List Bool)) (fun p=> [(2,int a),(3,ptr 3 b3 0),(6,eqv (.slice none 0 0)),(7,osl 18 v18),(19,sl 1 nE l),(20,int (l.length:Int)),(21,int (k:Int)),(29,sl 2 pE (ix m.sT (ix l k).toNat)),(30,int ((ix m.sT (ix l k).toNat).length:Int)),(31,int (p.1:Int))]) (fun p=> [(3,cell b3 [sl 1 rE_ m.aC,sl 1 gE m.sT]),(18,own v18 4 1 blE p.2)]) (fun p=>(p.1≤(ix m.sT (ix l k).toNat).length)∧(NyS m l a k p.1 p.2)) (fun p=>(ix m.sT (ix l k).toNat).length- p.1) ⟨0,inb⟩ ⟨hI1_0,hI1_1⟩ ⟨id,id,id,id,id,id,id,id,id,id,tV⟩ ⟨rI,rI,tV⟩ ?_
  intro⟨k1,in2⟩ hG1
  obtain⟨hk1,hI1⟩:(k1≤(ix m.sT (ix l k).toNat).length)∧(NyS m l a k k1 in2):=hG1
  show Ct _ _ _ _ [(2,int a),(3,ptr 3 b3 0),(6,eqv (.slice none 0 0)),(7,osl 18 v18),(19,sl 1 nE l),(20,int (l.length:Int)),(21,int (k:Int)),(29,sl 2 pE (ix m.sT (ix l k).toNat)),(30,int ((ix m.sT (ix l k).toNat).length:Int)),(31,int (k1:Int))] [(3,cell b3 [sl 1 rE_ m.aC,sl 1 gE m.sT]),(18,own v18 4 1 blE in2)] _
  have hbl2:=hI1.len
  refine sq (rg (bi J J b_lss (nl (th (sq ?_)))))
  refine cd J (fun hc1=> ?_) (fun hc1=> ?_)
  ·try simp at hc1
   have hek:=hes _ (ix_memS (l:=(ix m.sT (ix l k).toNat)) (i:=k1) O)
   refine sk (th (sq (bk (sq (rg (iF J J T.sl103 O gB (lFA J T.agg105 (Nat.le_of_ble_eq_true J) (al (key:=11) T.z105 (eC (eC eZ)) fun b11=>(sPA (cs':= [int ((ix (ix m.sT (ix l k).toNat) k1).1),int ((ix (ix m.sT (ix l k).toNat) k1).2)]) J J J T.agg105 J J (nl (th (sq (rg (fP J T.fld105_0 (lP J J J T.one3 (mv (bi J J b_eql (nl (th ?_)))))))))))))))))))
   refine cd J (fun hc2=> ?_) (fun hc2=> ?_)
   ·try simp at hc2
    refine rg (mv (fP J T.fld105_1 (lP J J J T.one3 (iO J J J T.sl143 O O (sO (φ:=bl true) J J J T.one4 gB J (y':=true) J (nl (eb (th (rg (bi J J (b_add i6) (mv (nl ?_))))))))))))
    have hN0:(k1+1)≤(ix m.sT (ix l k).toNat).length:=by
     first|omega|simp_all
    have hN1:NyS m l a k (k1+1) (in2.set ((ix (ix m.sT (ix l k).toNat) k1).2).toNat true):=by
     exact nys_hit hI1 hc2 hek.2.2.1 hek.2.2.2
    exact ln (⟨k1+1,in2.set ((ix (ix m.sT (ix l k).toNat) k1).2).toNat true⟩:Nat × (List Bool)) ⟨hN0,hN1⟩ dO ⟨id,id,id,id,id,id,id,id,id,id,tV⟩ ⟨rI,rI,tV⟩
   ·try simp at hc2
    refine sk (eb (th (rg (bi J J (b_add i6) (mv (nl ?_))))))
    have hN0:(k1+1)≤(ix m.sT (ix l k).toNat).length:=by
     first|omega|simp_all
    have hN1:NyS m l a k (k1+1) in2:=by
     exact nys_miss hI1 hc2
    exact ln (⟨k1+1,in2⟩:Nat × (List Bool)) ⟨hN0,hN1⟩ dO ⟨id,id,id,id,id,id,id,id,id,id,tV⟩ ⟨rI,rI,tV⟩
  ·try simp at hc1
   refine ex (xt_ (xt_ (xb (eb (th (rg (bi J J (b_add i6) (mv (nl ?_)))))))))
   have hN0:(k+1)≤l.length:=by
    first|omega|simp_all
   have hN1:NyS m l a (k+1) 0 in2:=by
    rw[show k1=(ix m.sT (ix l k).toNat).length by omega] at hI1
    exact nys_next hI1
   exact ln (⟨k+1,in2⟩:Nat × (List Bool)) ⟨hN0,hN1⟩ dO ⟨id,id,id,id,id,id,id,tV⟩ ⟨rI,rI,tV⟩
 ·try simp at hc0
  refine ex (xt_ (xt_ (xb (th (sq (rg (nw 12 3 1 nE (ag (rtg (key:=12) 12 J (nl (th (sq (sq (rg (mv (lnO J J T.sl143 (mv (nl (th (bk ?_))))))))))))))))))))
  have hI2_0:0≤inb.length:=by
   first|omega|simp
  have hI2_1:([]:List Int)=((List.range 0).filter fun(x:Nat)=>ix inb x).map fun(x:Nat)=>(x:Int):=by
   rfl
  refine lp (κ:=Nat × Value × (List Int)) (fun p=> [(6,eqv (.slice none 0 0)),(12,osl 12 p.2.1),(45,osl 18 v18),(46,int (inb.length:Int)),(47,int (p.1:Int))]) (fun p=> [(3,cell b3 [sl 1 rE_ m.aC,sl 1 gE m.sT]),(12,own p.2.1 3 1 nE p.2.2),(18,own v18 4 1 blE inb)]) (fun p=>(p.1≤inb.length)∧(p.2.2=((List.range p.1).filter fun(x:Nat)=>ix inb x).map fun(x:Nat)=>(x:Int))) (fun p=>inb.length- p.1) ⟨0,(.slice none 0 0),([]:List Int)⟩ ⟨hI2_0,hI2_1⟩ ⟨id,id,id,id,id,tV⟩ ⟨rI,rI,rI,tV⟩ ?_
  intro⟨k2,v12x,out⟩ hG2
  obtain⟨hk2,hI2⟩:(k2≤inb.length)∧(out=((List.range k2).filter fun(x:Nat)=>ix inb x).map fun(x:Nat)=>(x:Int)):=hG2
  show Ct _ _ _ _ [(6,eqv (.slice none 0 0)),(12,osl 12 v12x),(45,osl 18 v18),(46,int (inb.length:Int)),(47,int (k2:Int))] [(3,cell b3 [sl 1 rE_ m.aC,sl 1 gE m.sT]),(12,own v12x 3 1 nE out),(18,own v18 4 1 blE inb)] _
  have hol:out.length≤k2:=by rw[hI2,List.length_map];exact Nat.le_trans (List.length_filter_le _ _) (by simp)
  refine sq (rg (bi J J b_lss (nl (th (sq ?_)))))
  refine cd J (fun hc3=> ?_) (fun hc3=> ?_)
  ·try simp at hc3
   refine sk (th (sq (bk (sq (rg (mv (iO J J J T.sl143 O O (lO J J gB J T.one4 (ag (ag (nl (th (sq (rg (mv (nl (th ?_)))))))))))))))))
   refine cd J (fun hc4=> ?_) (fun hc4=> ?_)
   ·try simp at hc4
    refine rg (mv (mv (bsE (enc:=nE) (xs:= [(k2:Int)]) (css:= [[int (k2:Int)]]) T.mk36 ⟨J,J,p1 (φ:=int (k2:Int)) J,tV⟩ J J J J (ap (key:=12) (zs:= [(k2:Int)]) osl_eq J J J T.mk36 (by unfold maxL at*;simp;omega) (by unfold maxL at*;simp;omega) fun v56=>(ag (nl (eb (th (rg (bi J J (b_add i6) (mv (nl ?_))))))))))))
    have hN0:(k2+1)≤inb.length:=by
     first|omega|simp_all
    have hN1:(out++ [(k2:Int)])=((List.range (k2+1)).filter fun(x:Nat)=>ix inb x).map fun(x:Nat)=>(x:Int):=by
     rw[List.range_succ,List.filter_append,List.map_append,←hI2]
     simp[hc4]
    exact ln (⟨k2+1,v56,out++ [(k2:Int)]⟩:Nat × Value × (List Int)) ⟨hN0,hN1⟩ dO ⟨id,id,id,id,id,tV⟩ ⟨rI,rI,rI,tV⟩
   ·try simp at hc4
    refine sk (eb (th (rg (bi J J (b_add i6) (mv (nl ?_))))))
    have hN0:(k2+1)≤inb.length:=by
     first|omega|simp_all
    have hN1:out=((List.range (k2+1)).filter fun(x:Nat)=>ix inb x).map fun(x:Nat)=>(x:Int):=by
     rw[List.range_succ,List.filter_append,List.map_append,←hI2]
     simp[hc4]
    exact ln (⟨k2+1,v12x,out⟩:Nat × Value × (List Int)) ⟨hN0,hN1⟩ dO ⟨id,id,id,id,id,tV⟩ ⟨rI,rI,rI,tV⟩
  ·try simp at hc3
   refine ex (xt_ (xt_ (xb (th (sq (rg (mv (ag (nl (th (rt ?_)))))))))))
   refine fzA 12 6 rfl rfl ?_
   have hr0:out=(nextM m l a):=by
    rw[show k=l.length by omega] at hI0
    rw[hI2,show k2=m.sT.length by have:=hI0.len;omega]
    exact nys_done hI0
   exact rE () [.tmp 6] J [sl 1 nE out] ⟨.tmp J,tV⟩ (cA1 (fun x0=>rV [sl 1 nE x0]) hr0) trivial eX
theorem After_ok (m:SSys) (hm:okSys m) (w:List Int):
 Fn0 Tryz.prog 73 [sys m,ints w] (ints (afterM m w)):=by
 refine fnI Tryz.func73 rfl rfl (fun w0 F0=> ?_)
 have f0:=hm.few0;have f1:=hm.few1
 refine fcC (inhS 0 J) (fun hS0=> ?_)
 obtain⟨hma0,hms0,hme0⟩:=sys_lens hS0
 refine fcC (slenI 1 J) (fun hm1=> ?_)
 refine sq (rg (bx (key:=2) (cs:= [sl 1 rE_ m.aC,sl 1 gE m.sT]) J fun b2=>(ag (nl (th (sq (rg (bsE (enc:=nE) (xs:= [0]) (css:= [[int 0]]) T.mk36 ⟨J,J,p1 (φ:=int 0) J,tV⟩ J J J J (ag (nl (th (sq (sq (rg (mv (lnF J T.sl36 (mv (nl (th (bk ?_))))))))))))))))))))
 have hI0_0:0≤w.length:=by
  first|omega|simp
 have hI0_1:([0]:List Int)=afterM m (w.take 0):=by
  rfl
 refine lp (κ:=Nat × (List Int)) (fun p=> [(2,ptr 2 b2 0),(4,eqv (.slice none 0 0)),(5,sl 1 nE p.2),(9,sl 1 nE w),(10,int (w.length:Int)),(11,int (p.1:Int))]) (fun p=> [(2,cell b2 [sl 1 rE_ m.aC,sl 1 gE m.sT])]) (fun p=>(p.1≤w.length)∧(p.2=afterM m (w.take p.1))) (fun p=>w.length- p.1) ⟨0,([0]:List Int)⟩ ⟨hI0_0,hI0_1⟩ ⟨id,id,id,id,id,id,tV⟩ ⟨rI,tV⟩ ?_
 intro⟨k,l⟩ hG0
 obtain⟨hk0,hI0⟩:(k≤w.length)∧(l=afterM m (w.take k)):=hG0
 show Ct _ _ _ _ [(2,ptr 2 b2 0),(4,eqv (.slice none 0 0)),(5,sl 1 nE l),(9,sl 1 nE w),(10,int (w.length:Int)),(11,int (k:Int))] [(2,cell b2 [sl 1 rE_ m.aC,sl 1 gE m.sT])] _
 refine sq (rg (bi J J b_lss (nl (th (sq ?_)))))
 refine cd J (fun hc0=> ?_) (fun hc0=> ?_)
 ·try simp at hc0
  have hlb:∀x∈l,0≤x∧x<(m.sT.length:Int):=fun x hx=>by rw[hI0] at hx;exact after_bd O _ x hx
  have hll:l.length≤m.sT.length:=by rw[hI0];exact after_len O _
  refine sk (th (sq (bk (sq (rg (iF J J T.sl36 O gB (lF J J T.one3 (ag (nl (th (rg (lPA J J T.agg43 J (mv (mv (cal0 (φs:= [agg [sl 1 rE_ m.aC,sl 1 gE m.sT],sl 1 nE l,int (ix w k)]) (φ:=sl 1 nE (nextM m l (ix w k))) ⟨J,J,J,tV⟩ (prodp.Next_ok m aS l aS O (ix w k)) T.ent82 (ag (nl (eb (th (rg (bi J J (b_add i6) (mv (nl ?_)))))))))))))))))))))))
  have hN0:(k+1)≤w.length:=by
   first|omega|simp_all
  have hN1:(nextM m l (ix w k))=afterM m (w.take (k+1)):=by
   rw[after_take hc0,←hI0]
  exact ln (⟨k+1,nextM m l (ix w k)⟩:Nat × (List Int)) ⟨hN0,hN1⟩ dO ⟨id,id,id,id,id,id,tV⟩ ⟨rI,tV⟩
 ·try simp at hc0
  refine ex (xt_ (xt_ (xb (th (sq (rg (mv (ag (nl (th (rt ?_)))))))))))
  have hr0:l=(afterM m w):=by
   rw[hI0,show k=w.length by omega,List.take_length]
  exact rE () [.tmp 4] J [sl 1 nE l] ⟨.tmp J,tV⟩ (cA1 (fun x0=>rV [sl 1 nE x0]) hr0) trivial eX
theorem Shows_ok (m n:SSys) (hm:okSys m) (hn:okSys n) (w:List Int) (u:Int):
 Fn0 Tryz.prog 25 [sys m,sys n,ints w,int u] (bl (showB m n w u)):=by
 refine fnI Tryz.func25 rfl rfl (fun w0 F0=> ?_)
 have f0:=hm.few0;have f1:=hm.few1;have g0:=hn.few0;have g1:=hn.few1
 have hla:=after_len (m:=m) O w
 have hlb:=after_len (m:=n) O w
 have hba:=after_bd (m:=m) O w
 have hbb:=after_bd (m:=n) O w
 refine fcC (inhS 0 J) (fun hS0=> ?_)
 obtain⟨hma0,hms0,hme0⟩:=sys_lens hS0
 refine fcC (inhS 1 J) (fun hS1=> ?_)
 obtain⟨hma1,hms1,hme1⟩:=sys_lens hS1
 refine fcC (slenI 2 J) (fun hm2=> ?_)
 refine sq (rg (bx (key:=4) (cs:= [sl 1 rE_ m.aC,sl 1 gE m.sT]) J fun b4=>(bx (key:=5) (cs:= [sl 1 rE_ n.aC,sl 1 gE n.sT]) J fun b5=>(ag (nl (th (sq (sq (rg (lPA J J T.agg43 J (mv (cal0 (φs:= [agg [sl 1 rE_ m.aC,sl 1 gE m.sT],sl 1 nE w]) (φ:=sl 1 nE (afterM m w)) ⟨J,J,tV⟩ (prodp.After_ok m aS w) T.ent73 (fc (slenI 15 J) fun hm15=>(lnF J T.sl36 (mv (nl (th (bk ?_))))))))))))))))))
 have hI0_0:0≤(afterM m w).length:=by
  first|omega|simp
 have hI0_1:∀j,j<0→∀y∈afterM n w,andI (offM m (ix (afterM m w) j).toNat) (offM n y.toNat)≠u:=by
  intro j hj;omega
 refine lp (κ:=Nat) (fun p=> [(2,sl 1 nE w),(3,int u),(4,ptr 4 b4 0),(5,ptr 5 b5 0),(15,sl 1 nE (afterM m w)),(16,int ((afterM m w).length:Int)),(17,int (p:Int))]) (fun p=> [(4,cell b4 [sl 1 rE_ m.aC,sl 1 gE m.sT]),(5,cell b5 [sl 1 rE_ n.aC,sl 1 gE n.sT])]) (fun p=>(p≤(afterM m w).length)∧(∀j,j<p→∀y∈afterM n w,andI (offM m (ix (afterM m w) j).toNat) (offM n y.toNat)≠u)) (fun p=>(afterM m w).length- p) 0 ⟨hI0_0,hI0_1⟩ ⟨id,id,id,id,id,id,id,tV⟩ ⟨rI,rI,tV⟩ ?_
 intro k hG0
 obtain⟨hk0,hI0⟩:(k≤(afterM m w).length)∧(∀j,j<k→∀y∈afterM n w,andI (offM m (ix (afterM m w) j).toNat) (offM n y.toNat)≠u):=hG0
 refine sq (rg (bi J J b_lss (nl (th (sq ?_)))))
 refine cd J (fun hc0=> ?_) (fun hc0=> ?_)
 ·try simp at hc0
  have hxk:=hba _ (ix_memS (l:=afterM m w) (i:=k) O)
  have hm8:=off8 hm (x:=(ix (afterM m w) k).toNat) O
  have hob:=offM_bd hm (x:=(ix (afterM m w) k).toNat) O
  refine sk (th (sq (bk (sq (rg (iF J J T.sl36 O gB (lF J J T.one3 (ag (nl (th (sq (rg (lPA J J T.agg43 J (mv (cal0 (φs:= [agg [sl 1 rE_ n.aC,sl 1 gE n.sT],sl 1 nE w]) (φ:=sl 1 nE (afterM n w)) ⟨J,J,tV⟩ (prodp.After_ok n aS w) T.ent73 (fc (slenI 23 J) fun hm23=>(lnF J T.sl36 (mv (nl (th (bk ?_)))))))))))))))))))))
  have hI1_0:0≤(afterM n w).length:=by
   first|omega|simp
  have hI1_1:∀j,j<0→andI (offM m (ix (afterM m w) k).toNat) (offM n (ix (afterM n w) j).toNat)≠u:=by
   intro j hj;omega
  refine lp (κ:=Nat) (fun p=> [(2,sl 1 nE w),(3,int u),(4,ptr 4 b4 0),(5,ptr 5 b5 0),(10,int (ix (afterM m w) k)),(15,sl 1 nE (afterM m w)),(16,int ((afterM m w).length:Int)),(17,int (k:Int)),(23,sl 1 nE (afterM n w)),(24,int ((afterM n w).length:Int)),(25,int (p:Int))]) (fun p=> [(4,cell b4 [sl 1 rE_ m.aC,sl 1 gE m.sT]),(5,cell b5 [sl 1 rE_ n.aC,sl 1 gE n.sT])]) (fun p=>(p≤(afterM n w).length)∧(∀j,j<p→andI (offM m (ix (afterM m w) k).toNat) (offM n (ix (afterM n w) j).toNat)≠u)) (fun p=>(afterM n w).length- p) 0 ⟨hI1_0,hI1_1⟩ ⟨id,id,id,id,id,id,id,id,id,id,id,tV⟩ ⟨rI,rI,tV⟩ ?_
  intro k1 hG1
  obtain⟨hk1,hI1⟩:(k1≤(afterM n w).length)∧(∀j,j<k1→andI (offM m (ix (afterM m w) k).toNat) (offM n (ix (afterM n w) j).toNat)≠u):=hG1
  refine sq (rg (bi J J b_lss (nl (th (sq ?_)))))
  refine cd J (fun hc1=> ?_) (fun hc1=> ?_)
  ·try simp at hc1
   have hyk:=hbb _ (ix_memS (l:=afterM n w) (i:=k1) O)
   have hn8:=off8 hn (x:=(ix (afterM n w) k1).toNat) O
   have hpb:=offM_bd hn (x:=(ix (afterM n w) k1).toNat) O
   refine sk (th (sq (bk (sq (rg (iF J J T.sl36 O gB (lF J J T.one3 (ag (nl (th (sq (dr (nh:=9) [0,0,3,0,0,31,63,0,255] T.mixed kR ?_))))))))))))
   refine st_ J (fun _ _ _ gq kq=>lPA (gq.1.trans J) J T.agg43 J kq) ?_
   refine st_ J (fun _ _ _ gq kq=>mv' (gq.1.trans J) kq) ?_
   refine st_ J (fun _ _ _ gq kq=>cal0 (φs:= [agg [sl 1 rE_ m.aC,sl 1 gE m.sT],int (ix (afterM m w) k)]) (φ:=int (offM m (ix (afterM m w) k).toNat)) ⟨(gq.1.trans J),(gq.2.1.trans J),tV⟩ (divs.Offer_ok m (ix (afterM m w) k) aS O O) T.ent74 kq) ?_
   refine st_ J (fun _ _ _ gq kq=>lPA (gq.1.trans J) J T.agg43 J kq) ?_
   refine st_ J (fun _ _ _ gq kq=>mv' (gq.1.trans J) kq) ?_
   refine st_ J (fun _ _ _ gq kq=>cal0 (φs:= [agg [sl 1 rE_ n.aC,sl 1 gE n.sT],int (ix (afterM n w) k1)]) (φ:=int (offM n (ix (afterM n w) k1).toNat)) ⟨(gq.1.trans J),(gq.2.1.trans J),tV⟩ (divs.Offer_ok n (ix (afterM n w) k1) aS O O) T.ent74 kq) ?_
   refine st_ J (fun _ _ _ gq kq=>bi (gq.1.trans J) (gq.2.1.trans J) (b_andI O O O O) kq) ?_
   refine st_ J (fun _ _ _ gq kq=>mv' (gq.1.trans J) kq) ?_
   refine st_ J (fun _ _ _ gq kq=>bi (gq.1.trans J) (gq.2.1.trans J) b_eql kq) ?_
   refine pn (nl (th ?_))
   refine cd J (fun hc2=> ?_) (fun hc2=> ?_)
   ·skip
    have hau:andI (offM m (ix (afterM m w) k).toNat) (offM n (ix (afterM n w) k1).toNat)=u:=of_decide_eq_true hc2
    refine sq (rg (ag (nl (th (rt (rb (rt_ (rt_ (rb (rb (rt_ (rt_ (rb (rt_ ?_))))))))))))))
    have hr0:true=(showB m n w u):=by
     unfold showB
     symm
     rw[List.any_eq_true]
     exact⟨_,ix_memS (l:=afterM m w) (i:=k) O,List.any_eq_true.2 ⟨_,ix_memS (l:=afterM n w) (i:=k1) O,decide_eq_true hau⟩⟩
    exact rE () [.tmp 8] J [bl true] ⟨.tmp J,tV⟩ (cA1 (fun x0=>rV [bl x0]) hr0) trivial eX
   ·skip
    have hau:andI (offM m (ix (afterM m w) k).toNat) (offM n (ix (afterM n w) k1).toNat)≠u:=of_decide_eq_false hc2
    refine sk (eb (th (rg (bi J J (b_add i6) (mv (nl ?_))))))
    have hN0:(k1+1)≤(afterM n w).length:=by
     first|omega|simp_all
    have hN1:∀j,j<(k1+1)→andI (offM m (ix (afterM m w) k).toNat) (offM n (ix (afterM n w) j).toNat)≠u:=by
     intro j hj
     by_cases e:j=k1
     ·subst e;exact hau
     ·exact hI1 j O
    exact ln (k1+1) ⟨hN0,hN1⟩ dO ⟨id,id,id,id,id,id,id,id,id,id,id,tV⟩ ⟨rI,rI,tV⟩
  ·try simp at hc1
   refine ex (xt_ (xt_ (xb (eb (th (rg (bi J J (b_add i6) (mv (nl ?_)))))))))
   have hN0:(k+1)≤(afterM m w).length:=by
    first|omega|simp_all
   have hN1:∀j,j<(k+1)→∀y∈afterM n w,andI (offM m (ix (afterM m w) j).toNat) (offM n y.toNat)≠u:=by
    intro j hj y hy
    by_cases e:j=k
    ·subst e
     obtain⟨i,hi,rfl⟩:=List.getElem_of_mem hy
     have:=hI1 i O
     rwa [ix_get hi] at this
    ·exact hI0 j O y hy
   exact ln (k+1) ⟨hN0,hN1⟩ dO ⟨id,id,id,id,id,id,id,tV⟩ ⟨rI,rI,tV⟩
 ·try simp at hc0
  refine ex (xt_ (xt_ (xb (th (sq (rg (ag (nl (th (rt ?_))))))))))
  have hr0:false=(showB m n w u):=by
   unfold showB
   symm
   rw[List.any_eq_false]
   intro x hx g
   obtain⟨y,hy,g⟩:=List.any_eq_true.1 g
   obtain⟨i,hi,rfl⟩:=List.getElem_of_mem hx
   have:=hI0 i O y hy
   rw[ix_get hi] at this
   exact this (of_decide_eq_true g)
  exact rE () [.tmp 8] J [bl false] ⟨.tmp J,tV⟩ (cA1 (fun x0=>rV [bl x0]) hr0) trivial eX
end prodp
end
section
namespace ForkM
open ref01 ref03 ref04 ref06 prog15 starts Part Rungs LeftM TrimM RoundM MergeM BisM BisM4 BisM5 BisM6 WalkM StepM WitM JudgM JudgM2 divr divs divd dive divg divw divv refj sysw judg ChsM BisS TrimI ValidM WitSat WitVal FailM FitM QuoM DivM RefM GenW CompM CompP EncM prodc prodm prodp
theorem parts_yes {s t:SS} {w:List Int} {u:Int} {z:(SSys × SSys) × Int} (hs:specOK s=true) (ht:specOK t=true) (hst:s.aC=t.aC) (hw:wordOK (s.aC.length:Int) w=true) (hp:partE s t w u=0) (hB:Both2 s t w u) (h:PartsOK s t w u z):
 z.2=0∧madeB z.1.1 s=true∧madeB z.1.2 t=true∧showB z.1.1 z.1.2 w u=true:=by
 obtain⟨h0,a,b,ha,hb,hab,hm,hn⟩:=h.some hp hB
 obtain⟨n1,n2⟩:=not_hol2 hB.1
 have hwl:=word_len hw
 have ls:s.sT.length≤500:=by unfold specOK at hs;simp only [Bool.and_eq_true,decide_eq_true_eq] at hs;exact hs.1.2
 have lt:t.sT.length≤500:=by unfold specOK at ht;simp only [Bool.and_eq_true,decide_eq_true_eq] at ht;exact ht.1.2
 obtain⟨g1,x,hx,ex⟩:=path_made (okSpec_of hs) ls n1 (fun k hk=>word_ix hw hk) O hB.2.1 ha hm
 obtain⟨g2,y,hy,ey⟩:=path_made (okSpec_of ht) lt n2 (fun k hk=>by rw[←hst];exact word_ix hw hk) O hB.2.2.1 hb hn
 refine⟨h0,g1,g2,?_⟩
 unfold showB
 exact List.any_eq_true.2 ⟨x,hx,List.any_eq_true.2 ⟨y,hy,decide_eq_true (by rw[ex,ey];exact hab)⟩⟩
theorem made_ok {m:SSys} {s:SS} (h:madeB m s=true):okSys m:=by
 unfold madeB at h
 rw[Bool.and_eq_true,Bool.and_eq_true] at h
 exact sysOK_ok h.1.1
def forkS:SS:=⟨[⟨#[97]⟩,⟨#[98]⟩],[⟨[1,2],[0,0]⟩]⟩
def wantS:SS:=⟨[⟨#[97]⟩,⟨#[98]⟩],[⟨[0,1,2],[0,0]⟩]⟩
theorem fork_valid:specOK forkS=true:=by decide+kernel
theorem want_valid:specOK wantS=true:=by decide+kernel
theorem fork_okS:oK forkS:=okSpec_of fork_valid
theorem want_okS:oK wantS:=okSpec_of want_valid
theorem fork_fine:fineE forkS forkS=0:=by
 unfold fineE
 rw[if_pos ⟨fork_valid,fork_valid⟩,if_pos rfl]
theorem fork_not:ix (hOl forkS) 0=false:=CompP.not_hol (by decide) (by decide)
theorem fork_hol:¬hol2 forkS forkS:=by
 unfold hol2
 rw[fork_not];simp
theorem fork_trim:(tR forkS).1=forkS:=by
 have hs:=fork_okS
 have hn:=fork_not
 have ho:ordS forkS= [0]:=by
  have h1:(ordS forkS).length≤1:=ord_le hs
  have h2:=ordS_pos forkS
  have h3:=BisM2.ord_zero forkS
  match hq:ordS forkS,h1,h2,h3 with
  | [y],_,_,h3=>rw[show y=0 from h3]
 have hk:keep forkS 0= [1,2]:=keep_all hs (by decide) (by decide)
 rw[trimmed_not hn]
 show(⟨forkS.aC,(ordS forkS).map (tstate forkS)⟩:SS)=forkS
 rw[ho]
 show(⟨forkS.aC,[tstate forkS 0]⟩:SS)=forkS
 unfold tstate tnext
 rw[show(0:Int).toNat=0 from rfl,hk,ho]
 decide
theorem fork_A:cA forkS forkS (0,0)= [0,1,2]:=by decide
theorem fork_ref:RefC forkS forkS wantS:=by
 refine⟨rfl,fun h=>absurd h fork_hol,fun _=>⟨[(0,0)],?_,by decide⟩⟩
 rw[fork_trim]
 refine⟨⟨rfl,by decide,by decide,rfl,fun i hi=> ?_,fun i hi=> ?_,fun i hi a ha=> ?_,fun i hi a ha hh=> ?_⟩,fun p hp=> ?_,rfl⟩
 ·obtain rfl:i=0:=by have hi:i<1:=hi;omega
  show _=cA forkS forkS (0,0)
  rw[fork_A];rfl
 ·obtain rfl:i=0:=by have hi:i<1:=hi;omega
  rfl
 ·obtain rfl:i=0:=by have hi:i<1:=hi;omega
  have hA:cA forkS forkS (ix [((0,0):PP)] 0)= [0,1,2]:=fork_A
  rw[hA]
  have ha:a<2:=ha
  match a,ha with
  |0,_=>decide
  |1,_=>decide
 ·obtain rfl:i=0:=by have hi:i<1:=hi;omega
  have ha:a<2:=ha
  match a,ha with
  |0,_=>decide
  |1,_=>decide
 ·rw[List.mem_singleton.1 hp];exact c_zero fork_okS fork_okS
theorem fork_com:(comS forkS forkS).2=true:=by
 cases e:(comS forkS forkS).2 with
 |true=>rfl
 |false=>
  have:=com_large fork_okS fork_okS e
  exact absurd this (by decide)
theorem fork_cmp:(cmpS forkS forkS).2=0∧fineR (cmpS forkS forkS).1 wantS=true:=by
 have hS:=com_same fork_okS fork_okS fork_ref (by decide) fork_com
 have e:cmpS forkS forkS=((comS forkS forkS).1,0):=by unfold cmpS;rw[if_pos fork_fine,if_pos fork_com]
 rw[e]
 exact⟨rfl,fine_same hS⟩
theorem fork_word:wordOK (forkS.aC.length:Int) [0,1]=true:=by decide
theorem fork_part:partE forkS forkS [0,1] 0=0:=by
 unfold partE
 rw[if_pos fork_fine,if_pos ⟨fork_word,by decide⟩]
theorem fork_both:Both2 forkS forkS [0,1] 0:=by
 refine⟨fork_hol,?_⟩
 rw[fork_trim]
 exact⟨by decide,by decide,1,by decide,2,by decide,by decide⟩
theorem fork_parts {z:(SSys × SSys) × Int} (h:PartsOK forkS forkS [0,1] 0 z):z.2=0∧madeB z.1.1 forkS=true∧madeB z.1.2 forkS=true∧showB z.1.1 z.1.2 [0,1] 0=true:=
 parts_yes fork_valid fork_valid rfl fork_word fork_part fork_both h
end ForkM
end
section
open ref01 ref03 ref04 ref06 prog prog2 prog3 prog4 prog5 prog6 prog7 prog8 prog9 prog13 prog15 starts Part Rungs LeftM TrimM Itoa Keys RoundM MergeM BisM BisM4 BisM5 WalkM StepM WitM JudgM JudgM2 refw judg wit refj sysw divr divs divd dive divg divw divv LevM LevM2 ChsM TrimI QuoM FailM DivM RefM GenW CompM CrossM CompP EncM prodc divp prodm prodp ForkM
def lightP (s:SS):Bool:=decide ((s.sT.length:Int)≤30)&&few s 600
theorem few_leC {s:SS} {k:Int} (h:few s k=true):(size s:Int)≤k:=by unfold few at h;simpa using h
namespace T
theorem ent18:Ent Tryz.prog 18:=ent_of kR
theorem ent53:Ent Tryz.prog 53:=ent_of kR
theorem ent15:Ent Tryz.prog 15:=ent_of kR
theorem ent22:Ent Tryz.prog 22:=ent_of kR
theorem ent24:Ent Tryz.prog 24:=ent_of kR
theorem ent25:Ent Tryz.prog 25:=ent_of kR
end T
namespace prodk
theorem light8_ok (s:SS):
 Fn0 Tryz.prog 11 [spec s] (bl (lightP s)):=by
 refine fnI Tryz.func11 rfl rfl (fun w0 F0=> ?_)
 refine fcC (inhS 0 J) (fun hS0=> ?_)
 obtain⟨hsa0,hss0,hse0⟩:=sLn hS0
 refine sq (rg (bx (key:=1) (cs:= [sl 1 rE_ s.aC,sl 2 sE s.sT]) J fun b1=>(ag (nl (th (sq (rg (fP J T.fld25_1 (lP J J J T.one23 (fc (slenI 4 J) fun hm4=>(lnF J T.sl23 (bi J J b_leq (mv ?_)))))))))))))
 apply gAnd (t:=7) (pd:=10) rfl
 rotate_left
 ·intro hg0 fin
  have hg0':=hg0
  try simp at hg0'
  exact gy J J J hg0 (lPA J J T.agg25 J (gy J J J hg0 (cal0 (φs:= [agg [sl 1 rE_ s.aC,sl 2 sE s.sT],int 600]) (φ:=bl (few s 600)) ⟨J,J,tV⟩ (ref03.Few_ok s _ O) T.ent18 (pkT J hg0 J (drp (X:= [(9,_),(8,_)]) ⟨J,J,tV⟩ fin)))))
 ·intro hg0 fin
  exact gn J J J hg0 J J (gn J J J hg0 J J (pkF J hg0 J (drp (X:= [(9,_),(8,_)]) ⟨J,J,tV⟩ fin)))
 refine ag (nl (th (rt ?_)))
 have hr0:((decide ((s.sT.length:Int)≤30))&&(few s 600))=(lightP s):=by
  rfl
 exact rE () [.tmp 2] J [bl ((decide ((s.sT.length:Int)≤30))&&(few s 600))] ⟨.tmp J,tV⟩ (cA1 (fun x0=>rV [bl x0]) hr0) trivial eX
theorem fork_ok:
 Fn0 Tryz.prog 53 [] (spec forkS):=by
 refine fnI Tryz.func53 rfl rfl (fun w0 F0=> ?_)
 refine sq (rg (al (key:=0) T.z25 (eC (eC eZ)) fun b0=>(nl (th (sq (rg (bsE (enc:=rE_) (xs:= [({ data:= #[97] }),({ data:= #[98] })]) (css:= [[str ({ data:= #[97] })],[str ({ data:= #[98] })]]) T.mk22 ⟨J,J,p1 (φ:=str ({ data:= #[97] })) J,⟨J,J,p1 (φ:=str ({ data:= #[98] })) J,tV⟩⟩ J J J J (bsE (enc:=nE) (xs:= [1,2]) (css:= [[int 1],[int 2]]) T.mk36 ⟨J,J,p1 (φ:=int 1) J,⟨J,J,p1 (φ:=int 2) J,tV⟩⟩ J J J J (bsE (enc:=nE) (xs:= [0,0]) (css:= [[int 0],[int 0]]) T.mk36 ⟨J,J,p1 (φ:=int 0) J,⟨J,J,p1 (φ:=int 0) J,tV⟩⟩ J J J J (bd (css:= [(0,_),(1,_)]) T.st81 (eC (eC eZ)) ⟨J,J,p1 (φ:=sl 1 nE [1,2]) J,⟨J,J,p1 (φ:=sl 1 nE [0,0]) J,tV⟩⟩ (bsE (enc:=sE) (xs:= [(⟨[1,2],[0,0]⟩)]) (css:= [[sl 1 nE [1,2],sl 1 nE [0,0]]]) T.mk23 ⟨J,J,pA (cs:= [sl 1 nE [1,2],sl 1 nE [0,0]]) J,tV⟩ J J J J (bd (css:= [(0,_),(1,_)]) T.st25 (eC (eC eZ)) ⟨J,J,p1 (φ:=sl 1 rE_ [({ data:= #[97] }),({ data:= #[98] })]) J,⟨J,J,p1 (φ:=sl 2 sE [(⟨[1,2],[0,0]⟩)]) J,tV⟩⟩ (sPA (cs':= [sl 1 rE_ [({ data:= #[97] }),({ data:= #[98] })],sl 2 sE [(⟨[1,2],[0,0]⟩)]]) J J J T.agg25 J J (nl (th (rt ?_))))))))))))))))
 have hr0: [({ data:= #[97] }),({ data:= #[98] })]=forkS.aC:=by
  first|rfl|simp_all|omega
 have hr1: [(⟨[1,2],[0,0]⟩)]=forkS.sT:=by
  first|rfl|simp_all|omega
 exact rE () [.cell 0 25] J [agg [sl 1 rE_ [({ data:= #[97] }),({ data:= #[98] })],sl 2 sE [(⟨[1,2],[0,0]⟩)]]] ⟨.agg J J T.agg25 J J,tV⟩ (cA2 (fun x0 x1=>rV [agg [sl 1 rE_ x0,sl 2 sE x1]]) hr0 hr1) trivial eX
theorem awake_ok:
 AL.Fn Tryz.prog 12 [] [(998,ambH tab)] (ι:=Unit) (fun _ _=>bl true) (fun _=> []):=by
 refine fnI Tryz.func12 rfl rfl (fun w0 F0=> ?_)
 have hfk:smallSpec forkS:=fork_okS.small;have hfo:=fork_okS;have hwo:=want_okS
 refine tbH 9999 998 rfl ?_
 refine sq (rg (ag (nl (th (sq (rg (cal0 (φs:= []) (φ:=agg [sl 1 rE_ forkS.aC,sl 2 sE forkS.sT]) trivial prodk.fork_ok T.ent53 (cal0 (φs:= []) (φ:=agg [sl 1 rE_ forkS.aC,sl 2 sE forkS.sT]) trivial prodk.fork_ok T.ent53 (tbU (ψ:=tab) 8 9999 J J (cal0 (φs:= [both (agg [sl 1 rE_ forkS.aC,sl 2 sE forkS.sT]) tab,agg [sl 1 rE_ forkS.aC,sl 2 sE forkS.sT]]) (φ:=tup [agg [sl 1 rE_ ((cmpS forkS forkS).1).aC,sl 2 sE ((cmpS forkS forkS).1).sT],int ((cmpS forkS forkS).2)]) ⟨J,J,tV⟩ (prodc.Compose_ok forkS forkS aS aS) T.ent15 (mv (xt J J (xt J J (al (key:=1) T.z25 (eC (eC eZ)) fun b1=>(sPA (cs':= [sl 1 rE_ ((cmpS forkS forkS).1).aC,sl 2 sE ((cmpS forkS forkS).1).sT]) J J J T.agg25 J J (ag (nl (th (sq (rg (bsE (enc:=rE_) (xs:= [({ data:= #[97] }),({ data:= #[98] })]) (css:= [[str ({ data:= #[97] })],[str ({ data:= #[98] })]]) T.mk22 ⟨J,J,p1 (φ:=str ({ data:= #[97] })) J,⟨J,J,p1 (φ:=str ({ data:= #[98] })) J,tV⟩⟩ J J J J (bsE (enc:=nE) (xs:= [0,1,2]) (css:= [[int 0],[int 1],[int 2]]) T.mk36 ⟨J,J,p1 (φ:=int 0) J,⟨J,J,p1 (φ:=int 1) J,⟨J,J,p1 (φ:=int 2) J,tV⟩⟩⟩ J J J J (bsE (enc:=nE) (xs:= [0,0]) (css:= [[int 0],[int 0]]) T.mk36 ⟨J,J,p1 (φ:=int 0) J,⟨J,J,p1 (φ:=int 0) J,tV⟩⟩ J J J J (bd (css:= [(0,_),(1,_)]) T.st81 (eC (eC eZ)) ⟨J,J,p1 (φ:=sl 1 nE [0,1,2]) J,⟨J,J,p1 (φ:=sl 1 nE [0,0]) J,tV⟩⟩ (bsE (enc:=sE) (xs:= [(⟨[0,1,2],[0,0]⟩)]) (css:= [[sl 1 nE [0,1,2],sl 1 nE [0,0]]]) T.mk23 ⟨J,J,pA (cs:= [sl 1 nE [0,1,2],sl 1 nE [0,0]]) J,tV⟩ J J J J (bd (css:= [(0,_),(1,_)]) T.st25 (eC (eC eZ)) ⟨J,J,p1 (φ:=sl 1 rE_ [({ data:= #[97] }),({ data:= #[98] })]) J,⟨J,J,p1 (φ:=sl 2 sE [(⟨[0,1,2],[0,0]⟩)]) J,tV⟩⟩ (kn 18 (spec wantS) J (fun h=>h) (al (key:=3) T.z25 (eC (eC eZ)) fun b3=>(sPA (cs':= [sl 1 rE_ wantS.aC,sl 2 sE wantS.sT]) J J J T.agg25 J J (nl (th (sq (rg (cal0 (φs:= []) (φ:=agg [sl 1 rE_ forkS.aC,sl 2 sE forkS.sT]) trivial prodk.fork_ok T.ent53 (cal0 (φs:= []) (φ:=agg [sl 1 rE_ forkS.aC,sl 2 sE forkS.sT]) trivial prodk.fork_ok T.ent53 (bsE (enc:=nE) (xs:= [0,1]) (css:= [[int 0],[int 1]]) T.mk36 ⟨J,J,p1 (φ:=int 0) J,⟨J,J,p1 (φ:=int 1) J,tV⟩⟩ J J J J (cl (prodp.Parts_ok forkS forkS aS aS [0,1] 0) T.ent22 trivial fun N23 i23=> ?_)))))))))))))))))))))))))))))))))))))
 have hpf:=fork_parts i23.2
 have hm1:=made_ok hpf.2.1
 have hm2:=made_ok hpf.2.2.1
 refine mv (xt rfl rfl (xt rfl rfl (xt rfl rfl (al (key:=4) T.z43 (eC (eC eZ)) fun b4=>(al (key:=5) T.z43 (eC (eC eZ)) fun b5=>(sPA (cs':= [sl 1 rE_ i23.1.1.1.aC,sl 1 gE i23.1.1.1.sT]) rfl rfl rfl T.agg43 rfl rfl (sPA (cs':= [sl 1 rE_ i23.1.1.2.aC,sl 1 gE i23.1.1.2.sT]) rfl rfl rfl T.agg43 rfl rfl (ag (nl (th (sq (dr (nh:=28) [0,1,3,7,7,31,63,127,255,511,1023,2047,4095,4095,16383,32767,65535,131071,131071,524287,1048575,2097151,4194303,4194303,4194303,33554431,67108863,134217727] T.mixed kR ?_))))))))))))
 refine st_ J (fun _ _ _ gq kq=>mv' (gq.1.trans J) kq) ?_
 refine st_ J (fun _ _ _ gq kq=>bi (gq.1.trans J) J b_eql kq) ?_
 refine st_ J (fun _ _ _ gq kq=>mv' (gq.1.trans J) kq) ?_
 refine sg_ (φ:=agg [sl 1 rE_ ((cmpS forkS forkS).1).aC,sl 2 sE ((cmpS forkS forkS).1).sT]) J J J J (List.mem_of_elem_eq_true J) (fun hgd=> ?_) ?_
 ·have hgd':=hgd
  try simp at hgd'
  exact fun _ _ _ gq kq=>lPA (gq.1.trans J) J T.agg25 J kq
 refine sg_ (φ:=agg [sl 1 rE_ wantS.aC,sl 2 sE wantS.sT]) J J J J (List.mem_of_elem_eq_true J) (fun hgd=> ?_) ?_
 ·have hgd':=hgd
  try simp at hgd'
  exact fun _ _ _ gq kq=>lPA (gq.1.trans J) J T.agg25 J kq
 refine sg_ (φ:=bl (fineR ((cmpS forkS forkS).1) wantS)) J J J J (List.mem_of_elem_eq_true J) (fun hgd=> ?_) ?_
 ·have hgd':=hgd
  try simp at hgd'
  exact fun _ _ _ gq kq=>cal0 (φs:= [agg [sl 1 rE_ ((cmpS forkS forkS).1).aC,sl 2 sE ((cmpS forkS forkS).1).sT],agg [sl 1 rE_ wantS.aC,sl 2 sE wantS.sT]]) (φ:=bl (fineR ((cmpS forkS forkS).1) wantS)) ⟨(gq.1.trans (gif_t hgd)),(gq.2.1.trans (gif_t hgd)),tV⟩ (dive.Fine_ok ((cmpS forkS forkS).1) wantS aS) T.ent54 kq
 refine st_ J (fun _ _ _ gq kq=>pk (gq.1.trans J) (pk_and (x:= .tmp 29) (gq.1.trans J) (gq.2.1.trans J) J) kq) ?_
 refine st_ J (fun _ _ _ gq kq=>mv' (gq.1.trans J) kq) ?_
 refine sg_ (φ:=int i23.1.2) J J J J (List.mem_of_elem_eq_true J) (fun hgd=> ?_) ?_
 ·have hgd':=hgd
  try simp at hgd'
  exact fun _ _ _ gq kq=>mv' (gq.1.trans J) kq
 refine sg_ (φ:=bl (decide (i23.1.2=0))) J J J J (List.mem_of_elem_eq_true J) (fun hgd=> ?_) ?_
 ·have hgd':=hgd
  try simp at hgd'
  exact fun _ _ _ gq kq=>bi (gq.1.trans (gif_t hgd)) J b_eql kq
 refine st_ J (fun _ _ _ gq kq=>pk (gq.1.trans J) (pk_and (x:= .tmp 34) (gq.1.trans J) (gq.2.1.trans J) J) kq) ?_
 refine st_ J (fun _ _ _ gq kq=>mv' (gq.1.trans J) kq) ?_
 refine sg_ (φ:=agg [sl 1 rE_ i23.1.1.1.aC,sl 1 gE i23.1.1.1.sT]) J J J J (List.mem_of_elem_eq_true J) (fun hgd=> ?_) ?_
 ·have hgd':=hgd
  try simp at hgd'
  exact fun _ _ _ gq kq=>lPA (gq.1.trans J) J T.agg43 J kq
 refine sg_ (φ:=agg [sl 1 rE_ forkS.aC,sl 2 sE forkS.sT]) J J J J (List.mem_of_elem_eq_true J) (fun hgd=> ?_) ?_
 ·have hgd':=hgd
  try simp at hgd'
  exact fun _ _ _ gq kq=>cal0 (φs:= []) (φ:=agg [sl 1 rE_ forkS.aC,sl 2 sE forkS.sT]) trivial prodk.fork_ok T.ent53 kq
 refine sg_ (φ:=bl (madeB i23.1.1.1 forkS)) J J J J (List.mem_of_elem_eq_true J) (fun hgd=> ?_) ?_
 ·have hgd':=hgd
  try simp at hgd'
  exact fun _ _ _ gq kq=>cal0 (φs:= [agg [sl 1 rE_ i23.1.1.1.aC,sl 1 gE i23.1.1.1.sT],agg [sl 1 rE_ forkS.aC,sl 2 sE forkS.sT]]) (φ:=bl (madeB i23.1.1.1 forkS)) ⟨(gq.1.trans (gif_t hgd)),(gq.2.1.trans (gif_t hgd)),tV⟩ (divg.Made_ok i23.1.1.1 forkS aS) T.ent24 kq
 refine st_ J (fun _ _ _ gq kq=>pk (gq.1.trans J) (pk_and (x:= .tmp 38) (gq.1.trans J) (gq.2.1.trans J) J) kq) ?_
 refine st_ J (fun _ _ _ gq kq=>mv' (gq.1.trans J) kq) ?_
 refine sg_ (φ:=agg [sl 1 rE_ i23.1.1.2.aC,sl 1 gE i23.1.1.2.sT]) J J J J (List.mem_of_elem_eq_true J) (fun hgd=> ?_) ?_
 ·have hgd':=hgd
  try simp at hgd'
  exact fun _ _ _ gq kq=>lPA (gq.1.trans J) J T.agg43 J kq
 refine sg_ (φ:=agg [sl 1 rE_ forkS.aC,sl 2 sE forkS.sT]) J J J J (List.mem_of_elem_eq_true J) (fun hgd=> ?_) ?_
 ·have hgd':=hgd
  try simp at hgd'
  exact fun _ _ _ gq kq=>cal0 (φs:= []) (φ:=agg [sl 1 rE_ forkS.aC,sl 2 sE forkS.sT]) trivial prodk.fork_ok T.ent53 kq
 refine sg_ (φ:=bl (madeB i23.1.1.2 forkS)) J J J J (List.mem_of_elem_eq_true J) (fun hgd=> ?_) ?_
 ·have hgd':=hgd
  try simp at hgd'
  exact fun _ _ _ gq kq=>cal0 (φs:= [agg [sl 1 rE_ i23.1.1.2.aC,sl 1 gE i23.1.1.2.sT],agg [sl 1 rE_ forkS.aC,sl 2 sE forkS.sT]]) (φ:=bl (madeB i23.1.1.2 forkS)) ⟨(gq.1.trans (gif_t hgd)),(gq.2.1.trans (gif_t hgd)),tV⟩ (divg.Made_ok i23.1.1.2 forkS aS) T.ent24 kq
 refine st_ J (fun _ _ _ gq kq=>pk (gq.1.trans J) (pk_and (x:= .tmp 43) (gq.1.trans J) (gq.2.1.trans J) J) kq) ?_
 refine st_ J (fun _ _ _ gq kq=>mv' (gq.1.trans J) kq) ?_
 refine sg_ (φ:=agg [sl 1 rE_ i23.1.1.1.aC,sl 1 gE i23.1.1.1.sT]) J J J J (List.mem_of_elem_eq_true J) (fun hgd=> ?_) ?_
 ·have hgd':=hgd
  try simp at hgd'
  exact fun _ _ _ gq kq=>lPA (gq.1.trans J) J T.agg43 J kq
 refine sg_ (φ:=agg [sl 1 rE_ i23.1.1.2.aC,sl 1 gE i23.1.1.2.sT]) J J J J (List.mem_of_elem_eq_true J) (fun hgd=> ?_) ?_
 ·have hgd':=hgd
  try simp at hgd'
  exact fun _ _ _ gq kq=>lPA (gq.1.trans J) J T.agg43 J kq
 refine sg_ (φ:=sl 1 nE [0,1]) J J J J (List.mem_of_elem_eq_true J) (fun hgd=> ?_) ?_
 ·have hgd':=hgd
  try simp at hgd'
  exact fun _ _ _ gq kq=>bsE (enc:=nE) (xs:= [0,1]) (css:= [[int 0],[int 1]]) T.mk36 ⟨J,J,p1 (φ:=int 0) J,⟨J,J,p1 (φ:=int 1) J,tV⟩⟩ J J J J kq
 refine sg_ (φ:=bl (showB i23.1.1.1 i23.1.1.2 [0,1] 0)) J J J J (List.mem_of_elem_eq_true J) (fun hgd=> ?_) ?_
 ·have hgd':=hgd
  try simp at hgd'
  exact fun _ _ _ gq kq=>cal0 (φs:= [agg [sl 1 rE_ i23.1.1.1.aC,sl 1 gE i23.1.1.1.sT],agg [sl 1 rE_ i23.1.1.2.aC,sl 1 gE i23.1.1.2.sT],sl 1 nE [0,1],int 0]) (φ:=bl (showB i23.1.1.1 i23.1.1.2 [0,1] 0)) ⟨(gq.1.trans (gif_t hgd)),(gq.2.1.trans (gif_t hgd)),(gq.2.2.1.trans (gif_t hgd)),J,tV⟩ (prodp.Shows_ok i23.1.1.1 i23.1.1.2 aS aS [0,1] 0) T.ent25 kq
 refine st_ J (fun _ _ _ gq kq=>pk (gq.1.trans J) (pk_and (x:= .tmp 48) (gq.1.trans J) (gq.2.1.trans J) J) kq) ?_
 refine st_ J (fun _ _ _ gq kq=>ag' (gq.1.trans J) kq) ?_
 refine pn (nl (th (rt ?_)))
 have hr0:((((((decide (((cmpS forkS forkS).2)=0))&&(fineR ((cmpS forkS forkS).1) wantS))&&(decide (i23.1.2=0)))&&(madeB i23.1.1.1 forkS))&&(madeB i23.1.1.2 forkS))&&(showB i23.1.1.1 i23.1.1.2 [0,1] 0))=true:=by
  have h1:=fork_cmp
  rw[h1.2,hpf.2.1,hpf.2.2.1,hpf.2.2.2,decide_eq_true h1.1,decide_eq_true hpf.1];rfl
 exact rE () [.tmp 0] J [bl ((((((decide (((cmpS forkS forkS).2)=0))&&(fineR ((cmpS forkS forkS).1) wantS))&&(decide (i23.1.2=0)))&&(madeB i23.1.1.1 forkS))&&(madeB i23.1.1.2 forkS))&&(showB i23.1.1.1 i23.1.1.2 [0,1] 0))] ⟨.tmp J,tV⟩ (cA1 (fun x0=>rV [bl x0]) hr0) trivial eX
end prodk
end
section
namespace SevM
open ref01 ref03 ref04 ref06 Part Rungs LeftM TrimM RoundM MergeM BisM BisM2 BisM4 BisM5 Keys WalkM WitM JudgM LevM divr divs divd dive divf divv judg ChsM BisS TrimI QuoM FailM DivM RefM GenW CompM
def fullI (n:Nat):Int:=((2^n:Nat):Int)- 1
def neutS (l:List ByteArray):SS:=⟨l,[⟨[fullI l.length],List.replicate l.length 0⟩]⟩
theorem full_nat (n:Nat):(fullI n).toNat=2^n- 1:=by
 unfold fullI
 have:1≤2^n:=Nat.one_le_two_pow
 omega
theorem full_bd {n:Nat} (h:n≤8):0≤fullI n∧fullI n<256:=by
 have h1:2^n≤2^8:=Nat.pow_le_pow_right O h
 have h2:1≤2^n:=Nat.one_le_two_pow
 unfold fullI
 omega
theorem full_has {n a:Nat}:has (fullI n) (a:Int)=true↔a<n:=by
 unfold has
 rw[full_nat,Int.toNat_natCast,Nat.testBit_two_pow_sub_one,decide_eq_true_iff]
theorem neut_at (l:List ByteArray):ix (neutS l).sT 0=⟨[fullI l.length],List.replicate l.length 0⟩:=rfl
theorem neut_or {l:List ByteArray} {a:Nat}:has (orAll [fullI l.length]) (a:Int)=true↔a<l.length:=by
 rw[orAll_has]
 constructor
 ·rintro⟨u,hu,ha⟩
  rw[List.mem_singleton.1 hu] at ha
  exact full_has.1 ha
 ·intro h;exact⟨_,List.mem_singleton.2 rfl,full_has.2 h⟩
theorem neut_ok {l:List ByteArray} (h:actionsOK l=true):oK (neutS l):=by
 have n8:=actionsOK_len h
 have hb:=full_bd n8
 refine⟨h,n8,by show 1≤1;omega,by show 1≤10000;omega,fun k hk=> ?_⟩
 have hk:k<1:=hk
 obtain rfl:k=0:=by omega
 rw[neut_at]
 refine⟨by simp[neutS],fun a ha=> ?_,fun i hi=> ?_,fun i hi a ha=> ?_,pw_rising (List.pairwise_singleton _ _)⟩
 ·have ha:a<l.length:=ha
  show-1≤ix (List.replicate l.length 0) a∧ix (List.replicate l.length 0) a<((1:Nat):Int)
  rw[rep_ix 0 ha];omega
 ·have hi:i<1:=hi
  obtain rfl:i=0:=by omega
  show 0≤fullI l.length∧fullI l.length<256
  exact hb
 ·have hi:i<1:=hi
  obtain rfl:i=0:=by omega
  have:=full_has.1 (show has (fullI l.length) (a:Int)=true from ha)
  refine⟨this,?_⟩
  show 0≤ix (List.replicate l.length 0) a
  rw[rep_ix 0 this];omega
theorem neut_not {l:List ByteArray} (h:actionsOK l=true) (hl:0<l.length∨True):ix (hOl (neutS l)) 0=false:=by
 cases e:ix (hOl (neutS l)) 0 with
 |false=>rfl
 |true=>
  have hx:(0:Nat)<(neutS l).sT.length:=by show 0<1;omega
  have hH:=(hollow_ix hx).1 e
  exfalso
  refine hH (fun _=>False) (fun x hx hc=> ?_)
  have hx:x<1:=hx
  obtain rfl:x=0:=by omega
  obtain⟨_,_,_,_,h⟩:=hc 0 (by show 0<1;omega)
  exact h
theorem neut_ord {l:List ByteArray} (h:actionsOK l=true):ordS (neutS l)= [0]:=by
 have hs:=neut_ok h
 have h1:(ordS (neutS l)).length≤1:=ord_le hs
 have h2:=ordS_pos (neutS l)
 have h3:=ord_zero (neutS l)
 match hq:ordS (neutS l),h1,h2,h3 with
 | [y],_,_,h3=>rw[show y=0 from h3]
theorem neut_trim {l:List ByteArray} (h:actionsOK l=true):(tR (neutS l)).1=neutS l:=by
 have hs:=neut_ok h
 have hn:=neut_not h (.inr trivial)
 rw[trimmed_not hn]
 show(⟨l,(ordS (neutS l)).map (tstate (neutS l))⟩:SS)=_
 rw[neut_ord h]
 have hk:keep (neutS l) 0= [fullI l.length]:=by
  rw[keep_filter hn,neut_at]
  refine List.filter_eq_self.2 fun u hu=> ?_
  rw[Bool.not_eq_true']
  cases hf:falls (⟨[fullI l.length],List.replicate l.length 0⟩:SA) u (hOl (neutS l)) with
  |false=>rfl
  |true=>
   obtain⟨a,ha,_,_,hv⟩:=falls_iff.1 hf
   have ha:a<l.length:=by simpa using ha
   rw[show ix (List.replicate l.length (0:Int)) a=0 from rep_ix 0 ha] at hv
   rw[show(0:Int).toNat=0 from rfl,hn] at hv;cases hv
 show(⟨l,[tstate (neutS l) 0]⟩:SS)=⟨l,[⟨[fullI l.length],List.replicate l.length 0⟩]⟩
 congr 2
 unfold tstate tnext
 rw[show(0:Int).toNat=0 from rfl,hk,neut_ord h]
 congr 1
 apply List.ext_getElem
 ·simp[neutS]
 ·intro a h1 h2
  have ha:a<l.length:=by simpa using h2
  rw[List.getElem_map,List.getElem_range,List.getElem_replicate,if_pos (neut_or.2 ha)]
  have e:ix (ix (neutS l).sT 0).next a=0:=rep_ix 0 ha
  rw[e];rfl
theorem neut_same {l:List ByteArray} (h:actionsOK l=true):Same (neutS l) (neutS l):=⟨neut_ok h,by show 1≤500;omega,rfl,neut_trim h,ref_refl (neut_ok h),ref_refl (neut_ok h)⟩
theorem numb_bb3 {α:Type} [DecidableEq α] [Inhabited α] {A A':α→List Int} {N N':α→Nat→α} {n:Nat} {z z':α} {l r:List α} {S D:SS} (ρ:α→α→Prop) (hA:∀{p p'},ρ p p'→A p=A' p')
 (hN:∀{p p'},ρ p p'→∀a,a<n→has (orAll (A' p')) (a:Int)=true→ρ (N p a) (N' p' a)) (h:Numb A N n z l S) (g:Numb A' N' n z' r D):BB S D (fun x y=>x<l.length∧y<r.length∧ρ (ix l x) (ix r y)):=by
 refine⟨⟨fun {x y} ⟨hx,hy,e⟩=>by rw[h.acc x hx,g.acc y hy,hA e],fun {x y} ⟨hx,hy,e⟩=>by rw[h.nl x hx,g.nl y hy],fun {x y} ⟨hx,hy,e⟩ a ha=> ?_⟩,fun {x y} ⟨hx,hy,_⟩=>⟨by rw[h.len];exact hx,by rw[g.len];exact hy⟩⟩
 rw[h.nl x hx] at ha
 rw[h.nx x hx a ha,g.nx y hy a ha,hA e]
 by_cases c:has (orAll (A' (ix r y))) (a:Int)=true
 ·rw[if_pos c,if_pos c]
  have h1:=h.cl x hx a ha (by rw[hA e];exact c)
  have h2:=g.cl y hy a ha c
  have i1:=List.idxOf_lt_length_of_mem h1
  have i2:=List.idxOf_lt_length_of_mem h2
  refine⟨O,fun _=>⟨by rw[Int.toNat_natCast];exact i1,by rw[Int.toNat_natCast];exact i2,?_⟩⟩
  rw[Int.toNat_natCast,Int.toNat_natCast,ix_get i1,ix_get i2,List.getElem_idxOf,List.getElem_idxOf]
  exact hN e a ha c
 ·rw[if_neg c,if_neg c];exact⟨Iff.rfl,fun h0=>absurd h0 (by decide)⟩
def rhoC (T T' U:SS) (p p':PP):Prop:=cOk T U p∧cOk T' U p'∧p.2=p'.2∧Sim2 T T' p.1.toNat p'.1.toNat
theorem rhoC_A {T T' U:SS} {p p':PP} (h:rhoC T T' U p p'):cA T U p=cA T' U p':=by
 unfold cA
 rw[h.2.2.1,(sim_bis T T').acc h.2.2.2]
theorem rhoC_N {T T' U:SS} (hT:oK T) (hT':oK T') (hU:oK U) {p p':PP} (h:rhoC T T' U p p') (a:Nat) (ha:has (orAll (cA T' U p')) (a:Int)=true):rhoC T T' U (cN T U p a) (cN T' U p' a):=by
 have ha2:has (orAll (cA T U p)) (a:Int)=true:=by rw[rhoC_A h];exact ha
 have g1:=cN_go hT hU h.1 ha2
 have g2:=cN_go hT' hU h.2.1 ha
 obtain⟨p1,p2,p3,p4⟩:=h.1
 have hlen:(nxt T p.1.toNat).length=T.aC.length:=(hT.st _ O).len
 obtain⟨k1,k2⟩:=(sim_bis T T').nxt h.2.2.2 a (by rw[hlen];exact g1.1)
 refine⟨g1.2,g2.2,?_,k2 g1.2.1⟩
 show ix (nxt U p.2.toNat) a=ix (nxt U p'.2.toNat) a
 rw[h.2.2.1]
theorem trims_sim {q D:SS} (hS:Same q D) (hD:oK D) (e:ix (hOl q) 0=false):Sim2 (tR q).1 (tR D).1 0 0:=by
 have eD:ix (hOl D) 0=false:=by rw[←ref_hollow hS hD];exact e
 have s4:=((sim_trim hS.ok).trans ((ref_iff hS.ok hD hS.acts).1 ⟨hS.r1,hS.r2⟩)).trans (sim_trim hD).symm
 rw[trimmed_not e,trimmed_not eD] at s4 ⊢
 have s4:Sim2 (solid (tS q)) (solid (tS D)) 0 0:=s4
 rw[solid_tS hS.ok e,solid_tS hD eD] at s4
 exact s4
theorem com_sim {q D s E:SS} (hS:Same q D) (hD:oK D) (hs:oK s) (h:RefC D s E) (hz:D.sT.length*s.sT.length≤10000) (hq:(comS q s).2=true):Same (comS q s).1 E:=by
 have hE:=refc_ok hD hs h hz
 have hh:=ref_hollow hS hD
 have hho:hol2 q s↔hol2 D s:=by unfold hol2;rw[hh]
 unfold comS at hq ⊢
 by_cases e:hol2 q s
 ·rw[if_pos e,h.hol (hho.1 e),hS.acts]
  have hno:=nothing_ok hD.acts
  exact⟨hno,by show 1≤500;omega,rfl,nothing_trim _,ref_refl hno,ref_refl hno⟩
 ·rw[if_neg e] at hq ⊢
  split at hq
  ·next g=>
   rw[if_pos g]
   obtain⟨l,h1,h2⟩:=h.num (fun k=>e (hho.2 k))
   have hT:=trim_ok hS.ok
   have hT':=trim_ok hD
   have hU:=trim_ok hs
   have hok:oK (compD (tR q).1 (tR s).1):=numc_ok hT hU (c_numc hT hU) O
   have ha:(compD (tR q).1 (tR s).1).aC=E.aC:=by rw[h1.acts,trim_acts];show(tR q).1.aC=_;rw[trim_acts,hS.acts]
   have hl:(tR D).1.aC.length=(tR q).1.aC.length:=by rw[trim_acts,trim_acts,hS.acts]
   have hN:=c_numb hT hU
   have hM:=h1.numb
   rw[hl] at hM
   have e0:ix (hOl q) 0=false:=by
     cases e0:ix (hOl q) 0 with
     |false=>rfl
     |true=>exact absurd (Or.inl e0) e
   have hbb:=numb_bb3 (rhoC (tR q).1 (tR D).1 (tR s).1) (fun h=>rhoC_A h) (fun h a _ hc=>rhoC_N hT hT' hU h a hc) hN hM
   have hr:=bb_ref hok hE ha hbb ⟨hN.ne,hM.ne,by rw[hN.hd,hM.hd];exact⟨c_zero hT hU,c_zero hT' hU,rfl,trims_sim hS hD e0⟩⟩
   have hr2:=ref_trim hok hE ha hr
   refine⟨trim_ok hok,?_,by rw[trim_acts];exact ha,trim_trim hok,hr2.1,hr2.2⟩
   have:=trim_len hok
   have e2:(compD (tR q).1 (tR s).1).sT.length=(cL (tR q).1 (tR s).1).length:=by simp[compD]
   show(tR (compD (tR q).1 (tR s).1)).1.sT.length≤500
   omega
  ·cases hq
theorem com_len {s t:SS} (hs:oK s) (ht:oK t) (hq:(comS s t).2=true):(comS s t).1.sT.length≤s.sT.length*t.sT.length:=by
 have f1:=hs.few0
 have f2:=ht.few0
 unfold comS at hq ⊢
 by_cases e:hol2 s t
 ·rw[if_pos e]
  show 1≤_
  exact Nat.mul_pos O O
 ·rw[if_neg e] at hq ⊢
  split at hq
  ·next g=>
   rw[if_pos g]
   have hok:oK (compD (tR s).1 (tR t).1):=numc_ok (trim_ok hs) (trim_ok ht) (c_numc (trim_ok hs) (trim_ok ht)) O
   have:=trim_len hok
   have e2:(compD (tR s).1 (tR t).1).sT.length=(cL (tR s).1 (tR t).1).length:=by simp[compD]
   have h1:=c_len (trim_ok hs) (trim_ok ht)
   have h2:=trims_len hs ht
   show(tR (compD (tR s).1 (tR t).1)).1.sT.length≤_
   omega
  ·cases hq
theorem com_acts {s t:SS} (hq:(comS s t).2=true):(comS s t).1.aC=s.aC:=by
 unfold comS at hq ⊢
 by_cases e:hol2 s t
 ·rw[if_pos e];rfl
 ·rw[if_neg e] at hq ⊢
  split at hq
  ·next g=>rw[if_pos g,trim_acts];show(tR s).1.aC=_;rw[trim_acts]
  ·cases hq
theorem refc_len {s t D:SS} (hs:oK s) (ht:oK t) (h:RefC s t D):D.sT.length≤s.sT.length*t.sT.length:=by
 have f1:=hs.few0
 have f2:=ht.few0
 by_cases e:hol2 s t
 ·rw[h.hol e]
  show 1≤_
  exact Nat.mul_pos O O
 ·obtain⟨l,h1,h2⟩:=h.num e
  rw[h1.numb.len];exact h2
noncomputable def sevD (l:List ByteArray) (ls:List SS):Nat→SS
 |0=>neutS l
 |k+1=>(comS (sevD l ls k) (ix ls k)).1
def SevOK (l:List ByteArray) (ls:List SS) (k:Nat):Prop:=∀j,j<k→(comS (sevD l ls j) (ix ls j)).2=true
noncomputable instance (l:List ByteArray) (ls:List SS) (k:Nat):Decidable (SevOK l ls k):=Classical.propDecidable _
noncomputable def listE (l:List ByteArray) (ls:List SS):Int:=if ls.any (fun s=> !specOK s)=true then 30 else if (!actionsOK l||ls.any (fun s=> !decide (s.aC=l)))=true then 10 else 0
noncomputable def sevS (l:List ByteArray) (ls:List SS):SS × Int:=
 if listE l ls=0 then(if SevOK l ls ls.length then(sevD l ls ls.length,0) else(⟨[],[]⟩,2)) else(⟨[],[]⟩,listE l ls)
def prodL (ls:List SS):Nat→Nat
 |0=>1
 |k+1=>prodL ls k*max 1 (ix ls k).sT.length
theorem prod_mono (ls:List SS) {j:Nat}:∀{k:Nat},j≤k→prodL ls j≤prodL ls k
 |0,h=>by rw[show j=0 by omega];exact Nat.le_refl _
 |k+1,h=>by
  by_cases e:j=k+1
  ·rw[e];exact Nat.le_refl _
  ·exact Nat.le_trans (prod_mono ls (k:=k) O) (Nat.le_mul_of_pos_right _ O)
theorem list_ok {l:List ByteArray} {ls:List SS} (h:listE l ls=0):actionsOK l=true∧∀k,k<ls.length→oK (ix ls k)∧specOK (ix ls k)=true∧(ix ls k).aC=l:=by
 unfold listE at h
 split at h
 ·omega
 ·next h1=>
  split at h
  ·omega
  ·next h2=>
   have h2:(!actionsOK l||ls.any (fun s=> !decide (s.aC=l)))=false:=by simpa using h2
   rw[Bool.or_eq_false_iff,Bool.not_eq_false'] at h2
   refine⟨h2.1,fun k hk=> ?_⟩
   have hm:=ix_memS (l:=ls) hk
   have h1:ls.any (fun s=> !specOK s)=false:=by simpa using h1
   have g1:=List.any_eq_false.1 h1 _ hm
   have g2:=List.any_eq_false.1 h2.2 _ hm
   have g1:specOK (ix ls k)=true:=by simpa using g1
   exact⟨okSpec_of g1,g1,by simpa using g2⟩
theorem sevD_ok {l:List ByteArray} {ls:List SS} (h:listE l ls=0):∀k,k≤ls.length→SevOK l ls k→oK (sevD l ls k)∧(sevD l ls k).aC=l∧(sevD l ls k).sT.length≤prodL ls k
 |0,_,_=>⟨neut_ok (list_ok h).1,rfl,by show 1≤1;omega⟩
 |k+1,hk,ho=>by
  obtain⟨h1,h2,h3⟩:=sevD_ok h k O (fun j hj=>ho j O)
  obtain⟨g1,_,g3⟩:=(list_ok h).2 k O
  have hq:=ho k O
  refine⟨com_ok h1 g1 hq,(com_acts hq).trans h2,?_⟩
  have:=com_len h1 g1 hq
  exact Nat.le_trans this (Nat.mul_le_mul h3 O)
def SevR (l:List ByteArray) (ls:List SS) (k:Nat) (D:SS):Prop:=∃E:Nat→SS,E 0=neutS l∧E k=D∧∀j,j<k→RefC (E j) (ix ls j) (E (j+1))
theorem sevr_zero (l:List ByteArray) (ls:List SS):SevR l ls 0 (neutS l):=⟨fun _=>neutS l,rfl,rfl,fun j hj=>by omega⟩
theorem sevr_next {l:List ByteArray} {ls:List SS} {k:Nat} {D D':SS} (h:SevR l ls k D) (g:RefC D (ix ls k) D'):SevR l ls (k+1) D':=by
 obtain⟨E,h0,h1,h2⟩:=h
 refine⟨fun j=>if j≤k then E j else D',by show(if 0≤k then E 0 else D')=_;rw[if_pos O];exact h0,by show(if k+1≤k then E (k+1) else D')=_;rw[if_neg O],fun j hj=> ?_⟩
 show RefC (if j≤k then E j else D') (ix ls j) (if j+1≤k then E (j+1) else D')
 by_cases e:j=k
 ·subst e
  rw[if_pos O,if_neg O,h1];exact g
 ·rw[if_pos O,if_pos O];exact h2 j O
theorem sevr_ok {l:List ByteArray} {ls:List SS} (h:listE l ls=0) {E:Nat→SS} (h0:E 0=neutS l) {n:Nat} (hn:n≤ls.length) (hE:∀j,j<n→RefC (E j) (ix ls j) (E (j+1))) (hp:prodL ls ls.length≤10000):
 ∀k,k≤n→oK (E k)∧(E k).aC=l∧(E k).sT.length≤prodL ls k
 |0,_=>by rw[h0];exact⟨neut_ok (list_ok h).1,rfl,by show 1≤1;omega⟩
 |k+1,hk=>by
  obtain⟨h1,h2,h3⟩:=sevr_ok h h0 hn hE hp k O
  obtain⟨g1,_,g3⟩:=(list_ok h).2 k O
  have hR:=hE k O
  have hl:=refc_len h1 g1 hR
  have hm:prodL ls (k+1)≤prodL ls ls.length:=prod_mono ls O
  have hq:(E k).sT.length*(ix ls k).sT.length≤prodL ls (k+1):=Nat.mul_le_mul h3 O
  exact⟨refc_ok h1 g1 hR O,hR.acts.trans h2,O⟩
theorem sevr_D {l:List ByteArray} {ls:List SS} (h:listE l ls=0) {k:Nat} (hk:k≤ls.length) {D:SS} (hR:SevR l ls k D) (hp:prodL ls ls.length≤10000):oK D∧D.aC=l∧D.sT.length≤prodL ls k:=by
 obtain⟨E,h0,h1,h2⟩:=hR
 have:=sevr_ok h h0 hk h2 hp k (Nat.le_refl k)
 rw[h1] at this;exact this
theorem sev_same {l:List ByteArray} {ls:List SS} (h:listE l ls=0) {E:Nat→SS} (h0:E 0=neutS l) {n:Nat} (hn:n≤ls.length) (hE:∀j,j<n→RefC (E j) (ix ls j) (E (j+1))) (hp:prodL ls ls.length≤10000) (ho:SevOK l ls n):
 ∀k,k≤n→Same (sevD l ls k) (E k)
 |0,_=>by rw[h0];exact neut_same (list_ok h).1
 |k+1,hk=>by
  have ih:=sev_same h h0 hn hE hp ho k O
  obtain⟨h1,h2,h3⟩:=sevr_ok h h0 hn hE hp k O
  obtain⟨g1,_,g3⟩:=(list_ok h).2 k O
  have hm:prodL ls (k+1)≤prodL ls ls.length:=prod_mono ls O
  have hq:(E k).sT.length*(ix ls k).sT.length≤prodL ls (k+1):=Nat.mul_le_mul h3 O
  exact com_sim ih h1 g1 (hE k O) O (ho k O)
theorem first_bad {p:Nat→Prop} [DecidablePred p]:∀n,¬(∀j,j<n→p j)→∃k,k<n∧(∀j,j<k→p j)∧¬p k
 |0,h=>absurd (fun j hj=>by omega) h
 |n+1,h=>by
  by_cases g:∀j,j<n→p j
  ·refine⟨n,O,g,fun hp=>h fun j hj=> ?_⟩
   by_cases e:j=n
   ·rw[e];exact hp
   ·exact g j O
  ·obtain⟨k,h1,h2,h3⟩:=first_bad n g
   exact⟨k,O,h2,h3⟩
theorem told_s {l:List ByteArray} {ls:List SS} (h:listE l ls=0) {D:SS} (hR:SevR l ls ls.length D) (hp:prodL ls ls.length≤10000):toldB (sevS l ls).1 (sevS l ls).2 0 D (decide ((500:Int)<(prodL ls ls.length:Int)))=true:=by
 obtain⟨E,h0,h1,h2⟩:=hR
 unfold toldB sevS
 rw[if_pos rfl,if_pos h]
 by_cases e:SevOK l ls ls.length
 ·have hS:=sev_same h h0 (Nat.le_refl _) h2 hp e ls.length (Nat.le_refl _)
  rw[h1] at hS
  rw[if_pos e,fine_same hS]
  simp
 ·rw[if_neg e]
  obtain⟨k,hk,hk1,hk2⟩:=first_bad (p:=fun j=>(comS (sevD l ls j) (ix ls j)).2=true) ls.length e
  obtain⟨g1,g2,g3⟩:=sevD_ok h k O hk1
  obtain⟨q1,_,q3⟩:=(list_ok h).2 k hk
  have hL:=com_large g1 q1 (by simpa using hk2)
  unfold largeC at hL
  rw[decide_eq_true_eq] at hL
  have hm:prodL ls (k+1)≤prodL ls ls.length:=prod_mono ls O
  have hq:(sevD l ls k).sT.length*(ix ls k).sT.length≤prodL ls (k+1):=Nat.mul_le_mul g3 O
  have e2:(((sevD l ls k).sT.length*(ix ls k).sT.length:Nat):Int)=((sevD l ls k).sT.length:Int)*((ix ls k).sT.length:Int):=by simp
  have hx:(500:Int)<(prodL ls ls.length:Int):=by omega
  rw[decide_eq_true hx]
  simp[isNone]
theorem told_sno {l:List ByteArray} {ls:List SS} (h:listE l ls≠0) (D:SS) (b:Bool):toldB (sevS l ls).1 (sevS l ls).2 (listE l ls) D b=true:=by
 unfold toldB sevS
 rw[if_neg h,if_neg h]
 simp[isNone]
end SevM
end
end Go.Proofs.YtcjemmihcplgdaaGreatDoor
