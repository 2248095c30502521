/- The walks of the functions and the plain laws. Own texts of this claim, packed: Zzdivx, ZzBrkM, Zzsatj, Zzdivb, ZzProdM, Zzprodw, ZzEncM2. -/
import Derived.Test.YtcjemmihcplgdaaGreatMX22
import Derived.Test.YtcjemmihcplgdaaGreatMX23
import Derived.Test.YtcjemmihcplgdaaGreatMX15
import Derived.Test.YtcjemmihcplgdaaGreatMX13
import Derived.Test.YtcjemmihcplgdaaGreatMX19
set_option linter.all false
namespace Go.Proofs.YtcjemmihcplgdaaGreat
open AL Go
set_option maxRecDepth 100000
section
open ref01 ref03 ref04 ref06 prog prog2 prog3 prog6 prog13 starts Part Rungs LeftM TrimM RoundM MergeM BisM BisM4 BisM5 WalkM StepM WitM JudgM JudgM2 refw judg wit refj sysw divr divs divd dive divg divw divv divf divc divj divq divp divm diva LevM LevM2 ChsM QuoM FailM DivM QuoW RefM FitM PartM EncM TogM divt
noncomputable def fitB (x:SSys) (t s:SS):Bool:= @decide (ix (hOl s) 0=true∨Well3 x t (tR s).1) (Classical.propDecidable _)
theorem fitB_iff {x:SSys} {t s:SS}:fitB x t s=true↔(ix (hOl s) 0=true∨Well3 x t (tR s).1):= @decide_eq_true_iff _ (Classical.propDecidable _)
theorem sat_fit {x:SSys} {t s D:SS} (hx:okSys x) (ht:oK t) (hs:oK s) (hts:t.aC=s.aC) (hxt:x.aC=t.aC) (h:RefQ t s D):satD x D=fitB x t s:=by
 rw[Bool.eq_iff_iff,satD_iff,fitB_iff]
 cases e:ix (hOl s) 0 with
 |true=>rw[h.hol e];exact⟨fun _=> .inl rfl,fun _=>sat_every hx (by rw[hxt])⟩
 |false=>
  rw[sat_quo hx ht hs hts hxt h e]
  simp
theorem jdg_fit {x:SSys} {t s:SS} {v:Bool × SSys} (hv:JdgOK x t s v):v.1=fitB x t s:=by
 rw[Bool.eq_iff_iff,fitB_iff]
 constructor
 ·intro g;exact(hv.yes g).2
 ·intro g
  cases e:v.1 with
  |true=>rfl
  |false=>
   obtain⟨h0,q,i,u,hq,hi,h1,h2,_⟩:=hv.no e
   have g:=g.resolve_left (by simp[h0])
   have e2:(tR s).1=tS s:=by rw[trimmed_not h0]
   rw[e2] at g
   exact absurd ⟨u,h1,h2⟩ (g _ (hq.rch _ (ix_memS hi)))
noncomputable def partnerB (m x:SSys) (t s:SS):Bool:=sysOK m&&decide (m.aC=s.aC)&&(satD m s&& !togB m x t)
theorem withX_eq (x:SSys) (t s:SS):withX x t s=fineX x t s:=by
 unfold withX fineX
 by_cases g1:sysOK x=true
 ·rw[if_pos g1,if_pos g1]
  by_cases g2:fineE t s=0
  ·have g2':bothE t s=0:=g2
   rw[if_pos g2,if_pos g2']
  ·have g2':¬bothE t s=0:=g2
   rw[if_neg g2,if_neg g2'];rfl
 ·rw[if_neg g1,if_neg g1]
theorem part_partner {x:SSys} {t s:SS} (hx:okSys x) (ht:oK t) (hs:oK s) (hts:t.aC=s.aC) (hxt:x.aC=t.aC) (hb:x.sT.length*(t.sT.length*s.sT.length)+s.sT.length+1≤5000) {v:Bool × SSys} (hv:JdgOK x t s v) (e:v.1=false):partnerB v.2 x t s=true:=by
 obtain⟨h1,h2,h3,h4⟩:=part_ok hx ht hs hts hxt hb hv e
 unfold partnerB
 rw[h1,decide_eq_true h2,satD_iff.2 h3,Bool.eq_false_iff.2 (fun g=>h4 (togB_iff.1 g))];rfl
theorem tiny_few {m:SSys} (h:tinyB m=true):m.sT.length≤8∧(sizeM m:Int)≤300:=by
 unfold tinyB fewM at h;simpa using h
theorem small_few {s:SS} (h:smallB s=true):s.sT.length≤20∧(size s:Int)≤400:=by
 unfold smallB few at h;simpa using h
namespace divx
end divx
end
section
namespace BrkM
open ref01 ref03 ref04 ref06 Part Rungs LeftM TrimM RoundM BisM BisM5 BisM6 WalkM WitM JudgM FailM FitM PartM QuoM TogM
def pm (p:T3):T3:=(p.2.2,p.1,p.2.1)
theorem pm_inj {p q:T3} (h:pm p=pm q):p=q:=by
 unfold pm at h
 simp only [Prod.mk.injEq] at h
 exact Prod.ext h.2.1 (Prod.ext h.2.2 h.1)
theorem pm_mem {p:T3} {l:List T3}:pm p∈l.map pm↔p∈l:=by
 rw[List.mem_map]
 exact⟨fun⟨q,hq,e⟩=>pm_inj e▸hq,fun h=>⟨p,h,rfl⟩⟩
theorem pm_ix {l:List T3} {k:Nat} (hk:k<l.length):ix (l.map pm) k=pm (ix l k):=TurnM.ix_mapS hk
structure BW (m x:SSys) (t:SS) (i:Nat) (l:List T3) (mm:List (T3 × Bool)):Prop where
 tw:TW m x t i (l.map pm)
 sm:smap3 mm l
structure BN (m x:SSys) (t:SS) (i:Nat) (l:List T3) (k1 k2:Nat) (l2:List T3) (mm2:List (T3 × Bool)):Prop where
 tn:TN m x t i (l.map pm) k1 k2 (l2.map pm)
 sm:smap3 mm2 l2
variable {m x:SSys} {t:SS} {i k1 k2:Nat} {l l2:List T3} {mm mm2:List (T3 × Bool)}
theorem bw_zero:BW m x t 0 [(0,0,0)] (mset [] (0,0,0) true):=⟨tw_zero,smap3_zero⟩
theorem bw_few (hm:okSys m) (hx:okSys x) (ht:oK t) (h:BW m x t i l mm):l.length≤m.sT.length*(x.sT.length*t.sT.length):=by
 have:=tw_few hm hx ht h.tw.nd h.tw.rch
 simpa using this
theorem bn_few (hm:okSys m) (hx:okSys x) (ht:oK t) (h:BN m x t i l k1 k2 l2 mm2):l2.length≤m.sT.length*(x.sT.length*t.sT.length):=by
 have:=tw_few hm hx ht h.tn.nd h.tn.rch
 simpa using this
theorem bw_il (h:BW m x t i l mm):i≤l.length:=by simpa using h.tw.il
theorem bw_box (hm:okSys m) (hx:okSys x) (ht:oK t) (h:BW m x t i l mm) (hi:i<l.length):0≤(ix l i).2.2∧(ix l i).2.2<(m.sT.length:Int)∧0≤(ix l i).1∧(ix l i).1<(x.sT.length:Int)∧0≤(ix l i).2.1∧(ix l i).2.1<(t.sT.length:Int):=by
 have:=rchT_box hm hx ht (h.tw.rch _ (pm_mem.2 (ix_memS hi)))
 exact this
theorem bw_no (h:BW m x t i l mm) (hi:i<l.length) (hb:BadT m x t (pm (ix l i))):¬WellT m x t:=tw_no h.tw (j:=i) (by simpa using hi) (by rw[pm_ix hi];exact hb)
theorem bw_yes (h:BW m x t i l mm) (hi:l.length≤i):WellT m x t:=tw_yes h.tw (by simpa using hi)
theorem bn_zero (h:BW m x t i l mm):BN m x t i l 0 0 l mm:=⟨tn_zero h.tw,h.sm⟩
def tgt (t:SS) (p:T3) (d e:PP):T3:=(e.2,ix (nxt t p.2.1.toNat) e.1.toNat,d.2)
theorem tgt_pm {p:T3} {d e:PP} (h:d.1=e.1):sucT t (pm p) d e=pm (tgt t p d e):=by
 unfold sucT tgt pm
 dsimp only
 rw[h]
theorem bn_skip (h:BN m x t i l k1 k2 l2 mm2) (hi:i<l.length) (hk:k2<(edg x (ix l i).1.toNat).length) (hs:(ix (edg m (ix l i).2.2.toNat) k1).1=(ix (edg x (ix l i).1.toNat) k2).1→(mget mm2 (tgt t (ix l i) (ix (edg m (ix l i).2.2.toNat) k1) (ix (edg x (ix l i).1.toNat) k2))).getD false=true):BN m x t i l k1 (k2+1) l2 mm2:=by
 refine⟨tn_skip h.tn (by rw[pm_ix hi];exact hk) (fun he=> ?_),h.sm⟩
 rw[pm_ix hi] at he ⊢
 have he:(ix (edg m (ix l i).2.2.toNat) k1).1=(ix (edg x (ix l i).1.toNat) k2).1:=he
 have h1:=hs he
 rw[smap3_get h.sm] at h1
 have h2:=tgt_pm (t:=t) (p:=ix l i) he
 have h3:=pm_mem.2 (of_decide_eq_true h1)
 rw[←h2] at h3
 exact h3
theorem bn_push (hW:BW m x t i l mm) (h:BN m x t i l k1 k2 l2 mm2) (hi:i<l.length) (hb:¬BadT m x t (pm (ix l i))) (hk1:k1<(edg m (ix l i).2.2.toNat).length) (hk:k2<(edg x (ix l i).1.toNat).length) (he:(ix (edg m (ix l i).2.2.toNat) k1).1=(ix (edg x (ix l i).1.toNat) k2).1)
 (hn:(mget mm2 (tgt t (ix l i) (ix (edg m (ix l i).2.2.toNat) k1) (ix (edg x (ix l i).1.toNat) k2))).getD false=false):BN m x t i l k1 (k2+1) (l2++ [tgt t (ix l i) (ix (edg m (ix l i).2.2.toNat) k1) (ix (edg x (ix l i).1.toNat) k2)]) (mset mm2 (tgt t (ix l i) (ix (edg m (ix l i).2.2.toNat) k1) (ix (edg x (ix l i).1.toNat) k2)) true):=by
 have h2:=tgt_pm (t:=t) (p:=ix l i) he
 rw[smap3_get h.sm] at hn
 have hn:¬tgt t (ix l i) (ix (edg m (ix l i).2.2.toNat) k1) (ix (edg x (ix l i).1.toNat) k2)∈l2:=of_decide_eq_false hn
 have e0:=pm_ix (l:=l) hi
 have hp:=tn_push (k1:=k1) (k2:=k2) hW.tw h.tn (by simpa using hi) (by rw[e0];exact hb) (by rw[e0];exact hk1) (by rw[e0];exact hk) (by rw[e0];exact he) (by
  rw[e0]
  intro g
  have g:sucT t (pm (ix l i)) (ix (edg m (ix l i).2.2.toNat) k1) (ix (edg x (ix l i).1.toNat) k2)∈l2.map pm:=g
  rw[h2] at g
  exact hn (pm_mem.1 g))
 refine⟨?_,smap3_push h.sm _⟩
 rw[List.map_append]
 rw[e0] at hp
 have hp:TN m x t i (l.map pm) k1 (k2+1) (l2.map pm++ [sucT t (pm (ix l i)) (ix (edg m (ix l i).2.2.toNat) k1) (ix (edg x (ix l i).1.toNat) k2)]):=hp
 rw[h2] at hp
 exact hp
theorem bn_row (h:BN m x t i l k1 k2 l2 mm2) (hi:i<l.length) (hk1:k1<(edg m (ix l i).2.2.toNat).length) (hk:(edg x (ix l i).1.toNat).length≤k2):BN m x t i l (k1+1) 0 l2 mm2:=
 ⟨tn_row h.tn (by rw[pm_ix hi];exact hk1) (by rw[pm_ix hi];exact hk),h.sm⟩
theorem bn_end (hW:BW m x t i l mm) (h:BN m x t i l k1 k2 l2 mm2) (hi:i<l.length) (hb:¬BadT m x t (pm (ix l i))) (hk1:(edg m (ix l i).2.2.toNat).length≤k1):BW m x t (i+1) l2 mm2:=
 ⟨tn_end hW.tw h.tn (by simpa using hi) (by rw[pm_ix hi];exact hb) (by rw[pm_ix hi];exact hk1),h.sm⟩
end BrkM
end
section
open ref01 ref03 ref04 ref06 prog prog2 prog3 prog6 prog13 prog15 starts search Part Rungs LeftM TrimM RoundM BisM BisM5 BisM6 WalkM StepM WitM JudgM refw judg wit sysw
def metJ:WalkM.Mt→List AV:=fun m=> [int m.before,int m.action,int m.s,int m.t]
instance (m:WalkM.Mt):OneAll (metJ m):=inferInstanceAs (OneAll [int m.before,int m.action,int m.s,int m.t])
noncomputable def fineSE (m:SSys) (s:SS):Int:=if sysOK m=true then(if specOK s=true then(if m.aC=s.aC then 0 else 10) else 30) else 20
theorem fineSE_ok {m:SSys} {s:SS} (h:fineSE m s=0):sysOK m=true∧specOK s=true∧m.aC=s.aC:=by
 unfold fineSE at h
 split at h
 ·next g1=>
  split at h
  ·next g2=>
   split at h
   ·next g3=>exact⟨g1,g2,g3⟩
   ·exact absurd h (by decide)
  ·exact absurd h (by decide)
 ·exact absurd h (by decide)
abbrev verJ (v:VJ):AV:=agg [bl v.holds,sl 2 pE v.pairs,ints v.word,int v.state]
structure SatOK (m:SSys) (s:SS) (v:VJ):Prop where
 ok:fineSE m s=0→JudgeOK m s v
 no:fineSE m s≠0→v=⟨false,[],[],0⟩
theorem sat_bd {m:SSys} {t:SS} (hm:okSys m) (ht:oK t) {q:List WalkM.Mt} (h:QJ m t q):∀p∈q.map pairOf,bdP p:=by
 intro p hp
 obtain⟨x,hx,rfl⟩:=List.mem_map.1 hp
 have:=h.bd x hx
 have h1:=hm.few1
 have h2:=ht.few1
 unfold bdP pairOf
 dsimp only
 omega
namespace T
theorem map126:MapT Tryz.prog 126 78 4 pairV pairD:=mapT_arr Tryz.underlying126 Tryz.underlying78 kR (by decide+kernel) kR kR ⟨Tryz.underlying3,by kernel_rfl⟩ kR
theorem sl131:IsSlice Tryz.prog 131 130 4:=isSlice_of kR
theorem fld130_0:FieldAt Tryz.prog 130 0 0:=fieldAt_of kR
theorem fld128_0:FieldAt Tryz.prog 128 0 0:=fieldAt_of kR
theorem fld128_1:FieldAt Tryz.prog 128 1 1:=fieldAt_of kR
theorem z65:ZeroIs Tryz.prog 65 [.bool false,.slice none 0 0,.slice none 0 0,.int .i64 0]:=zeroIs_of kR
theorem st128:StructT Tryz.prog 128 [(0,1),(1,1)] [.int .i64 0,.int .i64 0]:=structT_of kR kR
theorem st130:StructT Tryz.prog 130 [(0,2),(2,2)] [.int .i64 0,.int .i64 0,.int .i64 0,.int .i64 0]:=structT_of kR kR
theorem mk131:MakeT Tryz.prog 131 130 4 32 [.int .i64 0,.int .i64 0,.int .i64 0,.int .i64 0]:=makeT_of kR kR
theorem fld130_1:FieldAt Tryz.prog 130 1 2:=fieldAt_of kR
theorem ent94:Ent Tryz.prog 94:=ent_of kR
theorem st65:StructT Tryz.prog 65 [(0,1),(1,1),(2,1),(3,1)] [.bool false,.slice none 0 0,.slice none 0 0,.int .i64 0]:=structT_of kR kR
theorem agg65:IsAgg Tryz.prog 65 4:=isAgg_of kR
theorem agg130:IsAgg Tryz.prog 130 4:=isAgg_of kR
theorem z130:ZeroIs Tryz.prog 130 [.int .i64 0,.int .i64 0,.int .i64 0,.int .i64 0]:=zeroIs_of kR
theorem fld65_1:FieldAt Tryz.prog 65 1 1:=fieldAt_of kR
theorem ent95:Ent Tryz.prog 95:=ent_of kR
theorem ent65:Ent Tryz.prog 65:=ent_of kR
theorem ent61:Ent Tryz.prog 61:=ent_of kR
end T
namespace satj
theorem word_ok (q:List WalkM.Mt) (hb:BackOK q) (i:Nat) (hi:i<q.length) (hq:q.length≤1000000000:=by omega):
 Fn0 Tryz.prog 94 [sl 4 metJ q,int (i:Int)] (ints (wordTo q i)):=by
 refine fnI Tryz.func94 rfl rfl (fun w0 F0=> ?_)
 refine fcC (slenI 0 J) (fun hm0=> ?_)
 refine sq (rg (ag (nl (th (sq (rg (nw 5 3 1 nE (ag (rtg (key:=5) 5 J (nl (th (sq (bk ?_)))))))))))))
 have hI0_0:0≤(i:Int)∧(i:Int)<(q.length:Int)∧([]:List Int)++upF q (i+1) (i:Int).toNat=upF q (i+1) i∧(i:Int).toNat<(i+1)∧([]:List Int).length+(i:Int).toNat≤i:=by
  exact⟨O,O,by rw[Int.toNat_natCast];rfl,O,by simp⟩
 refine lp (κ:=Nat × Int × Value × (List Int)) (fun p=> [(0,sl 4 metJ q),(1,int p.2.1),(4,eqv (.slice none 0 0)),(5,osl 5 p.2.2.1)]) (fun p=> [(5,own p.2.2.1 3 1 nE p.2.2.2)]) (fun p=>0≤p.2.1∧p.2.1<(q.length:Int)∧p.2.2.2++upF q p.1 p.2.1.toNat=upF q (i+1) i∧p.2.1.toNat<p.1∧p.2.2.2.length+p.2.1.toNat≤i) (fun p=>p.2.1.toNat) ⟨i+1,(i:Int),(.slice none 0 0),([]:List Int)⟩ hI0_0 ⟨id,id,id,id,tV⟩ ⟨rI,tV⟩ ?_
 intro⟨n,j,v5,out⟩ hG0
 obtain⟨hj0,hjl,hou,hjn,hol⟩:0≤j∧j<(q.length:Int)∧out++upF q n j.toNat=upF q (i+1) i∧j.toNat<n∧out.length+j.toNat≤i:=hG0
 show Ct _ _ _ _ [(0,sl 4 metJ q),(1,int j),(4,eqv (.slice none 0 0)),(5,osl 5 v5)] [(5,own v5 3 1 nE out)] _
 have hbk:=hb j.toNat O
 refine sq (sq (rg (mv (mv (iF J J T.sl131 O gB (fF J T.fld130_0 (fF J T.fld128_0 (lF J J T.one3 (bi J J b_geq (nl (th ?_)))))))))))
 refine cd J (fun hc0=> ?_) (fun hc0=> ?_)
 ·try simp at hc0
  refine sk (th (sq (bk (rg (mv (mv (mv (iF J J T.sl131 O gB (fF J T.fld130_0 (fF J T.fld128_1 (lF J J T.one3 (bsE (enc:=nE) (xs:= [(ix q j.toNat).action]) (css:= [[int (ix q j.toNat).action]]) T.mk63 ⟨J,J,p1 (φ:=int (ix q j.toNat).action) J,tV⟩ J J J J (ap (key:=5) (zs:= [(ix q j.toNat).action]) osl_eq J J J T.mk63 (by unfold maxL at*;simp;omega) (by unfold maxL at*;simp;omega) fun v27=>(ag (nl (eb (th (rg (mv (mv (iF J J T.sl131 O gB (fF J T.fld130_0 (fF J T.fld128_0 (lF J J T.one3 (ag (nl ?_))))))))))))))))))))))))))
  have hN0:0≤(ix q j.toNat).before∧(ix q j.toNat).before<(q.length:Int)∧(out++ [(ix q j.toNat).action])++upF q (n- 1) (ix q j.toNat).before.toNat=upF q (i+1) i∧(ix q j.toNat).before.toNat<(n- 1)∧(out++ [(ix q j.toNat).action]).length+(ix q j.toNat).before.toNat≤i:=by
   have hbk2:=hbk hc0
   exact⟨hc0,O,upF_up hou hjn hc0,O,by simp;omega⟩
  exact ln (⟨n- 1,(ix q j.toNat).before,v27,out++ [(ix q j.toNat).action]⟩:Nat × Int × Value × (List Int)) hN0 (by have hbk2:=hbk hc0;show(ix q j.toNat).before.toNat<j.toNat;omega) ⟨id,id,id,id,tV⟩ ⟨rI,tV⟩
 ·try simp at hc0
  refine ex (xt_ (xt_ (xb (th (sq (rg (mv (cal (Hi:= [(5,own v5 3 1 nE out)]) (φs:= [osl 5 v5]) ⟨J,tV⟩ (judg.Reverse_ok v5 out O) T.ent116 ⟨rI,tV⟩ fun _ _=>(nl (th (sq (rg (mv (ag (nl (th (rt ?_)))))))))))))))))
  refine fzA 5 4 rfl rfl ?_
  have hr0:out.reverse=(wordTo q i):=by
   rw[upF_top hou hjn O];rfl
  exact rE () [.tmp 4] J [sl 1 nE out.reverse] ⟨.tmp J,tV⟩ (cA1 (fun x0=>rV [sl 1 nE x0]) hr0) trivial eX
theorem Fine_ok (m:SSys) (s:SS) (hs:smallSpec s):
 Fn0 Tryz.prog 65 [sys m,spec s] (int (fineSE m s)):=by
 refine fnI Tryz.func65 rfl rfl (fun w0 F0=> ?_)
 refine fcC (inhS 0 J) (fun hS0=> ?_)
 obtain⟨hma0,hms0,hme0⟩:=sys_lens hS0
 refine fcC (inhS 1 J) (fun hS1=> ?_)
 obtain⟨hsa1,hss1,hse1⟩:=sLn hS1
 refine sq (rg (bx (key:=2) (cs:= [sl 1 rE_ m.aC,sl 1 gE m.sT]) J fun b2=>(bx (key:=3) (cs:= [sl 1 rE_ s.aC,sl 2 sE s.sT]) J fun b3=>(ag (nl (th (sq (bk (sq (rg (lPA J J T.agg38 J (cal0 (φs:= [agg [sl 1 rE_ m.aC,sl 1 gE m.sT]]) (φ:=bl (sysOK m)) ⟨J,tV⟩ (sysw.Valid_ok m) T.ent59 (no J (ag (nl (th ?_))))))))))))))))
 refine cd J (fun hc0=> ?_) (fun hc0=> ?_)
 ·try simp at hc0
  refine sq (rg (ag (nl (th (rt (rb (rt_ ?_)))))))
  have hr0:(20:Int)=(fineSE m s):=by
   unfold fineSE;rw[if_neg (by simp[hc0])]
  exact rE () [.tmp 4] J [int 20] ⟨.tmp J,tV⟩ (cA1 (fun x0=>rV [int x0]) hr0) trivial eX
 ·try simp at hc0
  refine sq (rg (lPA J J T.agg25 J (cal0 (φs:= [agg [sl 1 rE_ s.aC,sl 2 sE s.sT]]) (φ:=bl (specOK s)) ⟨J,tV⟩ (prog2.Valid_ok s aS) T.ent79 (no J (ag (nl (th ?_)))))))
  refine cd J (fun hc1=> ?_) (fun hc1=> ?_)
  ·try simp at hc1
   refine sq (rg (ag (nl (th (rt (rb (rt_ ?_)))))))
   have hr0:(30:Int)=(fineSE m s):=by
    unfold fineSE;rw[if_pos (by simpa using hc0),if_neg (by simp[hc1])]
   exact rE () [.tmp 4] J [int 30] ⟨.tmp J,tV⟩ (cA1 (fun x0=>rV [int x0]) hr0) trivial eX
  ·try simp at hc1
   refine sq (rg (fP J T.fld38_0 (lP J J J T.one22 (fP J T.fld25_0 (lP J J J T.one22 (cal0 (φs:= [sl 1 rE_ m.aC,sl 1 rE_ s.aC]) (φ:=bl (decide (m.aC=s.aC))) ⟨J,J,tV⟩ (prog.sEqualstrE_ok _ _) T.ent60 (no J (ag (nl (th ?_))))))))))
   refine cd J (fun hc2=> ?_) (fun hc2=> ?_)
   ·try simp at hc2
    refine sq (rg (ag (nl (th (rt (rb (rt_ ?_)))))))
    have hr0:(10:Int)=(fineSE m s):=by
     unfold fineSE;rw[if_pos (by simpa using hc0),if_pos (by simpa using hc1),if_neg hc2]
    exact rE () [.tmp 4] J [int 10] ⟨.tmp J,tV⟩ (cA1 (fun x0=>rV [int x0]) hr0) trivial eX
   ·try simp at hc2
    refine sk (eb (th (sq (rg (ag (nl (th (rt ?_))))))))
    have hr0:(0:Int)=(fineSE m s):=by
     unfold fineSE;rw[if_pos (by simpa using hc0),if_pos (by simpa using hc1),if_pos hc2]
    exact rE () [.tmp 4] J [int 0] ⟨.tmp J,tV⟩ (cA1 (fun x0=>rV [int x0]) hr0) trivial eX
theorem Judge_ok (m:SSys) (hm:okSys m) (s:SS) (hs:oK s):
 AL.Fn Tryz.prog 61 [sys m,spec s] [] (ι:= { v:VJ//JudgeOK m s v }) (fun _ i=>verJ i.1) (fun _=> []):=by
 refine fnI Tryz.func61 rfl rfl (fun w0 F0=> ?_)
 have f1:=hm.few1;have f2:=hs.few1;have f3:=hs.n8;have f4:=hm.n8;have g0:=hm.few0;have g1:=hs.few0;have hmm:m.sT.length*s.sT.length≤10000*10000:=Nat.mul_le_mul f1 f2
 refine fcC (inhS 0 J) (fun hS0=> ?_)
 obtain⟨hma0,hms0,hme0⟩:=sys_lens hS0
 refine fcC (inhS 1 J) (fun hS1=> ?_)
 obtain⟨hsa1,hss1,hse1⟩:=sLn hS1
 refine sq (rg (bx (key:=2) (cs:= [sl 1 rE_ m.aC,sl 1 gE m.sT]) J fun b2=>(bx (key:=3) (cs:= [sl 1 rE_ s.aC,sl 2 sE s.sT]) J fun b3=>(al (key:=4) T.z65 (eC (eC (eC (eC eZ)))) fun b4=>(nl (th (sq (rg (mkm (key:=16) (kE:=pairV) (dom:=pairD) (vE:=blV) fun b16=>(bd (css:= [(0,_),(1,_)]) T.st78 (eC (eC eZ)) ⟨J,J,p1 (φ:=int 0) J,⟨J,J,p1 (φ:=int 0) J,tV⟩⟩ (AL.insert (q:=(0,0)) (u:=true) J J agg_pair J T.map126 ⟨⟨O,O⟩,⟨O,O⟩⟩ (mv (ag (nl (th (sq (rg (bd (css:= [(0,_)]) T.st128 (eC (eC eZ)) ⟨J,J,p1 (φ:=int (-1)) J,tV⟩ (bd (css:= [(0,_)]) T.st130 (eC (eC (eC (eC eZ)))) ⟨J,J,pA (cs:= [int (-1),int 0]) J,tV⟩ (bsO 21 (enc:=metJ) (xs:= [⟨0,0,(-1),0⟩]) (css:= [[int (-1),int 0,int 0,int 0]]) T.mk131 ⟨J,J,pA (cs:= [int (-1),int 0,int 0,int 0]) J,tV⟩ J J J J fun v21=>(ag (nl (th (sq (sq (rg (ag (nl (th (bk ?_))))))))))))))))))))))))))))))
 have hI0_0:QJ m s ([⟨0,0,(-1),0⟩]:List WalkM.Mt)∧smap (mset ([]:List ((Int × Int) × Bool)) (0,0) true) ([⟨0,0,(-1),0⟩]:List WalkM.Mt)∧0≤([⟨0,0,(-1),0⟩]:List WalkM.Mt).length∧∀k,k<0→DoneJ m s ([⟨0,0,(-1),0⟩]:List WalkM.Mt) k:=by
  exact⟨qj_zero hm hs,smap_zero,by simp,fun k hk=>absurd hk O⟩
 refine lp (κ:=Nat × Value × (List WalkM.Mt) × (List ((Int × Int) × Bool))) (fun p=> [(2,ptr 2 b2 0),(3,ptr 3 b3 0),(4,ptr 4 b4 0),(5,mpv 16 b16),(6,osl 21 p.2.1),(7,int (p.1:Int))]) (fun p=> [(2,cell b2 [sl 1 rE_ m.aC,sl 1 gE m.sT]),(3,cell b3 [sl 1 rE_ s.aC,sl 2 sE s.sT]),(4,cell b4 [bl false,eqv (.slice none 0 0),eqv (.slice none 0 0),int 0]),(16,mp b16 pairV pairD blV p.2.2.2),(21,own p.2.1 130 4 metJ p.2.2.1)]) (fun p=>QJ m s p.2.2.1∧smap p.2.2.2 p.2.2.1∧p.1≤p.2.2.1.length∧∀k,k<p.1→DoneJ m s p.2.2.1 k) (fun p=>m.sT.length*s.sT.length- p.1) ⟨0,v21,([⟨0,0,(-1),0⟩]:List WalkM.Mt),mset ([]:List ((Int × Int) × Bool)) (0,0) true⟩ hI0_0 ⟨id,id,id,id,id,id,tV⟩ ⟨rI,rI,rI,rI,rI,tV⟩ ?_
 intro⟨i,v,q,mm⟩ hG0
 obtain⟨hq,hsm,hil,hdone⟩:QJ m s q∧smap mm q∧i≤q.length∧∀k,k<i→DoneJ m s q k:=hG0
 show Ct _ _ _ _ [(2,ptr 2 b2 0),(3,ptr 3 b3 0),(4,ptr 4 b4 0),(5,mpv 16 b16),(6,osl 21 v),(7,int (i:Int))] [(2,cell b2 [sl 1 rE_ m.aC,sl 1 gE m.sT]),(3,cell b3 [sl 1 rE_ s.aC,sl 2 sE s.sT]),(4,cell b4 [bl false,eqv (.slice none 0 0),eqv (.slice none 0 0),int 0]),(16,mp b16 pairV pairD blV mm),(21,own v 130 4 metJ q)] _
 have hql:=qj_len hq
 refine sq (sq (rg (mv (mv (lnO J J T.sl131 (bi J J b_lss (nl (th ?_))))))))
 refine cd J (fun hc0=> ?_) (fun hc0=> ?_)
 ·try simp at hc0
  have hbd:=hq.bd _ (ix_memS hc0)
  have hsy:=hs.st (ix q i).t.toNat O
  have hyl:=hsy.len
  have hoff:∀e∈(ix m.sT (ix q i).s.toNat),0≤e.1∧e.1<8:=fun e he=>by have:=hm.ed (ix q i).s.toNat O e he;omega
  refine sk (th (sq (bk (sq (rg (mv (mv (iO J J J T.sl131 O O (fO J T.fld130_1 (lOA J J gB T.agg78 (by decide) (al (key:=8) T.z78 (eC (eC eZ)) fun b8=>(sPA (cs':= [int (ix q i).s,int (ix q i).t]) J J J T.agg78 J J (nl (th (sq (rg (fP J T.fld25_1 (lP J J J T.one23 (iPA J J T.arr78 T.one3 J (lP J J J T.one3 (iF J J T.sl23 O gB (lFA J T.agg72 (Nat.le_of_ble_eq_true J) (al (key:=9) T.z72 (eC (eC eZ)) fun b9=>(sPA (cs':= [sl 1 nE (ix s.sT (ix q i).t.toNat).aP,sl 1 nE (ix s.sT (ix q i).t.toNat).next]) J J J T.agg72 J J (nl (th (sq (sq (dr (nh:=10) [0,0,2,0,8,30,62,126,255,511] T.mixed kR ?_)))))))))))))))))))))))))))))
  refine st_ J (fun _ _ _ gq kq=>lPA (gq.1.trans J) J T.agg72 J kq) ?_
  refine st_ J (fun _ _ _ gq kq=>fP (gq.1.trans J) T.fld38_1 kq) ?_
  refine st_ J (fun _ _ _ gq kq=>lP (gq.1.trans J) J J T.one36 kq) ?_
  refine st_ J (fun _ _ _ gq kq=>iPA (gq.1.trans J) J T.arr78 T.one3 J kq) ?_
  refine st_ J (fun _ _ _ gq kq=>lP (gq.1.trans J) J J T.one3 kq) ?_
  refine st_ J (fun _ _ _ gq kq=>iF (gq.1.trans J) (gq.2.1.trans J) T.sl36 O gB kq) ?_
  refine st_ J (fun _ _ _ gq kq=>lF (gq.1.trans J) J T.one88 kq) ?_
  refine st_ J (fun _ _ _ gq kq=>cal0 (φs:= [sl 2 pE (ix m.sT (ix q i).s.toNat)]) (φ:=int (offE (ix m.sT (ix q i).s.toNat))) ⟨(gq.1.trans J),tV⟩ (sysw.Offers_ok (ix m.sT (ix q i).s.toNat) aS) T.ent93 kq) ?_
  refine st_ J (fun _ _ _ gq kq=>cal0 (φs:= [agg [sl 1 nE (ix s.sT (ix q i).t.toNat).aP,sl 1 nE (ix s.sT (ix q i).t.toNat).next],int (offE (ix m.sT (ix q i).s.toNat))]) (φ:=bl (decide ((offE (ix m.sT (ix q i).s.toNat))∈(ix s.sT (ix q i).t.toNat).aP))) ⟨(gq.1.trans J),(gq.2.1.trans J),tV⟩ (search.Accepts_ok (ix s.sT (ix q i).t.toNat) (hs.st _ O).rise (offE (ix m.sT (ix q i).s.toNat))) T.ent92 kq) ?_
  refine st_ J (fun _ _ _ gq kq=>no (gq.1.trans J) kq) ?_
  refine pn (nl (th ?_))
  refine cd J (fun hc1=> ?_) (fun hc1=> ?_)
  ·try simp at hc1
   have hnacc:offM m (ix q i).s.toNat∉acc s (ix q i).t.toNat:=by simpa using hc1
   refine sq (fzC 21 6 J J (dr (nh:=6) [0,0,3,0,8,31,63] T.mixed kR ?_))
   refine st_ J (fun _ _ _ gq kq=>mv' (gq.1.trans J) kq) ?_
   refine st_ J (fun _ _ _ gq kq=>mv' (gq.1.trans J) kq) ?_
   refine st_ J (fun _ _ _ gq kq=>cal0 (φs:= [sl 4 metJ q,int (i:Int)]) (φ:=sl 1 nE (wordTo q i)) ⟨(gq.1.trans J),(gq.2.1.trans J),tV⟩ (satj.word_ok q (qj_back hq) i O) T.ent94 kq) ?_
   refine st_ J (fun _ _ _ gq kq=>iPA (gq.1.trans J) J T.arr78 T.one3 J kq) ?_
   refine st_ J (fun _ _ _ gq kq=>lP (gq.1.trans J) J J T.one3 kq) ?_
   refine st_ J (fun _ _ _ gq kq=>bd (css:= [(2,_),(3,_)]) T.st65 (eC (eC (eC (eC eZ)))) ⟨J,J,p1 (φ:=sl 1 nE (wordTo q i)) (by exact(gq.1.trans J)),⟨J,J,p1 (φ:=int (ix q i).s) (by exact(gq.2.1.trans J)),tV⟩⟩ kq) ?_
   refine pn (sPA (cs':= [bl false,eqv (.slice none 0 0),sl 1 nE (wordTo q i),int (ix q i).s]) J J J T.agg65 J J (nl (th (rt (rt_ (rb (rt_ (rt_ (rb (rt_ ?_))))))))))
   refine kncA 4 1 (sl 2 pE []) rfl rfl slnil ?_
   exact rE ⟨⟨false,[],wordTo q i,(ix q i).s⟩,⟨fun h=>(nomatch (show false=true from h)),fun _=>⟨sat_no hq hc0 hnacc,J,q,i,hq,hc0,J,J,hdone,hnacc⟩⟩⟩ [.cell 4 65] J [agg [bl false,sl 2 pE [],sl 1 nE (wordTo q i),int (ix q i).s]] ⟨.agg J J T.agg65 J J,tV⟩ J trivial eX
  ·try simp at hc1
   have hacc:offM m (ix q i).s.toNat∈acc s (ix q i).t.toNat:=by simpa using hc1
   refine sk (th (sq (rg (fP J T.fld38_1 (lP J J J T.one36 (iPA J J T.arr78 T.one3 J (lP J J J T.one3 (iF J J T.sl36 O gB (lF J J T.one88 (fc (slenI 60 J) fun hm60=>(lnF J T.sl88 (mv (nl (th (bk ?_)))))))))))))))
   have hI1_0:0≤(ix m.sT (ix q i).s.toNat).length:=by
    first|omega|simp
   have hI1_1:MidJ m s q i 0 q mm:=by
    exact midj_zero hq hsm hdone
   refine lp (κ:=Nat × Value × (List WalkM.Mt) × (List ((Int × Int) × Bool))) (fun p=> [(2,ptr 2 b2 0),(3,ptr 3 b3 0),(4,ptr 4 b4 0),(5,mpv 16 b16),(6,osl 21 p.2.1),(7,int (i:Int)),(9,ptr 9 b9 0),(60,sl 2 pE (ix m.sT (ix q i).s.toNat)),(61,int ((ix m.sT (ix q i).s.toNat).length:Int)),(62,int (p.1:Int))]) (fun p=> [(2,cell b2 [sl 1 rE_ m.aC,sl 1 gE m.sT]),(3,cell b3 [sl 1 rE_ s.aC,sl 2 sE s.sT]),(4,cell b4 [bl false,eqv (.slice none 0 0),eqv (.slice none 0 0),int 0]),(8,cell b8 [int (ix q i).s,int (ix q i).t]),(9,cell b9 [sl 1 nE (ix s.sT (ix q i).t.toNat).aP,sl 1 nE (ix s.sT (ix q i).t.toNat).next]),(16,mp b16 pairV pairD blV p.2.2.2),(21,own p.2.1 130 4 metJ p.2.2.1)]) (fun p=>(p.1≤(ix m.sT (ix q i).s.toNat).length)∧(MidJ m s q i p.1 p.2.2.1 p.2.2.2)) (fun p=>(ix m.sT (ix q i).s.toNat).length- p.1) ⟨0,v,q,mm⟩ ⟨hI1_0,hI1_1⟩ ⟨id,id,id,id,id,id,id,id,id,id,tV⟩ ⟨rI,rI,rI,rI,rI,rI,rI,tV⟩ ?_
   intro⟨k1,v2,q2,mm2⟩ hG1
   obtain⟨hk1,hI1⟩:(k1≤(ix m.sT (ix q i).s.toNat).length)∧(MidJ m s q i k1 q2 mm2):=hG1
   show Ct _ _ _ _ [(2,ptr 2 b2 0),(3,ptr 3 b3 0),(4,ptr 4 b4 0),(5,mpv 16 b16),(6,osl 21 v2),(7,int (i:Int)),(9,ptr 9 b9 0),(60,sl 2 pE (ix m.sT (ix q i).s.toNat)),(61,int ((ix m.sT (ix q i).s.toNat).length:Int)),(62,int (k1:Int))] [(2,cell b2 [sl 1 rE_ m.aC,sl 1 gE m.sT]),(3,cell b3 [sl 1 rE_ s.aC,sl 2 sE s.sT]),(4,cell b4 [bl false,eqv (.slice none 0 0),eqv (.slice none 0 0),int 0]),(8,cell b8 [int (ix q i).s,int (ix q i).t]),(9,cell b9 [sl 1 nE (ix s.sT (ix q i).t.toNat).aP,sl 1 nE (ix s.sT (ix q i).t.toNat).next]),(16,mp b16 pairV pairD blV mm2),(21,own v2 130 4 metJ q2)] _
   have hq2l:=qj_len hI1.qi
   refine sq (rg (bi J J b_lss (nl (th (sq ?_)))))
   refine cd J (fun hc2=> ?_) (fun hc2=> ?_)
   ·try simp at hc2
    have hek:=hm.ed (ix q i).s.toNat O _ (ix_memS hc2)
    have hgo:=edge_go hm hs (x:=(ix q i).s.toNat) (y:=(ix q i).t.toNat) O O hacc (ix_memS hc2)
    obtain⟨hgo1,hgo2,hgo3⟩:=hgo
    dsimp only [nxt,edg] at hgo1 hgo2 hgo3 hek
    refine sk (th (sq (bk (sq (rg (iF J J T.sl88 O gB (lFA J T.agg94 (Nat.le_of_ble_eq_true J) (al (key:=11) T.z94 (eC (eC eZ)) fun b11=>(sPA (cs':= [int ((ix (ix m.sT (ix q i).s.toNat) k1).1),int ((ix (ix m.sT (ix q i).s.toNat) k1).2)]) J J J T.agg94 J J (nl (th (sq ?_))))))))))))
    refine drH (nh:=11) [0,1,0,4,0,16,60,124,255,0,1023] [(none,[]),(none,[11]),(none,[]),(none,[9]),(none,[]),(none,[11]),(none,[]),(none,[]),(none,[]),(some 12,[]),(some 12,[12])] T.mixed kR kR ?_
    refine stv (d:=66) (fun β0=>ptr 11 b11 1) [] J (fun β β' hb=>J) (fun β0 _ _ _ _ gq gh kq=>fP (gq.1.trans J) T.fld94_1 kq) ?_
    refine stv (d:=67) (fun β0=>int ((ix (ix m.sT (ix q i).s.toNat) k1).2)) [11] J (fun β β' hb=>J) (fun β0 _ _ _ _ gq gh kq=>lP (gq.1.trans J) (gh.1.trans J) J T.one3 kq) ?_
    refine stv (d:=68) (fun β0=>ptr 9 b9 1) [] J (fun β β' hb=>J) (fun β0 _ _ _ _ gq gh kq=>fP (gq.1.trans J) T.fld72_1 kq) ?_
    refine stv (d:=69) (fun β0=>sl 1 nE (ix s.sT (ix q i).t.toNat).next) [9] J (fun β β' hb=>J) (fun β0 _ _ _ _ gq gh kq=>lP (gq.1.trans J) (gh.1.trans J) J T.one63 kq) ?_
    refine stv (d:=70) (fun β0=>ptr 11 b11 0) [] J (fun β β' hb=>J) (fun β0 _ _ _ _ gq gh kq=>fP (gq.1.trans J) T.fld94_0 kq) ?_
    refine stv (d:=71) (fun β0=>int ((ix (ix m.sT (ix q i).s.toNat) k1).1)) [11] J (fun β β' hb=>J) (fun β0 _ _ _ _ gq gh kq=>lP (gq.1.trans J) (gh.1.trans J) J T.one3 kq) ?_
    refine stv (d:=72) (fun β0=>fp [int (ix (ix s.sT (ix q i).t.toNat).next ((ix (ix m.sT (ix q i).s.toNat) k1).1).toNat)]) [] J (fun β β' hb=>J) (fun β0 _ _ _ _ gq gh kq=>iF (gq.1.trans J) (gq.2.1.trans J) T.sl63 O gB kq) ?_
    refine stv (d:=73) (fun β0=>int (ix (ix s.sT (ix q i).t.toNat).next ((ix (ix m.sT (ix q i).s.toNat) k1).1).toNat)) [] J (fun β β' hb=>J) (fun β0 _ _ _ _ gq gh kq=>lF (gq.1.trans J) J T.one3 kq) ?_
    refine stv (d:=74) (fun β0=>agg [int ((ix (ix m.sT (ix q i).s.toNat) k1).2),int (ix (ix s.sT (ix q i).t.toNat).next ((ix (ix m.sT (ix q i).s.toNat) k1).1).toNat)]) [] J (fun β β' hb=>J) (fun β0 _ _ _ _ gq gh kq=>bd (css:= [(0,_),(1,_)]) T.st78 (eC (eC eZ)) ⟨J,J,p1 (φ:=int ((ix (ix m.sT (ix q i).s.toNat) k1).2)) (by exact(gq.1.trans J)),⟨J,J,p1 (φ:=int (ix (ix s.sT (ix q i).t.toNat).next ((ix (ix m.sT (ix q i).s.toNat) k1).1).toNat)) (by exact(gq.2.1.trans J)),tV⟩⟩ kq) ?_
    refine sta 12 T.z78 (eC (eC eZ)) ?_
    refine stw 12 (fun β0=>cell (gbk (β0 9)) [int ((ix (ix m.sT (ix q i).s.toNat) k1).2),int (ix (ix s.sT (ix q i).t.toNat).next ((ix (ix m.sT (ix q i).s.toNat) k1).1).toNat)]) [12] J (fun β β' hb=>by first|rw[hb 9 J]|(dsimp only;rw[hb 9 J])) (fun β0 _ _ _ _ gq gh kq=>sPA (cs':= [int ((ix (ix m.sT (ix q i).s.toNat) k1).2),int (ix (ix s.sT (ix q i).t.toNat).next ((ix (ix m.sT (ix q i).s.toNat) k1).1).toNat)]) (gq.1.trans J) (gh.1.trans J) (gq.2.1.trans J) T.agg78 J J kq) ?_
    refine pnH fun β0=>(nl (th (sq (rg (mv (lPA J J T.agg78 J (lookup (z:=false) (q:=((ix (ix m.sT (ix q i).s.toNat) k1).2,ix (ix s.sT (ix q i).t.toNat).next ((ix (ix m.sT (ix q i).s.toNat) k1).1).toNat)) J J agg_pair T.map126 ⟨⟨O,O⟩,⟨O,O⟩⟩ T.zvb4 (no J (nl (th ?_))))))))))
    refine cd J (fun hc3=> ?_) (fun hc3=> ?_)
    ·try simp at hc3
     refine sq (rg (mv (lPA J J T.agg78 J (mapUpdate (q:=((ix (ix m.sT (ix q i).s.toNat) k1).2,ix (ix s.sT (ix q i).t.toNat).next ((ix (ix m.sT (ix q i).s.toNat) k1).1).toNat)) (u:=true) J J agg_pair J T.map126 ⟨⟨O,O⟩,⟨O,O⟩⟩ (nl (th (rg (mv (mv (fP J T.fld94_0 (lP J J J T.one3 (bd (css:= [(0,_),(1,_)]) T.st128 (eC (eC eZ)) ⟨J,J,p1 (φ:=int (i:Int)) J,⟨J,J,p1 (φ:=int ((ix (ix m.sT (ix q i).s.toNat) k1).1)) J,tV⟩⟩ (lPA J J T.agg78 J (bd (css:= [(0,_),(2,_)]) T.st130 (eC (eC (eC (eC eZ)))) ⟨J,J,pA (cs:= [int (i:Int),int ((ix (ix m.sT (ix q i).s.toNat) k1).1)]) J,⟨J,J,pA (cs:= [int ((ix (ix m.sT (ix q i).s.toNat) k1).2),int (ix (ix s.sT (ix q i).t.toNat).next ((ix (ix m.sT (ix q i).s.toNat) k1).1).toNat)]) J,tV⟩⟩ (bsE (enc:=metJ) (xs:= [⟨((ix (ix m.sT (ix q i).s.toNat) k1).2),(ix (ix s.sT (ix q i).t.toNat).next ((ix (ix m.sT (ix q i).s.toNat) k1).1).toNat),(i:Int),((ix (ix m.sT (ix q i).s.toNat) k1).1)⟩]) (css:= [[int (i:Int),int ((ix (ix m.sT (ix q i).s.toNat) k1).1),int ((ix (ix m.sT (ix q i).s.toNat) k1).2),int (ix (ix s.sT (ix q i).t.toNat).next ((ix (ix m.sT (ix q i).s.toNat) k1).1).toNat)]]) T.mk131 ⟨J,J,pA (cs:= [int (i:Int),int ((ix (ix m.sT (ix q i).s.toNat) k1).1),int ((ix (ix m.sT (ix q i).s.toNat) k1).2),int (ix (ix s.sT (ix q i).t.toNat).next ((ix (ix m.sT (ix q i).s.toNat) k1).1).toNat)]) J,tV⟩ J J J J (ap (key:=21) (zs:= [⟨((ix (ix m.sT (ix q i).s.toNat) k1).2),(ix (ix s.sT (ix q i).t.toNat).next ((ix (ix m.sT (ix q i).s.toNat) k1).1).toNat),(i:Int),((ix (ix m.sT (ix q i).s.toNat) k1).1)⟩]) osl_eq J J J T.mk131 (by unfold maxL at*;simp;omega) (by unfold maxL at*;simp;omega) fun v89=>(ag (nl (eb (th (rg (bi J J (b_add i6) (mv (nl ?_))))))))))))))))))))))))
     have hN0:(k1+1)≤(ix m.sT (ix q i).s.toNat).length:=by
      first|omega|simp_all
     have hN1:MidJ m s q i (k1+1) (q2++ [⟨((ix (ix m.sT (ix q i).s.toNat) k1).2),(ix (ix s.sT (ix q i).t.toNat).next ((ix (ix m.sT (ix q i).s.toNat) k1).1).toNat),(i:Int),((ix (ix m.sT (ix q i).s.toNat) k1).1)⟩]) (mset mm2 ((ix (ix m.sT (ix q i).s.toNat) k1).2,ix (ix s.sT (ix q i).t.toNat).next ((ix (ix m.sT (ix q i).s.toNat) k1).1).toNat) true):=by
      exact midj_push hm hs hI1 hc0 hacc hc2 rfl rfl (by simpa using hc3)
     exact ln (⟨k1+1,v89,q2++ [⟨((ix (ix m.sT (ix q i).s.toNat) k1).2),(ix (ix s.sT (ix q i).t.toNat).next ((ix (ix m.sT (ix q i).s.toNat) k1).1).toNat),(i:Int),((ix (ix m.sT (ix q i).s.toNat) k1).1)⟩],mset mm2 ((ix (ix m.sT (ix q i).s.toNat) k1).2,ix (ix s.sT (ix q i).t.toNat).next ((ix (ix m.sT (ix q i).s.toNat) k1).1).toNat) true⟩:Nat × Value × (List WalkM.Mt) × (List ((Int × Int) × Bool))) ⟨hN0,hN1⟩ dO ⟨id,id,id,id,id,id,id,id,id,id,tV⟩ ⟨rI,rI,rI,rI,rI,rI,rI,tV⟩
    ·try simp at hc3
     refine sk (eb (th (rg (bi J J (b_add i6) (mv (nl ?_))))))
     have hN0:(k1+1)≤(ix m.sT (ix q i).s.toNat).length:=by
      first|omega|simp_all
     have hN1:MidJ m s q i (k1+1) q2 mm2:=by
      exact midj_skip hI1 hc2 rfl rfl (by simpa using hc3)
     exact ln (⟨k1+1,v2,q2,mm2⟩:Nat × Value × (List WalkM.Mt) × (List ((Int × Int) × Bool))) ⟨hN0,hN1⟩ dO ⟨id,id,id,id,id,id,id,id,id,id,tV⟩ ⟨rI,rI,rI,rI,rI,rI,rI,tV⟩
   ·try simp at hc2
    refine ex (xt_ (xt_ (xb (eb (th (rg (mv (bi J J (b_add i6) (ag (nl ?_))))))))))
    have hN0:QJ m s q2∧smap mm2 q2∧(i+1)≤q2.length∧∀k,k<(i+1)→DoneJ m s q2 k:=by
     exact midj_end hI1 hc0 hacc O
    exact ln (⟨i+1,v2,q2,mm2⟩:Nat × Value × (List WalkM.Mt) × (List ((Int × Int) × Bool))) hN0 dO ⟨id,id,id,id,id,id,tV⟩ ⟨rI,rI,rI,rI,rI,tV⟩
 ·try simp at hc0
  refine ex (xt_ (xt_ (xb (th (sq (rg (bd (css:= [(0,_)]) T.st65 (eC (eC (eC (eC eZ)))) ⟨J,J,p1 (φ:=bl true) J,tV⟩ (al (key:=13) T.z65 (eC (eC (eC (eC eZ)))) fun b13=>(sPA (cs':= [bl true,eqv (.slice none 0 0),eqv (.slice none 0 0),int 0]) J J J T.agg65 J J (nl (th (sq (sq (rg (mv (lnO J J T.sl131 (mv (nl (th (bk ?_))))))))))))))))))))
  refine nwC 130 78 2 pE (kncC 13 1 (osl 130 (.slice none 0 0)) rfl rfl eq_osl ?_)
  have hI2_0:0≤q.length:=by
   first|omega|simp
  have hI2_1:([]:List (Int × Int))=(q.take 0).map pairOf:=by
   rfl
  refine lp (κ:=Nat × Value × (List (Int × Int))) (fun p=> [(4,ptr 4 b4 0),(13,ptr 13 b13 0),(92,osl 21 v),(93,int (q.length:Int)),(94,int (p.1:Int))]) (fun p=> [(2,cell b2 [sl 1 rE_ m.aC,sl 1 gE m.sT]),(3,cell b3 [sl 1 rE_ s.aC,sl 2 sE s.sT]),(4,cell b4 [bl false,eqv (.slice none 0 0),eqv (.slice none 0 0),int 0]),(13,cell b13 [bl true,osl 130 p.2.1,eqv (.slice none 0 0),int 0]),(16,mp b16 pairV pairD blV mm),(21,own v 130 4 metJ q),(130,own p.2.1 78 2 pE p.2.2)]) (fun p=>(p.1≤q.length)∧(p.2.2=(q.take p.1).map pairOf)) (fun p=>q.length- p.1) ⟨0,(.slice none 0 0),([]:List (Int × Int))⟩ ⟨hI2_0,hI2_1⟩ ⟨id,id,id,id,id,tV⟩ ⟨rI,rI,rI,rI,rI,rI,rI,tV⟩ ?_
  intro⟨k2,vp,prs⟩ hG2
  obtain⟨hk2,hI2⟩:(k2≤q.length)∧(prs=(q.take k2).map pairOf):=hG2
  show Ct _ _ _ _ [(4,ptr 4 b4 0),(13,ptr 13 b13 0),(92,osl 21 v),(93,int (q.length:Int)),(94,int (k2:Int))] [(2,cell b2 [sl 1 rE_ m.aC,sl 1 gE m.sT]),(3,cell b3 [sl 1 rE_ s.aC,sl 2 sE s.sT]),(4,cell b4 [bl false,eqv (.slice none 0 0),eqv (.slice none 0 0),int 0]),(13,cell b13 [bl true,osl 130 vp,eqv (.slice none 0 0),int 0]),(16,mp b16 pairV pairD blV mm),(21,own v 130 4 metJ q),(130,own vp 78 2 pE prs)] _
  have hpl:prs.length≤k2:=by rw[hI2];simp;omega
  refine sq (rg (bi J J b_lss (nl (th (sq ?_)))))
  refine cd J (fun hc4=> ?_) (fun hc4=> ?_)
  ·try simp at hc4
   refine sk (th (sq (bk (sq (rg (iO J J J T.sl131 O O (lOA J J gB T.agg130 (by decide) (al (key:=15) T.z130 (eC (eC (eC (eC eZ)))) fun b15=>(sPA (cs':= [int (ix q k2).before,int (ix q k2).action,int (ix q k2).s,int (ix q k2).t]) J J J T.agg130 J J (nl (th (rg (fP J T.fld65_1 (lP J J J T.one62 (fP J T.fld130_1 (lPA J J T.agg78 J (bs (css:= [[int (ix q k2).s,int (ix q k2).t]]) T.mk62 ⟨J,J,pA (cs:= [int (ix q k2).s,int (ix q k2).t]) J,tV⟩ J J J (ap (key:=130) (zs:= [((ix q k2).s,(ix q k2).t)]) osl_eq J J J T.mk62 (by unfold maxL at*;simp;omega) (by unfold maxL at*;simp;omega) fun v103=>(fP J T.fld65_1 (storePO J J J J T.one62 J (nl (eb (th (rg (bi J J (b_add i6) (mv (nl ?_)))))))))))))))))))))))))))
   have hN0:(k2+1)≤q.length:=by
    first|omega|simp_all
   have hN1:(prs++ [((ix q k2).s,(ix q k2).t)])=(q.take (k2+1)).map pairOf:=by
    rw[hI2,take_s hc4,List.map_append];rfl
   exact ln (⟨k2+1,v103,prs++ [((ix q k2).s,(ix q k2).t)]⟩:Nat × Value × (List (Int × Int))) ⟨hN0,hN1⟩ dO ⟨id,id,id,id,id,tV⟩ ⟨rI,rI,rI,rI,rI,rI,rI,tV⟩
  ·try simp at hc4
   refine ex (xt_ (xt_ (xb (th (sq (rg (fP J T.fld65_1 (lP J J J T.one62 ?_))))))))
   have hbp:∀p∈prs,bdP p:=by rw[hI2,show k2=q.length by omega,List.take_length];exact sat_bd hm hs hq
   refine cal (Hi:= [(130,own vp 78 2 pE prs)]) (φs:= [osl 5 vp,eqv (.func (.func 96) #[] #[])]) ⟨osl_is.trans osl_is.symm,rfl,tV⟩ (rekeyIO 5 130 (sortE.SortcmpJ_ok vp prs aS)) T.ent95 ⟨rI,tV⟩ fun _ _=>(nl (th (sq (rg (fzc 13 130 1 rfl rfl rfl rfl (lPA rfl rfl T.agg65 rfl (sPA (cs':= [bl true,sl 2 pE (sortP prs),eqv (.slice none 0 0),int 0]) rfl rfl rfl T.agg65 rfl rfl (nl (th (rt ?_))))))))))
   refine kncA 4 2 (sl 1 nE []) rfl rfl slnil ?_
   exact rE ⟨⟨true,sortP prs,[],0⟩,⟨fun _=>⟨sat_yes hm hs hq (fun k hk=>hdone k O),J,J,q,hq,fun k hk=>hdone k O,by rw[hI2,show k2=q.length by omega,List.take_length]⟩,fun h=>(nomatch (show true=false from h))⟩⟩ [.cell 4 65] J [agg [bl true,sl 2 pE (sortP prs),sl 1 nE [],int 0]] ⟨.agg J J T.agg65 J J,tV⟩ J trivial eX
theorem Satisfies_ok (m:SSys) (s:SS) (hsm:smallSpec s):
 AL.Fn Tryz.prog 36 [sys m,spec s] [] (ι:= { v:VJ//SatOK m s v }) (fun _ i=>tup [verJ i.1,int (fineSE m s)]) (fun _=> []):=by
 refine fnI Tryz.func36 rfl rfl (fun w0 F0=> ?_)
 refine fcC (inhS 0 J) (fun hS0=> ?_)
 obtain⟨hma0,hms0,hme0⟩:=sys_lens hS0
 refine fcC (inhS 1 J) (fun hS1=> ?_)
 obtain⟨hsa1,hss1,hse1⟩:=sLn hS1
 refine sq (rg (bx (key:=2) (cs:= [sl 1 rE_ m.aC,sl 1 gE m.sT]) J fun b2=>(bx (key:=3) (cs:= [sl 1 rE_ s.aC,sl 2 sE s.sT]) J fun b3=>(al (key:=4) T.z65 (eC (eC (eC (eC eZ)))) fun b4=>(ag (nl (th (sq (sq (rg (lPA J J T.agg38 J (lPA J J T.agg25 J (cal0 (φs:= [agg [sl 1 rE_ m.aC,sl 1 gE m.sT],agg [sl 1 rE_ s.aC,sl 2 sE s.sT]]) (φ:=int (fineSE m s)) ⟨J,J,tV⟩ (satj.Fine_ok m s aS) T.ent65 (ag (nl (th (sq (rg (mv (bi J J b_neq (nl (th ?_))))))))))))))))))))))
 refine cd J (fun hc0=> ?_) (fun hc0=> ?_)
 ·try simp at hc0
  refine sq (rg (bd (css:= []) T.st65 (eC (eC (eC (eC eZ)))) trivial (mv (sPA (cs':= [bl false,eqv (.slice none 0 0),eqv (.slice none 0 0),int 0]) J J J T.agg65 J J (ag (nl (th (rt (rt_ ?_)))))))))
  refine kncA 4 1 (sl 2 pE []) rfl rfl slnil ?_
  refine kncA 4 2 (sl 1 nE []) rfl rfl slnil ?_
  exact rE ⟨⟨false,[],[],0⟩,⟨fun h=>absurd h hc0,fun _=>J⟩⟩ [.cell 4 65,.tmp 5] J [agg [bl false,sl 2 pE [],sl 1 nE [],int 0],int (fineSE m s)] ⟨.agg J J T.agg65 J J,.tmp J,tV⟩ J trivial eX
 ·try simp at hc0
  obtain⟨hmv,hsv,hac⟩:=fineSE_ok hc0
  have hm:=sysOK_ok hmv
  have hs:=okSpec_of hsv
  refine sk (th (sq (rg (lPA J J T.agg38 J (lPA J J T.agg25 J (cl (satj.Judge_ok m aS s aS) T.ent61 trivial fun N16 i16=>(sPA (cs':= [bl i16.1.holds,sl 2 pE i16.1.pairs,sl 1 nE i16.1.word,int i16.1.state]) J J J T.agg65 J J (ag (nl (th (rt ?_)))))))))))
  have hr0:(0:Int)=(fineSE m s):=by
   exact hc0.symm
  exact rE ⟨i16.1,⟨fun _=>i16.2,fun h=>absurd hc0 h⟩⟩ [.cell 4 65,.tmp 5] J [agg [bl i16.1.holds,sl 2 pE i16.1.pairs,sl 1 nE i16.1.word,int i16.1.state],int 0] ⟨.agg J J T.agg65 J J,.tmp J,tV⟩ (cA1 (fun x0=>rV [agg [bl i16.1.holds,sl 2 pE i16.1.pairs,sl 1 nE i16.1.word,int i16.1.state],int x0]) hr0) trivial eX
end satj
end
section
open ref01 ref03 ref04 ref06 prog prog2 prog3 prog6 prog13 starts Part Rungs LeftM TrimM RoundM MergeM BisM BisM4 BisM5 WalkM StepM WitM JudgM JudgM2 refw judg wit refj sysw divr divs divd dive divg divw divv divf divc divj divq divp divm diva LevM LevM2 ChsM QuoM FailM DivM QuoW RefM FitM PartM EncM TogM divt divx BrkM satj
theorem sat_judge {m:SSys} {s:SS} {v:VJ} (h:JudgeOK m s v):v.holds=satD m s:=by
 rw[Bool.eq_iff_iff,judge_iff h,satD_iff]
noncomputable def rightB (x:SSys) (t s:SS) (vh:Bool) (m:SSys):Bool:=decide (fineX x t s=0)&&(if vh=true then noneM m&&fitB x t s else partnerB m x t s)
theorem right_no {x:SSys} {t s:SS} {vh:Bool} {m:SSys} (h:¬fineX x t s=0):false=rightB x t s vh m:=by
 unfold rightB;rw[decide_eq_false h];rfl
theorem right_vh {x:SSys} {t s:SS} {vh:Bool} {m:SSys} (h:fineX x t s=0) (e:vh=true):(decide (((m.aC.length+m.sT.length:Nat):Int)=0)&&fitB x t s)=rightB x t s vh m:=by
 unfold rightB
 rw[decide_eq_true h,e]
 show _=(true&&(noneM m&&fitB x t s))
 have:decide (((m.aC.length+m.sT.length:Nat):Int)=0)=noneM m:=by
  unfold noneM
  rw[←Bool.decide_and,decide_eq_decide]
  omega
 rw[this];rfl
theorem right_pt {x:SSys} {t s:SS} {vh:Bool} {m:SSys} (h:fineX x t s=0) (e:vh=false):(((sysOK m&&decide (m.aC=s.aC))&&satD m s)&& !togB m x t)=rightB x t s vh m:=by
 unfold rightB
 rw[decide_eq_true h,e]
 show _=(true&&partnerB m x t s)
 unfold partnerB
 rw[Bool.and_assoc];rfl
namespace T
theorem mk141:MakeT Tryz.prog 141 139 3 24 [.int .i64 0,.int .i64 0,.int .i64 0]:=makeT_of kR kR
theorem sl141:IsSlice Tryz.prog 141 139 3:=isSlice_of kR
theorem flv49_0:FldV Tryz.prog 49 0 0 4:=fldV_of kR
theorem flv65_0:FldV Tryz.prog 65 0 0 4:=fldV_of kR
theorem ent62:Ent Tryz.prog 62:=ent_of kR
end T
namespace divb
theorem breaks_ok (m x:SSys) (t:SS) (hm:okSys m) (hx:okSys x) (ht:oK t) (hxa:x.aC.length=t.aC.length) (hz:m.sT.length*(x.sT.length*t.sT.length)≤1000000000):
 Fn0 Tryz.prog 62 [sys m,sys x,spec t] (bl (!togB m x t)):=by
 refine fnI Tryz.func62 rfl rfl (fun w0 F0=> ?_)
 have f0:=hm.few0;have f1:=hx.few0;have f2:=ht.few0;have f3:=hm.few1;have f4:=hx.few1;have f5:=ht.few1;have hm8:=hm.n8;have hx8:=hx.n8
 refine fcC (inhS 0 J) (fun hS0=> ?_)
 obtain⟨hma0,hms0,hme0⟩:=sys_lens hS0
 refine fcC (inhS 1 J) (fun hS1=> ?_)
 obtain⟨hma1,hms1,hme1⟩:=sys_lens hS1
 refine fcC (inhS 2 J) (fun hS2=> ?_)
 obtain⟨hsa2,hss2,hse2⟩:=sLn hS2
 refine sq (rg (bx (key:=3) (cs:= [sl 1 rE_ m.aC,sl 1 gE m.sT]) J fun b3=>(bx (key:=4) (cs:= [sl 1 rE_ x.aC,sl 1 gE x.sT]) J fun b4=>(bx (key:=5) (cs:= [sl 1 rE_ t.aC,sl 2 sE t.sT]) J fun b5=>(ag (nl (th (sq (rg (mkm (key:=16) (kE:=triV) (dom:=triD) (vE:=blV) fun b16=>(bd (css:= []) T.st139 (eC (eC (eC eZ))) trivial (AL.insert (q:=(0,0,0)) (u:=true) J J agg_tri J T.map140 (tri_dom ⟨O,O⟩ ⟨O,O⟩ ⟨O,O⟩) (mv (ag (nl (th (sq (rg (bd (css:= []) T.st139 (eC (eC (eC eZ))) trivial (bsO 20 (enc:=triE) (xs:= [(0,0,0)]) (css:= [[int 0,int 0,int 0]]) T.mk141 ⟨J,J,pA (cs:= [int 0,int 0,int 0]) J,tV⟩ J J J J fun v20=>(ag (nl (th (sq (sq (rg (ag (nl (th (bk ?_))))))))))))))))))))))))))))))
 have hI0_0:BW m x t 0 ([(0,0,0)]:List (Int × Int × Int)) (mset ([]:List ((Int × Int × Int) × Bool)) (0,0,0) true):=by
  exact bw_zero
 refine lp (κ:=Nat × Value × (List (Int × Int × Int)) × (List ((Int × Int × Int) × Bool))) (fun p=> [(3,ptr 3 b3 0),(4,ptr 4 b4 0),(5,ptr 5 b5 0),(7,mpv 16 b16),(8,osl 20 p.2.1),(9,int (p.1:Int))]) (fun p=> [(3,cell b3 [sl 1 rE_ m.aC,sl 1 gE m.sT]),(4,cell b4 [sl 1 rE_ x.aC,sl 1 gE x.sT]),(5,cell b5 [sl 1 rE_ t.aC,sl 2 sE t.sT]),(16,mp b16 triV triD blV p.2.2.2),(20,own p.2.1 139 3 triE p.2.2.1)]) (fun p=>BW m x t p.1 p.2.2.1 p.2.2.2) (fun p=>m.sT.length*(x.sT.length*t.sT.length)- p.1) ⟨0,v20,([(0,0,0)]:List (Int × Int × Int)),mset ([]:List ((Int × Int × Int) × Bool)) (0,0,0) true⟩ hI0_0 ⟨id,id,id,id,id,id,tV⟩ ⟨rI,rI,rI,rI,rI,tV⟩ ?_
 intro⟨i,v,l,mm⟩ hG0
 have hBW:BW m x t i l mm:=hG0
 show Ct _ _ _ _ [(3,ptr 3 b3 0),(4,ptr 4 b4 0),(5,ptr 5 b5 0),(7,mpv 16 b16),(8,osl 20 v),(9,int (i:Int))] [(3,cell b3 [sl 1 rE_ m.aC,sl 1 gE m.sT]),(4,cell b4 [sl 1 rE_ x.aC,sl 1 gE x.sT]),(5,cell b5 [sl 1 rE_ t.aC,sl 2 sE t.sT]),(16,mp b16 triV triD blV mm),(20,own v 139 3 triE l)] _
 have hlf:=bw_few hm hx ht hBW
 have hil:=bw_il hBW
 refine sq (sq (rg (mv (mv (lnO J J T.sl141 (bi J J b_lss (nl (th ?_))))))))
 refine cd J (fun hc0=> ?_) (fun hc0=> ?_)
 ·try simp at hc0
  obtain⟨hb0,hb1,hb2,hb3,hb4,hb5⟩:=bw_box hm hx ht hBW hc0
  have h8m:=off8 hm (x:=(ix l i).2.2.toNat) O
  have h8x:=off8 hx (x:=(ix l i).1.toNat) O
  have hom:0≤offE (ix m.sT (ix l i).2.2.toNat)∧offE (ix m.sT (ix l i).2.2.toNat)<256:=offE_lt h8m
  have hox:0≤offE (ix x.sT (ix l i).1.toNat)∧offE (ix x.sT (ix l i).1.toNat)<256:=offE_lt h8x
  have hst:=ht.st (ix l i).2.1.toNat O
  have htl:=hst.len
  have hacl:=hst.acl
  refine sk (th (sq (bk (sq (rg (mv (mv (iO J J J T.sl141 O O (lOA J J gB T.agg139 (by decide) (al (key:=10) T.z139 (eC (eC (eC eZ))) fun b10=>(sPA (cs':= [int ((ix l i).1),int ((ix l i).2.1),int ((ix l i).2.2)]) J J J T.agg139 J J (nl (th (sq (sq (dr (nh:=23) [0,1,0,4,15,31,0,64,0,256,960,1984,4032,0,8192,0,32768,122880,253952,524224,1048512,2097151,4194303] T.mixed kR ?_))))))))))))))))
  refine st_ J (fun _ _ _ gq kq=>fP (gq.1.trans J) T.fld25_1 kq) ?_
  refine st_ J (fun _ _ _ gq kq=>lP (gq.1.trans J) J J T.one23 kq) ?_
  refine st_ J (fun _ _ _ gq kq=>fP (gq.1.trans J) T.fld139_1 kq) ?_
  refine st_ J (fun _ _ _ gq kq=>lP (gq.1.trans J) J J T.one3 kq) ?_
  refine st_ J (fun _ _ _ gq kq=>iF (gq.1.trans J) (gq.2.1.trans J) T.sl23 O gB kq) ?_
  refine st_ J (fun _ _ _ gq kq=>lFA (gq.1.trans J) T.agg72 (Nat.le_of_ble_eq_true J) kq) ?_
  refine st_ J (fun _ _ _ gq kq=>fP (gq.1.trans J) T.fld38_1 kq) ?_
  refine st_ J (fun _ _ _ gq kq=>lP (gq.1.trans J) J J T.one36 kq) ?_
  refine st_ J (fun _ _ _ gq kq=>fP (gq.1.trans J) T.fld139_2 kq) ?_
  refine st_ J (fun _ _ _ gq kq=>lP (gq.1.trans J) J J T.one3 kq) ?_
  refine st_ J (fun _ _ _ gq kq=>iF (gq.1.trans J) (gq.2.1.trans J) T.sl36 O gB kq) ?_
  refine st_ J (fun _ _ _ gq kq=>lF (gq.1.trans J) J T.one88 kq) ?_
  refine st_ J (fun _ _ _ gq kq=>cal0 (φs:= [sl 2 pE (ix m.sT ((ix l i).2.2).toNat)]) (φ:=int (offE (ix m.sT ((ix l i).2.2).toNat))) ⟨(gq.1.trans J),tV⟩ (sysw.Offers_ok (ix m.sT ((ix l i).2.2).toNat) aS) T.ent93 kq) ?_
  refine st_ J (fun _ _ _ gq kq=>fP (gq.1.trans J) T.fld38_1 kq) ?_
  refine st_ J (fun _ _ _ gq kq=>lP (gq.1.trans J) J J T.one36 kq) ?_
  refine st_ J (fun _ _ _ gq kq=>fP (gq.1.trans J) T.fld139_0 kq) ?_
  refine st_ J (fun _ _ _ gq kq=>lP (gq.1.trans J) J J T.one3 kq) ?_
  refine st_ J (fun _ _ _ gq kq=>iF (gq.1.trans J) (gq.2.1.trans J) T.sl36 O gB kq) ?_
  refine st_ J (fun _ _ _ gq kq=>lF (gq.1.trans J) J T.one88 kq) ?_
  refine st_ J (fun _ _ _ gq kq=>cal0 (φs:= [sl 2 pE (ix x.sT ((ix l i).1).toNat)]) (φ:=int (offE (ix x.sT ((ix l i).1).toNat))) ⟨(gq.1.trans J),tV⟩ (sysw.Offers_ok (ix x.sT ((ix l i).1).toNat) aS) T.ent93 kq) ?_
  refine st_ J (fun _ _ _ gq kq=>bi (gq.1.trans J) (gq.2.1.trans J) (b_andI O O O O) kq) ?_
  refine st_ J (fun _ _ _ gq kq=>cal0 (φs:= [agg [sl 1 nE (ix t.sT ((ix l i).2.1).toNat).aP,sl 1 nE (ix t.sT ((ix l i).2.1).toNat).next],int (((offE (ix m.sT ((ix l i).2.2).toNat)).toNat&&&(offE (ix x.sT ((ix l i).1).toNat)).toNat:Nat):Int)]) (φ:=bl (decide ((((offE (ix m.sT ((ix l i).2.2).toNat)).toNat&&&(offE (ix x.sT ((ix l i).1).toNat)).toNat:Nat):Int)∈(ix t.sT ((ix l i).2.1).toNat).aP))) ⟨(gq.1.trans J),(gq.2.1.trans J),tV⟩ (search.Accepts_ok (ix t.sT ((ix l i).2.1).toNat) hst.rise (((offE (ix m.sT ((ix l i).2.2).toNat)).toNat&&&(offE (ix x.sT ((ix l i).1).toNat)).toNat:Nat):Int)) T.ent92 kq) ?_
  refine st_ J (fun _ _ _ gq kq=>no (gq.1.trans J) kq) ?_
  refine pn (nl (th ?_))
  refine cd J (fun hc1=> ?_) (fun hc1=> ?_)
  ·skip
   have hbd:BadT m x t (pm (ix l i)):=by
    unfold BadT andI pm
    simpa using hc1
   refine sq (rg (ag (nl (th (rt (rt_ (rb (rt_ (rt_ (rb (rt_ ?_)))))))))))
   have hr0:true=(!togB m x t):=by
    have h:=bw_no hBW hc0 hbd
    have h2:togB m x t=false:=Bool.eq_false_iff.2 (fun g=>h (togB_iff.1 g))
    simp[h2]
   exact rE () [.tmp 6] J [bl true] ⟨.tmp J,tV⟩ (cA1 (fun x0=>rV [bl x0]) hr0) trivial eX
  ·skip
   have hnb:¬BadT m x t (pm (ix l i)):=by
    unfold BadT andI pm
    simpa using hc1
   refine sk (th (sq (rg (fP J T.fld38_1 (lP J J J T.one36 (fP J T.fld139_2 (lP J J J T.one3 (iF J J T.sl36 O gB (lF J J T.one88 (fc (slenI 59 J) fun hm59=>(lnF J T.sl88 (mv (nl (th (bk ?_)))))))))))))))
   have hI1_0:0≤(ix m.sT ((ix l i).2.2).toNat).length:=by
    first|omega|simp
   have hI1_1:BN m x t i l 0 0 l mm:=by
    exact bn_zero hBW
   refine lp (κ:=Nat × Value × (List (Int × Int × Int)) × (List ((Int × Int × Int) × Bool))) (fun p=> [(3,ptr 3 b3 0),(4,ptr 4 b4 0),(5,ptr 5 b5 0),(7,mpv 16 b16),(8,osl 20 p.2.1),(9,int (i:Int)),(10,ptr 10 b10 0),(59,sl 2 pE (ix m.sT ((ix l i).2.2).toNat)),(60,int ((ix m.sT ((ix l i).2.2).toNat).length:Int)),(61,int (p.1:Int))]) (fun p=> [(3,cell b3 [sl 1 rE_ m.aC,sl 1 gE m.sT]),(4,cell b4 [sl 1 rE_ x.aC,sl 1 gE x.sT]),(5,cell b5 [sl 1 rE_ t.aC,sl 2 sE t.sT]),(10,cell b10 [int ((ix l i).1),int ((ix l i).2.1),int ((ix l i).2.2)]),(16,mp b16 triV triD blV p.2.2.2),(20,own p.2.1 139 3 triE p.2.2.1)]) (fun p=>(p.1≤(ix m.sT ((ix l i).2.2).toNat).length)∧(BN m x t i l p.1 0 p.2.2.1 p.2.2.2)) (fun p=>(ix m.sT ((ix l i).2.2).toNat).length- p.1) ⟨0,v,l,mm⟩ ⟨hI1_0,hI1_1⟩ ⟨id,id,id,id,id,id,id,id,id,id,tV⟩ ⟨rI,rI,rI,rI,rI,rI,tV⟩ ?_
   intro⟨k1,v1,l1,mm1⟩ hG1
   obtain⟨hk1,hBN1⟩:(k1≤(ix m.sT ((ix l i).2.2).toNat).length)∧(BN m x t i l k1 0 l1 mm1):=hG1
   show Ct _ _ _ _ [(3,ptr 3 b3 0),(4,ptr 4 b4 0),(5,ptr 5 b5 0),(7,mpv 16 b16),(8,osl 20 v1),(9,int (i:Int)),(10,ptr 10 b10 0),(59,sl 2 pE (ix m.sT ((ix l i).2.2).toNat)),(60,int ((ix m.sT ((ix l i).2.2).toNat).length:Int)),(61,int (k1:Int))] [(3,cell b3 [sl 1 rE_ m.aC,sl 1 gE m.sT]),(4,cell b4 [sl 1 rE_ x.aC,sl 1 gE x.sT]),(5,cell b5 [sl 1 rE_ t.aC,sl 2 sE t.sT]),(10,cell b10 [int ((ix l i).1),int ((ix l i).2.1),int ((ix l i).2.2)]),(16,mp b16 triV triD blV mm1),(20,own v1 139 3 triE l1)] _
   have hlf1:=bn_few hm hx ht hBN1
   refine sq (rg (bi J J b_lss (nl (th (sq ?_)))))
   refine cd J (fun hc2=> ?_) (fun hc2=> ?_)
   ·try simp at hc2
    have hdm:(ix (ix m.sT (ix l i).2.2.toNat) k1)∈edg m (ix l i).2.2.toNat:=ix_memS hc2
    have hdd:0≤(ix (ix m.sT (ix l i).2.2.toNat) k1).1∧(ix (ix m.sT (ix l i).2.2.toNat) k1).1<(m.aC.length:Int)∧0≤(ix (ix m.sT (ix l i).2.2.toNat) k1).2∧(ix (ix m.sT (ix l i).2.2.toNat) k1).2<(m.sT.length:Int):=hm.ed _ O _ hdm
    refine sk (th (sq (bk (sq (rg (iF J J T.sl88 O gB (lFA J T.agg94 (Nat.le_of_ble_eq_true J) (al (key:=12) T.z94 (eC (eC eZ)) fun b12=>(sPA (cs':= [int ((ix (ix m.sT ((ix l i).2.2).toNat) k1).1),int ((ix (ix m.sT ((ix l i).2.2).toNat) k1).2)]) J J J T.agg94 J J (nl (th (sq (rg (fP J T.fld38_1 (lP J J J T.one36 (fP J T.fld139_0 (lP J J J T.one3 (iF J J T.sl36 O gB (lF J J T.one88 (fc (slenI 70 J) fun hm70=>(lnF J T.sl88 (mv (nl (th (bk ?_)))))))))))))))))))))))))
    have hI2_0:0≤(ix x.sT ((ix l i).1).toNat).length:=by
     first|omega|simp
    have hI2_1:BN m x t i l k1 0 l1 mm1:=by
     exact hBN1
    refine lp (κ:=Nat × Value × (List (Int × Int × Int)) × (List ((Int × Int × Int) × Bool))) (fun p=> [(3,ptr 3 b3 0),(4,ptr 4 b4 0),(5,ptr 5 b5 0),(7,mpv 16 b16),(8,osl 20 p.2.1),(9,int (i:Int)),(10,ptr 10 b10 0),(12,ptr 12 b12 0),(59,sl 2 pE (ix m.sT ((ix l i).2.2).toNat)),(60,int ((ix m.sT ((ix l i).2.2).toNat).length:Int)),(61,int (k1:Int)),(70,sl 2 pE (ix x.sT ((ix l i).1).toNat)),(71,int ((ix x.sT ((ix l i).1).toNat).length:Int)),(72,int (p.1:Int))]) (fun p=> [(3,cell b3 [sl 1 rE_ m.aC,sl 1 gE m.sT]),(4,cell b4 [sl 1 rE_ x.aC,sl 1 gE x.sT]),(5,cell b5 [sl 1 rE_ t.aC,sl 2 sE t.sT]),(10,cell b10 [int ((ix l i).1),int ((ix l i).2.1),int ((ix l i).2.2)]),(12,cell b12 [int ((ix (ix m.sT ((ix l i).2.2).toNat) k1).1),int ((ix (ix m.sT ((ix l i).2.2).toNat) k1).2)]),(16,mp b16 triV triD blV p.2.2.2),(20,own p.2.1 139 3 triE p.2.2.1)]) (fun p=>(p.1≤(ix x.sT ((ix l i).1).toNat).length)∧(BN m x t i l k1 p.1 p.2.2.1 p.2.2.2)) (fun p=>(ix x.sT ((ix l i).1).toNat).length- p.1) ⟨0,v1,l1,mm1⟩ ⟨hI2_0,hI2_1⟩ ⟨id,id,id,id,id,id,id,id,id,id,id,id,id,id,tV⟩ ⟨rI,rI,rI,rI,rI,rI,rI,tV⟩ ?_
    intro⟨k2,v2,l2,mm2⟩ hG2
    obtain⟨hk2,hBN2⟩:(k2≤(ix x.sT ((ix l i).1).toNat).length)∧(BN m x t i l k1 k2 l2 mm2):=hG2
    show Ct _ _ _ _ [(3,ptr 3 b3 0),(4,ptr 4 b4 0),(5,ptr 5 b5 0),(7,mpv 16 b16),(8,osl 20 v2),(9,int (i:Int)),(10,ptr 10 b10 0),(12,ptr 12 b12 0),(59,sl 2 pE (ix m.sT ((ix l i).2.2).toNat)),(60,int ((ix m.sT ((ix l i).2.2).toNat).length:Int)),(61,int (k1:Int)),(70,sl 2 pE (ix x.sT ((ix l i).1).toNat)),(71,int ((ix x.sT ((ix l i).1).toNat).length:Int)),(72,int (k2:Int))] [(3,cell b3 [sl 1 rE_ m.aC,sl 1 gE m.sT]),(4,cell b4 [sl 1 rE_ x.aC,sl 1 gE x.sT]),(5,cell b5 [sl 1 rE_ t.aC,sl 2 sE t.sT]),(10,cell b10 [int ((ix l i).1),int ((ix l i).2.1),int ((ix l i).2.2)]),(12,cell b12 [int ((ix (ix m.sT ((ix l i).2.2).toNat) k1).1),int ((ix (ix m.sT ((ix l i).2.2).toNat) k1).2)]),(16,mp b16 triV triD blV mm2),(20,own v2 139 3 triE l2)] _
    have hlf2:=bn_few hm hx ht hBN2
    refine sq (rg (bi J J b_lss (nl (th (sq ?_)))))
    refine cd J (fun hc3=> ?_) (fun hc3=> ?_)
    ·try simp at hc3
     have hee:(ix (ix x.sT (ix l i).1.toNat) k2)∈edg x (ix l i).1.toNat:=ix_memS hc3
     have hed:0≤(ix (ix x.sT (ix l i).1.toNat) k2).1∧(ix (ix x.sT (ix l i).1.toNat) k2).1<(x.aC.length:Int)∧0≤(ix (ix x.sT (ix l i).1.toNat) k2).2∧(ix (ix x.sT (ix l i).1.toNat) k2).2<(x.sT.length:Int):=hx.ed _ O _ hee
     have htn:=hst.nx (ix (ix x.sT (ix l i).1.toNat) k2).1.toNat O
     refine sk (th (sq (bk (sq (rg (iF J J T.sl88 O gB (lFA J T.agg94 (Nat.le_of_ble_eq_true J) (al (key:=14) T.z94 (eC (eC eZ)) fun b14=>(sPA (cs':= [int ((ix (ix x.sT ((ix l i).1).toNat) k2).1),int ((ix (ix x.sT ((ix l i).1).toNat) k2).2)]) J J J T.agg94 J J (nl (th (sq ?_))))))))))))
     refine drH (nh:=18) [0,1,0,4,0,16,60,124,252,0,512,2044,4092,0,8192,32767,0,131071] [(none,[]),(none,[14]),(none,[]),(none,[5]),(none,[]),(none,[10]),(none,[]),(none,[]),(none,[]),(none,[]),(none,[14]),(none,[]),(none,[]),(none,[]),(none,[12]),(none,[]),(some 15,[]),(some 15,[15])] T.mixed kR kR ?_
     refine stv (d:=76) (fun β0=>ptr 14 b14 1) [] J (fun β β' hb=>J) (fun β0 _ _ _ _ gq gh kq=>fP (gq.1.trans J) T.fld94_1 kq) ?_
     refine stv (d:=77) (fun β0=>int ((ix (ix x.sT ((ix l i).1).toNat) k2).2)) [14] J (fun β β' hb=>J) (fun β0 _ _ _ _ gq gh kq=>lP (gq.1.trans J) (gh.1.trans J) J T.one3 kq) ?_
     refine stv (d:=78) (fun β0=>ptr 5 b5 1) [] J (fun β β' hb=>J) (fun β0 _ _ _ _ gq gh kq=>fP (gq.1.trans J) T.fld25_1 kq) ?_
     refine stv (d:=79) (fun β0=>sl 2 sE t.sT) [5] J (fun β β' hb=>J) (fun β0 _ _ _ _ gq gh kq=>lP (gq.1.trans J) (gh.1.trans J) J T.one23 kq) ?_
     refine stv (d:=80) (fun β0=>ptr 10 b10 1) [] J (fun β β' hb=>J) (fun β0 _ _ _ _ gq gh kq=>fP (gq.1.trans J) T.fld139_1 kq) ?_
     refine stv (d:=81) (fun β0=>int ((ix l i).2.1)) [10] J (fun β β' hb=>J) (fun β0 _ _ _ _ gq gh kq=>lP (gq.1.trans J) (gh.1.trans J) J T.one3 kq) ?_
     refine stv (d:=82) (fun β0=>fp [sl 1 nE (ix t.sT ((ix l i).2.1).toNat).aP,sl 1 nE (ix t.sT ((ix l i).2.1).toNat).next]) [] J (fun β β' hb=>J) (fun β0 _ _ _ _ gq gh kq=>iF (gq.1.trans J) (gq.2.1.trans J) T.sl23 O gB kq) ?_
     refine stv (d:=83) (fun β0=>fp [sl 1 nE (ix t.sT ((ix l i).2.1).toNat).next]) [] J (fun β β' hb=>J) (fun β0 _ _ _ _ gq gh kq=>fF (gq.1.trans J) T.fld72_1 kq) ?_
     refine stv (d:=84) (fun β0=>sl 1 nE (ix t.sT ((ix l i).2.1).toNat).next) [] J (fun β β' hb=>J) (fun β0 _ _ _ _ gq gh kq=>lF (gq.1.trans J) J T.one63 kq) ?_
     refine stv (d:=85) (fun β0=>ptr 14 b14 0) [] J (fun β β' hb=>J) (fun β0 _ _ _ _ gq gh kq=>fP (gq.1.trans J) T.fld94_0 kq) ?_
     refine stv (d:=86) (fun β0=>int ((ix (ix x.sT ((ix l i).1).toNat) k2).1)) [14] J (fun β β' hb=>J) (fun β0 _ _ _ _ gq gh kq=>lP (gq.1.trans J) (gh.1.trans J) J T.one3 kq) ?_
     refine stv (d:=87) (fun β0=>fp [int (ix (ix t.sT ((ix l i).2.1).toNat).next ((ix (ix x.sT ((ix l i).1).toNat) k2).1).toNat)]) [] J (fun β β' hb=>J) (fun β0 _ _ _ _ gq gh kq=>iF (gq.1.trans J) (gq.2.1.trans J) T.sl63 O gB kq) ?_
     refine stv (d:=88) (fun β0=>int (ix (ix t.sT ((ix l i).2.1).toNat).next ((ix (ix x.sT ((ix l i).1).toNat) k2).1).toNat)) [] J (fun β β' hb=>J) (fun β0 _ _ _ _ gq gh kq=>lF (gq.1.trans J) J T.one3 kq) ?_
     refine stv (d:=89) (fun β0=>ptr 12 b12 1) [] J (fun β β' hb=>J) (fun β0 _ _ _ _ gq gh kq=>fP (gq.1.trans J) T.fld94_1 kq) ?_
     refine stv (d:=90) (fun β0=>int ((ix (ix m.sT ((ix l i).2.2).toNat) k1).2)) [12] J (fun β β' hb=>J) (fun β0 _ _ _ _ gq gh kq=>lP (gq.1.trans J) (gh.1.trans J) J T.one3 kq) ?_
     refine stv (d:=91) (fun β0=>agg [int ((ix (ix x.sT ((ix l i).1).toNat) k2).2),int (ix (ix t.sT ((ix l i).2.1).toNat).next ((ix (ix x.sT ((ix l i).1).toNat) k2).1).toNat),int ((ix (ix m.sT ((ix l i).2.2).toNat) k1).2)]) [] J (fun β β' hb=>J) (fun β0 _ _ _ _ gq gh kq=>bd (css:= [(0,_),(1,_),(2,_)]) T.st139 (eC (eC (eC eZ))) ⟨J,J,p1 (φ:=int ((ix (ix x.sT ((ix l i).1).toNat) k2).2)) (by exact(gq.1.trans J)),⟨J,J,p1 (φ:=int (ix (ix t.sT ((ix l i).2.1).toNat).next ((ix (ix x.sT ((ix l i).1).toNat) k2).1).toNat)) (by exact(gq.2.1.trans J)),⟨J,J,p1 (φ:=int ((ix (ix m.sT ((ix l i).2.2).toNat) k1).2)) (by exact(gq.2.2.1.trans J)),tV⟩⟩⟩ kq) ?_
     refine sta 15 T.z139 (eC (eC (eC eZ))) ?_
     refine stw 15 (fun β0=>cell (gbk (β0 16)) [int ((ix (ix x.sT ((ix l i).1).toNat) k2).2),int (ix (ix t.sT ((ix l i).2.1).toNat).next ((ix (ix x.sT ((ix l i).1).toNat) k2).1).toNat),int ((ix (ix m.sT ((ix l i).2.2).toNat) k1).2)]) [15] J (fun β β' hb=>by first|rw[hb 16 J]|(dsimp only;rw[hb 16 J])) (fun β0 _ _ _ _ gq gh kq=>sPA (cs':= [int ((ix (ix x.sT ((ix l i).1).toNat) k2).2),int (ix (ix t.sT ((ix l i).2.1).toNat).next ((ix (ix x.sT ((ix l i).1).toNat) k2).1).toNat),int ((ix (ix m.sT ((ix l i).2.2).toNat) k1).2)]) (gq.1.trans J) (gh.1.trans J) (gq.2.1.trans J) T.agg139 J J kq) ?_
     refine pnH fun β0=>(nl (th (sq (rg (fP J T.fld94_0 (lP J J J T.one3 (fP J T.fld94_0 (lP J J J T.one3 (bi J J b_eql (mv ?_))))))))))
     apply gAnd (t:=97) (pd:=102) rfl
     rotate_left
     ·intro hg0 fin
      have hg0':=hg0
      try simp at hg0'
      exact gy J J J hg0 (mv (gy J J J hg0 (lPA J J T.agg139 J (gy J J J hg0 (lookup (z:=false) (q:=((ix (ix x.sT ((ix l i).1).toNat) k2).2,ix (ix t.sT ((ix l i).2.1).toNat).next ((ix (ix x.sT ((ix l i).1).toNat) k2).1).toNat,(ix (ix m.sT ((ix l i).2.2).toNat) k1).2)) J J agg_tri T.map140 (tri_dom ⟨O,O⟩ ⟨O,O⟩ ⟨O,O⟩) T.zvb4 (gy J J J hg0 (no J (pkT J hg0 J (drp (X:= [(101,_),(100,_),(99,_),(98,_)]) ⟨J,J,J,J,tV⟩ fin)))))))))
     ·intro hg0 fin
      exact gn J J J hg0 J J (gn J J J hg0 J J (gn J J J hg0 J J (gn J J J hg0 J J (pkF J hg0 J (drp (X:= [(101,_),(100,_),(99,_),(98,_)]) ⟨J,J,J,J,tV⟩ fin)))))
     refine nl (th ?_)
     refine cd J (fun hc4=> ?_) (fun hc4=> ?_)
     ·try simp at hc4
      refine sq (rg (mv (lPA J J T.agg139 J (mapUpdate (q:=((ix (ix x.sT ((ix l i).1).toNat) k2).2,ix (ix t.sT ((ix l i).2.1).toNat).next ((ix (ix x.sT ((ix l i).1).toNat) k2).1).toNat,(ix (ix m.sT ((ix l i).2.2).toNat) k1).2)) (u:=true) J J agg_tri J T.map140 (tri_dom ⟨O,O⟩ ⟨O,O⟩ ⟨O,O⟩) (nl (th (rg (mv (lPA J J T.agg139 J (bsE (enc:=triE) (xs:= [((ix (ix x.sT ((ix l i).1).toNat) k2).2,ix (ix t.sT ((ix l i).2.1).toNat).next ((ix (ix x.sT ((ix l i).1).toNat) k2).1).toNat,(ix (ix m.sT ((ix l i).2.2).toNat) k1).2)]) (css:= [[int ((ix (ix x.sT ((ix l i).1).toNat) k2).2),int (ix (ix t.sT ((ix l i).2.1).toNat).next ((ix (ix x.sT ((ix l i).1).toNat) k2).1).toNat),int ((ix (ix m.sT ((ix l i).2.2).toNat) k1).2)]]) T.mk141 ⟨J,J,pA (cs:= [int ((ix (ix x.sT ((ix l i).1).toNat) k2).2),int (ix (ix t.sT ((ix l i).2.1).toNat).next ((ix (ix x.sT ((ix l i).1).toNat) k2).1).toNat),int ((ix (ix m.sT ((ix l i).2.2).toNat) k1).2)]) J,tV⟩ J J J J (ap (key:=20) (zs:= [((ix (ix x.sT ((ix l i).1).toNat) k2).2,ix (ix t.sT ((ix l i).2.1).toNat).next ((ix (ix x.sT ((ix l i).1).toNat) k2).1).toNat,(ix (ix m.sT ((ix l i).2.2).toNat) k1).2)]) osl_eq J J J T.mk141 (by unfold maxL at*;simp;omega) (by unfold maxL at*;simp;omega) fun v108=>(ag (nl (eb (th (rg (bi J J (b_add i6) (mv (nl ?_)))))))))))))))))))
      have hN0:(k2+1)≤(ix x.sT ((ix l i).1).toNat).length:=by
       first|omega|simp_all
      have hN1:BN m x t i l k1 (k2+1) (l2++ [((ix (ix x.sT ((ix l i).1).toNat) k2).2,ix (ix t.sT ((ix l i).2.1).toNat).next ((ix (ix x.sT ((ix l i).1).toNat) k2).1).toNat,(ix (ix m.sT ((ix l i).2.2).toNat) k1).2)]) (mset mm2 ((ix (ix x.sT ((ix l i).1).toNat) k2).2,ix (ix t.sT ((ix l i).2.1).toNat).next ((ix (ix x.sT ((ix l i).1).toNat) k2).1).toNat,(ix (ix m.sT ((ix l i).2.2).toNat) k1).2) true):=by
       exact bn_push hBW hBN2 hc0 hnb hc2 hc3 hc4.1 hc4.2
      exact ln (⟨k2+1,v108,l2++ [((ix (ix x.sT ((ix l i).1).toNat) k2).2,ix (ix t.sT ((ix l i).2.1).toNat).next ((ix (ix x.sT ((ix l i).1).toNat) k2).1).toNat,(ix (ix m.sT ((ix l i).2.2).toNat) k1).2)],mset mm2 ((ix (ix x.sT ((ix l i).1).toNat) k2).2,ix (ix t.sT ((ix l i).2.1).toNat).next ((ix (ix x.sT ((ix l i).1).toNat) k2).1).toNat,(ix (ix m.sT ((ix l i).2.2).toNat) k1).2) true⟩:Nat × Value × (List (Int × Int × Int)) × (List ((Int × Int × Int) × Bool))) ⟨hN0,hN1⟩ dO ⟨id,id,id,id,id,id,id,id,id,id,id,id,id,id,tV⟩ ⟨rI,rI,rI,rI,rI,rI,rI,tV⟩
     ·try simp at hc4
      refine sk (eb (th (rg (bi J J (b_add i6) (mv (nl ?_))))))
      have hN0:(k2+1)≤(ix x.sT ((ix l i).1).toNat).length:=by
       first|omega|simp_all
      have hN1:BN m x t i l k1 (k2+1) l2 mm2:=by
       exact bn_skip hBN2 hc0 hc3 hc4
      exact ln (⟨k2+1,v2,l2,mm2⟩:Nat × Value × (List (Int × Int × Int)) × (List ((Int × Int × Int) × Bool))) ⟨hN0,hN1⟩ dO ⟨id,id,id,id,id,id,id,id,id,id,id,id,id,id,tV⟩ ⟨rI,rI,rI,rI,rI,rI,rI,tV⟩
    ·try simp at hc3
     refine ex (xt_ (xt_ (xb (eb (th (rg (bi J J (b_add i6) (mv (nl ?_)))))))))
     have hN0:(k1+1)≤(ix m.sT ((ix l i).2.2).toNat).length:=by
      first|omega|simp_all
     have hN1:BN m x t i l (k1+1) 0 l2 mm2:=by
      exact bn_row hBN2 hc0 hc2 (by show(ix x.sT (ix l i).1.toNat).length≤k2;omega)
     exact ln (⟨k1+1,v2,l2,mm2⟩:Nat × Value × (List (Int × Int × Int)) × (List ((Int × Int × Int) × Bool))) ⟨hN0,hN1⟩ dO ⟨id,id,id,id,id,id,id,id,id,id,tV⟩ ⟨rI,rI,rI,rI,rI,rI,tV⟩
   ·try simp at hc2
    refine ex (xt_ (xt_ (xb (eb (th (rg (mv (bi J J (b_add i6) (ag (nl ?_))))))))))
    have hN0:BW m x t (i+1) l1 mm1:=by
     exact bn_end hBW hBN1 hc0 hnb (by show(ix m.sT (ix l i).2.2.toNat).length≤k1;omega)
    exact ln (⟨i+1,v1,l1,mm1⟩:Nat × Value × (List (Int × Int × Int)) × (List ((Int × Int × Int) × Bool))) hN0 dO ⟨id,id,id,id,id,id,tV⟩ ⟨rI,rI,rI,rI,rI,tV⟩
 ·try simp at hc0
  refine ex (xt_ (xt_ (xb (th (sq (rg (ag (nl (th (rt ?_))))))))))
  have hr0:false=(!togB m x t):=by
   have h2:=togB_iff.2 (bw_yes hBW O)
   simp[h2]
  exact rE () [.tmp 6] J [bl false] ⟨.tmp J,tV⟩ (cA1 (fun x0=>rV [bl x0]) hr0) trivial eX
theorem Right_ok (x:SSys) (t s:SS) (vh:Bool) (m:SSys) (htm:smallSpec t) (hsm:smallSpec s) (hz:x.sT.length*(t.sT.length*s.sT.length)≤1000000000) (hz2:sysOK m=true→m.sT.length*(x.sT.length*t.sT.length)≤1000000000):
 Fn0 Tryz.prog 31 [sys x,spec t,spec s,agg [bl vh,strs m.aC,sl 1 gE m.sT]] (tup [bl (rightB x t s vh m),int (fineX x t s)]):=by
 refine fnI Tryz.func31 rfl rfl (fun w0 F0=> ?_)
 refine fcC (inhS 0 J) (fun hS0=> ?_)
 obtain⟨hma0,hms0,hme0⟩:=sys_lens hS0
 refine fcC (inhS 1 J) (fun hS1=> ?_)
 obtain⟨hsa1,hss1,hse1⟩:=sLn hS1
 refine fcC (inhS 2 J) (fun hS2=> ?_)
 obtain⟨hsa2,hss2,hse2⟩:=sLn hS2
 refine sq (rg (bx (key:=4) (cs:= [sl 1 rE_ x.aC,sl 1 gE x.sT]) J fun b4=>(bx (key:=5) (cs:= [sl 1 rE_ t.aC,sl 2 sE t.sT]) J fun b5=>(bx (key:=6) (cs:= [sl 1 rE_ s.aC,sl 2 sE s.sT]) J fun b6=>(bx (key:=7) (cs:= [bl vh,sl 1 rE_ m.aC,sl 1 gE m.sT]) J fun b7=>(ag (ag (nl (th (sq (sq (rg (lPA J J T.agg38 J (lPA J J T.agg25 J (lPA J J T.agg25 J (cal0 (φs:= [agg [sl 1 rE_ x.aC,sl 1 gE x.sT],agg [sl 1 rE_ t.aC,sl 2 sE t.sT],agg [sl 1 rE_ s.aC,sl 2 sE s.sT]]) (φ:=int (fineX x t s)) ⟨J,J,J,tV⟩ (divv.fine_ok x t s aS aS) T.ent56 (ag (nl (th (sq (rg (mv (bi J J b_neq (nl (th ?_)))))))))))))))))))))))))
 refine cd J (fun hc0=> ?_) (fun hc0=> ?_)
 ·try simp at hc0
  refine sq (rg (mv (ag (ag (nl (th (rt (rt_ ?_))))))))
  have hr0:false=(rightB x t s vh m):=by
   first|rfl|exact right_no hc0
  exact rE () [.tmp 8,.tmp 9] J [bl false,int (fineX x t s)] ⟨.tmp J,.tmp J,tV⟩ (cA1 (fun x0=>rV [bl x0,int (fineX x t s)]) hr0) trivial eX
 ·try simp at hc0
  have hfz:fineX x t s=0:=hc0
  obtain⟨hxv,htv,hsv,hxt,hts⟩:=fineX_ok hfz
  have hx:=sysOK_ok hxv
  have ht:=okSpec_of htv
  have hs:=okSpec_of hsv
  refine sk (th (sq (rg (fP J T.fld49_1 (lPA J J T.agg38 J (al (key:=11) T.z38 (eC (eC eZ)) fun b11=>(sPA (cs':= [sl 1 rE_ m.aC,sl 1 gE m.sT]) J J J T.agg38 J J (nl (th (sq (sq (rg (fP J T.fld49_0 (lP J J J T.one4 (nl (th ?_))))))))))))))))
  refine cd J (fun hc1=> ?_) (fun hc1=> ?_)
  ·try simp at hc1
   refine sq (rg (fP J T.fld38_0 (lP J J J T.one22 (fc (slenI 24 J) fun hm24=>(lnF J T.sl22 (fP J T.fld38_1 (lP J J J T.one36 (fc (slenI 27 J) fun hm27=>(lnF J T.sl36 (bi J J (b_add i6) (bi J J b_eql (mv ?_))))))))))))
   apply gAnd (t:=31) (pd:=37) rfl
   rotate_left
   ·intro hg0 fin
    have hg0':=hg0
    try simp at hg0'
    exact gy J J J hg0 (lPA J J T.agg38 J (gy J J J hg0 (lPA J J T.agg25 J (gy J J J hg0 (lPA J J T.agg25 J (gy J J J hg0 (cl (divj.judge_ok x t s aS aS aS aS aS aS) T.ent57 trivial fun N35 i35=>(gy J J J hg0 (fld1 J T.flv49_0 T.one4 J (kn 36 (bl (fitB x t s)) J (by rw[jdg_fit i35.2];exact fun h=>h) (pkT J hg0 J (drp (X:= [(36,_),(36,_),(35,_),(34,_),(33,_),(32,_)]) ⟨J,J,J,J,J,J,tV⟩ fin))))))))))))
   ·intro hg0 fin
    exact gn J J J hg0 J J (gn J J J hg0 J J (gn J J J hg0 J J (gn J J J hg0 J J (gn J J J hg0 J J (pkF J hg0 J (drp (X:= [(36,_),(35,_),(34,_),(33,_),(32,_)]) ⟨J,J,J,J,J,tV⟩ fin))))))
   refine ag (ag (nl (th (rt (rt_ ?_)))))
   have hr0:((decide (((m.aC.length+m.sT.length:Nat):Int)=0))&&(fitB x t s))=(rightB x t s vh m):=by
    first|exact hfz.symm|exact right_vh hfz hc1
   have hr1:(0:Int)=(fineX x t s):=by
    first|exact hfz.symm|exact right_vh hfz hc1
   exact rE () [.tmp 8,.tmp 9] J [bl ((decide (((m.aC.length+m.sT.length:Nat):Int)=0))&&(fitB x t s)),int 0] ⟨.tmp J,.tmp J,tV⟩ (cA2 (fun x0 x1=>rV [bl x0,int x1]) hr0 hr1) trivial eX
  ·try simp at hc1
   refine sk (th (sq (rg (lPA J J T.agg38 J (cal0 (φs:= [agg [sl 1 rE_ m.aC,sl 1 gE m.sT]]) (φ:=bl (sysOK m)) ⟨J,tV⟩ (sysw.Valid_ok m) T.ent59 (mv ?_))))))
   apply gAnd (t:=40) (pd:=46) rfl
   rotate_left
   ·intro hg1 fin
    have hg1':=hg1
    try simp at hg1'
    have hmv:sysOK m=true:=hg1
    have hm:=sysOK_ok hmv
    exact gy J J J hg1 (fP J T.fld38_0 (gy J J J hg1 (lP J J J T.one22 (gy J J J hg1 (fP J T.fld25_0 (gy J J J hg1 (lP J J J T.one22 (gy J J J hg1 (cal0 (φs:= [sl 1 rE_ m.aC,sl 1 rE_ s.aC]) (φ:=bl (decide (m.aC=s.aC))) ⟨J,J,tV⟩ (prog.sEqualstrE_ok _ _) T.ent60 (pkT J hg1 J (drp (X:= [(45,_),(44,_),(43,_),(42,_),(41,_)]) ⟨J,J,J,J,J,tV⟩ fin)))))))))))
   ·intro hg1 fin
    exact gn J J J hg1 J J (gn J J J hg1 J J (gn J J J hg1 J J (gn J J J hg1 J J (gn J J J hg1 J J (pkF J hg1 J (drp (X:= [(45,_),(44,_),(43,_),(42,_),(41,_)]) ⟨J,J,J,J,J,tV⟩ fin))))))
   refine mv ?_
   apply gAnd (t:=47) (pd:=52) rfl
   rotate_left
   ·intro hg2 fin
    have hg2':=hg2
    try simp at hg2'
    have hmv:sysOK m=true:=(Bool.and_eq_true_iff.1 hg2).1
    have hms:m.aC=s.aC:=by have:=(Bool.and_eq_true_iff.1 hg2).2;simpa using this
    have hm:=sysOK_ok hmv
    exact gy J J J hg2 (lPA J J T.agg38 J (gy J J J hg2 (lPA J J T.agg25 J (gy J J J hg2 (cl (satj.Judge_ok m aS s aS) T.ent61 trivial fun N50 i50=>(gy J J J hg2 (fld1 J T.flv65_0 T.one4 J (kn 51 (bl (satD m s)) J (by rw[sat_judge i50.2];exact fun h=>h) (pkT J hg2 J (drp (X:= [(51,_),(51,_),(50,_),(49,_),(48,_)]) ⟨J,J,J,J,J,tV⟩ fin))))))))))
   ·intro hg2 fin
    exact gn J J J hg2 J J (gn J J J hg2 J J (gn J J J hg2 J J (gn J J J hg2 J J (pkF J hg2 J (drp (X:= [(51,_),(50,_),(49,_),(48,_)]) ⟨J,J,J,J,tV⟩ fin)))))
   refine mv ?_
   apply gAnd (t:=53) (pd:=58) rfl
   rotate_left
   ·intro hg3 fin
    have hg3':=hg3
    try simp at hg3'
    have hmv:sysOK m=true:=(Bool.and_eq_true_iff.1 (Bool.and_eq_true_iff.1 hg3).1).1
    have hm:=sysOK_ok hmv
    have hz3:=hz2 hmv
    have hxl:x.aC.length=t.aC.length:=by rw[hxt]
    exact gy J J J hg3 (lPA J J T.agg38 J (gy J J J hg3 (lPA J J T.agg38 J (gy J J J hg3 (lPA J J T.agg25 J (gy J J J hg3 (cal0 (φs:= [agg [sl 1 rE_ m.aC,sl 1 gE m.sT],agg [sl 1 rE_ x.aC,sl 1 gE x.sT],agg [sl 1 rE_ t.aC,sl 2 sE t.sT]]) (φ:=bl (!togB m x t)) ⟨J,J,J,tV⟩ (divb.breaks_ok m x t aS aS aS aS aS) T.ent62 (pkT J hg3 J (drp (X:= [(57,_),(56,_),(55,_),(54,_)]) ⟨J,J,J,J,tV⟩ fin)))))))))
   ·intro hg3 fin
    exact gn J J J hg3 J J (gn J J J hg3 J J (gn J J J hg3 J J (gn J J J hg3 J J (pkF J hg3 J (drp (X:= [(57,_),(56,_),(55,_),(54,_)]) ⟨J,J,J,J,tV⟩ fin)))))
   refine ag (ag (nl (th (rt ?_))))
   have hr0:((((sysOK m)&&(decide (m.aC=s.aC)))&&(satD m s))&&(!togB m x t))=(rightB x t s vh m):=by
    first|exact hfz.symm|exact right_pt hfz hc1
   have hr1:(0:Int)=(fineX x t s):=by
    first|exact hfz.symm|exact right_pt hfz hc1
   exact rE () [.tmp 8,.tmp 9] J [bl ((((sysOK m)&&(decide (m.aC=s.aC)))&&(satD m s))&&(!togB m x t)),int 0] ⟨.tmp J,.tmp J,tV⟩ (cA2 (fun x0 x1=>rV [bl x0,int x1]) hr0 hr1) trivial eX
end divb
end
section
namespace ProdM
open ref01 ref03 ref04 ref06 Part Rungs LeftM TrimM RoundM BisM BisM5 BisM6 WalkM WitM JudgM FailM FitM PartM QuoM TogM sysw
abbrev pos (q:List PP) (p:PP):Nat:=q.idxOf p
theorem pos_lt {q:List PP} {p:PP} (h:p∈q):pos q p<q.length:=List.idxOf_lt_length_of_mem h
theorem pos_at {q:List PP} {p:PP} (h:p∈q):ix q (pos q p)=p:=by rw[ix_get (pos_lt h)];exact List.getElem_idxOf _
theorem pos_app {q r:List PP} {p:PP} (h:p∈q):pos (q++r) p=pos q p:=idx_left h
def rowd (q F:List PP) (d:PP):List PP:=(F.filter fun e=>decide (d.1=e.1)).map fun e=>(d.1,(pos q ((d.2,e.2):PP):Int))
def rowL (q E F:List PP):List PP:=E.flatMap (rowd q F)
def RowAll (q E F:List PP):Prop:=∀d∈E,∀e∈F,d.1=e.1→((d.2,e.2):PP)∈q
theorem rowd_mem {q F:List PP} {d x:PP}:x∈rowd q F d↔∃e∈F,d.1=e.1∧x=(d.1,(pos q ((d.2,e.2):PP):Int)):=by
 unfold rowd
 rw[List.mem_map]
 constructor
 ·rintro⟨e,he,rfl⟩
  rw[List.mem_filter] at he
  exact⟨e,he.1,of_decide_eq_true he.2,rfl⟩
 ·rintro⟨e,he,h,rfl⟩
  exact⟨e,List.mem_filter.2 ⟨he,decide_eq_true h⟩,rfl⟩
theorem rowL_mem {q E F:List PP} {x:PP}:x∈rowL q E F↔∃d∈E,∃e∈F,d.1=e.1∧x=(d.1,(pos q ((d.2,e.2):PP):Int)):=by
 unfold rowL
 rw[List.mem_flatMap]
 exact⟨fun⟨d,hd,h⟩=>⟨d,hd,rowd_mem.1 h⟩,fun⟨d,hd,h⟩=>⟨d,hd,rowd_mem.2 h⟩⟩
theorem rowd_app {q r F:List PP} {d:PP} (h:∀e∈F,d.1=e.1→((d.2,e.2):PP)∈q):rowd (q++r) F d=rowd q F d:=by
 unfold rowd
 apply List.map_congr_left
 intro e he
 rw[List.mem_filter] at he
 rw[pos_app (h e he.1 (of_decide_eq_true he.2))]
theorem flatMap_congr' {α β:Type} {f g:α→List β}:∀{l:List α},(∀a∈l,f a=g a)→l.flatMap f=l.flatMap g
 | [],_=>rfl
 |a::l,h=>by rw[List.flatMap_cons,List.flatMap_cons,h a (List.mem_cons_self ..),flatMap_congr' (fun b hb=>h b (List.mem_cons_of_mem _ hb))]
theorem rowL_app {q r E F:List PP} (h:RowAll q E F):rowL (q++r) E F=rowL q E F:=flatMap_congr' fun d hd=>rowd_app (h d hd)
theorem pos_inj {q:List PP} {x y:PP} (hx:x∈q) (hy:y∈q) (h:pos q x=pos q y):x=y:=by
 have h1:=pos_at hx
 have h2:=pos_at hy
 rw[h] at h1
 exact h1.symm.trans h2
theorem rowd_nodup {q F:List PP} {d:PP} (hF:F.Nodup) (h:∀e∈F,d.1=e.1→((d.2,e.2):PP)∈q):(rowd q F d).Nodup:=by
 unfold rowd
 rw[List.nodup_iff_pairwise_ne,List.pairwise_map]
 refine List.Pairwise.imp_of_mem ?_ (List.Nodup.sublist List.filter_sublist hF)
 intro a b ha hb hne e
 rw[List.mem_filter] at ha hb
 have a1:=of_decide_eq_true ha.2
 have b1:=of_decide_eq_true hb.2
 simp only [Prod.mk.injEq,true_and] at e
 have:=pos_inj (h a ha.1 a1) (h b hb.1 b1) O
 exact hne (Prod.ext (a1.symm.trans b1) (Prod.mk.inj this).2)
theorem rowL_nodup {q F:List PP} (hF:F.Nodup):∀{E:List PP},E.Nodup→RowAll q E F→(rowL q E F).Nodup
 | [],_,_=>List.nodup_nil
 |d::E,hE,h=>by
  unfold rowL
  rw[List.flatMap_cons,List.nodup_append]
  have hd:=List.nodup_cons.1 hE
  refine⟨rowd_nodup hF (h d (List.mem_cons_self ..)),rowL_nodup hF hd.2 (fun a ha=>h a (List.mem_cons_of_mem _ ha)),fun x hx y hy e=> ?_⟩
  obtain⟨e1,he1,h1,rfl⟩:=rowd_mem.1 hx
  obtain⟨d2,hd2,e2,he2,h2,rfl⟩:=rowL_mem.1 (show y∈rowL q E F from hy)
  simp only [Prod.mk.injEq] at e
  have:=pos_inj (h d (List.mem_cons_self ..) e1 he1 h1) (h d2 (List.mem_cons_of_mem _ hd2) e2 he2 h2) O
  have:d=d2:=Prod.ext e.1 (Prod.mk.inj this).1
  exact hd.1 (this▸hd2)
theorem rowd_len {q F:List PP} {d:PP}:(rowd q F d).length≤F.length:=by
 unfold rowd
 rw[List.length_map];exact List.length_filter_le _ _
theorem rowL_len {q F:List PP}:∀{E:List PP},(rowL q E F).length≤E.length*F.length
 | []=>by simp[rowL]
 |d::E=>by
  unfold rowL
  rw[List.flatMap_cons,List.length_append,List.length_cons,Nat.add_mul]
  have h1:=rowd_len (q:=q) (F:=F) (d:=d)
  have h2:(rowL q E F).length≤E.length*F.length:=rowL_len
  unfold rowL at h2
  omega
theorem edges_nodup {A N:Nat} {l:List PP} (h:edgesOK A N l=true):l.Nodup:=by
 unfold edgesOK at h
 rw[Bool.and_eq_true] at h
 have hstep:∀j,j+1<l.length→ltP (ix l j) (ix l (j+1))=true:=fun j hj=>List.all_eq_true.1 h.2 j (List.mem_range.2 O)
 have key:∀d j,j+d+1<l.length→(ix l j).1<(ix l (j+d+1)).1∨((ix l j).1=(ix l (j+d+1)).1∧(ix l j).2<(ix l (j+d+1)).2):=by
  intro d
  induction d with
  |zero=>intro j hj;exact ltP_iff.1 (hstep j hj)
  |succ d ih=>
   intro j hj
   have h1:=ih j O
   have h2:=ltP_iff.1 (hstep (j+d+1) hj)
   rw[show j+(d+1)+1=j+d+1+1 by omega]
   omega
 rw[List.nodup_iff_pairwise_ne,List.pairwise_iff_getElem]
 intro i j hi hj hij e
 have:=key (j- i- 1) i O
 rw[show i+(j- i- 1)+1=j by omega,ix_get hi,ix_get hj,e] at this
 omega
theorem sys_nodup {m:SSys} (h:sysOK m=true) {x:Nat} (hx:x<m.sT.length):(edg m x).Nodup:=by
 unfold sysOK at h
 simp only [Bool.and_eq_true] at h
 exact edges_nodup (all_ix h.1.2 hx)
structure ProdOK (m n k:SSys) (q:List PP):Prop where
 acts:k.aC=m.aC
 ne:0<q.length
 hd:ix q 0=((0,0):PP)
 nd:q.Nodup
 box:∀p∈q,0≤p.1∧p.1<(m.sT.length:Int)∧0≤p.2∧p.2<(n.sT.length:Int)
 len:k.sT.length=q.length
 all:∀i,i<q.length→RowAll q (edg m (ix q i).1.toNat) (edg n (ix q i).2.toNat)
 row:∀i,i<q.length→edg k i=sortP (rowL q (edg m (ix q i).1.toNat) (edg n (ix q i).2.toNat))
variable {m n k:SSys} {t:SS} {q:List PP}
theorem prod_mem (h:ProdOK m n k q) {i:Nat} (hi:i<q.length) {x:PP}:x∈edg k i↔∃d∈edg m (ix q i).1.toNat,∃e∈edg n (ix q i).2.toNat,d.1=e.1∧x=(d.1,(pos q ((d.2,e.2):PP):Int)):=by
 rw[h.row i hi,(sortP_perm _).mem_iff,rowL_mem]
theorem and_same {a b c:Int} (ha:0≤a) (h:∀i:Nat,has a (i:Int)=(has b (i:Int)&&has c (i:Int))):a=andI b c:=by
 have h1:a.toNat=b.toNat&&&c.toNat:=by
  apply Nat.eq_of_testBit_eq
  intro i
  have:=h i
  unfold has at this
  simp only [Int.toNat_natCast] at this
  rw[Nat.testBit_and];exact this
 unfold andI
 omega
theorem prod_off (hm:okSys m) (hn:okSys n) (h:ProdOK m n k q) {i:Nat} (hi:i<q.length):offM k i=andI (offM m (ix q i).1.toNat) (offM n (ix q i).2.toNat):=by
 have hb:=h.box _ (ix_memS hi)
 refine and_same (orAll_nn _) fun a=> ?_
 rw[Bool.eq_iff_iff,Bool.and_eq_true]
 show has (offE (edg k i)) (a:Int)=true↔has (offE (edg m _)) (a:Int)=true∧has (offE (edg n _)) (a:Int)=true
 rw[off_has,off_has,off_has]
 constructor
 ·rintro⟨x,hx,rfl⟩
  obtain⟨d,hd,e,he,hde,rfl⟩:=(prod_mem h hi).1 hx
  exact⟨⟨d,hd,rfl⟩,⟨e,he,by rw[←hde]⟩⟩
 ·rintro⟨⟨d,hd,h1⟩,⟨e,he,h2⟩⟩
  have b1:=hm.ed _ O d hd
  have b2:=hn.ed _ O e he
  exact⟨_,(prod_mem h hi).2 ⟨d,hd,e,he,O,rfl⟩,h1⟩
theorem prod_sat (hm:okSys m) (hn:okSys n) (ht:oK t) (h:ProdOK m n k q):SatM k t↔WellT m n t:=by
 constructor
 ·rintro⟨R,hR,h00⟩ p hp
  have key:∃i,i<q.length∧ix q i=((p.1,p.2.1):PP)∧R i p.2.2.toNat:=by
   induction hp with
   |zero=>exact⟨0,h.ne,h.hd,h00⟩
   |step h1 h2 hd he hde ih=>
    rename_i p d e
    obtain⟨i,hi,hq,hr⟩:=ih
    have e1:(ix q i).1=p.1:=congrArg Prod.fst hq
    have e2:(ix q i).2=p.2.1:=congrArg Prod.snd hq
    have hb:=rchT_box hm hn ht h1
    have hx:=(prod_mem h hi (x:=(d.1,(pos q ((d.2,e.2):PP):Int)))).2 ⟨d,by rw[e1];exact hd,e,by rw[e2];exact he,hde,rfl⟩
    have hin:=h.all i hi d (by rw[e1];exact hd) e (by rw[e2];exact he) hde
    have hm2:(d.1.toNat,pos q ((d.2,e.2):PP))∈edM k i:=List.mem_map.2 ⟨_,hx,rfl⟩
    have hn2:=hR.nxt hr _ hm2
    exact⟨_,pos_lt hin,pos_at hin,hn2.2⟩
  obtain⟨i,hi,hq,hr⟩:=key
  have hac:=hR.acc hr
  rw[prod_off hm hn h hi,hq] at hac
  exact fun hb=>hb hac
 ·intro hw
  have f2:=ht.few0
  refine⟨fun i z=>i<q.length∧RchT m n t ((ix q i).1,(ix q i).2,(z:Int)),⟨fun {i z} ⟨hi,hr⟩=> ?_,fun {i z} ⟨hi,hr⟩=> ?_,fun {i z} ⟨hi,hr⟩ x hx=> ?_,fun {i z} ⟨hi,hr⟩ x hx=> ?_⟩,h.ne,by rw[h.hd];exact .zero⟩
  ·have:=(rchT_box hm hn ht hr).2.2.2.2.2
   have this:(z:Int)<(t.sT.length:Int):=this
   omega
  ·have hb:=hw _ hr
   rw[prod_off hm hn h hi]
   have hb:¬andI (offM m (ix q i).1.toNat) (offM n (ix q i).2.toNat)∉acc t (z:Int).toNat:=hb
   rw[Int.toNat_natCast] at hb
   exact Classical.byContradiction hb
  ·obtain⟨x',hx',rfl⟩:=List.mem_map.1 hx
   obtain⟨d,hd,e,he,hde,rfl⟩:=(prod_mem h hi).1 hx'
   have hg:=goT hm hn ht (rchT_box hm hn ht hr) (hw _ hr) hd he hde
   have hbx:=(rchT_box hm hn ht hr).2.2.2.2.2
   have hbx:(z:Int)<(t.sT.length:Int):=hbx
   have hl:=(ht.st z O).len
   show d.1.toNat<(ix t.sT z).next.length
   rw[hl];exact hg.2.2.2.2.2.2
  ·obtain⟨x',hx',rfl⟩:=List.mem_map.1 hx
   obtain⟨d,hd,e,he,hde,rfl⟩:=(prod_mem h hi).1 hx'
   have hg:=goT hm hn ht (rchT_box hm hn ht hr) (hw _ hr) hd he hde
   have hin:=h.all i hi d hd e he hde
   have hs:=RchT.step hr (hw _ hr) hd he hde
   have e0:ix (nxt t (z:Int).toNat) d.1.toNat=ix (nxt t z) d.1.toNat:=by rw[Int.toNat_natCast]
   have g0:0≤ix (nxt t z) d.1.toNat:=by rw[←e0];exact hg.2.2.2.2.1
   refine⟨g0,pos_lt hin,?_⟩
   show RchT m n t ((ix q (pos q ((d.2,e.2):PP))).1,(ix q (pos q ((d.2,e.2):PP))).2,((ix (nxt t z) d.1.toNat).toNat:Int))
   rw[pos_at hin,Int.toNat_of_nonneg g0,←e0]
   exact hs
theorem sum_map_le {α:Type} [DecidableEq α] (w:α→Nat):∀(q all:List α),q.Nodup→(∀p∈q,p∈all)→(q.map w).sum≤(all.map w).sum
 | [],_,_,_=>by simp
 |p::q,all,hnd,hs=>by
  have hp:=hs p (List.mem_cons_self ..)
  have h1:(all.map w).sum=w p+((all.erase p).map w).sum:=by
   have:=(List.perm_cons_erase hp).map w
   have:=this.sum_nat
   rw[this];simp
  have hd:=List.nodup_cons.1 hnd
  have h2:=sum_map_le w q (all.erase p) hd.2 (fun x hx=>(List.mem_erase_of_ne (show x≠p from fun e=>hd.1 (e▸hx))).2 (hs x (List.mem_cons_of_mem _ hx)))
  rw[h1,List.map_cons,List.sum_cons];omega
theorem sum_const (c:Nat):∀l:List Nat,(l.map fun x=>c*x).sum=c*l.sum
 | []=>by simp
 |x::l=>by rw[List.map_cons,List.sum_cons,sum_const c l,List.sum_cons,Nat.mul_add]
theorem sum_box (f g:List Nat):∀(q:List PP),q.Nodup→(∀p∈q,0≤p.1∧p.1<(f.length:Int)∧0≤p.2∧p.2<(g.length:Int))→(q.map fun p=>ix f p.1.toNat*ix g p.2.toNat).sum≤f.sum*g.sum:=by
 intro q hnd hb
 have h1:=sum_map_le (fun p:PP=>ix f p.1.toNat*ix g p.2.toNat) q ((List.range f.length).flatMap fun i:Nat=>(List.range g.length).map fun j:Nat=>(((i:Nat):Int),((j:Nat):Int))) hnd (fun p hp=>by
  obtain⟨p0,p1,p2,p3⟩:=hb p hp
  rw[List.mem_flatMap]
  refine⟨p.1.toNat,List.mem_range.2 O,List.mem_map.2 ⟨p.2.toNat,List.mem_range.2 O,Prod.ext ?_ ?_⟩⟩
  ·show((p.1.toNat:Nat):Int)=p.1;omega
  ·show((p.2.toNat:Nat):Int)=p.2;omega)
 refine Nat.le_trans h1 (Nat.le_of_eq ?_)
 have hg:(List.range g.length).map (fun j=>ix g j)=g:=by
  apply List.ext_getElem (by simp)
  intro i h2 h3
  rw[List.getElem_map,List.getElem_range,ix_get h3]
 have hf:(List.range f.length).map (fun j=>ix f j)=f:=by
  apply List.ext_getElem (by simp)
  intro i h2 h3
  rw[List.getElem_map,List.getElem_range,ix_get h3]
 have key:∀l:List Nat,((l.flatMap fun i=>(List.range g.length).map fun j=>(((i:Nat):Int),((j:Nat):Int))).map fun p:PP=>ix f p.1.toNat*ix g p.2.toNat).sum=(l.map fun i=>ix f i).sum*g.sum:=by
  intro l
  induction l with
  |nil=>simp
  |cons i l ih=>
   rw[List.flatMap_cons,List.map_append,List.sum_append_nat,ih,List.map_cons,List.sum_cons,Nat.add_mul,List.map_map]
   congr 1
   have:((fun p:PP=>ix f p.1.toNat*ix g p.2.toNat) ∘ fun j:Nat=>(((i:Nat):Int),((j:Nat):Int)))=fun j=>ix f i*ix g j:=by
    funext j
    show ix f (i:Int).toNat*ix g (j:Int).toNat=_
    rw[Int.toNat_natCast,Int.toNat_natCast]
   rw[this]
   have h2:=sum_const (ix f i) ((List.range g.length).map fun j=>ix g j)
   rw[List.map_map] at h2
   rw[hg] at h2
   exact h2
 rw[key,hf]
structure PI (m n:SSys) (i:Nat) (q:List PP) (mm:List (PP × Int)) (outs:List (List PP)):Prop where
 ne:0<q.length
 hd:ix q 0=((0,0):PP)
 nd:q.Nodup
 box:∀p∈q,0≤p.1∧p.1<(m.sT.length:Int)∧0≤p.2∧p.2<(n.sT.length:Int)
 im:imap mm q
 il:i≤q.length
 dn:∀j,j<i→RowAll q (edg m (ix q j).1.toNat) (edg n (ix q j).2.toNat)
 out:outs=(List.range i).map fun j=>sortP (rowL q (edg m (ix q j).1.toNat) (edg n (ix q j).2.toNat))
structure PN (m n:SSys) (i:Nat) (p:PP) (q:List PP) (mm:List (PP × Int)) (outs:List (List PP)) (k1 k2:Nat) (l:List PP):Prop where
 pi:PI m n i q mm outs
 hi:i<q.length
 pe:ix q i=p
 al1:RowAll q ((edg m p.1.toNat).take k1) (edg n p.2.toNat)
 al2:∀e∈(edg n p.2.toNat).take k2,(ix (edg m p.1.toNat) k1).1=e.1→(((ix (edg m p.1.toNat) k1).2,e.2):PP)∈q
 es:l=rowL q ((edg m p.1.toNat).take k1) (edg n p.2.toNat)++rowd q ((edg n p.2.toNat).take k2) (ix (edg m p.1.toNat) k1)
theorem pi_zero (hm:1≤m.sT.length) (hn:1≤n.sT.length):PI m n 0 [(0,0)] (mset [] (0,0) 0) []:=by
 refine⟨by simp,rfl,by simp,fun p hp=> ?_,imap_one _,by simp,fun k hk=>absurd hk O,rfl⟩
 rw[List.mem_singleton.1 hp]
 exact⟨by simp,by show(0:Int)<_;omega,by simp,by show(0:Int)<_;omega⟩
theorem rowAll_push {q r E F:List PP} (h:RowAll q E F):RowAll (q++r) E F:=fun d hd e he hde=>List.mem_append_left _ (h d hd e he hde)
variable {i k1 k2:Nat} {mm:List (PP × Int)} {outs:List (List PP)} {p:PP} {l:List PP}
theorem pi_few (h:PI m n i q mm outs):q.length≤m.sT.length*n.sT.length:=nodup_pairs _ _ q h.nd h.box
theorem pi_push (h:PI m n i q mm outs) {p:PP} (hp:p∉q) (hb:0≤p.1∧p.1<(m.sT.length:Int)∧0≤p.2∧p.2<(n.sT.length:Int)):PI m n i (q++ [p]) (mset mm p (q.length:Int)) outs:=by
 have hil:=h.il
 refine⟨by simp,by rw[ixP_left h.ne];exact h.hd,?_,fun r hr=> ?_,imap_push h.im hp,by simp;omega,fun k hk=> ?_,?_⟩
 ·rw[List.nodup_append]
  exact⟨h.nd,by simp,fun a ha b hb e=>hp (by have:b=p:=(by simpa using hb);rw[←this,←e];exact ha)⟩
 ·rcases List.mem_append.1 hr with hr|hr
  ·exact h.box r hr
  ·have:r=p:=by simpa using hr
   subst this;exact hb
 ·rw[ixP_left O]
  exact rowAll_push (h.dn k hk)
 ·rw[h.out]
  refine List.map_congr_left (fun k hk=> ?_)
  have hk:=List.mem_range.1 hk
  rw[ixP_left O,rowL_app (h.dn k hk)]
theorem pn_zero (h:PI m n i q mm outs) (hi:i<q.length):PN m n i (ix q i) q mm outs 0 0 []:=⟨h,hi,rfl,fun d hd=>by simp at hd,fun e he=>by simp at he,by simp[rowL,rowd]⟩
theorem rowd_step {q F:List PP} {d:PP} {k:Nat} (hk:k<F.length):rowd q (F.take (k+1)) d=rowd q (F.take k) d++(if d.1=(ix F k).1 then [(d.1,(pos q ((d.2,(ix F k).2):PP):Int))] else []):=by
 unfold rowd
 rw[take_s hk,List.filter_append,List.map_append]
 congr 1
 by_cases g:d.1=(ix F k).1
 ·rw[if_pos g];simp[g]
 ·rw[if_neg g];simp[g]
theorem pn_skip (h:PN m n i p q mm outs k1 k2 l) (hk:k2<(edg n p.2.toNat).length) (hne:¬(ix (edg m p.1.toNat) k1).1=(ix (edg n p.2.toNat) k2).1):PN m n i p q mm outs k1 (k2+1) l:=by
 refine⟨h.pi,h.hi,h.pe,h.al1,fun e he hde=> ?_,?_⟩
 ·rw[take_s hk,List.mem_append] at he
  rcases he with g|g
  ·exact h.al2 e g hde
  ·have:e=_:=List.mem_singleton.1 g
   subst this;exact absurd hde hne
 ·rw[rowd_step hk,if_neg hne,List.append_nil];exact h.es
theorem pn_old (h:PN m n i p q mm outs k1 k2 l) (hk:k2<(edg n p.2.toNat).length) (he:(ix (edg m p.1.toNat) k1).1=(ix (edg n p.2.toNat) k2).1) (hn:(mget mm ((ix (edg m p.1.toNat) k1).2,(ix (edg n p.2.toNat) k2).2)).isSome=true):
 PN m n i p q mm outs k1 (k2+1) (l++ [((ix (edg m p.1.toNat) k1).1,(mget mm ((ix (edg m p.1.toNat) k1).2,(ix (edg n p.2.toNat) k2).2)).getD 0)]):=by
 rw[h.pi.im] at hn ⊢
 unfold posOf at hn ⊢
 by_cases hm:(((ix (edg m p.1.toNat) k1).2,(ix (edg n p.2.toNat) k2).2):PP)∈q
 ·rw[if_pos hm]
  refine⟨h.pi,h.hi,h.pe,h.al1,fun e hee hde=> ?_,?_⟩
  ·rw[take_s hk,List.mem_append] at hee
   rcases hee with g|g
   ·exact h.al2 e g hde
   ·have:e=_:=List.mem_singleton.1 g
    subst this;exact hm
  ·rw[rowd_step hk,if_pos he,←List.append_assoc,←h.es];rfl
 ·rw[if_neg hm] at hn;cases hn
theorem pn_new (h:PN m n i p q mm outs k1 k2 l) (hk:k2<(edg n p.2.toNat).length) (he:(ix (edg m p.1.toNat) k1).1=(ix (edg n p.2.toNat) k2).1) (hb:0≤(ix (edg m p.1.toNat) k1).2∧(ix (edg m p.1.toNat) k1).2<(m.sT.length:Int)∧0≤(ix (edg n p.2.toNat) k2).2∧(ix (edg n p.2.toNat) k2).2<(n.sT.length:Int))
 (hn:(mget mm ((ix (edg m p.1.toNat) k1).2,(ix (edg n p.2.toNat) k2).2)).isSome=false):
 PN m n i p (q++ [((ix (edg m p.1.toNat) k1).2,(ix (edg n p.2.toNat) k2).2)]) (mset mm ((ix (edg m p.1.toNat) k1).2,(ix (edg n p.2.toNat) k2).2) (q.length:Int)) outs k1 (k2+1) (l++ [((ix (edg m p.1.toNat) k1).1,(q.length:Int))]):=by
 have hnq:(((ix (edg m p.1.toNat) k1).2,(ix (edg n p.2.toNat) k2).2):PP)∉q:=fun hm=>by
  rw[h.pi.im] at hn
  unfold posOf at hn
  rw[if_pos hm] at hn;cases hn
 have hi:=h.hi
 refine⟨pi_push h.pi hnq hb,by simp;omega,by rw[ixP_left h.hi];exact h.pe,rowAll_push h.al1,fun e hee hde=> ?_,?_⟩
 ·rw[take_s hk,List.mem_append] at hee
  rcases hee with g|g
  ·exact List.mem_append_left _ (h.al2 e g hde)
  ·have:e=_:=List.mem_singleton.1 g
   subst this;simp
 ·rw[rowL_app h.al1,rowd_step hk,if_pos he,rowd_app h.al2,←List.append_assoc,←h.es]
  congr 3
  exact(congrArg (fun x:Nat=>(x:Int)) (idx_new hnq)).symm
theorem pn_row (h:PN m n i p q mm outs k1 k2 l) (hk1:k1<(edg m p.1.toNat).length) (hk:(edg n p.2.toNat).length≤k2):PN m n i p q mm outs (k1+1) 0 l:=by
 have h2:=h.al2
 have h3:=h.es
 rw[List.take_of_length_le hk] at h2 h3
 refine⟨h.pi,h.hi,h.pe,fun d hd e he hde=> ?_,fun e he=>by simp at he,?_⟩
 ·rw[take_s hk1,List.mem_append] at hd
  rcases hd with g|g
  ·exact h.al1 d g e he hde
  ·have:d=_:=List.mem_singleton.1 g
   subst this
   exact h2 e he hde
 ·rw[h3]
  unfold rowL
  rw[take_s hk1,List.flatMap_append]
  simp[rowd]
theorem pn_end (h:PN m n i p q mm outs k1 k2 l) (hk2:k2=0) (hk1:(edg m p.1.toNat).length≤k1):PI m n (i+1) q mm (outs++ [sortP l]):=by
 have h1:=h.al1
 have h3:=h.es
 rw[List.take_of_length_le hk1] at h1 h3
 subst hk2
 have h4:l=rowL q (edg m p.1.toNat) (edg n p.2.toNat):=by rw[h3];simp[rowd]
 have hi:=h.hi
 have hpe:=h.pe
 refine⟨h.pi.ne,h.pi.hd,h.pi.nd,h.pi.box,h.pi.im,O,fun j hj=> ?_,?_⟩
 ·by_cases g:j=i
  ·rw[g,hpe];exact h1
  ·exact h.pi.dn j O
 ·rw[List.range_succ,List.map_append,←h.pi.out,h4]
  simp[hpe]
theorem pn_few (h:PN m n i p q mm outs k1 k2 l):l.length≤k1*(edg n p.2.toNat).length+k2:=by
 rw[h.es,List.length_append]
 have h1:=rowL_len (q:=q) (F:=edg n p.2.toNat) (E:=(edg m p.1.toNat).take k1)
 have h2:=rowd_len (q:=q) (F:=(edg n p.2.toNat).take k2) (d:=ix (edg m p.1.toNat) k1)
 have h3:((edg m p.1.toNat).take k1).length≤k1:=List.length_take_le _ _
 have h4:((edg n p.2.toNat).take k2).length≤k2:=List.length_take_le _ _
 have h5:=Nat.mul_le_mul_right (edg n p.2.toNat).length h3
 omega
theorem pn_bd (hm:okSys m) (h:PN m n i p q mm outs k1 k2 l):∀x∈l,0≤x.1∧x.1<8∧0≤x.2∧x.2<(q.length:Int):=fun x hx=>by
 obtain⟨b0,b1,_,_⟩:=h.pi.box p (by rw[←h.pe];exact ix_memS h.hi)
 have hm8:=hm.n8
 rw[h.es,List.mem_append] at hx
 rcases hx with g|g
 ·obtain⟨d,hd,e,he,hde,rfl⟩:=rowL_mem.1 g
  have h1:=hm.ed _ O d (List.mem_of_mem_take hd)
  have h2:=pos_lt (h.al1 d hd e he hde)
  exact⟨h1.1,by show d.1<8;omega,by show(0:Int)≤((pos q _:Nat):Int);omega,by show((pos q _:Nat):Int)<_;omega⟩
 ·obtain⟨e,he,hde,rfl⟩:=rowd_mem.1 g
  have h2:=pos_lt (h.al2 e he hde)
  by_cases hk:k1<(edg m p.1.toNat).length
  ·have h1:=hm.ed _ O _ (ix_memS hk)
   exact⟨h1.1,by show(ix (edg m p.1.toNat) k1).1<8;omega,by show(0:Int)≤((pos q _:Nat):Int);omega,by show((pos q _:Nat):Int)<_;omega⟩
  ·have e0:ix (edg m p.1.toNat) k1=(0,0):=by unfold ix;rw[List.getD_eq_getElem?_getD,List.getElem?_eq_none O];rfl
   rw[e0]
   rw[e0] at h2
   exact⟨by show(0:Int)≤0;omega,by show(0:Int)<8;omega,by show(0:Int)≤((pos q _:Nat):Int);omega,by show((pos q _:Nat):Int)<_;omega⟩
theorem prod_ok (h:PI m n i q mm outs) (hi:q.length≤i):ProdOK m n ⟨m.aC,outs⟩ q:=by
 have hil:=h.il
 have e:i=q.length:=by omega
 subst e
 refine⟨rfl,h.ne,h.hd,h.nd,h.box,by rw[h.out];simp,h.dn,fun j hj=> ?_⟩
 show ix outs j=_
 rw[h.out,ix_get (by simpa using hj)]
 simp
def wgt (m n:SSys) (p:PP):Nat:=(edg m p.1.toNat).length*(edg n p.2.toNat).length
def cntP (m n:SSys) (q:List PP) (i:Nat):Nat:=((q.take i).map (wgt m n)).sum
theorem cnt_app {r:List PP} (hi:i≤q.length):cntP m n (q++r) i=cntP m n q i:=by
 unfold cntP
 rw[List.take_append_of_le_length hi]
theorem cnt_succ (hi:i<q.length):cntP m n q (i+1)=cntP m n q i+wgt m n (ix q i):=by
 unfold cntP
 rw[take_s hi,List.map_append,List.sum_append_nat];simp
theorem cnt_le0 (hnd:q.Nodup) (hbx:∀p∈q,0≤p.1∧p.1<(m.sT.length:Int)∧0≤p.2∧p.2<(n.sT.length:Int)) (j:Nat):cntP m n q j≤sumLen m.sT*sumLen n.sT:=by
 have h1:=sum_box (m.sT.map List.length) (n.sT.map List.length) (q.take j) (List.Nodup.sublist (List.take_sublist _ _) hnd) (fun p hp=>by simpa using hbx p (List.mem_of_mem_take hp))
 unfold sumLen
 refine Nat.le_trans (Nat.le_of_eq ?_) h1
 unfold cntP
 congr 1
 refine List.map_congr_left fun p hp=> ?_
 obtain⟨p0,p1,p2,p3⟩:=hbx p (List.mem_of_mem_take hp)
 unfold wgt
 have e1:ix (m.sT.map List.length) p.1.toNat=(edg m p.1.toNat).length:=by rw[ix_get (by simp;omega),List.getElem_map,←ix_get (xs:=m.sT) O]
 have e2:ix (n.sT.map List.length) p.2.toNat=(edg n p.2.toNat).length:=by rw[ix_get (by simp;omega),List.getElem_map,←ix_get (xs:=n.sT) O]
 rw[e1,e2]
theorem cnt_le (h:PI m n i q mm outs) (j:Nat):cntP m n q j≤sumLen m.sT*sumLen n.sT:=cnt_le0 h.nd h.box j
theorem prod_few (h:ProdOK m n k q):q.length≤m.sT.length*n.sT.length:=nodup_pairs _ _ q h.nd h.box
theorem prod_sum (h:ProdOK m n k q):sumLen k.sT≤cntP m n q q.length:=by
 have key:∀j,j≤q.length→sumLen (k.sT.take j)≤cntP m n q j:=by
  intro j
  induction j with
  |zero=>intro _;simp[sumLen]
  |succ j ih=>
   intro hj
   have hl:=h.len
   rw[take_s (show j<k.sT.length by omega),sumLen_snoc,cnt_succ O]
   have h1:=ih O
   have h2:(ix k.sT j).length≤wgt m n (ix q j):=by
    have:=h.row j O
    have e:(ix k.sT j)=sortP _:=this
    rw[e,(sortP_perm _).length_eq]
    exact rowL_len
   omega
 have:=key q.length (Nat.le_refl _)
 rwa [List.take_of_length_le (by rw[h.len];exact Nat.le_refl _)] at this
theorem prod_valid (hm:sysOK m=true) (hn:sysOK n=true) (h:ProdOK m n k q) (h5:q.length≤5000) (h4:sumLen k.sT≤400000):sysOK k=true:=by
 have hm1:=sysOK_ok hm
 have hn1:=sysOK_ok hn
 have hed:∀j,j<q.length→edgesOK k.aC.length k.sT.length (edg k j)=true:=fun j hj=>by
  obtain⟨b0,b1,b2,b3⟩:=h.box _ (ix_memS hj)
  have hnd:(edg k j).Nodup:=by
   rw[h.row j hj]
   exact(sortP_perm _).nodup_iff.2 (rowL_nodup (sys_nodup hn O) (sys_nodup hm O) (h.all j hj))
  have hso:(edg k j).Pairwise (fun p q=>p.1<q.1∨(p.1=q.1∧p.2≤q.2)):=by rw[h.row j hj];exact sortP_sorted _
  refine edges_of (fun i hi=> ?_) (fun i hi=> ?_)
  ·obtain⟨d,hd,e,he,hde,hx⟩:=(prod_mem h hj).1 (ix_memS hi)
   have g1:=hm1.ed _ O d hd
   have g2:=pos_lt (h.all j hj d hd e he hde)
   rw[edgeOK_iff,hx,h.acts,h.len]
   exact⟨g1.1,g1.2.1,by show(0:Int)≤((pos q _:Nat):Int);omega,by show((pos q _:Nat):Int)<_;omega⟩
  ·rw[ix_get (show i<(edg k j).length by omega),ix_get hi]
   have g1:=(List.pairwise_iff_getElem.1 hso) i (i+1) O hi O
   have g2:=(List.pairwise_iff_getElem.1 hnd) i (i+1) O hi O
   rw[ltP_iff]
   rcases g1 with g|⟨g,g'⟩
   ·exact .inl g
   ·refine .inr ⟨g,?_⟩
    rcases Int.lt_or_eq_of_le g' with c|c
    ·exact c
    ·exact absurd (Prod.ext g c) g2
 have hne:=h.ne
 have hl:=h.len
 unfold sysOK
 rw[h.acts,hm1.acts,decide_eq_true (show 1≤k.sT.length by omega),decide_eq_true (show k.sT.length≤5000 by omega),decide_eq_true h4]
 simp only [Bool.true_and,Bool.and_true]
 refine List.all_eq_true.2 fun l hl2=> ?_
 obtain⟨x,hx,rfl⟩:=List.getElem_of_mem hl2
 rw[←h.acts,←ix_get hx]
 exact hed x O
end ProdM
end
section
open ref01 ref03 ref04 ref06 prog prog2 prog3 prog6 prog13 starts Part Rungs LeftM TrimM RoundM BisM BisM5 WalkM WitM JudgM refw judg wit refj sysw FailM FitM PartM QuoM TogM ProdM satj
noncomputable def bothS (m n:SSys):Int:=if sysOK m=true then(if sysOK n=true then(if m.aC=n.aC then 0 else 10) else 20) else 20
theorem bothS_ok {m n:SSys} (h:bothS m n=0):sysOK m=true∧sysOK n=true∧m.aC=n.aC:=by
 unfold bothS at h
 split at h
 ·next g1=>
  split at h
  ·next g2=>
   split at h
   ·next g3=>exact⟨g1,g2,g3⟩
   ·exact absurd h (by decide)
  ·exact absurd h (by decide)
 ·exact absurd h (by decide)
namespace T
theorem map97:MapT Tryz.prog 97 78 3 pairV pairD:=mapT_arr Tryz.underlying97 Tryz.underlying78 kR (by decide+kernel) kR kR ⟨Tryz.underlying3,by kernel_rfl⟩ kR
theorem ent66:Ent Tryz.prog 66:=ent_of kR
end T
namespace prodw
theorem Both_ok (m n:SSys):
 Fn0 Tryz.prog 66 [sys m,sys n] (int (bothS m n)):=by
 refine fnI Tryz.func66 rfl rfl (fun w0 F0=> ?_)
 refine fcC (inhS 0 J) (fun hS0=> ?_)
 obtain⟨hma0,hms0,hme0⟩:=sys_lens hS0
 refine fcC (inhS 1 J) (fun hS1=> ?_)
 obtain⟨hma1,hms1,hme1⟩:=sys_lens hS1
 refine sq (rg (bx (key:=2) (cs:= [sl 1 rE_ m.aC,sl 1 gE m.sT]) J fun b2=>(bx (key:=3) (cs:= [sl 1 rE_ n.aC,sl 1 gE n.sT]) J fun b3=>(ag (nl (th (sq (bk (sq (rg (lPA J J T.agg38 J (cal0 (φs:= [agg [sl 1 rE_ m.aC,sl 1 gE m.sT]]) (φ:=bl (sysOK m)) ⟨J,tV⟩ (sysw.Valid_ok m) T.ent59 (no J (mv ?_))))))))))))))
 apply gOr (t:=9) (pd:=13) rfl
 rotate_left
 ·intro hg0 fin
  have hg0':=hg0
  try simp at hg0'
  exact gy J J J hg0 (lPA J J T.agg38 J (gy J J J hg0 (cal0 (φs:= [agg [sl 1 rE_ n.aC,sl 1 gE n.sT]]) (φ:=bl (sysOK n)) ⟨J,tV⟩ (sysw.Valid_ok n) T.ent59 (gy J J J hg0 (no J (pkF J hg0 J (drp (X:= [(12,_),(11,_),(10,_)]) ⟨J,J,J,tV⟩ fin)))))))
 ·intro hg0 fin
  exact gn J J J hg0 J J (gn J J J hg0 J J (gn J J J hg0 J J (pkT J hg0 J (drp (X:= [(12,_),(11,_),(10,_)]) ⟨J,J,J,tV⟩ fin))))
 refine ag (nl (th ?_))
 refine cd J (fun hc0=> ?_) (fun hc0=> ?_)
 ·try simp at hc0
  refine sq (rg (ag (nl (th (rt (rb (rt_ ?_)))))))
  have hr0:(20:Int)=(bothS m n):=by
   unfold bothS;cases h1:sysOK m<;>cases h2:sysOK n<;>simp_all
  exact rE () [.tmp 4] J [int 20] ⟨.tmp J,tV⟩ (cA1 (fun x0=>rV [int x0]) hr0) trivial eX
 ·try simp at hc0
  refine sq (rg (fP J T.fld38_0 (lP J J J T.one22 (fP J T.fld38_0 (lP J J J T.one22 (cal0 (φs:= [sl 1 rE_ m.aC,sl 1 rE_ n.aC]) (φ:=bl (decide (m.aC=n.aC))) ⟨J,J,tV⟩ (prog.sEqualstrE_ok _ _) T.ent60 (no J (ag (nl (th ?_))))))))))
  refine cd J (fun hc1=> ?_) (fun hc1=> ?_)
  ·try simp at hc1
   refine sq (rg (ag (nl (th (rt (rb (rt_ ?_)))))))
   have hr0:(10:Int)=(bothS m n):=by
    unfold bothS;cases h1:sysOK m<;>cases h2:sysOK n<;>simp_all
   exact rE () [.tmp 4] J [int 10] ⟨.tmp J,tV⟩ (cA1 (fun x0=>rV [int x0]) hr0) trivial eX
  ·try simp at hc1
   refine sk (eb (th (sq (rg (ag (nl (th (rt ?_))))))))
   have hr0:(0:Int)=(bothS m n):=by
    unfold bothS;cases h1:sysOK m<;>cases h2:sysOK n<;>simp_all
   exact rE () [.tmp 4] J [int 0] ⟨.tmp J,tV⟩ (cA1 (fun x0=>rV [int x0]) hr0) trivial eX
theorem Product_ok (m n:SSys) (hz:m.sT.length*n.sT.length<5000) (hz2:sumLen m.sT*sumLen n.sT≤400000):
 AL.Fn Tryz.prog 37 [sys m,sys n] [] (ι:= { z:SSys × List (Int × Int)//(bothS m n≠0→z=(⟨[],[]⟩,[]))∧(bothS m n=0→ProdOK m n z.1 z.2) }) (fun _ i=>tup [agg [strs i.1.1.aC,sl 1 gE i.1.1.sT],sl 2 pE i.1.2,int (bothS m n)]) (fun _=> []):=by
 refine fnI Tryz.func37 rfl rfl (fun w0 F0=> ?_)
 refine fcC (inhS 0 J) (fun hS0=> ?_)
 obtain⟨hma0,hms0,hme0⟩:=sys_lens hS0
 refine fcC (inhS 1 J) (fun hS1=> ?_)
 obtain⟨hma1,hms1,hme1⟩:=sys_lens hS1
 refine sq (rg (bx (key:=2) (cs:= [sl 1 rE_ m.aC,sl 1 gE m.sT]) J fun b2=>(bx (key:=3) (cs:= [sl 1 rE_ n.aC,sl 1 gE n.sT]) J fun b3=>(al (key:=4) T.z38 (eC (eC eZ)) fun b4=>(ag (ag (nl (th (sq (sq (rg (lPA J J T.agg38 J (lPA J J T.agg38 J (cal0 (φs:= [agg [sl 1 rE_ m.aC,sl 1 gE m.sT],agg [sl 1 rE_ n.aC,sl 1 gE n.sT]]) (φ:=int (bothS m n)) ⟨J,J,tV⟩ (prodw.Both_ok m n) T.ent66 (ag (nl (th (sq (rg (mv (bi J J b_neq (nl (th ?_)))))))))))))))))))))))
 refine cd J (fun hc0=> ?_) (fun hc0=> ?_)
 ·try simp at hc0
  refine sq (rg (bd (css:= []) T.st38 (eC (eC eZ)) trivial (mv (sPA (cs':= [eqv (.slice none 0 0),eqv (.slice none 0 0)]) J J J T.agg38 J J (ag (ag (nl (th (rt (rt_ ?_))))))))))
  refine kncA 4 0 (sl 1 rE_ []) rfl rfl slnil ?_
  refine kncA 4 1 (sl 1 gE []) rfl rfl slnil ?_
  refine knA 5 (sl 2 pE []) rfl slnil ?_
  exact rE ⟨(⟨[],[]⟩,[]),⟨fun _=>J,fun h=>absurd h hc0⟩⟩ [.cell 4 38,.tmp 5,.tmp 6] J [agg [sl 1 rE_ [],sl 1 gE []],sl 2 pE [],int (bothS m n)] ⟨.agg J J T.agg38 J J,.tmp J,.tmp J,tV⟩ J trivial eX
 ·try simp at hc0
  obtain⟨hmv,hnv,hmn⟩:=bothS_ok hc0
  have hm:=sysOK_ok hmv
  have hn:=sysOK_ok hnv
  have f0:=hm.few0
  have f1:=hn.few0
  have f2:=hm.few1
  have f3:=hn.few1
  have hm8:=hm.n8
  refine sk (th (sq (rg (mkm (key:=29) (kE:=pairV) (dom:=pairD) (vE:=intV) fun b29=>(bd (css:= [(0,_),(1,_)]) T.st78 (eC (eC eZ)) ⟨J,J,p1 (φ:=int 0) J,⟨J,J,p1 (φ:=int 0) J,tV⟩⟩ (AL.insert (q:=(0,0)) (u:=0) J J agg_pair J T.map97 ⟨⟨O,O⟩,⟨O,O⟩⟩ (mv (ag (nl (th (sq (rg (bd (css:= [(0,_),(1,_)]) T.st78 (eC (eC eZ)) ⟨J,J,p1 (φ:=int 0) J,⟨J,J,p1 (φ:=int 0) J,tV⟩⟩ (bsO 33 (enc:=pE) (xs:= [(0,0)]) (css:= [[int 0,int 0]]) T.mk62 ⟨J,J,pA (cs:= [int 0,int 0]) J,tV⟩ J J J J fun v33=>(ag (nl (th (sq (rg (fP J T.fld38_0 (lP J J J T.one22 (calW (φs:= [sl 1 rE_ m.aC]) (φ:=sl 1 rE_ m.aC) ⟨J,tV⟩ (prog.sClonestrE_ok _ O) T.ent67 (fun N hN=>fun h=>nw_le h) (bd (css:= [(0,_)]) T.st38 (eC (eC eZ)) ⟨J,J,p1 (φ:=sl 1 rE_ m.aC) J,tV⟩ (al (key:=10) T.z38 (eC (eC eZ)) fun b10=>(sPA (cs':= [sl 1 rE_ m.aC,eqv (.slice none 0 0)]) J J J T.agg38 J J (nl (th (sq (rg (ag (nl (th (sq (sq (rg (ag (nl (th (bk ?_)))))))))))))))))))))))))))))))))))))))
  refine nwC 130 88 1 gE (kncC 10 1 (osl 130 (.slice none 0 0)) rfl rfl eq_osl ?_)
  have hI0_0:PI m n 0 ([(0,0)]:List (Int × Int)) (mset ([]:List ((Int × Int) × Int)) (0,0) 0) ([]:List (List (Int × Int)))∧0≤cntP m n ([(0,0)]:List (Int × Int)) 0:=by
   exact⟨pi_zero f0 f1,by simp[cntP]⟩
  refine lp (κ:=Nat × Nat × Value × (List (Int × Int)) × (List ((Int × Int) × Int)) × Value × (List (List (Int × Int)))) (fun p=> [(2,ptr 2 b2 0),(3,ptr 3 b3 0),(4,ptr 4 b4 0),(8,mpv 29 b29),(9,osl 33 p.2.2.1),(10,ptr 10 b10 0),(11,int (p.2.1:Int)),(12,int (p.1:Int))]) (fun p=> [(2,cell b2 [sl 1 rE_ m.aC,sl 1 gE m.sT]),(3,cell b3 [sl 1 rE_ n.aC,sl 1 gE n.sT]),(4,cell b4 [eqv (.slice none 0 0),eqv (.slice none 0 0)]),(10,cell b10 [sl 1 rE_ m.aC,osl 130 p.2.2.2.2.2.1]),(29,mp b29 pairV pairD intV p.2.2.2.2.1),(33,own p.2.2.1 78 2 pE p.2.2.2.1),(130,own p.2.2.2.2.2.1 88 1 gE p.2.2.2.2.2.2)]) (fun p=>PI m n p.1 p.2.2.2.1 p.2.2.2.2.1 p.2.2.2.2.2.2∧p.2.1≤cntP m n p.2.2.2.1 p.1) (fun p=>m.sT.length*n.sT.length- p.1) ⟨0,0,v33,([(0,0)]:List (Int × Int)),mset ([]:List ((Int × Int) × Int)) (0,0) 0,(.slice none 0 0),([]:List (List (Int × Int)))⟩ hI0_0 ⟨id,id,id,id,id,id,id,id,tV⟩ ⟨rI,rI,rI,rI,rI,rI,rI,tV⟩ ?_
  intro⟨i,c,v,q,mm,uo,outs⟩ hG0
  obtain⟨hPI,hcn⟩:PI m n i q mm outs∧c≤cntP m n q i:=hG0
  show Ct _ _ _ _ [(2,ptr 2 b2 0),(3,ptr 3 b3 0),(4,ptr 4 b4 0),(8,mpv 29 b29),(9,osl 33 v),(10,ptr 10 b10 0),(11,int (c:Int)),(12,int (i:Int))] [(2,cell b2 [sl 1 rE_ m.aC,sl 1 gE m.sT]),(3,cell b3 [sl 1 rE_ n.aC,sl 1 gE n.sT]),(4,cell b4 [eqv (.slice none 0 0),eqv (.slice none 0 0)]),(10,cell b10 [sl 1 rE_ m.aC,osl 130 uo]),(29,mp b29 pairV pairD intV mm),(33,own v 78 2 pE q),(130,own uo 88 1 gE outs)] _
  have hql:=pi_few hPI
  have hil:=hPI.il
  have hol:outs.length=i:=by rw[hPI.out];simp
  have hcl0:=cnt_le hPI i
  refine sq (sq (rg (mv (mv (lnO J J T.sl62 (bi J J b_lss (nl (th ?_))))))))
  refine cd J (fun hc1=> ?_) (fun hc1=> ?_)
  ·try simp at hc1
   obtain⟨hb0,hb1,hb2,hb3⟩:=hPI.box _ (ix_memS hc1)
   have hml:=hm.many (ix q i).1.toNat O
   have hnl:=hn.many (ix q i).2.toNat O
   have hml2:(ix m.sT (ix q i).1.toNat).length≤400000:=hml
   have hnl2:(ix n.sT (ix q i).2.toNat).length≤400000:=hnl
   refine sk (th (sq (bk (sq (rg (nw 13 94 2 pE (ag (rtg (key:=13) 13 J (nl (th (sq (rg (mv (mv (iO J J J T.sl62 O O (lOA J J gB T.agg78 (by decide) (al (key:=14) T.z78 (eC (eC eZ)) fun b14=>(sPA (cs':= [int ((ix q i).1),int ((ix q i).2)]) J J J T.agg78 J J (nl (th (sq (sq (rg (fP J T.fld38_1 (lP J J J T.one36 (iPA J J T.arr78 T.one3 J (lP J J J T.one3 (iF J J T.sl36 O gB (lF J J T.one88 (fc (slenI 53 J) fun hm53=>(lnF J T.sl88 (mv (nl (th (bk ?_)))))))))))))))))))))))))))))))))))
   have hI1_0:0≤(ix m.sT ((ix q i).1).toNat).length:=by
    first|omega|simp
   have hI1_1:PN m n i (ix q i) q mm outs 0 0 ([]:List (Int × Int))∧c≤cntP m n q i+0*(ix n.sT (ix q i).2.toNat).length:=by
    exact⟨pn_zero hPI hc1,O⟩
   refine lp (κ:=Nat × Nat × Value × (List (Int × Int)) × (List ((Int × Int) × Int)) × Value × (List (Int × Int))) (fun p=> [(2,ptr 2 b2 0),(3,ptr 3 b3 0),(4,ptr 4 b4 0),(8,mpv 29 b29),(9,osl 33 p.2.2.1),(10,ptr 10 b10 0),(11,int (p.2.1:Int)),(12,int (i:Int)),(13,osl 13 p.2.2.2.2.2.1),(14,ptr 14 b14 0),(53,sl 2 pE (ix m.sT ((ix q i).1).toNat)),(54,int ((ix m.sT ((ix q i).1).toNat).length:Int)),(55,int (p.1:Int))]) (fun p=> [(2,cell b2 [sl 1 rE_ m.aC,sl 1 gE m.sT]),(3,cell b3 [sl 1 rE_ n.aC,sl 1 gE n.sT]),(4,cell b4 [eqv (.slice none 0 0),eqv (.slice none 0 0)]),(10,cell b10 [sl 1 rE_ m.aC,osl 130 uo]),(13,own p.2.2.2.2.2.1 94 2 pE p.2.2.2.2.2.2),(14,cell b14 [int ((ix q i).1),int ((ix q i).2)]),(29,mp b29 pairV pairD intV p.2.2.2.2.1),(33,own p.2.2.1 78 2 pE p.2.2.2.1),(130,own uo 88 1 gE outs)]) (fun p=>(p.1≤(ix m.sT ((ix q i).1).toNat).length)∧(PN m n i (ix q i) p.2.2.2.1 p.2.2.2.2.1 outs p.1 0 p.2.2.2.2.2.2∧p.2.1≤cntP m n p.2.2.2.1 i+p.1*(ix n.sT (ix q i).2.toNat).length)) (fun p=>(ix m.sT ((ix q i).1).toNat).length- p.1) ⟨0,c,v,q,mm,(.slice none 0 0),([]:List (Int × Int))⟩ ⟨hI1_0,hI1_1⟩ ⟨id,id,id,id,id,id,id,id,id,id,id,id,id,tV⟩ ⟨rI,rI,rI,rI,rI,rI,rI,rI,rI,tV⟩ ?_
   intro⟨k1,c1,v1,q1,mm1,w1,l1⟩ hG1
   obtain⟨hk1,⟨hPN1,hcn1⟩⟩:(k1≤(ix m.sT ((ix q i).1).toNat).length)∧(PN m n i (ix q i) q1 mm1 outs k1 0 l1∧c1≤cntP m n q1 i+k1*(ix n.sT (ix q i).2.toNat).length):=hG1
   show Ct _ _ _ _ [(2,ptr 2 b2 0),(3,ptr 3 b3 0),(4,ptr 4 b4 0),(8,mpv 29 b29),(9,osl 33 v1),(10,ptr 10 b10 0),(11,int (c1:Int)),(12,int (i:Int)),(13,osl 13 w1),(14,ptr 14 b14 0),(53,sl 2 pE (ix m.sT ((ix q i).1).toNat)),(54,int ((ix m.sT ((ix q i).1).toNat).length:Int)),(55,int (k1:Int))] [(2,cell b2 [sl 1 rE_ m.aC,sl 1 gE m.sT]),(3,cell b3 [sl 1 rE_ n.aC,sl 1 gE n.sT]),(4,cell b4 [eqv (.slice none 0 0),eqv (.slice none 0 0)]),(10,cell b10 [sl 1 rE_ m.aC,osl 130 uo]),(13,own w1 94 2 pE l1),(14,cell b14 [int ((ix q i).1),int ((ix q i).2)]),(29,mp b29 pairV pairD intV mm1),(33,own v1 78 2 pE q1),(130,own uo 88 1 gE outs)] _
   have hql1:=pi_few hPN1.pi
   have hcl1:=cnt_le hPN1.pi (i+1)
   have hll1:l1.length≤k1*(ix n.sT (ix q i).2.toNat).length+0:=pn_few hPN1
   have hcs1:=cnt_succ (m:=m) (n:=n) hPN1.hi
   rw[hPN1.pe] at hcs1
   have hw1:wgt m n (ix q i)=(ix m.sT (ix q i).1.toNat).length*(ix n.sT (ix q i).2.toNat).length:=rfl
   have hk8:k1*(ix n.sT (ix q i).2.toNat).length≤(ix m.sT (ix q i).1.toNat).length*(ix n.sT (ix q i).2.toNat).length:=Nat.mul_le_mul_right _ O
   refine sq (rg (bi J J b_lss (nl (th (sq ?_)))))
   refine cd J (fun hc2=> ?_) (fun hc2=> ?_)
   ·try simp at hc2
    have hdd:0≤(ix (ix m.sT (ix q i).1.toNat) k1).1∧(ix (ix m.sT (ix q i).1.toNat) k1).1<(m.aC.length:Int)∧0≤(ix (ix m.sT (ix q i).1.toNat) k1).2∧(ix (ix m.sT (ix q i).1.toNat) k1).2<(m.sT.length:Int):=hm.ed _ O _ (ix_memS hc2)
    refine sk (th (sq (bk (sq (rg (iF J J T.sl88 O gB (lFA J T.agg94 (Nat.le_of_ble_eq_true J) (al (key:=16) T.z94 (eC (eC eZ)) fun b16=>(sPA (cs':= [int ((ix (ix m.sT ((ix q i).1).toNat) k1).1),int ((ix (ix m.sT ((ix q i).1).toNat) k1).2)]) J J J T.agg94 J J (nl (th (sq (rg (fP J T.fld38_1 (lP J J J T.one36 (iPA J J T.arr78 T.one3 J (lP J J J T.one3 (iF J J T.sl36 O gB (lF J J T.one88 (fc (slenI 64 J) fun hm64=>(lnF J T.sl88 (mv (nl (th (bk ?_)))))))))))))))))))))))))
    have hI2_0:0≤(ix n.sT ((ix q i).2).toNat).length:=by
     first|omega|simp
    have hI2_1:PN m n i (ix q i) q1 mm1 outs k1 0 l1∧c1≤cntP m n q1 i+k1*(ix n.sT (ix q i).2.toNat).length+0:=by
     exact⟨hPN1,O⟩
    refine lp (κ:=Nat × Nat × Value × (List (Int × Int)) × (List ((Int × Int) × Int)) × Value × (List (Int × Int))) (fun p=> [(2,ptr 2 b2 0),(3,ptr 3 b3 0),(4,ptr 4 b4 0),(8,mpv 29 b29),(9,osl 33 p.2.2.1),(10,ptr 10 b10 0),(11,int (p.2.1:Int)),(12,int (i:Int)),(13,osl 13 p.2.2.2.2.2.1),(14,ptr 14 b14 0),(16,ptr 16 b16 0),(53,sl 2 pE (ix m.sT ((ix q i).1).toNat)),(54,int ((ix m.sT ((ix q i).1).toNat).length:Int)),(55,int (k1:Int)),(64,sl 2 pE (ix n.sT ((ix q i).2).toNat)),(65,int ((ix n.sT ((ix q i).2).toNat).length:Int)),(66,int (p.1:Int))]) (fun p=> [(2,cell b2 [sl 1 rE_ m.aC,sl 1 gE m.sT]),(3,cell b3 [sl 1 rE_ n.aC,sl 1 gE n.sT]),(4,cell b4 [eqv (.slice none 0 0),eqv (.slice none 0 0)]),(10,cell b10 [sl 1 rE_ m.aC,osl 130 uo]),(13,own p.2.2.2.2.2.1 94 2 pE p.2.2.2.2.2.2),(14,cell b14 [int ((ix q i).1),int ((ix q i).2)]),(16,cell b16 [int ((ix (ix m.sT ((ix q i).1).toNat) k1).1),int ((ix (ix m.sT ((ix q i).1).toNat) k1).2)]),(29,mp b29 pairV pairD intV p.2.2.2.2.1),(33,own p.2.2.1 78 2 pE p.2.2.2.1),(130,own uo 88 1 gE outs)]) (fun p=>(p.1≤(ix n.sT ((ix q i).2).toNat).length)∧(PN m n i (ix q i) p.2.2.2.1 p.2.2.2.2.1 outs k1 p.1 p.2.2.2.2.2.2∧p.2.1≤cntP m n p.2.2.2.1 i+k1*(ix n.sT (ix q i).2.toNat).length+p.1)) (fun p=>(ix n.sT ((ix q i).2).toNat).length- p.1) ⟨0,c1,v1,q1,mm1,w1,l1⟩ ⟨hI2_0,hI2_1⟩ ⟨id,id,id,id,id,id,id,id,id,id,id,id,id,id,id,id,id,tV⟩ ⟨rI,rI,rI,rI,rI,rI,rI,rI,rI,rI,tV⟩ ?_
    intro⟨k2,c2,v2,q2,mm2,w2,l2⟩ hG2
    obtain⟨hk2,⟨hPN2,hcn2⟩⟩:(k2≤(ix n.sT ((ix q i).2).toNat).length)∧(PN m n i (ix q i) q2 mm2 outs k1 k2 l2∧c2≤cntP m n q2 i+k1*(ix n.sT (ix q i).2.toNat).length+k2):=hG2
    show Ct _ _ _ _ [(2,ptr 2 b2 0),(3,ptr 3 b3 0),(4,ptr 4 b4 0),(8,mpv 29 b29),(9,osl 33 v2),(10,ptr 10 b10 0),(11,int (c2:Int)),(12,int (i:Int)),(13,osl 13 w2),(14,ptr 14 b14 0),(16,ptr 16 b16 0),(53,sl 2 pE (ix m.sT ((ix q i).1).toNat)),(54,int ((ix m.sT ((ix q i).1).toNat).length:Int)),(55,int (k1:Int)),(64,sl 2 pE (ix n.sT ((ix q i).2).toNat)),(65,int ((ix n.sT ((ix q i).2).toNat).length:Int)),(66,int (k2:Int))] [(2,cell b2 [sl 1 rE_ m.aC,sl 1 gE m.sT]),(3,cell b3 [sl 1 rE_ n.aC,sl 1 gE n.sT]),(4,cell b4 [eqv (.slice none 0 0),eqv (.slice none 0 0)]),(10,cell b10 [sl 1 rE_ m.aC,osl 130 uo]),(13,own w2 94 2 pE l2),(14,cell b14 [int ((ix q i).1),int ((ix q i).2)]),(16,cell b16 [int ((ix (ix m.sT ((ix q i).1).toNat) k1).1),int ((ix (ix m.sT ((ix q i).1).toNat) k1).2)]),(29,mp b29 pairV pairD intV mm2),(33,own v2 78 2 pE q2),(130,own uo 88 1 gE outs)] _
    have hql2:=pi_few hPN2.pi
    have hll2:l2.length≤k1*(ix n.sT (ix q i).2.toNat).length+k2:=pn_few hPN2
    refine sq (rg (bi J J b_lss (nl (th (sq ?_)))))
    refine cd J (fun hc3=> ?_) (fun hc3=> ?_)
    ·try simp at hc3
     have hee:0≤(ix (ix n.sT (ix q i).2.toNat) k2).1∧(ix (ix n.sT (ix q i).2.toNat) k2).1<(n.aC.length:Int)∧0≤(ix (ix n.sT (ix q i).2.toNat) k2).2∧(ix (ix n.sT (ix q i).2.toNat) k2).2<(n.sT.length:Int):=hn.ed _ O _ (ix_memS hc3)
     have hi2:=hPN2.hi
     have hcs:=cnt_succ (m:=m) (n:=n) hi2
     have hcl:=cnt_le hPN2.pi (i+1)
     rw[hPN2.pe] at hcs
     have hw:wgt m n (ix q i)=(ix m.sT (ix q i).1.toNat).length*(ix n.sT (ix q i).2.toNat).length:=rfl
     have hk9:(k1+1)*(ix n.sT (ix q i).2.toNat).length≤(ix m.sT (ix q i).1.toNat).length*(ix n.sT (ix q i).2.toNat).length:=Nat.mul_le_mul_right _ hc2
     rw[Nat.add_mul] at hk9
     have hc9:c2+1≤400000:=by omega
     refine sk (th (sq (bk (sq (rg (iF J J T.sl88 O gB (lFA J T.agg94 (Nat.le_of_ble_eq_true J) (al (key:=18) T.z94 (eC (eC eZ)) fun b18=>(sPA (cs':= [int ((ix (ix n.sT ((ix q i).2).toNat) k2).1),int ((ix (ix n.sT ((ix q i).2).toNat) k2).2)]) J J J T.agg94 J J (nl (th (sq (sq (rg (fP J T.fld94_0 (lP J J J T.one3 (fP J T.fld94_0 (lP J J J T.one3 (bi J J b_neq (nl (th ?_)))))))))))))))))))))
     refine cd J (fun hc4=> ?_) (fun hc4=> ?_)
     ·try simp at hc4
      refine ex (xt_ (xb (th (rg (bi J J (b_add i6) (mv (nl ?_)))))))
      have hN0:(k2+1)≤(ix n.sT ((ix q i).2).toNat).length:=by
       first|omega|simp_all
      have hN1:PN m n i (ix q i) q2 mm2 outs k1 (k2+1) l2∧c2≤cntP m n q2 i+k1*(ix n.sT (ix q i).2.toNat).length+(k2+1):=by
       exact⟨pn_skip hPN2 hc3 (by simpa using hc4),O⟩
      exact ln (⟨k2+1,c2,v2,q2,mm2,w2,l2⟩:Nat × Nat × Value × (List (Int × Int)) × (List ((Int × Int) × Int)) × Value × (List (Int × Int))) ⟨hN0,hN1⟩ dO ⟨id,id,id,id,id,id,id,id,id,id,id,id,id,id,id,id,id,tV⟩ ⟨rI,rI,rI,rI,rI,rI,rI,rI,rI,rI,tV⟩
     ·try simp at hc4
      have hde:(ix (ix m.sT (ix q i).1.toNat) k1).1=(ix (ix n.sT (ix q i).2.toNat) k2).1:=by simpa using hc4
      refine sk (th (sq (rg (fP J T.fld94_1 (lP J J J T.one3 (fP J T.fld94_1 (lP J J J T.one3 (bd (css:= [(0,_),(1,_)]) T.st78 (eC (eC eZ)) ⟨J,J,p1 (φ:=int ((ix (ix m.sT ((ix q i).1).toNat) k1).2)) J,⟨J,J,p1 (φ:=int ((ix (ix n.sT ((ix q i).2).toNat) k2).2)) J,tV⟩⟩ (al (key:=19) T.z78 (eC (eC eZ)) fun b19=>(sPA (cs':= [int ((ix (ix m.sT ((ix q i).1).toNat) k1).2),int ((ix (ix n.sT ((ix q i).2).toNat) k2).2)]) J J J T.agg78 J J (nl (th (sq (rg (mv (lPA J J T.agg78 J (lookup2 (z:=(0:Int)) (q:=((ix (ix m.sT ((ix q i).1).toNat) k1).2,(ix (ix n.sT ((ix q i).2).toNat) k2).2)) J J agg_pair T.map97 ⟨⟨O,O⟩,⟨O,O⟩⟩ T.zvi3 (mv (xt J J (xt J J (ag (ag (nl (th (sq (sq (rg (mv (no J (nl (th ?_)))))))))))))))))))))))))))))))
      refine cd J (fun hc5=> ?_) (fun hc5=> ?_)
      ·try simp at hc5
       refine sq (rg (mv (lnO J J T.sl62 (ag (nl (th (sq (sq (rg (mv (bi J J b_eql (nl (th ?_)))))))))))))
       refine cd J (fun hc6=> ?_) (fun hc6=> ?_)
       ·try simp at hc6
        have hff:False:=by omega
        refine sq (rg (bd (css:= []) T.st38 (eC (eC eZ)) trivial (sPA (cs':= [eqv (.slice none 0 0),eqv (.slice none 0 0)]) J J J T.agg38 J J (ag (ag (nl (th (rt (rt_ (rt_ (rb (rt_ (rt_ (rb (rb (rt_ (rt_ (rb (rt_ (rb (rt_ (rt_ (rb (rt_ ?_))))))))))))))))))))))))
        refine kncA 4 0 (sl 1 rE_ []) rfl rfl slnil ?_
        refine kncA 4 1 (sl 1 gE []) rfl rfl slnil ?_
        refine knA 5 (sl 2 pE []) rfl slnil ?_
        have hr0:(2:Int)=(bothS m n):=by
         exact hff.elim
        exact rE ⟨(⟨[],[]⟩,[]),⟨fun _=>J,fun _=>hff.elim⟩⟩ [.cell 4 38,.tmp 5,.tmp 6] J [agg [sl 1 rE_ [],sl 1 gE []],sl 2 pE [],int 2] ⟨.agg J J T.agg38 J J,.tmp J,.tmp J,tV⟩ (cA1 (fun x0=>rV [agg [sl 1 rE_ [],sl 1 gE []],sl 2 pE [],int x0]) hr0) trivial eX
       ·try simp at hc6
        refine sk (th (sq (rg (mv (lPA J J T.agg78 J (mv (mapUpdate (q:=((ix (ix m.sT ((ix q i).1).toNat) k1).2,(ix (ix n.sT ((ix q i).2).toNat) k2).2)) (u:=(q2.length:Int)) J J agg_pair J T.map97 ⟨⟨O,O⟩,⟨O,O⟩⟩ (nl (th (rg (mv (lPA J J T.agg78 J (bsE (enc:=pE) (xs:= [((ix (ix m.sT ((ix q i).1).toNat) k1).2,(ix (ix n.sT ((ix q i).2).toNat) k2).2)]) (css:= [[int ((ix (ix m.sT ((ix q i).1).toNat) k1).2),int ((ix (ix n.sT ((ix q i).2).toNat) k2).2)]]) T.mk62 ⟨J,J,pA (cs:= [int ((ix (ix m.sT ((ix q i).1).toNat) k1).2),int ((ix (ix n.sT ((ix q i).2).toNat) k2).2)]) J,tV⟩ J J J J (ap (key:=33) (zs:= [((ix (ix m.sT ((ix q i).1).toNat) k1).2,(ix (ix n.sT ((ix q i).2).toNat) k2).2)]) osl_eq J J J T.mk62 (by unfold maxL at*;simp;omega) (by unfold maxL at*;simp;omega) fun v99=>(ag (nl (th (sq (sq (rg (mv (bi J J (b_add i6) (ag (nl (th (sq (rg (mv (bi J J b_gtr (nl (th ?_)))))))))))))))))))))))))))))))
        refine cd J (fun hc7=> ?_) (fun hc7=> ?_)
        ·try simp at hc7
         have hff:False:=by omega
         refine sq (rg (bd (css:= []) T.st38 (eC (eC eZ)) trivial (sPA (cs':= [eqv (.slice none 0 0),eqv (.slice none 0 0)]) J J J T.agg38 J J (ag (ag (nl (th (rt (rt_ (rb (rt_ (rt_ (rb (rb (rt_ (rt_ (rb (rt_ (rb (rt_ (rt_ (rb (rt_ ?_)))))))))))))))))))))))
         refine kncA 4 0 (sl 1 rE_ []) rfl rfl slnil ?_
         refine kncA 4 1 (sl 1 gE []) rfl rfl slnil ?_
         refine knA 5 (sl 2 pE []) rfl slnil ?_
         have hr0:(2:Int)=(bothS m n):=by
                    exact hff.elim
         exact rE ⟨(⟨[],[]⟩,[]),⟨fun _=>J,fun _=>hff.elim⟩⟩ [.cell 4 38,.tmp 5,.tmp 6] J [agg [sl 1 rE_ [],sl 1 gE []],sl 2 pE [],int 2] ⟨.agg J J T.agg38 J J,.tmp J,.tmp J,tV⟩ (cA1 (fun x0=>rV [agg [sl 1 rE_ [],sl 1 gE []],sl 2 pE [],int x0]) hr0) trivial eX
        ·try simp at hc7
         refine sk (th (rg (mv (fP J T.fld94_0 (lP J J J T.one3 (mv (bd (css:= [(0,_),(1,_)]) T.st94 (eC (eC eZ)) ⟨J,J,p1 (φ:=int ((ix (ix m.sT ((ix q i).1).toNat) k1).1)) J,⟨J,J,p1 (φ:=int (q2.length:Int)) J,tV⟩⟩ (bsE (enc:=pE) (xs:= [((ix (ix m.sT ((ix q i).1).toNat) k1).1,(q2.length:Int))]) (css:= [[int ((ix (ix m.sT ((ix q i).1).toNat) k1).1),int (q2.length:Int)]]) T.mk88 ⟨J,J,pA (cs:= [int ((ix (ix m.sT ((ix q i).1).toNat) k1).1),int (q2.length:Int)]) J,tV⟩ J J J J (ap (key:=13) (zs:= [((ix (ix m.sT ((ix q i).1).toNat) k1).1,(q2.length:Int))]) osl_eq J J J T.mk88 (by unfold maxL at*;simp;omega) (by unfold maxL at*;simp;omega) fun v111=>(ag (nl (eb (th (rg (bi J J (b_add i6) (mv (nl ?_)))))))))))))))))
         have hN0:(k2+1)≤(ix n.sT (((ix q i).2).toNat)).length:=by
                    first|omega|simp_all
         have hN1:PN m n i (ix q i) (q2++ [((ix (ix m.sT (((ix q i).1).toNat)) k1).2,(ix (ix n.sT (((ix q i).2).toNat)) k2).2)]) (mset mm2 ((ix (ix m.sT (((ix q i).1).toNat)) k1).2,(ix (ix n.sT (((ix q i).2).toNat)) k2).2) (q2.length:Int)) outs k1 (k2+1) (l2++ [((ix (ix m.sT (((ix q i).1).toNat)) k1).1,(q2.length:Int))])∧(c2+1)≤cntP m n (q2++ [((ix (ix m.sT (((ix q i).1).toNat)) k1).2,(ix (ix n.sT (((ix q i).2).toNat)) k2).2)]) i+k1*(ix n.sT (ix q i).2.toNat).length+(k2+1):=by
                    refine⟨pn_new hPN2 hc3 hde ⟨hdd.2.2.1,hdd.2.2.2,hee.2.2.1,hee.2.2.2⟩ (by simpa using hc5),?_⟩
                    rw[cnt_app O]
                    omega
         exact ln (⟨k2+1,c2+1,v99,q2++ [((ix (ix m.sT ((ix q i).1).toNat) k1).2,(ix (ix n.sT ((ix q i).2).toNat) k2).2)],mset mm2 ((ix (ix m.sT ((ix q i).1).toNat) k1).2,(ix (ix n.sT ((ix q i).2).toNat) k2).2) (q2.length:Int),v111,l2++ [((ix (ix m.sT ((ix q i).1).toNat) k1).1,(q2.length:Int))]⟩:Nat × Nat × Value × (List (Int × Int)) × (List ((Int × Int) × Int)) × Value × (List (Int × Int))) ⟨hN0,hN1⟩ dO ⟨id,id,id,id,id,id,id,id,id,id,id,id,id,id,id,id,id,tV⟩ ⟨rI,rI,rI,rI,rI,rI,rI,rI,rI,rI,tV⟩
      ·try simp at hc5
       refine sk (th (sq (sq (rg (mv (bi J J (b_add i6) (ag (nl (th (sq (rg (mv (bi J J b_gtr (nl (th ?_)))))))))))))))
       refine cd J (fun hc8=> ?_) (fun hc8=> ?_)
       ·try simp at hc8
        have hff:False:=by omega
        refine sq (rg (bd (css:= []) T.st38 (eC (eC eZ)) trivial (sPA (cs':= [eqv (.slice none 0 0),eqv (.slice none 0 0)]) J J J T.agg38 J J (ag (ag (nl (th (rt (rt_ (rb (rt_ (rt_ (rb (rb (rt_ (rt_ (rb (rt_ (rb (rt_ (rt_ (rb (rt_ ?_)))))))))))))))))))))))
        refine kncA 4 0 (sl 1 rE_ []) rfl rfl slnil ?_
        refine kncA 4 1 (sl 1 gE []) rfl rfl slnil ?_
        refine knA 5 (sl 2 pE []) rfl slnil ?_
        have hr0:(2:Int)=(bothS m n):=by
         exact hff.elim
        exact rE ⟨(⟨[],[]⟩,[]),⟨fun _=>J,fun _=>hff.elim⟩⟩ [.cell 4 38,.tmp 5,.tmp 6] J [agg [sl 1 rE_ [],sl 1 gE []],sl 2 pE [],int 2] ⟨.agg J J T.agg38 J J,.tmp J,.tmp J,tV⟩ (cA1 (fun x0=>rV [agg [sl 1 rE_ [],sl 1 gE []],sl 2 pE [],int x0]) hr0) trivial eX
       ·try simp at hc8
        refine sk (th (rg (mv (fP J T.fld94_0 (lP J J J T.one3 (mv (bd (css:= [(0,_),(1,_)]) T.st94 (eC (eC eZ)) ⟨J,J,p1 (φ:=int ((ix (ix m.sT ((ix q i).1).toNat) k1).1)) J,⟨J,J,p1 (φ:=int ((mget mm2 ((ix (ix m.sT ((ix q i).1).toNat) k1).2,(ix (ix n.sT ((ix q i).2).toNat) k2).2)).getD (0:Int))) J,tV⟩⟩ (bsE (enc:=pE) (xs:= [((ix (ix m.sT ((ix q i).1).toNat) k1).1,(mget mm2 ((ix (ix m.sT ((ix q i).1).toNat) k1).2,(ix (ix n.sT ((ix q i).2).toNat) k2).2)).getD (0:Int))]) (css:= [[int ((ix (ix m.sT ((ix q i).1).toNat) k1).1),int ((mget mm2 ((ix (ix m.sT ((ix q i).1).toNat) k1).2,(ix (ix n.sT ((ix q i).2).toNat) k2).2)).getD (0:Int))]]) T.mk88 ⟨J,J,pA (cs:= [int ((ix (ix m.sT ((ix q i).1).toNat) k1).1),int ((mget mm2 ((ix (ix m.sT ((ix q i).1).toNat) k1).2,(ix (ix n.sT ((ix q i).2).toNat) k2).2)).getD (0:Int))]) J,tV⟩ J J J J (ap (key:=13) (zs:= [((ix (ix m.sT ((ix q i).1).toNat) k1).1,(mget mm2 ((ix (ix m.sT ((ix q i).1).toNat) k1).2,(ix (ix n.sT ((ix q i).2).toNat) k2).2)).getD (0:Int))]) osl_eq J J J T.mk88 (by unfold maxL at*;simp;omega) (by unfold maxL at*;simp;omega) fun v111=>(ag (nl (eb (th (rg (bi J J (b_add i6) (mv (nl ?_)))))))))))))))))
        have hN0:(k2+1)≤(ix n.sT ((ix q i).2).toNat).length:=by
         first|omega|simp_all
        have hN1:PN m n i (ix q i) q2 mm2 outs k1 (k2+1) (l2++ [((ix (ix m.sT ((ix q i).1).toNat) k1).1,(mget mm2 ((ix (ix m.sT ((ix q i).1).toNat) k1).2,(ix (ix n.sT ((ix q i).2).toNat) k2).2)).getD (0:Int))])∧(c2+1)≤cntP m n q2 i+k1*(ix n.sT (ix q i).2.toNat).length+(k2+1):=by
         exact⟨pn_old hPN2 hc3 hde (by simpa using hc5),O⟩
        exact ln (⟨k2+1,c2+1,v2,q2,mm2,v111,l2++ [((ix (ix m.sT ((ix q i).1).toNat) k1).1,(mget mm2 ((ix (ix m.sT ((ix q i).1).toNat) k1).2,(ix (ix n.sT ((ix q i).2).toNat) k2).2)).getD (0:Int))]⟩:Nat × Nat × Value × (List (Int × Int)) × (List ((Int × Int) × Int)) × Value × (List (Int × Int))) ⟨hN0,hN1⟩ dO ⟨id,id,id,id,id,id,id,id,id,id,id,id,id,id,id,id,id,tV⟩ ⟨rI,rI,rI,rI,rI,rI,rI,rI,rI,rI,tV⟩
    ·try simp at hc3
     refine ex (xt_ (xt_ (xb (eb (th (rg (bi J J (b_add i6) (mv (nl ?_)))))))))
     have hN0:(k1+1)≤(ix m.sT ((ix q i).1).toNat).length:=by
      first|omega|simp_all
     have hN1:PN m n i (ix q i) q2 mm2 outs (k1+1) 0 l2∧c2≤cntP m n q2 i+(k1+1)*(ix n.sT (ix q i).2.toNat).length:=by
      refine⟨pn_row hPN2 hc2 (by show(ix n.sT (ix q i).2.toNat).length≤k2;omega),?_⟩
      rw[Nat.add_mul]
      omega
     exact ln (⟨k1+1,c2,v2,q2,mm2,w2,l2⟩:Nat × Nat × Value × (List (Int × Int)) × (List ((Int × Int) × Int)) × Value × (List (Int × Int))) ⟨hN0,hN1⟩ dO ⟨id,id,id,id,id,id,id,id,id,id,id,id,id,tV⟩ ⟨rI,rI,rI,rI,rI,rI,rI,rI,rI,tV⟩
   ·try simp at hc2
    refine ex (xt_ (xt_ (xb (th (sq (rg (mv ?_)))))))
    have hbd:∀p∈l1,bdP p:=fun p hp=>by
     have:=pn_bd hm hPN1 p hp
     unfold bdP;omega
    refine cal (Hi:= [(13,own w1 94 2 pE l1)]) (φs:= [osl 5 w1,eqv (.func (.func 69) #[] #[])]) ⟨osl_is.trans osl_is.symm,rfl,tV⟩ (rekeyIO 5 13 (sortE.SortcmpO_ok w1 l1 aS)) T.ent68 ⟨rI,tV⟩ fun _ _=>(nl (th (rg (fP rfl T.fld38_1 (lP rfl rfl rfl T.one36 (mv (fz 13 118 rfl rfl (bsE (enc:=gE) (xs:= [(sortP l1)]) (css:= [[sl 2 pE (sortP l1)]]) T.mk36 ⟨rfl,rfl,p1 (φ:=sl 2 pE (sortP l1)) rfl,tV⟩ rfl rfl rfl rfl (ap (key:=130) (zs:= [(sortP l1)]) osl_eq rfl rfl rfl T.mk36 (by unfold maxL at*;simp;omega) (by unfold maxL at*;simp;omega) fun v120=>(fP rfl T.fld38_1 (storePO rfl rfl rfl rfl T.one36 rfl (nl (eb (th (rg (mv (bi rfl rfl (b_add i6) (ag (nl ?_)))))))))))))))))))
    have hN0:PI m n (i+1) q1 mm1 (outs++ [(sortP l1)])∧c1≤cntP m n q1 (i+1):=by
     refine⟨pn_end hPN1 rfl (by show(ix m.sT (ix q i).1.toNat).length≤k1;omega),?_⟩
     have hcs:=cnt_succ (m:=m) (n:=n) hPN1.hi
     rw[hPN1.pe] at hcs
     have hw:wgt m n (ix q i)=(ix m.sT (ix q i).1.toNat).length*(ix n.sT (ix q i).2.toNat).length:=rfl
     have hk9:k1*(ix n.sT (ix q i).2.toNat).length≤(ix m.sT (ix q i).1.toNat).length*(ix n.sT (ix q i).2.toNat).length:=Nat.mul_le_mul_right _ O
     omega
    exact ln (⟨i+1,c1,v1,q1,mm1,v120,outs++ [(sortP l1)]⟩:Nat × Nat × Value × (List (Int × Int)) × (List ((Int × Int) × Int)) × Value × (List (List (Int × Int)))) hN0 dO ⟨id,id,id,id,id,id,id,id,tV⟩ ⟨rI,rI,rI,rI,rI,rI,rI,tV⟩
  ·try simp at hc1
   refine ex (xt_ (xt_ (xb (th (sq (rg (fzc 10 130 1 J J J J (lPA J J T.agg38 J (mv (sPA (cs':= [sl 1 rE_ m.aC,sl 1 gE outs]) J J J T.agg38 J J (ag (ag (nl (th (rt ?_)))))))))))))))
   refine fzA 33 5 rfl rfl ?_
   have hr0:(0:Int)=(bothS m n):=by
    exact hc0.symm
   exact rE ⟨(⟨m.aC,outs⟩,q),⟨fun h=>absurd hc0 h,fun _=>prod_ok hPI O⟩⟩ [.cell 4 38,.tmp 5,.tmp 6] J [agg [sl 1 rE_ m.aC,sl 1 gE outs],sl 2 pE q,int 0] ⟨.agg J J T.agg38 J J,.tmp J,.tmp J,tV⟩ (cA1 (fun x0=>rV [agg [sl 1 rE_ m.aC,sl 1 gE outs],sl 2 pE q,int x0]) hr0) trivial eX
end prodw
end
section
namespace EncM2
open EncM JudgM ref01
def encJ (v:VJ):Value:=encZ (⟨[],[v.pairs,v.word.map fun a=>(a,0),[(if v.holds then 1 else 0,v.state)]]⟩,0)
noncomputable def decJ (x:Value):VJ:=let m:=(decZ x).1;⟨decide ((ix (ix m.sT 2) 0).1=1),ix m.sT 0,(ix m.sT 1).map Prod.fst,(ix (ix m.sT 2) 0).2⟩
theorem decJ_enc (v:VJ):decJ (encJ v)=v:=by
 obtain⟨b,ps,w,st⟩:=v
 unfold decJ encJ
 rw[dec_enc]
 show(⟨decide ((if b=true then(1:Int) else 0)=1),ps,(w.map fun a=>(a,(0:Int))).map Prod.fst,st⟩:VJ)=_
 have e1:(w.map fun a=>(a,(0:Int))).map Prod.fst=w:=by
  rw[List.map_map]
  exact List.map_id' w
 rw[e1]
 cases b<;>rfl
def encP (z:SSys × List (Int × Int)):Value:=encZ (⟨z.1.aC,z.2::z.1.sT⟩,0)
noncomputable def decP (x:Value):SSys × List (Int × Int):=let m:=(decZ x).1;(⟨m.aC,m.sT.tail⟩,ix m.sT 0)
theorem decP_enc (z:SSys × List (Int × Int)):decP (encP z)=z:=by
 obtain⟨⟨a,s⟩,q⟩:=z
 unfold decP encP
 rw[dec_enc];rfl
end EncM2
end
end Go.Proofs.YtcjemmihcplgdaaGreat
