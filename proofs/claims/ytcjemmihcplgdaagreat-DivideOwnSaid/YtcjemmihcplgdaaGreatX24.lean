/- The walks of the functions and the plain laws. Own texts of this claim, packed: Zzdivx, ZzBrkM, Zzsatj, Zzdivb, ZzOtherM, Zzdivo. -/
import Derived.Test.YtcjemmihcplgdaaGreatX22
import Derived.Test.YtcjemmihcplgdaaGreatX23
import Derived.Test.YtcjemmihcplgdaaGreatX15
import Derived.Test.YtcjemmihcplgdaaGreatX13
import Derived.Test.YtcjemmihcplgdaaGreatX19
import Derived.Test.YtcjemmihcplgdaaGreatX18
set_option linter.all false
namespace Go.Proofs.YtcjemmihcplgdaaGreat
open AL Go
set_option maxRecDepth 100000
section
open ref01 ref03 ref04 ref06 prog prog2 prog3 prog6 prog13 starts Part Rungs LeftM TrimM RoundM MergeM BisM BisM4 BisM5 WalkM StepM WitM JudgM JudgM2 refw judg wit refj sysw divr divs divd dive divg divw divv divf divc divj divq divp divm diva LevM LevM2 ChsM QuoM FailM DivM QuoW RefM FitM PartM EncM TogM divt
noncomputable def fitB (x:SSys) (t s:SS):Bool:= @decide (ix (hOl s) 0=true∨Well3 x t (tR s).1) (Classical.propDecidable _)
theorem fitB_iff {x:SSys} {t s:SS}:fitB x t s=true↔(ix (hOl s) 0=true∨Well3 x t (tR s).1):= @decide_eq_true_iff _ (Classical.propDecidable _)
theorem jdg_fit {x:SSys} {t s:SS} {v:Bool × SSys} (hv:JdgOK x t s v):v.1=fitB x t s:=by
 rw[Bool.eq_iff_iff,fitB_iff]
 constructor
 ·intro g;exact(hv.yes g).2
 ·intro g
  cases e:v.1 with
  |true=>rfl
  |false=>
   obtain⟨h0,q,i,u,hq,hi,h1,h2,_⟩:=hv.no e
   have g:=g.resolve_left (by simp[h0])
   have e2:(tR s).1=tS s:=by rw[trimmed_not h0]
   rw[e2] at g
   exact absurd ⟨u,h1,h2⟩ (g _ (hq.rch _ (ix_memS hi)))
noncomputable def partnerB (m x:SSys) (t s:SS):Bool:=sysOK m&&decide (m.aC=s.aC)&&(satD m s&& !togB m x t)
theorem tiny_few {m:SSys} (h:tinyB m=true):m.sT.length≤8∧(sizeM m:Int)≤300:=by
 unfold tinyB fewM at h;simpa using h
namespace divx
end divx
end
section
namespace BrkM
open ref01 ref03 ref04 ref06 Part Rungs LeftM TrimM RoundM BisM BisM5 BisM6 WalkM WitM JudgM FailM FitM PartM QuoM TogM
def pm (p:T3):T3:=(p.2.2,p.1,p.2.1)
theorem pm_inj {p q:T3} (h:pm p=pm q):p=q:=by
 unfold pm at h
 simp only [Prod.mk.injEq] at h
 exact Prod.ext h.2.1 (Prod.ext h.2.2 h.1)
theorem pm_mem {p:T3} {l:List T3}:pm p∈l.map pm↔p∈l:=by
 rw[List.mem_map]
 exact⟨fun⟨q,hq,e⟩=>pm_inj e▸hq,fun h=>⟨p,h,rfl⟩⟩
theorem pm_ix {l:List T3} {k:Nat} (hk:k<l.length):ix (l.map pm) k=pm (ix l k):=TurnM.ix_mapS hk
structure BW (m x:SSys) (t:SS) (i:Nat) (l:List T3) (mm:List (T3 × Bool)):Prop where
 tw:TW m x t i (l.map pm)
 sm:smap3 mm l
structure BN (m x:SSys) (t:SS) (i:Nat) (l:List T3) (k1 k2:Nat) (l2:List T3) (mm2:List (T3 × Bool)):Prop where
 tn:TN m x t i (l.map pm) k1 k2 (l2.map pm)
 sm:smap3 mm2 l2
variable {m x:SSys} {t:SS} {i k1 k2:Nat} {l l2:List T3} {mm mm2:List (T3 × Bool)}
theorem bw_zero:BW m x t 0 [(0,0,0)] (mset [] (0,0,0) true):=⟨tw_zero,smap3_zero⟩
theorem bw_few (hm:okSys m) (hx:okSys x) (ht:oK t) (h:BW m x t i l mm):l.length≤m.sT.length*(x.sT.length*t.sT.length):=by
 have:=tw_few hm hx ht h.tw.nd h.tw.rch
 simpa using this
theorem bn_few (hm:okSys m) (hx:okSys x) (ht:oK t) (h:BN m x t i l k1 k2 l2 mm2):l2.length≤m.sT.length*(x.sT.length*t.sT.length):=by
 have:=tw_few hm hx ht h.tn.nd h.tn.rch
 simpa using this
theorem bw_il (h:BW m x t i l mm):i≤l.length:=by simpa using h.tw.il
theorem bw_box (hm:okSys m) (hx:okSys x) (ht:oK t) (h:BW m x t i l mm) (hi:i<l.length):0≤(ix l i).2.2∧(ix l i).2.2<(m.sT.length:Int)∧0≤(ix l i).1∧(ix l i).1<(x.sT.length:Int)∧0≤(ix l i).2.1∧(ix l i).2.1<(t.sT.length:Int):=by
 have:=rchT_box hm hx ht (h.tw.rch _ (pm_mem.2 (ix_memS hi)))
 exact this
theorem bw_no (h:BW m x t i l mm) (hi:i<l.length) (hb:BadT m x t (pm (ix l i))):¬WellT m x t:=tw_no h.tw (j:=i) (by simpa using hi) (by rw[pm_ix hi];exact hb)
theorem bw_yes (h:BW m x t i l mm) (hi:l.length≤i):WellT m x t:=tw_yes h.tw (by simpa using hi)
theorem bn_zero (h:BW m x t i l mm):BN m x t i l 0 0 l mm:=⟨tn_zero h.tw,h.sm⟩
def tgt (t:SS) (p:T3) (d e:PP):T3:=(e.2,ix (nxt t p.2.1.toNat) e.1.toNat,d.2)
theorem tgt_pm {p:T3} {d e:PP} (h:d.1=e.1):sucT t (pm p) d e=pm (tgt t p d e):=by
 unfold sucT tgt pm
 dsimp only
 rw[h]
theorem bn_skip (h:BN m x t i l k1 k2 l2 mm2) (hi:i<l.length) (hk:k2<(edg x (ix l i).1.toNat).length) (hs:(ix (edg m (ix l i).2.2.toNat) k1).1=(ix (edg x (ix l i).1.toNat) k2).1→(mget mm2 (tgt t (ix l i) (ix (edg m (ix l i).2.2.toNat) k1) (ix (edg x (ix l i).1.toNat) k2))).getD false=true):BN m x t i l k1 (k2+1) l2 mm2:=by
 refine⟨tn_skip h.tn (by rw[pm_ix hi];exact hk) (fun he=> ?_),h.sm⟩
 rw[pm_ix hi] at he ⊢
 have he:(ix (edg m (ix l i).2.2.toNat) k1).1=(ix (edg x (ix l i).1.toNat) k2).1:=he
 have h1:=hs he
 rw[smap3_get h.sm] at h1
 have h2:=tgt_pm (t:=t) (p:=ix l i) he
 have h3:=pm_mem.2 (of_decide_eq_true h1)
 rw[←h2] at h3
 exact h3
theorem bn_push (hW:BW m x t i l mm) (h:BN m x t i l k1 k2 l2 mm2) (hi:i<l.length) (hb:¬BadT m x t (pm (ix l i))) (hk1:k1<(edg m (ix l i).2.2.toNat).length) (hk:k2<(edg x (ix l i).1.toNat).length) (he:(ix (edg m (ix l i).2.2.toNat) k1).1=(ix (edg x (ix l i).1.toNat) k2).1)
 (hn:(mget mm2 (tgt t (ix l i) (ix (edg m (ix l i).2.2.toNat) k1) (ix (edg x (ix l i).1.toNat) k2))).getD false=false):BN m x t i l k1 (k2+1) (l2++ [tgt t (ix l i) (ix (edg m (ix l i).2.2.toNat) k1) (ix (edg x (ix l i).1.toNat) k2)]) (mset mm2 (tgt t (ix l i) (ix (edg m (ix l i).2.2.toNat) k1) (ix (edg x (ix l i).1.toNat) k2)) true):=by
 have h2:=tgt_pm (t:=t) (p:=ix l i) he
 rw[smap3_get h.sm] at hn
 have hn:¬tgt t (ix l i) (ix (edg m (ix l i).2.2.toNat) k1) (ix (edg x (ix l i).1.toNat) k2)∈l2:=of_decide_eq_false hn
 have e0:=pm_ix (l:=l) hi
 have hp:=tn_push (k1:=k1) (k2:=k2) hW.tw h.tn (by simpa using hi) (by rw[e0];exact hb) (by rw[e0];exact hk1) (by rw[e0];exact hk) (by rw[e0];exact he) (by
  rw[e0]
  intro g
  have g:sucT t (pm (ix l i)) (ix (edg m (ix l i).2.2.toNat) k1) (ix (edg x (ix l i).1.toNat) k2)∈l2.map pm:=g
  rw[h2] at g
  exact hn (pm_mem.1 g))
 refine⟨?_,smap3_push h.sm _⟩
 rw[List.map_append]
 rw[e0] at hp
 have hp:TN m x t i (l.map pm) k1 (k2+1) (l2.map pm++ [sucT t (pm (ix l i)) (ix (edg m (ix l i).2.2.toNat) k1) (ix (edg x (ix l i).1.toNat) k2)]):=hp
 rw[h2] at hp
 exact hp
theorem bn_row (h:BN m x t i l k1 k2 l2 mm2) (hi:i<l.length) (hk1:k1<(edg m (ix l i).2.2.toNat).length) (hk:(edg x (ix l i).1.toNat).length≤k2):BN m x t i l (k1+1) 0 l2 mm2:=
 ⟨tn_row h.tn (by rw[pm_ix hi];exact hk1) (by rw[pm_ix hi];exact hk),h.sm⟩
theorem bn_end (hW:BW m x t i l mm) (h:BN m x t i l k1 k2 l2 mm2) (hi:i<l.length) (hb:¬BadT m x t (pm (ix l i))) (hk1:(edg m (ix l i).2.2.toNat).length≤k1):BW m x t (i+1) l2 mm2:=
 ⟨tn_end hW.tw h.tn (by simpa using hi) (by rw[pm_ix hi];exact hb) (by rw[pm_ix hi];exact hk1),h.sm⟩
end BrkM
end
section
open ref01 ref03 ref04 ref06 prog prog2 prog3 prog6 prog13 prog15 starts search Part Rungs LeftM TrimM RoundM BisM BisM5 BisM6 WalkM StepM WitM JudgM refw judg wit sysw
def metJ:WalkM.Mt→List AV:=fun m=> [int m.before,int m.action,int m.s,int m.t]
instance (m:WalkM.Mt):OneAll (metJ m):=inferInstanceAs (OneAll [int m.before,int m.action,int m.s,int m.t])
noncomputable def fineSE (m:SSys) (s:SS):Int:=if sysOK m=true then(if specOK s=true then(if m.aC=s.aC then 0 else 10) else 30) else 20
abbrev verJ (v:VJ):AV:=agg [bl v.holds,sl 2 pE v.pairs,ints v.word,int v.state]
structure SatOK (m:SSys) (s:SS) (v:VJ):Prop where
 ok:fineSE m s=0→JudgeOK m s v
 no:fineSE m s≠0→v=⟨false,[],[],0⟩
theorem sat_bd {m:SSys} {t:SS} (hm:okSys m) (ht:oK t) {q:List WalkM.Mt} (h:QJ m t q):∀p∈q.map pairOf,bdP p:=by
 intro p hp
 obtain⟨x,hx,rfl⟩:=List.mem_map.1 hp
 have:=h.bd x hx
 have h1:=hm.few1
 have h2:=ht.few1
 unfold bdP pairOf
 dsimp only
 omega
namespace T
theorem map126:MapT Tryz.prog 126 78 4 pairV pairD:=mapT_arr Tryz.underlying126 Tryz.underlying78 kR (by decide+kernel) kR kR ⟨Tryz.underlying3,by kernel_rfl⟩ kR
theorem sl131:IsSlice Tryz.prog 131 130 4:=isSlice_of kR
theorem fld130_0:FieldAt Tryz.prog 130 0 0:=fieldAt_of kR
theorem fld128_0:FieldAt Tryz.prog 128 0 0:=fieldAt_of kR
theorem fld128_1:FieldAt Tryz.prog 128 1 1:=fieldAt_of kR
theorem z65:ZeroIs Tryz.prog 65 [.bool false,.slice none 0 0,.slice none 0 0,.int .i64 0]:=zeroIs_of kR
theorem st128:StructT Tryz.prog 128 [(0,1),(1,1)] [.int .i64 0,.int .i64 0]:=structT_of kR kR
theorem st130:StructT Tryz.prog 130 [(0,2),(2,2)] [.int .i64 0,.int .i64 0,.int .i64 0,.int .i64 0]:=structT_of kR kR
theorem mk131:MakeT Tryz.prog 131 130 4 32 [.int .i64 0,.int .i64 0,.int .i64 0,.int .i64 0]:=makeT_of kR kR
theorem fld130_1:FieldAt Tryz.prog 130 1 2:=fieldAt_of kR
theorem ent94:Ent Tryz.prog 94:=ent_of kR
theorem st65:StructT Tryz.prog 65 [(0,1),(1,1),(2,1),(3,1)] [.bool false,.slice none 0 0,.slice none 0 0,.int .i64 0]:=structT_of kR kR
theorem agg65:IsAgg Tryz.prog 65 4:=isAgg_of kR
theorem agg130:IsAgg Tryz.prog 130 4:=isAgg_of kR
theorem z130:ZeroIs Tryz.prog 130 [.int .i64 0,.int .i64 0,.int .i64 0,.int .i64 0]:=zeroIs_of kR
theorem fld65_1:FieldAt Tryz.prog 65 1 1:=fieldAt_of kR
theorem ent95:Ent Tryz.prog 95:=ent_of kR
end T
namespace satj
theorem word_ok (q:List WalkM.Mt) (hb:BackOK q) (i:Nat) (hi:i<q.length) (hq:q.length≤1000000000:=by omega):
 Fn0 Tryz.prog 94 [sl 4 metJ q,int (i:Int)] (ints (wordTo q i)):=by
 refine fnI Tryz.func94 rfl rfl (fun w0 F0=> ?_)
 refine fcC (slenI 0 J) (fun hm0=> ?_)
 refine sq (rg (ag (nl (th (sq (rg (nw 5 3 1 nE (ag (rtg (key:=5) 5 J (nl (th (sq (bk ?_)))))))))))))
 have hI0_0:0≤(i:Int)∧(i:Int)<(q.length:Int)∧([]:List Int)++upF q (i+1) (i:Int).toNat=upF q (i+1) i∧(i:Int).toNat<(i+1)∧([]:List Int).length+(i:Int).toNat≤i:=by
  exact⟨O,O,by rw[Int.toNat_natCast];rfl,O,by simp⟩
 refine lp (κ:=Nat × Int × Value × (List Int)) (fun p=> [(0,sl 4 metJ q),(1,int p.2.1),(4,eqv (.slice none 0 0)),(5,osl 5 p.2.2.1)]) (fun p=> [(5,own p.2.2.1 3 1 nE p.2.2.2)]) (fun p=>0≤p.2.1∧p.2.1<(q.length:Int)∧p.2.2.2++upF q p.1 p.2.1.toNat=upF q (i+1) i∧p.2.1.toNat<p.1∧p.2.2.2.length+p.2.1.toNat≤i) (fun p=>p.2.1.toNat) ⟨i+1,(i:Int),(.slice none 0 0),([]:List Int)⟩ hI0_0 ⟨id,id,id,id,tV⟩ ⟨rI,tV⟩ ?_
 intro⟨n,j,v5,out⟩ hG0
 obtain⟨hj0,hjl,hou,hjn,hol⟩:0≤j∧j<(q.length:Int)∧out++upF q n j.toNat=upF q (i+1) i∧j.toNat<n∧out.length+j.toNat≤i:=hG0
 show Ct _ _ _ _ [(0,sl 4 metJ q),(1,int j),(4,eqv (.slice none 0 0)),(5,osl 5 v5)] [(5,own v5 3 1 nE out)] _
 have hbk:=hb j.toNat O
 refine sq (sq (rg (mv (mv (iF J J T.sl131 O gB (fF J T.fld130_0 (fF J T.fld128_0 (lF J J T.one3 (bi J J b_geq (nl (th ?_)))))))))))
 refine cd J (fun hc0=> ?_) (fun hc0=> ?_)
 ·try simp at hc0
  refine sk (th (sq (bk (rg (mv (mv (mv (iF J J T.sl131 O gB (fF J T.fld130_0 (fF J T.fld128_1 (lF J J T.one3 (bsE (enc:=nE) (xs:= [(ix q j.toNat).action]) (css:= [[int (ix q j.toNat).action]]) T.mk63 ⟨J,J,p1 (φ:=int (ix q j.toNat).action) J,tV⟩ J J J J (ap (key:=5) (zs:= [(ix q j.toNat).action]) osl_eq J J J T.mk63 (by unfold maxL at*;simp;omega) (by unfold maxL at*;simp;omega) fun v27=>(ag (nl (eb (th (rg (mv (mv (iF J J T.sl131 O gB (fF J T.fld130_0 (fF J T.fld128_0 (lF J J T.one3 (ag (nl ?_))))))))))))))))))))))))))
  have hN0:0≤(ix q j.toNat).before∧(ix q j.toNat).before<(q.length:Int)∧(out++ [(ix q j.toNat).action])++upF q (n- 1) (ix q j.toNat).before.toNat=upF q (i+1) i∧(ix q j.toNat).before.toNat<(n- 1)∧(out++ [(ix q j.toNat).action]).length+(ix q j.toNat).before.toNat≤i:=by
   have hbk2:=hbk hc0
   exact⟨hc0,O,upF_up hou hjn hc0,O,by simp;omega⟩
  exact ln (⟨n- 1,(ix q j.toNat).before,v27,out++ [(ix q j.toNat).action]⟩:Nat × Int × Value × (List Int)) hN0 (by have hbk2:=hbk hc0;show(ix q j.toNat).before.toNat<j.toNat;omega) ⟨id,id,id,id,tV⟩ ⟨rI,tV⟩
 ·try simp at hc0
  refine ex (xt_ (xt_ (xb (th (sq (rg (mv (cal (Hi:= [(5,own v5 3 1 nE out)]) (φs:= [osl 5 v5]) ⟨J,tV⟩ (judg.Reverse_ok v5 out O) T.ent116 ⟨rI,tV⟩ fun _ _=>(nl (th (sq (rg (mv (ag (nl (th (rt ?_)))))))))))))))))
  refine fzA 5 4 rfl rfl ?_
  have hr0:out.reverse=(wordTo q i):=by
   rw[upF_top hou hjn O];rfl
  exact rE () [.tmp 4] J [sl 1 nE out.reverse] ⟨.tmp J,tV⟩ (cA1 (fun x0=>rV [sl 1 nE x0]) hr0) trivial eX
theorem Judge_ok (m:SSys) (hm:okSys m) (s:SS) (hs:oK s):
 AL.Fn Tryz.prog 61 [sys m,spec s] [] (ι:= { v:VJ//JudgeOK m s v }) (fun _ i=>verJ i.1) (fun _=> []):=by
 refine fnI Tryz.func61 rfl rfl (fun w0 F0=> ?_)
 have f1:=hm.few1;have f2:=hs.few1;have f3:=hs.n8;have f4:=hm.n8;have g0:=hm.few0;have g1:=hs.few0;have hmm:m.sT.length*s.sT.length≤10000*10000:=Nat.mul_le_mul f1 f2
 refine fcC (inhS 0 J) (fun hS0=> ?_)
 obtain⟨hma0,hms0,hme0⟩:=sys_lens hS0
 refine fcC (inhS 1 J) (fun hS1=> ?_)
 obtain⟨hsa1,hss1,hse1⟩:=sLn hS1
 refine sq (rg (bx (key:=2) (cs:= [sl 1 rE_ m.aC,sl 1 gE m.sT]) J fun b2=>(bx (key:=3) (cs:= [sl 1 rE_ s.aC,sl 2 sE s.sT]) J fun b3=>(al (key:=4) T.z65 (eC (eC (eC (eC eZ)))) fun b4=>(nl (th (sq (rg (mkm (key:=16) (kE:=pairV) (dom:=pairD) (vE:=blV) fun b16=>(bd (css:= [(0,_),(1,_)]) T.st78 (eC (eC eZ)) ⟨J,J,p1 (φ:=int 0) J,⟨J,J,p1 (φ:=int 0) J,tV⟩⟩ (AL.insert (q:=(0,0)) (u:=true) J J agg_pair J T.map126 ⟨⟨O,O⟩,⟨O,O⟩⟩ (mv (ag (nl (th (sq (rg (bd (css:= [(0,_)]) T.st128 (eC (eC eZ)) ⟨J,J,p1 (φ:=int (-1)) J,tV⟩ (bd (css:= [(0,_)]) T.st130 (eC (eC (eC (eC eZ)))) ⟨J,J,pA (cs:= [int (-1),int 0]) J,tV⟩ (bsO 21 (enc:=metJ) (xs:= [⟨0,0,(-1),0⟩]) (css:= [[int (-1),int 0,int 0,int 0]]) T.mk131 ⟨J,J,pA (cs:= [int (-1),int 0,int 0,int 0]) J,tV⟩ J J J J fun v21=>(ag (nl (th (sq (sq (rg (ag (nl (th (bk ?_))))))))))))))))))))))))))))))
 have hI0_0:QJ m s ([⟨0,0,(-1),0⟩]:List WalkM.Mt)∧smap (mset ([]:List ((Int × Int) × Bool)) (0,0) true) ([⟨0,0,(-1),0⟩]:List WalkM.Mt)∧0≤([⟨0,0,(-1),0⟩]:List WalkM.Mt).length∧∀k,k<0→DoneJ m s ([⟨0,0,(-1),0⟩]:List WalkM.Mt) k:=by
  exact⟨qj_zero hm hs,smap_zero,by simp,fun k hk=>absurd hk O⟩
 refine lp (κ:=Nat × Value × (List WalkM.Mt) × (List ((Int × Int) × Bool))) (fun p=> [(2,ptr 2 b2 0),(3,ptr 3 b3 0),(4,ptr 4 b4 0),(5,mpv 16 b16),(6,osl 21 p.2.1),(7,int (p.1:Int))]) (fun p=> [(2,cell b2 [sl 1 rE_ m.aC,sl 1 gE m.sT]),(3,cell b3 [sl 1 rE_ s.aC,sl 2 sE s.sT]),(4,cell b4 [bl false,eqv (.slice none 0 0),eqv (.slice none 0 0),int 0]),(16,mp b16 pairV pairD blV p.2.2.2),(21,own p.2.1 130 4 metJ p.2.2.1)]) (fun p=>QJ m s p.2.2.1∧smap p.2.2.2 p.2.2.1∧p.1≤p.2.2.1.length∧∀k,k<p.1→DoneJ m s p.2.2.1 k) (fun p=>m.sT.length*s.sT.length- p.1) ⟨0,v21,([⟨0,0,(-1),0⟩]:List WalkM.Mt),mset ([]:List ((Int × Int) × Bool)) (0,0) true⟩ hI0_0 ⟨id,id,id,id,id,id,tV⟩ ⟨rI,rI,rI,rI,rI,tV⟩ ?_
 intro⟨i,v,q,mm⟩ hG0
 obtain⟨hq,hsm,hil,hdone⟩:QJ m s q∧smap mm q∧i≤q.length∧∀k,k<i→DoneJ m s q k:=hG0
 show Ct _ _ _ _ [(2,ptr 2 b2 0),(3,ptr 3 b3 0),(4,ptr 4 b4 0),(5,mpv 16 b16),(6,osl 21 v),(7,int (i:Int))] [(2,cell b2 [sl 1 rE_ m.aC,sl 1 gE m.sT]),(3,cell b3 [sl 1 rE_ s.aC,sl 2 sE s.sT]),(4,cell b4 [bl false,eqv (.slice none 0 0),eqv (.slice none 0 0),int 0]),(16,mp b16 pairV pairD blV mm),(21,own v 130 4 metJ q)] _
 have hql:=qj_len hq
 refine sq (sq (rg (mv (mv (lnO J J T.sl131 (bi J J b_lss (nl (th ?_))))))))
 refine cd J (fun hc0=> ?_) (fun hc0=> ?_)
 ·try simp at hc0
  have hbd:=hq.bd _ (ix_memS hc0)
  have hsy:=hs.st (ix q i).t.toNat O
  have hyl:=hsy.len
  have hoff:∀e∈(ix m.sT (ix q i).s.toNat),0≤e.1∧e.1<8:=fun e he=>by have:=hm.ed (ix q i).s.toNat O e he;omega
  refine sk (th (sq (bk (sq (rg (mv (mv (iO J J J T.sl131 O O (fO J T.fld130_1 (lOA J J gB T.agg78 (by decide) (al (key:=8) T.z78 (eC (eC eZ)) fun b8=>(sPA (cs':= [int (ix q i).s,int (ix q i).t]) J J J T.agg78 J J (nl (th (sq (rg (fP J T.fld25_1 (lP J J J T.one23 (iPA J J T.arr78 T.one3 J (lP J J J T.one3 (iF J J T.sl23 O gB (lFA J T.agg72 (Nat.le_of_ble_eq_true J) (al (key:=9) T.z72 (eC (eC eZ)) fun b9=>(sPA (cs':= [sl 1 nE (ix s.sT (ix q i).t.toNat).aP,sl 1 nE (ix s.sT (ix q i).t.toNat).next]) J J J T.agg72 J J (nl (th (sq (sq (dr (nh:=10) [0,0,2,0,8,30,62,126,255,511] T.mixed kR ?_)))))))))))))))))))))))))))))
  refine st_ J (fun _ _ _ gq kq=>lPA (gq.1.trans J) J T.agg72 J kq) ?_
  refine st_ J (fun _ _ _ gq kq=>fP (gq.1.trans J) T.fld38_1 kq) ?_
  refine st_ J (fun _ _ _ gq kq=>lP (gq.1.trans J) J J T.one36 kq) ?_
  refine st_ J (fun _ _ _ gq kq=>iPA (gq.1.trans J) J T.arr78 T.one3 J kq) ?_
  refine st_ J (fun _ _ _ gq kq=>lP (gq.1.trans J) J J T.one3 kq) ?_
  refine st_ J (fun _ _ _ gq kq=>iF (gq.1.trans J) (gq.2.1.trans J) T.sl36 O gB kq) ?_
  refine st_ J (fun _ _ _ gq kq=>lF (gq.1.trans J) J T.one88 kq) ?_
  refine st_ J (fun _ _ _ gq kq=>cal0 (φs:= [sl 2 pE (ix m.sT (ix q i).s.toNat)]) (φ:=int (offE (ix m.sT (ix q i).s.toNat))) ⟨(gq.1.trans J),tV⟩ (sysw.Offers_ok (ix m.sT (ix q i).s.toNat) aS) T.ent93 kq) ?_
  refine st_ J (fun _ _ _ gq kq=>cal0 (φs:= [agg [sl 1 nE (ix s.sT (ix q i).t.toNat).aP,sl 1 nE (ix s.sT (ix q i).t.toNat).next],int (offE (ix m.sT (ix q i).s.toNat))]) (φ:=bl (decide ((offE (ix m.sT (ix q i).s.toNat))∈(ix s.sT (ix q i).t.toNat).aP))) ⟨(gq.1.trans J),(gq.2.1.trans J),tV⟩ (search.Accepts_ok (ix s.sT (ix q i).t.toNat) (hs.st _ O).rise (offE (ix m.sT (ix q i).s.toNat))) T.ent92 kq) ?_
  refine st_ J (fun _ _ _ gq kq=>no (gq.1.trans J) kq) ?_
  refine pn (nl (th ?_))
  refine cd J (fun hc1=> ?_) (fun hc1=> ?_)
  ·try simp at hc1
   have hnacc:offM m (ix q i).s.toNat∉acc s (ix q i).t.toNat:=by simpa using hc1
   refine sq (fzC 21 6 J J (dr (nh:=6) [0,0,3,0,8,31,63] T.mixed kR ?_))
   refine st_ J (fun _ _ _ gq kq=>mv' (gq.1.trans J) kq) ?_
   refine st_ J (fun _ _ _ gq kq=>mv' (gq.1.trans J) kq) ?_
   refine st_ J (fun _ _ _ gq kq=>cal0 (φs:= [sl 4 metJ q,int (i:Int)]) (φ:=sl 1 nE (wordTo q i)) ⟨(gq.1.trans J),(gq.2.1.trans J),tV⟩ (satj.word_ok q (qj_back hq) i O) T.ent94 kq) ?_
   refine st_ J (fun _ _ _ gq kq=>iPA (gq.1.trans J) J T.arr78 T.one3 J kq) ?_
   refine st_ J (fun _ _ _ gq kq=>lP (gq.1.trans J) J J T.one3 kq) ?_
   refine st_ J (fun _ _ _ gq kq=>bd (css:= [(2,_),(3,_)]) T.st65 (eC (eC (eC (eC eZ)))) ⟨J,J,p1 (φ:=sl 1 nE (wordTo q i)) (by exact(gq.1.trans J)),⟨J,J,p1 (φ:=int (ix q i).s) (by exact(gq.2.1.trans J)),tV⟩⟩ kq) ?_
   refine pn (sPA (cs':= [bl false,eqv (.slice none 0 0),sl 1 nE (wordTo q i),int (ix q i).s]) J J J T.agg65 J J (nl (th (rt (rt_ (rb (rt_ (rt_ (rb (rt_ ?_))))))))))
   refine kncA 4 1 (sl 2 pE []) rfl rfl slnil ?_
   exact rE ⟨⟨false,[],wordTo q i,(ix q i).s⟩,⟨fun h=>(nomatch (show false=true from h)),fun _=>⟨sat_no hq hc0 hnacc,J,q,i,hq,hc0,J,J,hdone,hnacc⟩⟩⟩ [.cell 4 65] J [agg [bl false,sl 2 pE [],sl 1 nE (wordTo q i),int (ix q i).s]] ⟨.agg J J T.agg65 J J,tV⟩ J trivial eX
  ·try simp at hc1
   have hacc:offM m (ix q i).s.toNat∈acc s (ix q i).t.toNat:=by simpa using hc1
   refine sk (th (sq (rg (fP J T.fld38_1 (lP J J J T.one36 (iPA J J T.arr78 T.one3 J (lP J J J T.one3 (iF J J T.sl36 O gB (lF J J T.one88 (fc (slenI 60 J) fun hm60=>(lnF J T.sl88 (mv (nl (th (bk ?_)))))))))))))))
   have hI1_0:0≤(ix m.sT (ix q i).s.toNat).length:=by
    first|omega|simp
   have hI1_1:MidJ m s q i 0 q mm:=by
    exact midj_zero hq hsm hdone
   refine lp (κ:=Nat × Value × (List WalkM.Mt) × (List ((Int × Int) × Bool))) (fun p=> [(2,ptr 2 b2 0),(3,ptr 3 b3 0),(4,ptr 4 b4 0),(5,mpv 16 b16),(6,osl 21 p.2.1),(7,int (i:Int)),(9,ptr 9 b9 0),(60,sl 2 pE (ix m.sT (ix q i).s.toNat)),(61,int ((ix m.sT (ix q i).s.toNat).length:Int)),(62,int (p.1:Int))]) (fun p=> [(2,cell b2 [sl 1 rE_ m.aC,sl 1 gE m.sT]),(3,cell b3 [sl 1 rE_ s.aC,sl 2 sE s.sT]),(4,cell b4 [bl false,eqv (.slice none 0 0),eqv (.slice none 0 0),int 0]),(8,cell b8 [int (ix q i).s,int (ix q i).t]),(9,cell b9 [sl 1 nE (ix s.sT (ix q i).t.toNat).aP,sl 1 nE (ix s.sT (ix q i).t.toNat).next]),(16,mp b16 pairV pairD blV p.2.2.2),(21,own p.2.1 130 4 metJ p.2.2.1)]) (fun p=>(p.1≤(ix m.sT (ix q i).s.toNat).length)∧(MidJ m s q i p.1 p.2.2.1 p.2.2.2)) (fun p=>(ix m.sT (ix q i).s.toNat).length- p.1) ⟨0,v,q,mm⟩ ⟨hI1_0,hI1_1⟩ ⟨id,id,id,id,id,id,id,id,id,id,tV⟩ ⟨rI,rI,rI,rI,rI,rI,rI,tV⟩ ?_
   intro⟨k1,v2,q2,mm2⟩ hG1
   obtain⟨hk1,hI1⟩:(k1≤(ix m.sT (ix q i).s.toNat).length)∧(MidJ m s q i k1 q2 mm2):=hG1
   show Ct _ _ _ _ [(2,ptr 2 b2 0),(3,ptr 3 b3 0),(4,ptr 4 b4 0),(5,mpv 16 b16),(6,osl 21 v2),(7,int (i:Int)),(9,ptr 9 b9 0),(60,sl 2 pE (ix m.sT (ix q i).s.toNat)),(61,int ((ix m.sT (ix q i).s.toNat).length:Int)),(62,int (k1:Int))] [(2,cell b2 [sl 1 rE_ m.aC,sl 1 gE m.sT]),(3,cell b3 [sl 1 rE_ s.aC,sl 2 sE s.sT]),(4,cell b4 [bl false,eqv (.slice none 0 0),eqv (.slice none 0 0),int 0]),(8,cell b8 [int (ix q i).s,int (ix q i).t]),(9,cell b9 [sl 1 nE (ix s.sT (ix q i).t.toNat).aP,sl 1 nE (ix s.sT (ix q i).t.toNat).next]),(16,mp b16 pairV pairD blV mm2),(21,own v2 130 4 metJ q2)] _
   have hq2l:=qj_len hI1.qi
   refine sq (rg (bi J J b_lss (nl (th (sq ?_)))))
   refine cd J (fun hc2=> ?_) (fun hc2=> ?_)
   ·try simp at hc2
    have hek:=hm.ed (ix q i).s.toNat O _ (ix_memS hc2)
    have hgo:=edge_go hm hs (x:=(ix q i).s.toNat) (y:=(ix q i).t.toNat) O O hacc (ix_memS hc2)
    obtain⟨hgo1,hgo2,hgo3⟩:=hgo
    dsimp only [nxt,edg] at hgo1 hgo2 hgo3 hek
    refine sk (th (sq (bk (sq (rg (iF J J T.sl88 O gB (lFA J T.agg94 (Nat.le_of_ble_eq_true J) (al (key:=11) T.z94 (eC (eC eZ)) fun b11=>(sPA (cs':= [int ((ix (ix m.sT (ix q i).s.toNat) k1).1),int ((ix (ix m.sT (ix q i).s.toNat) k1).2)]) J J J T.agg94 J J (nl (th (sq ?_))))))))))))
    refine drH (nh:=11) [0,1,0,4,0,16,60,124,255,0,1023] [(none,[]),(none,[11]),(none,[]),(none,[9]),(none,[]),(none,[11]),(none,[]),(none,[]),(none,[]),(some 12,[]),(some 12,[12])] T.mixed kR kR ?_
    refine stv (d:=66) (fun β0=>ptr 11 b11 1) [] J (fun β β' hb=>J) (fun β0 _ _ _ _ gq gh kq=>fP (gq.1.trans J) T.fld94_1 kq) ?_
    refine stv (d:=67) (fun β0=>int ((ix (ix m.sT (ix q i).s.toNat) k1).2)) [11] J (fun β β' hb=>J) (fun β0 _ _ _ _ gq gh kq=>lP (gq.1.trans J) (gh.1.trans J) J T.one3 kq) ?_
    refine stv (d:=68) (fun β0=>ptr 9 b9 1) [] J (fun β β' hb=>J) (fun β0 _ _ _ _ gq gh kq=>fP (gq.1.trans J) T.fld72_1 kq) ?_
    refine stv (d:=69) (fun β0=>sl 1 nE (ix s.sT (ix q i).t.toNat).next) [9] J (fun β β' hb=>J) (fun β0 _ _ _ _ gq gh kq=>lP (gq.1.trans J) (gh.1.trans J) J T.one63 kq) ?_
    refine stv (d:=70) (fun β0=>ptr 11 b11 0) [] J (fun β β' hb=>J) (fun β0 _ _ _ _ gq gh kq=>fP (gq.1.trans J) T.fld94_0 kq) ?_
    refine stv (d:=71) (fun β0=>int ((ix (ix m.sT (ix q i).s.toNat) k1).1)) [11] J (fun β β' hb=>J) (fun β0 _ _ _ _ gq gh kq=>lP (gq.1.trans J) (gh.1.trans J) J T.one3 kq) ?_
    refine stv (d:=72) (fun β0=>fp [int (ix (ix s.sT (ix q i).t.toNat).next ((ix (ix m.sT (ix q i).s.toNat) k1).1).toNat)]) [] J (fun β β' hb=>J) (fun β0 _ _ _ _ gq gh kq=>iF (gq.1.trans J) (gq.2.1.trans J) T.sl63 O gB kq) ?_
    refine stv (d:=73) (fun β0=>int (ix (ix s.sT (ix q i).t.toNat).next ((ix (ix m.sT (ix q i).s.toNat) k1).1).toNat)) [] J (fun β β' hb=>J) (fun β0 _ _ _ _ gq gh kq=>lF (gq.1.trans J) J T.one3 kq) ?_
    refine stv (d:=74) (fun β0=>agg [int ((ix (ix m.sT (ix q i).s.toNat) k1).2),int (ix (ix s.sT (ix q i).t.toNat).next ((ix (ix m.sT (ix q i).s.toNat) k1).1).toNat)]) [] J (fun β β' hb=>J) (fun β0 _ _ _ _ gq gh kq=>bd (css:= [(0,_),(1,_)]) T.st78 (eC (eC eZ)) ⟨J,J,p1 (φ:=int ((ix (ix m.sT (ix q i).s.toNat) k1).2)) (by exact(gq.1.trans J)),⟨J,J,p1 (φ:=int (ix (ix s.sT (ix q i).t.toNat).next ((ix (ix m.sT (ix q i).s.toNat) k1).1).toNat)) (by exact(gq.2.1.trans J)),tV⟩⟩ kq) ?_
    refine sta 12 T.z78 (eC (eC eZ)) ?_
    refine stw 12 (fun β0=>cell (gbk (β0 9)) [int ((ix (ix m.sT (ix q i).s.toNat) k1).2),int (ix (ix s.sT (ix q i).t.toNat).next ((ix (ix m.sT (ix q i).s.toNat) k1).1).toNat)]) [12] J (fun β β' hb=>by first|rw[hb 9 J]|(dsimp only;rw[hb 9 J])) (fun β0 _ _ _ _ gq gh kq=>sPA (cs':= [int ((ix (ix m.sT (ix q i).s.toNat) k1).2),int (ix (ix s.sT (ix q i).t.toNat).next ((ix (ix m.sT (ix q i).s.toNat) k1).1).toNat)]) (gq.1.trans J) (gh.1.trans J) (gq.2.1.trans J) T.agg78 J J kq) ?_
    refine pnH fun β0=>(nl (th (sq (rg (mv (lPA J J T.agg78 J (lookup (z:=false) (q:=((ix (ix m.sT (ix q i).s.toNat) k1).2,ix (ix s.sT (ix q i).t.toNat).next ((ix (ix m.sT (ix q i).s.toNat) k1).1).toNat)) J J agg_pair T.map126 ⟨⟨O,O⟩,⟨O,O⟩⟩ T.zvb4 (no J (nl (th ?_))))))))))
    refine cd J (fun hc3=> ?_) (fun hc3=> ?_)
    ·try simp at hc3
     refine sq (rg (mv (lPA J J T.agg78 J (mapUpdate (q:=((ix (ix m.sT (ix q i).s.toNat) k1).2,ix (ix s.sT (ix q i).t.toNat).next ((ix (ix m.sT (ix q i).s.toNat) k1).1).toNat)) (u:=true) J J agg_pair J T.map126 ⟨⟨O,O⟩,⟨O,O⟩⟩ (nl (th (rg (mv (mv (fP J T.fld94_0 (lP J J J T.one3 (bd (css:= [(0,_),(1,_)]) T.st128 (eC (eC eZ)) ⟨J,J,p1 (φ:=int (i:Int)) J,⟨J,J,p1 (φ:=int ((ix (ix m.sT (ix q i).s.toNat) k1).1)) J,tV⟩⟩ (lPA J J T.agg78 J (bd (css:= [(0,_),(2,_)]) T.st130 (eC (eC (eC (eC eZ)))) ⟨J,J,pA (cs:= [int (i:Int),int ((ix (ix m.sT (ix q i).s.toNat) k1).1)]) J,⟨J,J,pA (cs:= [int ((ix (ix m.sT (ix q i).s.toNat) k1).2),int (ix (ix s.sT (ix q i).t.toNat).next ((ix (ix m.sT (ix q i).s.toNat) k1).1).toNat)]) J,tV⟩⟩ (bsE (enc:=metJ) (xs:= [⟨((ix (ix m.sT (ix q i).s.toNat) k1).2),(ix (ix s.sT (ix q i).t.toNat).next ((ix (ix m.sT (ix q i).s.toNat) k1).1).toNat),(i:Int),((ix (ix m.sT (ix q i).s.toNat) k1).1)⟩]) (css:= [[int (i:Int),int ((ix (ix m.sT (ix q i).s.toNat) k1).1),int ((ix (ix m.sT (ix q i).s.toNat) k1).2),int (ix (ix s.sT (ix q i).t.toNat).next ((ix (ix m.sT (ix q i).s.toNat) k1).1).toNat)]]) T.mk131 ⟨J,J,pA (cs:= [int (i:Int),int ((ix (ix m.sT (ix q i).s.toNat) k1).1),int ((ix (ix m.sT (ix q i).s.toNat) k1).2),int (ix (ix s.sT (ix q i).t.toNat).next ((ix (ix m.sT (ix q i).s.toNat) k1).1).toNat)]) J,tV⟩ J J J J (ap (key:=21) (zs:= [⟨((ix (ix m.sT (ix q i).s.toNat) k1).2),(ix (ix s.sT (ix q i).t.toNat).next ((ix (ix m.sT (ix q i).s.toNat) k1).1).toNat),(i:Int),((ix (ix m.sT (ix q i).s.toNat) k1).1)⟩]) osl_eq J J J T.mk131 (by unfold maxL at*;simp;omega) (by unfold maxL at*;simp;omega) fun v89=>(ag (nl (eb (th (rg (bi J J (b_add i6) (mv (nl ?_))))))))))))))))))))))))
     have hN0:(k1+1)≤(ix m.sT (ix q i).s.toNat).length:=by
      first|omega|simp_all
     have hN1:MidJ m s q i (k1+1) (q2++ [⟨((ix (ix m.sT (ix q i).s.toNat) k1).2),(ix (ix s.sT (ix q i).t.toNat).next ((ix (ix m.sT (ix q i).s.toNat) k1).1).toNat),(i:Int),((ix (ix m.sT (ix q i).s.toNat) k1).1)⟩]) (mset mm2 ((ix (ix m.sT (ix q i).s.toNat) k1).2,ix (ix s.sT (ix q i).t.toNat).next ((ix (ix m.sT (ix q i).s.toNat) k1).1).toNat) true):=by
      exact midj_push hm hs hI1 hc0 hacc hc2 rfl rfl (by simpa using hc3)
     exact ln (⟨k1+1,v89,q2++ [⟨((ix (ix m.sT (ix q i).s.toNat) k1).2),(ix (ix s.sT (ix q i).t.toNat).next ((ix (ix m.sT (ix q i).s.toNat) k1).1).toNat),(i:Int),((ix (ix m.sT (ix q i).s.toNat) k1).1)⟩],mset mm2 ((ix (ix m.sT (ix q i).s.toNat) k1).2,ix (ix s.sT (ix q i).t.toNat).next ((ix (ix m.sT (ix q i).s.toNat) k1).1).toNat) true⟩:Nat × Value × (List WalkM.Mt) × (List ((Int × Int) × Bool))) ⟨hN0,hN1⟩ dO ⟨id,id,id,id,id,id,id,id,id,id,tV⟩ ⟨rI,rI,rI,rI,rI,rI,rI,tV⟩
    ·try simp at hc3
     refine sk (eb (th (rg (bi J J (b_add i6) (mv (nl ?_))))))
     have hN0:(k1+1)≤(ix m.sT (ix q i).s.toNat).length:=by
      first|omega|simp_all
     have hN1:MidJ m s q i (k1+1) q2 mm2:=by
      exact midj_skip hI1 hc2 rfl rfl (by simpa using hc3)
     exact ln (⟨k1+1,v2,q2,mm2⟩:Nat × Value × (List WalkM.Mt) × (List ((Int × Int) × Bool))) ⟨hN0,hN1⟩ dO ⟨id,id,id,id,id,id,id,id,id,id,tV⟩ ⟨rI,rI,rI,rI,rI,rI,rI,tV⟩
   ·try simp at hc2
    refine ex (xt_ (xt_ (xb (eb (th (rg (mv (bi J J (b_add i6) (ag (nl ?_))))))))))
    have hN0:QJ m s q2∧smap mm2 q2∧(i+1)≤q2.length∧∀k,k<(i+1)→DoneJ m s q2 k:=by
     exact midj_end hI1 hc0 hacc O
    exact ln (⟨i+1,v2,q2,mm2⟩:Nat × Value × (List WalkM.Mt) × (List ((Int × Int) × Bool))) hN0 dO ⟨id,id,id,id,id,id,tV⟩ ⟨rI,rI,rI,rI,rI,tV⟩
 ·try simp at hc0
  refine ex (xt_ (xt_ (xb (th (sq (rg (bd (css:= [(0,_)]) T.st65 (eC (eC (eC (eC eZ)))) ⟨J,J,p1 (φ:=bl true) J,tV⟩ (al (key:=13) T.z65 (eC (eC (eC (eC eZ)))) fun b13=>(sPA (cs':= [bl true,eqv (.slice none 0 0),eqv (.slice none 0 0),int 0]) J J J T.agg65 J J (nl (th (sq (sq (rg (mv (lnO J J T.sl131 (mv (nl (th (bk ?_))))))))))))))))))))
  refine nwC 130 78 2 pE (kncC 13 1 (osl 130 (.slice none 0 0)) rfl rfl eq_osl ?_)
  have hI2_0:0≤q.length:=by
   first|omega|simp
  have hI2_1:([]:List (Int × Int))=(q.take 0).map pairOf:=by
   rfl
  refine lp (κ:=Nat × Value × (List (Int × Int))) (fun p=> [(4,ptr 4 b4 0),(13,ptr 13 b13 0),(92,osl 21 v),(93,int (q.length:Int)),(94,int (p.1:Int))]) (fun p=> [(2,cell b2 [sl 1 rE_ m.aC,sl 1 gE m.sT]),(3,cell b3 [sl 1 rE_ s.aC,sl 2 sE s.sT]),(4,cell b4 [bl false,eqv (.slice none 0 0),eqv (.slice none 0 0),int 0]),(13,cell b13 [bl true,osl 130 p.2.1,eqv (.slice none 0 0),int 0]),(16,mp b16 pairV pairD blV mm),(21,own v 130 4 metJ q),(130,own p.2.1 78 2 pE p.2.2)]) (fun p=>(p.1≤q.length)∧(p.2.2=(q.take p.1).map pairOf)) (fun p=>q.length- p.1) ⟨0,(.slice none 0 0),([]:List (Int × Int))⟩ ⟨hI2_0,hI2_1⟩ ⟨id,id,id,id,id,tV⟩ ⟨rI,rI,rI,rI,rI,rI,rI,tV⟩ ?_
  intro⟨k2,vp,prs⟩ hG2
  obtain⟨hk2,hI2⟩:(k2≤q.length)∧(prs=(q.take k2).map pairOf):=hG2
  show Ct _ _ _ _ [(4,ptr 4 b4 0),(13,ptr 13 b13 0),(92,osl 21 v),(93,int (q.length:Int)),(94,int (k2:Int))] [(2,cell b2 [sl 1 rE_ m.aC,sl 1 gE m.sT]),(3,cell b3 [sl 1 rE_ s.aC,sl 2 sE s.sT]),(4,cell b4 [bl false,eqv (.slice none 0 0),eqv (.slice none 0 0),int 0]),(13,cell b13 [bl true,osl 130 vp,eqv (.slice none 0 0),int 0]),(16,mp b16 pairV pairD blV mm),(21,own v 130 4 metJ q),(130,own vp 78 2 pE prs)] _
  have hpl:prs.length≤k2:=by rw[hI2];simp;omega
  refine sq (rg (bi J J b_lss (nl (th (sq ?_)))))
  refine cd J (fun hc4=> ?_) (fun hc4=> ?_)
  ·try simp at hc4
   refine sk (th (sq (bk (sq (rg (iO J J J T.sl131 O O (lOA J J gB T.agg130 (by decide) (al (key:=15) T.z130 (eC (eC (eC (eC eZ)))) fun b15=>(sPA (cs':= [int (ix q k2).before,int (ix q k2).action,int (ix q k2).s,int (ix q k2).t]) J J J T.agg130 J J (nl (th (rg (fP J T.fld65_1 (lP J J J T.one62 (fP J T.fld130_1 (lPA J J T.agg78 J (bs (css:= [[int (ix q k2).s,int (ix q k2).t]]) T.mk62 ⟨J,J,pA (cs:= [int (ix q k2).s,int (ix q k2).t]) J,tV⟩ J J J (ap (key:=130) (zs:= [((ix q k2).s,(ix q k2).t)]) osl_eq J J J T.mk62 (by unfold maxL at*;simp;omega) (by unfold maxL at*;simp;omega) fun v103=>(fP J T.fld65_1 (storePO J J J J T.one62 J (nl (eb (th (rg (bi J J (b_add i6) (mv (nl ?_)))))))))))))))))))))))))))
   have hN0:(k2+1)≤q.length:=by
    first|omega|simp_all
   have hN1:(prs++ [((ix q k2).s,(ix q k2).t)])=(q.take (k2+1)).map pairOf:=by
    rw[hI2,take_s hc4,List.map_append];rfl
   exact ln (⟨k2+1,v103,prs++ [((ix q k2).s,(ix q k2).t)]⟩:Nat × Value × (List (Int × Int))) ⟨hN0,hN1⟩ dO ⟨id,id,id,id,id,tV⟩ ⟨rI,rI,rI,rI,rI,rI,rI,tV⟩
  ·try simp at hc4
   refine ex (xt_ (xt_ (xb (th (sq (rg (fP J T.fld65_1 (lP J J J T.one62 ?_))))))))
   have hbp:∀p∈prs,bdP p:=by rw[hI2,show k2=q.length by omega,List.take_length];exact sat_bd hm hs hq
   refine cal (Hi:= [(130,own vp 78 2 pE prs)]) (φs:= [osl 5 vp,eqv (.func (.func 96) #[] #[])]) ⟨osl_is.trans osl_is.symm,rfl,tV⟩ (rekeyIO 5 130 (sortE.SortcmpJ_ok vp prs aS)) T.ent95 ⟨rI,tV⟩ fun _ _=>(nl (th (sq (rg (fzc 13 130 1 rfl rfl rfl rfl (lPA rfl rfl T.agg65 rfl (sPA (cs':= [bl true,sl 2 pE (sortP prs),eqv (.slice none 0 0),int 0]) rfl rfl rfl T.agg65 rfl rfl (nl (th (rt ?_))))))))))
   refine kncA 4 2 (sl 1 nE []) rfl rfl slnil ?_
   exact rE ⟨⟨true,sortP prs,[],0⟩,⟨fun _=>⟨sat_yes hm hs hq (fun k hk=>hdone k O),J,J,q,hq,fun k hk=>hdone k O,by rw[hI2,show k2=q.length by omega,List.take_length]⟩,fun h=>(nomatch (show true=false from h))⟩⟩ [.cell 4 65] J [agg [bl true,sl 2 pE (sortP prs),sl 1 nE [],int 0]] ⟨.agg J J T.agg65 J J,tV⟩ J trivial eX
end satj
end
section
open ref01 ref03 ref04 ref06 prog prog2 prog3 prog6 prog13 starts Part Rungs LeftM TrimM RoundM MergeM BisM BisM4 BisM5 WalkM StepM WitM JudgM JudgM2 refw judg wit refj sysw divr divs divd dive divg divw divv divf divc divj divq divp divm diva LevM LevM2 ChsM QuoM FailM DivM QuoW RefM FitM PartM EncM TogM divt divx BrkM satj
theorem sat_judge {m:SSys} {s:SS} {v:VJ} (h:JudgeOK m s v):v.holds=satD m s:=by
 rw[Bool.eq_iff_iff,judge_iff h,satD_iff]
noncomputable def rightB (x:SSys) (t s:SS) (vh:Bool) (m:SSys):Bool:=decide (fineX x t s=0)&&(if vh=true then noneM m&&fitB x t s else partnerB m x t s)
theorem right_no {x:SSys} {t s:SS} {vh:Bool} {m:SSys} (h:¬fineX x t s=0):false=rightB x t s vh m:=by
 unfold rightB;rw[decide_eq_false h];rfl
theorem right_vh {x:SSys} {t s:SS} {vh:Bool} {m:SSys} (h:fineX x t s=0) (e:vh=true):(decide (((m.aC.length+m.sT.length:Nat):Int)=0)&&fitB x t s)=rightB x t s vh m:=by
 unfold rightB
 rw[decide_eq_true h,e]
 show _=(true&&(noneM m&&fitB x t s))
 have:decide (((m.aC.length+m.sT.length:Nat):Int)=0)=noneM m:=by
  unfold noneM
  rw[←Bool.decide_and,decide_eq_decide]
  omega
 rw[this];rfl
theorem right_pt {x:SSys} {t s:SS} {vh:Bool} {m:SSys} (h:fineX x t s=0) (e:vh=false):(((sysOK m&&decide (m.aC=s.aC))&&satD m s)&& !togB m x t)=rightB x t s vh m:=by
 unfold rightB
 rw[decide_eq_true h,e]
 show _=(true&&partnerB m x t s)
 unfold partnerB
 rw[Bool.and_assoc];rfl
namespace T
theorem mk141:MakeT Tryz.prog 141 139 3 24 [.int .i64 0,.int .i64 0,.int .i64 0]:=makeT_of kR kR
theorem sl141:IsSlice Tryz.prog 141 139 3:=isSlice_of kR
theorem flv49_0:FldV Tryz.prog 49 0 0 4:=fldV_of kR
theorem ent61:Ent Tryz.prog 61:=ent_of kR
theorem flv65_0:FldV Tryz.prog 65 0 0 4:=fldV_of kR
theorem ent62:Ent Tryz.prog 62:=ent_of kR
end T
namespace divb
theorem breaks_ok (m x:SSys) (t:SS) (hm:okSys m) (hx:okSys x) (ht:oK t) (hxa:x.aC.length=t.aC.length) (hz:m.sT.length*(x.sT.length*t.sT.length)≤1000000000):
 Fn0 Tryz.prog 62 [sys m,sys x,spec t] (bl (!togB m x t)):=by
 refine fnI Tryz.func62 rfl rfl (fun w0 F0=> ?_)
 have f0:=hm.few0;have f1:=hx.few0;have f2:=ht.few0;have f3:=hm.few1;have f4:=hx.few1;have f5:=ht.few1;have hm8:=hm.n8;have hx8:=hx.n8
 refine fcC (inhS 0 J) (fun hS0=> ?_)
 obtain⟨hma0,hms0,hme0⟩:=sys_lens hS0
 refine fcC (inhS 1 J) (fun hS1=> ?_)
 obtain⟨hma1,hms1,hme1⟩:=sys_lens hS1
 refine fcC (inhS 2 J) (fun hS2=> ?_)
 obtain⟨hsa2,hss2,hse2⟩:=sLn hS2
 refine sq (rg (bx (key:=3) (cs:= [sl 1 rE_ m.aC,sl 1 gE m.sT]) J fun b3=>(bx (key:=4) (cs:= [sl 1 rE_ x.aC,sl 1 gE x.sT]) J fun b4=>(bx (key:=5) (cs:= [sl 1 rE_ t.aC,sl 2 sE t.sT]) J fun b5=>(ag (nl (th (sq (rg (mkm (key:=16) (kE:=triV) (dom:=triD) (vE:=blV) fun b16=>(bd (css:= []) T.st139 (eC (eC (eC eZ))) trivial (AL.insert (q:=(0,0,0)) (u:=true) J J agg_tri J T.map140 (tri_dom ⟨O,O⟩ ⟨O,O⟩ ⟨O,O⟩) (mv (ag (nl (th (sq (rg (bd (css:= []) T.st139 (eC (eC (eC eZ))) trivial (bsO 20 (enc:=triE) (xs:= [(0,0,0)]) (css:= [[int 0,int 0,int 0]]) T.mk141 ⟨J,J,pA (cs:= [int 0,int 0,int 0]) J,tV⟩ J J J J fun v20=>(ag (nl (th (sq (sq (rg (ag (nl (th (bk ?_))))))))))))))))))))))))))))))
 have hI0_0:BW m x t 0 ([(0,0,0)]:List (Int × Int × Int)) (mset ([]:List ((Int × Int × Int) × Bool)) (0,0,0) true):=by
  exact bw_zero
 refine lp (κ:=Nat × Value × (List (Int × Int × Int)) × (List ((Int × Int × Int) × Bool))) (fun p=> [(3,ptr 3 b3 0),(4,ptr 4 b4 0),(5,ptr 5 b5 0),(7,mpv 16 b16),(8,osl 20 p.2.1),(9,int (p.1:Int))]) (fun p=> [(3,cell b3 [sl 1 rE_ m.aC,sl 1 gE m.sT]),(4,cell b4 [sl 1 rE_ x.aC,sl 1 gE x.sT]),(5,cell b5 [sl 1 rE_ t.aC,sl 2 sE t.sT]),(16,mp b16 triV triD blV p.2.2.2),(20,own p.2.1 139 3 triE p.2.2.1)]) (fun p=>BW m x t p.1 p.2.2.1 p.2.2.2) (fun p=>m.sT.length*(x.sT.length*t.sT.length)- p.1) ⟨0,v20,([(0,0,0)]:List (Int × Int × Int)),mset ([]:List ((Int × Int × Int) × Bool)) (0,0,0) true⟩ hI0_0 ⟨id,id,id,id,id,id,tV⟩ ⟨rI,rI,rI,rI,rI,tV⟩ ?_
 intro⟨i,v,l,mm⟩ hG0
 have hBW:BW m x t i l mm:=hG0
 show Ct _ _ _ _ [(3,ptr 3 b3 0),(4,ptr 4 b4 0),(5,ptr 5 b5 0),(7,mpv 16 b16),(8,osl 20 v),(9,int (i:Int))] [(3,cell b3 [sl 1 rE_ m.aC,sl 1 gE m.sT]),(4,cell b4 [sl 1 rE_ x.aC,sl 1 gE x.sT]),(5,cell b5 [sl 1 rE_ t.aC,sl 2 sE t.sT]),(16,mp b16 triV triD blV mm),(20,own v 139 3 triE l)] _
 have hlf:=bw_few hm hx ht hBW
 have hil:=bw_il hBW
 refine sq (sq (rg (mv (mv (lnO J J T.sl141 (bi J J b_lss (nl (th ?_))))))))
 refine cd J (fun hc0=> ?_) (fun hc0=> ?_)
 ·try simp at hc0
  obtain⟨hb0,hb1,hb2,hb3,hb4,hb5⟩:=bw_box hm hx ht hBW hc0
  have h8m:=off8 hm (x:=(ix l i).2.2.toNat) O
  have h8x:=off8 hx (x:=(ix l i).1.toNat) O
  have hom:0≤offE (ix m.sT (ix l i).2.2.toNat)∧offE (ix m.sT (ix l i).2.2.toNat)<256:=offE_lt h8m
  have hox:0≤offE (ix x.sT (ix l i).1.toNat)∧offE (ix x.sT (ix l i).1.toNat)<256:=offE_lt h8x
  have hst:=ht.st (ix l i).2.1.toNat O
  have htl:=hst.len
  have hacl:=hst.acl
  refine sk (th (sq (bk (sq (rg (mv (mv (iO J J J T.sl141 O O (lOA J J gB T.agg139 (by decide) (al (key:=10) T.z139 (eC (eC (eC eZ))) fun b10=>(sPA (cs':= [int ((ix l i).1),int ((ix l i).2.1),int ((ix l i).2.2)]) J J J T.agg139 J J (nl (th (sq (sq (dr (nh:=23) [0,1,0,4,15,31,0,64,0,256,960,1984,4032,0,8192,0,32768,122880,253952,524224,1048512,2097151,4194303] T.mixed kR ?_))))))))))))))))
  refine st_ J (fun _ _ _ gq kq=>fP (gq.1.trans J) T.fld25_1 kq) ?_
  refine st_ J (fun _ _ _ gq kq=>lP (gq.1.trans J) J J T.one23 kq) ?_
  refine st_ J (fun _ _ _ gq kq=>fP (gq.1.trans J) T.fld139_1 kq) ?_
  refine st_ J (fun _ _ _ gq kq=>lP (gq.1.trans J) J J T.one3 kq) ?_
  refine st_ J (fun _ _ _ gq kq=>iF (gq.1.trans J) (gq.2.1.trans J) T.sl23 O gB kq) ?_
  refine st_ J (fun _ _ _ gq kq=>lFA (gq.1.trans J) T.agg72 (Nat.le_of_ble_eq_true J) kq) ?_
  refine st_ J (fun _ _ _ gq kq=>fP (gq.1.trans J) T.fld38_1 kq) ?_
  refine st_ J (fun _ _ _ gq kq=>lP (gq.1.trans J) J J T.one36 kq) ?_
  refine st_ J (fun _ _ _ gq kq=>fP (gq.1.trans J) T.fld139_2 kq) ?_
  refine st_ J (fun _ _ _ gq kq=>lP (gq.1.trans J) J J T.one3 kq) ?_
  refine st_ J (fun _ _ _ gq kq=>iF (gq.1.trans J) (gq.2.1.trans J) T.sl36 O gB kq) ?_
  refine st_ J (fun _ _ _ gq kq=>lF (gq.1.trans J) J T.one88 kq) ?_
  refine st_ J (fun _ _ _ gq kq=>cal0 (φs:= [sl 2 pE (ix m.sT ((ix l i).2.2).toNat)]) (φ:=int (offE (ix m.sT ((ix l i).2.2).toNat))) ⟨(gq.1.trans J),tV⟩ (sysw.Offers_ok (ix m.sT ((ix l i).2.2).toNat) aS) T.ent93 kq) ?_
  refine st_ J (fun _ _ _ gq kq=>fP (gq.1.trans J) T.fld38_1 kq) ?_
  refine st_ J (fun _ _ _ gq kq=>lP (gq.1.trans J) J J T.one36 kq) ?_
  refine st_ J (fun _ _ _ gq kq=>fP (gq.1.trans J) T.fld139_0 kq) ?_
  refine st_ J (fun _ _ _ gq kq=>lP (gq.1.trans J) J J T.one3 kq) ?_
  refine st_ J (fun _ _ _ gq kq=>iF (gq.1.trans J) (gq.2.1.trans J) T.sl36 O gB kq) ?_
  refine st_ J (fun _ _ _ gq kq=>lF (gq.1.trans J) J T.one88 kq) ?_
  refine st_ J (fun _ _ _ gq kq=>cal0 (φs:= [sl 2 pE (ix x.sT ((ix l i).1).toNat)]) (φ:=int (offE (ix x.sT ((ix l i).1).toNat))) ⟨(gq.1.trans J),tV⟩ (sysw.Offers_ok (ix x.sT ((ix l i).1).toNat) aS) T.ent93 kq) ?_
  refine st_ J (fun _ _ _ gq kq=>bi (gq.1.trans J) (gq.2.1.trans J) (b_andI O O O O) kq) ?_
  refine st_ J (fun _ _ _ gq kq=>cal0 (φs:= [agg [sl 1 nE (ix t.sT ((ix l i).2.1).toNat).aP,sl 1 nE (ix t.sT ((ix l i).2.1).toNat).next],int (((offE (ix m.sT ((ix l i).2.2).toNat)).toNat&&&(offE (ix x.sT ((ix l i).1).toNat)).toNat:Nat):Int)]) (φ:=bl (decide ((((offE (ix m.sT ((ix l i).2.2).toNat)).toNat&&&(offE (ix x.sT ((ix l i).1).toNat)).toNat:Nat):Int)∈(ix t.sT ((ix l i).2.1).toNat).aP))) ⟨(gq.1.trans J),(gq.2.1.trans J),tV⟩ (search.Accepts_ok (ix t.sT ((ix l i).2.1).toNat) hst.rise (((offE (ix m.sT ((ix l i).2.2).toNat)).toNat&&&(offE (ix x.sT ((ix l i).1).toNat)).toNat:Nat):Int)) T.ent92 kq) ?_
  refine st_ J (fun _ _ _ gq kq=>no (gq.1.trans J) kq) ?_
  refine pn (nl (th ?_))
  refine cd J (fun hc1=> ?_) (fun hc1=> ?_)
  ·skip
   have hbd:BadT m x t (pm (ix l i)):=by
    unfold BadT andI pm
    simpa using hc1
   refine sq (rg (ag (nl (th (rt (rt_ (rb (rt_ (rt_ (rb (rt_ ?_)))))))))))
   have hr0:true=(!togB m x t):=by
    have h:=bw_no hBW hc0 hbd
    have h2:togB m x t=false:=Bool.eq_false_iff.2 (fun g=>h (togB_iff.1 g))
    simp[h2]
   exact rE () [.tmp 6] J [bl true] ⟨.tmp J,tV⟩ (cA1 (fun x0=>rV [bl x0]) hr0) trivial eX
  ·skip
   have hnb:¬BadT m x t (pm (ix l i)):=by
    unfold BadT andI pm
    simpa using hc1
   refine sk (th (sq (rg (fP J T.fld38_1 (lP J J J T.one36 (fP J T.fld139_2 (lP J J J T.one3 (iF J J T.sl36 O gB (lF J J T.one88 (fc (slenI 59 J) fun hm59=>(lnF J T.sl88 (mv (nl (th (bk ?_)))))))))))))))
   have hI1_0:0≤(ix m.sT ((ix l i).2.2).toNat).length:=by
    first|omega|simp
   have hI1_1:BN m x t i l 0 0 l mm:=by
    exact bn_zero hBW
   refine lp (κ:=Nat × Value × (List (Int × Int × Int)) × (List ((Int × Int × Int) × Bool))) (fun p=> [(3,ptr 3 b3 0),(4,ptr 4 b4 0),(5,ptr 5 b5 0),(7,mpv 16 b16),(8,osl 20 p.2.1),(9,int (i:Int)),(10,ptr 10 b10 0),(59,sl 2 pE (ix m.sT ((ix l i).2.2).toNat)),(60,int ((ix m.sT ((ix l i).2.2).toNat).length:Int)),(61,int (p.1:Int))]) (fun p=> [(3,cell b3 [sl 1 rE_ m.aC,sl 1 gE m.sT]),(4,cell b4 [sl 1 rE_ x.aC,sl 1 gE x.sT]),(5,cell b5 [sl 1 rE_ t.aC,sl 2 sE t.sT]),(10,cell b10 [int ((ix l i).1),int ((ix l i).2.1),int ((ix l i).2.2)]),(16,mp b16 triV triD blV p.2.2.2),(20,own p.2.1 139 3 triE p.2.2.1)]) (fun p=>(p.1≤(ix m.sT ((ix l i).2.2).toNat).length)∧(BN m x t i l p.1 0 p.2.2.1 p.2.2.2)) (fun p=>(ix m.sT ((ix l i).2.2).toNat).length- p.1) ⟨0,v,l,mm⟩ ⟨hI1_0,hI1_1⟩ ⟨id,id,id,id,id,id,id,id,id,id,tV⟩ ⟨rI,rI,rI,rI,rI,rI,tV⟩ ?_
   intro⟨k1,v1,l1,mm1⟩ hG1
   obtain⟨hk1,hBN1⟩:(k1≤(ix m.sT ((ix l i).2.2).toNat).length)∧(BN m x t i l k1 0 l1 mm1):=hG1
   show Ct _ _ _ _ [(3,ptr 3 b3 0),(4,ptr 4 b4 0),(5,ptr 5 b5 0),(7,mpv 16 b16),(8,osl 20 v1),(9,int (i:Int)),(10,ptr 10 b10 0),(59,sl 2 pE (ix m.sT ((ix l i).2.2).toNat)),(60,int ((ix m.sT ((ix l i).2.2).toNat).length:Int)),(61,int (k1:Int))] [(3,cell b3 [sl 1 rE_ m.aC,sl 1 gE m.sT]),(4,cell b4 [sl 1 rE_ x.aC,sl 1 gE x.sT]),(5,cell b5 [sl 1 rE_ t.aC,sl 2 sE t.sT]),(10,cell b10 [int ((ix l i).1),int ((ix l i).2.1),int ((ix l i).2.2)]),(16,mp b16 triV triD blV mm1),(20,own v1 139 3 triE l1)] _
   have hlf1:=bn_few hm hx ht hBN1
   refine sq (rg (bi J J b_lss (nl (th (sq ?_)))))
   refine cd J (fun hc2=> ?_) (fun hc2=> ?_)
   ·try simp at hc2
    have hdm:(ix (ix m.sT (ix l i).2.2.toNat) k1)∈edg m (ix l i).2.2.toNat:=ix_memS hc2
    have hdd:0≤(ix (ix m.sT (ix l i).2.2.toNat) k1).1∧(ix (ix m.sT (ix l i).2.2.toNat) k1).1<(m.aC.length:Int)∧0≤(ix (ix m.sT (ix l i).2.2.toNat) k1).2∧(ix (ix m.sT (ix l i).2.2.toNat) k1).2<(m.sT.length:Int):=hm.ed _ O _ hdm
    refine sk (th (sq (bk (sq (rg (iF J J T.sl88 O gB (lFA J T.agg94 (Nat.le_of_ble_eq_true J) (al (key:=12) T.z94 (eC (eC eZ)) fun b12=>(sPA (cs':= [int ((ix (ix m.sT ((ix l i).2.2).toNat) k1).1),int ((ix (ix m.sT ((ix l i).2.2).toNat) k1).2)]) J J J T.agg94 J J (nl (th (sq (rg (fP J T.fld38_1 (lP J J J T.one36 (fP J T.fld139_0 (lP J J J T.one3 (iF J J T.sl36 O gB (lF J J T.one88 (fc (slenI 70 J) fun hm70=>(lnF J T.sl88 (mv (nl (th (bk ?_)))))))))))))))))))))))))
    have hI2_0:0≤(ix x.sT ((ix l i).1).toNat).length:=by
     first|omega|simp
    have hI2_1:BN m x t i l k1 0 l1 mm1:=by
     exact hBN1
    refine lp (κ:=Nat × Value × (List (Int × Int × Int)) × (List ((Int × Int × Int) × Bool))) (fun p=> [(3,ptr 3 b3 0),(4,ptr 4 b4 0),(5,ptr 5 b5 0),(7,mpv 16 b16),(8,osl 20 p.2.1),(9,int (i:Int)),(10,ptr 10 b10 0),(12,ptr 12 b12 0),(59,sl 2 pE (ix m.sT ((ix l i).2.2).toNat)),(60,int ((ix m.sT ((ix l i).2.2).toNat).length:Int)),(61,int (k1:Int)),(70,sl 2 pE (ix x.sT ((ix l i).1).toNat)),(71,int ((ix x.sT ((ix l i).1).toNat).length:Int)),(72,int (p.1:Int))]) (fun p=> [(3,cell b3 [sl 1 rE_ m.aC,sl 1 gE m.sT]),(4,cell b4 [sl 1 rE_ x.aC,sl 1 gE x.sT]),(5,cell b5 [sl 1 rE_ t.aC,sl 2 sE t.sT]),(10,cell b10 [int ((ix l i).1),int ((ix l i).2.1),int ((ix l i).2.2)]),(12,cell b12 [int ((ix (ix m.sT ((ix l i).2.2).toNat) k1).1),int ((ix (ix m.sT ((ix l i).2.2).toNat) k1).2)]),(16,mp b16 triV triD blV p.2.2.2),(20,own p.2.1 139 3 triE p.2.2.1)]) (fun p=>(p.1≤(ix x.sT ((ix l i).1).toNat).length)∧(BN m x t i l k1 p.1 p.2.2.1 p.2.2.2)) (fun p=>(ix x.sT ((ix l i).1).toNat).length- p.1) ⟨0,v1,l1,mm1⟩ ⟨hI2_0,hI2_1⟩ ⟨id,id,id,id,id,id,id,id,id,id,id,id,id,id,tV⟩ ⟨rI,rI,rI,rI,rI,rI,rI,tV⟩ ?_
    intro⟨k2,v2,l2,mm2⟩ hG2
    obtain⟨hk2,hBN2⟩:(k2≤(ix x.sT ((ix l i).1).toNat).length)∧(BN m x t i l k1 k2 l2 mm2):=hG2
    show Ct _ _ _ _ [(3,ptr 3 b3 0),(4,ptr 4 b4 0),(5,ptr 5 b5 0),(7,mpv 16 b16),(8,osl 20 v2),(9,int (i:Int)),(10,ptr 10 b10 0),(12,ptr 12 b12 0),(59,sl 2 pE (ix m.sT ((ix l i).2.2).toNat)),(60,int ((ix m.sT ((ix l i).2.2).toNat).length:Int)),(61,int (k1:Int)),(70,sl 2 pE (ix x.sT ((ix l i).1).toNat)),(71,int ((ix x.sT ((ix l i).1).toNat).length:Int)),(72,int (k2:Int))] [(3,cell b3 [sl 1 rE_ m.aC,sl 1 gE m.sT]),(4,cell b4 [sl 1 rE_ x.aC,sl 1 gE x.sT]),(5,cell b5 [sl 1 rE_ t.aC,sl 2 sE t.sT]),(10,cell b10 [int ((ix l i).1),int ((ix l i).2.1),int ((ix l i).2.2)]),(12,cell b12 [int ((ix (ix m.sT ((ix l i).2.2).toNat) k1).1),int ((ix (ix m.sT ((ix l i).2.2).toNat) k1).2)]),(16,mp b16 triV triD blV mm2),(20,own v2 139 3 triE l2)] _
    have hlf2:=bn_few hm hx ht hBN2
    refine sq (rg (bi J J b_lss (nl (th (sq ?_)))))
    refine cd J (fun hc3=> ?_) (fun hc3=> ?_)
    ·try simp at hc3
     have hee:(ix (ix x.sT (ix l i).1.toNat) k2)∈edg x (ix l i).1.toNat:=ix_memS hc3
     have hed:0≤(ix (ix x.sT (ix l i).1.toNat) k2).1∧(ix (ix x.sT (ix l i).1.toNat) k2).1<(x.aC.length:Int)∧0≤(ix (ix x.sT (ix l i).1.toNat) k2).2∧(ix (ix x.sT (ix l i).1.toNat) k2).2<(x.sT.length:Int):=hx.ed _ O _ hee
     have htn:=hst.nx (ix (ix x.sT (ix l i).1.toNat) k2).1.toNat O
     refine sk (th (sq (bk (sq (rg (iF J J T.sl88 O gB (lFA J T.agg94 (Nat.le_of_ble_eq_true J) (al (key:=14) T.z94 (eC (eC eZ)) fun b14=>(sPA (cs':= [int ((ix (ix x.sT ((ix l i).1).toNat) k2).1),int ((ix (ix x.sT ((ix l i).1).toNat) k2).2)]) J J J T.agg94 J J (nl (th (sq ?_))))))))))))
     refine drH (nh:=18) [0,1,0,4,0,16,60,124,252,0,512,2044,4092,0,8192,32767,0,131071] [(none,[]),(none,[14]),(none,[]),(none,[5]),(none,[]),(none,[10]),(none,[]),(none,[]),(none,[]),(none,[]),(none,[14]),(none,[]),(none,[]),(none,[]),(none,[12]),(none,[]),(some 15,[]),(some 15,[15])] T.mixed kR kR ?_
     refine stv (d:=76) (fun β0=>ptr 14 b14 1) [] J (fun β β' hb=>J) (fun β0 _ _ _ _ gq gh kq=>fP (gq.1.trans J) T.fld94_1 kq) ?_
     refine stv (d:=77) (fun β0=>int ((ix (ix x.sT ((ix l i).1).toNat) k2).2)) [14] J (fun β β' hb=>J) (fun β0 _ _ _ _ gq gh kq=>lP (gq.1.trans J) (gh.1.trans J) J T.one3 kq) ?_
     refine stv (d:=78) (fun β0=>ptr 5 b5 1) [] J (fun β β' hb=>J) (fun β0 _ _ _ _ gq gh kq=>fP (gq.1.trans J) T.fld25_1 kq) ?_
     refine stv (d:=79) (fun β0=>sl 2 sE t.sT) [5] J (fun β β' hb=>J) (fun β0 _ _ _ _ gq gh kq=>lP (gq.1.trans J) (gh.1.trans J) J T.one23 kq) ?_
     refine stv (d:=80) (fun β0=>ptr 10 b10 1) [] J (fun β β' hb=>J) (fun β0 _ _ _ _ gq gh kq=>fP (gq.1.trans J) T.fld139_1 kq) ?_
     refine stv (d:=81) (fun β0=>int ((ix l i).2.1)) [10] J (fun β β' hb=>J) (fun β0 _ _ _ _ gq gh kq=>lP (gq.1.trans J) (gh.1.trans J) J T.one3 kq) ?_
     refine stv (d:=82) (fun β0=>fp [sl 1 nE (ix t.sT ((ix l i).2.1).toNat).aP,sl 1 nE (ix t.sT ((ix l i).2.1).toNat).next]) [] J (fun β β' hb=>J) (fun β0 _ _ _ _ gq gh kq=>iF (gq.1.trans J) (gq.2.1.trans J) T.sl23 O gB kq) ?_
     refine stv (d:=83) (fun β0=>fp [sl 1 nE (ix t.sT ((ix l i).2.1).toNat).next]) [] J (fun β β' hb=>J) (fun β0 _ _ _ _ gq gh kq=>fF (gq.1.trans J) T.fld72_1 kq) ?_
     refine stv (d:=84) (fun β0=>sl 1 nE (ix t.sT ((ix l i).2.1).toNat).next) [] J (fun β β' hb=>J) (fun β0 _ _ _ _ gq gh kq=>lF (gq.1.trans J) J T.one63 kq) ?_
     refine stv (d:=85) (fun β0=>ptr 14 b14 0) [] J (fun β β' hb=>J) (fun β0 _ _ _ _ gq gh kq=>fP (gq.1.trans J) T.fld94_0 kq) ?_
     refine stv (d:=86) (fun β0=>int ((ix (ix x.sT ((ix l i).1).toNat) k2).1)) [14] J (fun β β' hb=>J) (fun β0 _ _ _ _ gq gh kq=>lP (gq.1.trans J) (gh.1.trans J) J T.one3 kq) ?_
     refine stv (d:=87) (fun β0=>fp [int (ix (ix t.sT ((ix l i).2.1).toNat).next ((ix (ix x.sT ((ix l i).1).toNat) k2).1).toNat)]) [] J (fun β β' hb=>J) (fun β0 _ _ _ _ gq gh kq=>iF (gq.1.trans J) (gq.2.1.trans J) T.sl63 O gB kq) ?_
     refine stv (d:=88) (fun β0=>int (ix (ix t.sT ((ix l i).2.1).toNat).next ((ix (ix x.sT ((ix l i).1).toNat) k2).1).toNat)) [] J (fun β β' hb=>J) (fun β0 _ _ _ _ gq gh kq=>lF (gq.1.trans J) J T.one3 kq) ?_
     refine stv (d:=89) (fun β0=>ptr 12 b12 1) [] J (fun β β' hb=>J) (fun β0 _ _ _ _ gq gh kq=>fP (gq.1.trans J) T.fld94_1 kq) ?_
     refine stv (d:=90) (fun β0=>int ((ix (ix m.sT ((ix l i).2.2).toNat) k1).2)) [12] J (fun β β' hb=>J) (fun β0 _ _ _ _ gq gh kq=>lP (gq.1.trans J) (gh.1.trans J) J T.one3 kq) ?_
     refine stv (d:=91) (fun β0=>agg [int ((ix (ix x.sT ((ix l i).1).toNat) k2).2),int (ix (ix t.sT ((ix l i).2.1).toNat).next ((ix (ix x.sT ((ix l i).1).toNat) k2).1).toNat),int ((ix (ix m.sT ((ix l i).2.2).toNat) k1).2)]) [] J (fun β β' hb=>J) (fun β0 _ _ _ _ gq gh kq=>bd (css:= [(0,_),(1,_),(2,_)]) T.st139 (eC (eC (eC eZ))) ⟨J,J,p1 (φ:=int ((ix (ix x.sT ((ix l i).1).toNat) k2).2)) (by exact(gq.1.trans J)),⟨J,J,p1 (φ:=int (ix (ix t.sT ((ix l i).2.1).toNat).next ((ix (ix x.sT ((ix l i).1).toNat) k2).1).toNat)) (by exact(gq.2.1.trans J)),⟨J,J,p1 (φ:=int ((ix (ix m.sT ((ix l i).2.2).toNat) k1).2)) (by exact(gq.2.2.1.trans J)),tV⟩⟩⟩ kq) ?_
     refine sta 15 T.z139 (eC (eC (eC eZ))) ?_
     refine stw 15 (fun β0=>cell (gbk (β0 16)) [int ((ix (ix x.sT ((ix l i).1).toNat) k2).2),int (ix (ix t.sT ((ix l i).2.1).toNat).next ((ix (ix x.sT ((ix l i).1).toNat) k2).1).toNat),int ((ix (ix m.sT ((ix l i).2.2).toNat) k1).2)]) [15] J (fun β β' hb=>by first|rw[hb 16 J]|(dsimp only;rw[hb 16 J])) (fun β0 _ _ _ _ gq gh kq=>sPA (cs':= [int ((ix (ix x.sT ((ix l i).1).toNat) k2).2),int (ix (ix t.sT ((ix l i).2.1).toNat).next ((ix (ix x.sT ((ix l i).1).toNat) k2).1).toNat),int ((ix (ix m.sT ((ix l i).2.2).toNat) k1).2)]) (gq.1.trans J) (gh.1.trans J) (gq.2.1.trans J) T.agg139 J J kq) ?_
     refine pnH fun β0=>(nl (th (sq (rg (fP J T.fld94_0 (lP J J J T.one3 (fP J T.fld94_0 (lP J J J T.one3 (bi J J b_eql (mv ?_))))))))))
     apply gAnd (t:=97) (pd:=102) rfl
     rotate_left
     ·intro hg0 fin
      have hg0':=hg0
      try simp at hg0'
      exact gy J J J hg0 (mv (gy J J J hg0 (lPA J J T.agg139 J (gy J J J hg0 (lookup (z:=false) (q:=((ix (ix x.sT ((ix l i).1).toNat) k2).2,ix (ix t.sT ((ix l i).2.1).toNat).next ((ix (ix x.sT ((ix l i).1).toNat) k2).1).toNat,(ix (ix m.sT ((ix l i).2.2).toNat) k1).2)) J J agg_tri T.map140 (tri_dom ⟨O,O⟩ ⟨O,O⟩ ⟨O,O⟩) T.zvb4 (gy J J J hg0 (no J (pkT J hg0 J (drp (X:= [(101,_),(100,_),(99,_),(98,_)]) ⟨J,J,J,J,tV⟩ fin)))))))))
     ·intro hg0 fin
      exact gn J J J hg0 J J (gn J J J hg0 J J (gn J J J hg0 J J (gn J J J hg0 J J (pkF J hg0 J (drp (X:= [(101,_),(100,_),(99,_),(98,_)]) ⟨J,J,J,J,tV⟩ fin)))))
     refine nl (th ?_)
     refine cd J (fun hc4=> ?_) (fun hc4=> ?_)
     ·try simp at hc4
      refine sq (rg (mv (lPA J J T.agg139 J (mapUpdate (q:=((ix (ix x.sT ((ix l i).1).toNat) k2).2,ix (ix t.sT ((ix l i).2.1).toNat).next ((ix (ix x.sT ((ix l i).1).toNat) k2).1).toNat,(ix (ix m.sT ((ix l i).2.2).toNat) k1).2)) (u:=true) J J agg_tri J T.map140 (tri_dom ⟨O,O⟩ ⟨O,O⟩ ⟨O,O⟩) (nl (th (rg (mv (lPA J J T.agg139 J (bsE (enc:=triE) (xs:= [((ix (ix x.sT ((ix l i).1).toNat) k2).2,ix (ix t.sT ((ix l i).2.1).toNat).next ((ix (ix x.sT ((ix l i).1).toNat) k2).1).toNat,(ix (ix m.sT ((ix l i).2.2).toNat) k1).2)]) (css:= [[int ((ix (ix x.sT ((ix l i).1).toNat) k2).2),int (ix (ix t.sT ((ix l i).2.1).toNat).next ((ix (ix x.sT ((ix l i).1).toNat) k2).1).toNat),int ((ix (ix m.sT ((ix l i).2.2).toNat) k1).2)]]) T.mk141 ⟨J,J,pA (cs:= [int ((ix (ix x.sT ((ix l i).1).toNat) k2).2),int (ix (ix t.sT ((ix l i).2.1).toNat).next ((ix (ix x.sT ((ix l i).1).toNat) k2).1).toNat),int ((ix (ix m.sT ((ix l i).2.2).toNat) k1).2)]) J,tV⟩ J J J J (ap (key:=20) (zs:= [((ix (ix x.sT ((ix l i).1).toNat) k2).2,ix (ix t.sT ((ix l i).2.1).toNat).next ((ix (ix x.sT ((ix l i).1).toNat) k2).1).toNat,(ix (ix m.sT ((ix l i).2.2).toNat) k1).2)]) osl_eq J J J T.mk141 (by unfold maxL at*;simp;omega) (by unfold maxL at*;simp;omega) fun v108=>(ag (nl (eb (th (rg (bi J J (b_add i6) (mv (nl ?_)))))))))))))))))))
      have hN0:(k2+1)≤(ix x.sT ((ix l i).1).toNat).length:=by
       first|omega|simp_all
      have hN1:BN m x t i l k1 (k2+1) (l2++ [((ix (ix x.sT ((ix l i).1).toNat) k2).2,ix (ix t.sT ((ix l i).2.1).toNat).next ((ix (ix x.sT ((ix l i).1).toNat) k2).1).toNat,(ix (ix m.sT ((ix l i).2.2).toNat) k1).2)]) (mset mm2 ((ix (ix x.sT ((ix l i).1).toNat) k2).2,ix (ix t.sT ((ix l i).2.1).toNat).next ((ix (ix x.sT ((ix l i).1).toNat) k2).1).toNat,(ix (ix m.sT ((ix l i).2.2).toNat) k1).2) true):=by
       exact bn_push hBW hBN2 hc0 hnb hc2 hc3 hc4.1 hc4.2
      exact ln (⟨k2+1,v108,l2++ [((ix (ix x.sT ((ix l i).1).toNat) k2).2,ix (ix t.sT ((ix l i).2.1).toNat).next ((ix (ix x.sT ((ix l i).1).toNat) k2).1).toNat,(ix (ix m.sT ((ix l i).2.2).toNat) k1).2)],mset mm2 ((ix (ix x.sT ((ix l i).1).toNat) k2).2,ix (ix t.sT ((ix l i).2.1).toNat).next ((ix (ix x.sT ((ix l i).1).toNat) k2).1).toNat,(ix (ix m.sT ((ix l i).2.2).toNat) k1).2) true⟩:Nat × Value × (List (Int × Int × Int)) × (List ((Int × Int × Int) × Bool))) ⟨hN0,hN1⟩ dO ⟨id,id,id,id,id,id,id,id,id,id,id,id,id,id,tV⟩ ⟨rI,rI,rI,rI,rI,rI,rI,tV⟩
     ·try simp at hc4
      refine sk (eb (th (rg (bi J J (b_add i6) (mv (nl ?_))))))
      have hN0:(k2+1)≤(ix x.sT ((ix l i).1).toNat).length:=by
       first|omega|simp_all
      have hN1:BN m x t i l k1 (k2+1) l2 mm2:=by
       exact bn_skip hBN2 hc0 hc3 hc4
      exact ln (⟨k2+1,v2,l2,mm2⟩:Nat × Value × (List (Int × Int × Int)) × (List ((Int × Int × Int) × Bool))) ⟨hN0,hN1⟩ dO ⟨id,id,id,id,id,id,id,id,id,id,id,id,id,id,tV⟩ ⟨rI,rI,rI,rI,rI,rI,rI,tV⟩
    ·try simp at hc3
     refine ex (xt_ (xt_ (xb (eb (th (rg (bi J J (b_add i6) (mv (nl ?_)))))))))
     have hN0:(k1+1)≤(ix m.sT ((ix l i).2.2).toNat).length:=by
      first|omega|simp_all
     have hN1:BN m x t i l (k1+1) 0 l2 mm2:=by
      exact bn_row hBN2 hc0 hc2 (by show(ix x.sT (ix l i).1.toNat).length≤k2;omega)
     exact ln (⟨k1+1,v2,l2,mm2⟩:Nat × Value × (List (Int × Int × Int)) × (List ((Int × Int × Int) × Bool))) ⟨hN0,hN1⟩ dO ⟨id,id,id,id,id,id,id,id,id,id,tV⟩ ⟨rI,rI,rI,rI,rI,rI,tV⟩
   ·try simp at hc2
    refine ex (xt_ (xt_ (xb (eb (th (rg (mv (bi J J (b_add i6) (ag (nl ?_))))))))))
    have hN0:BW m x t (i+1) l1 mm1:=by
     exact bn_end hBW hBN1 hc0 hnb (by show(ix m.sT (ix l i).2.2.toNat).length≤k1;omega)
    exact ln (⟨i+1,v1,l1,mm1⟩:Nat × Value × (List (Int × Int × Int)) × (List ((Int × Int × Int) × Bool))) hN0 dO ⟨id,id,id,id,id,id,tV⟩ ⟨rI,rI,rI,rI,rI,tV⟩
 ·try simp at hc0
  refine ex (xt_ (xt_ (xb (th (sq (rg (ag (nl (th (rt ?_))))))))))
  have hr0:false=(!togB m x t):=by
   have h2:=togB_iff.2 (bw_yes hBW O)
   simp[h2]
  exact rE () [.tmp 6] J [bl false] ⟨.tmp J,tV⟩ (cA1 (fun x0=>rV [bl x0]) hr0) trivial eX
theorem Right_ok (x:SSys) (t s:SS) (vh:Bool) (m:SSys) (htm:smallSpec t) (hsm:smallSpec s) (hz:x.sT.length*(t.sT.length*s.sT.length)≤1000000000) (hz2:sysOK m=true→m.sT.length*(x.sT.length*t.sT.length)≤1000000000):
 Fn0 Tryz.prog 31 [sys x,spec t,spec s,agg [bl vh,strs m.aC,sl 1 gE m.sT]] (tup [bl (rightB x t s vh m),int (fineX x t s)]):=by
 refine fnI Tryz.func31 rfl rfl (fun w0 F0=> ?_)
 refine fcC (inhS 0 J) (fun hS0=> ?_)
 obtain⟨hma0,hms0,hme0⟩:=sys_lens hS0
 refine fcC (inhS 1 J) (fun hS1=> ?_)
 obtain⟨hsa1,hss1,hse1⟩:=sLn hS1
 refine fcC (inhS 2 J) (fun hS2=> ?_)
 obtain⟨hsa2,hss2,hse2⟩:=sLn hS2
 refine sq (rg (bx (key:=4) (cs:= [sl 1 rE_ x.aC,sl 1 gE x.sT]) J fun b4=>(bx (key:=5) (cs:= [sl 1 rE_ t.aC,sl 2 sE t.sT]) J fun b5=>(bx (key:=6) (cs:= [sl 1 rE_ s.aC,sl 2 sE s.sT]) J fun b6=>(bx (key:=7) (cs:= [bl vh,sl 1 rE_ m.aC,sl 1 gE m.sT]) J fun b7=>(ag (ag (nl (th (sq (sq (rg (lPA J J T.agg38 J (lPA J J T.agg25 J (lPA J J T.agg25 J (cal0 (φs:= [agg [sl 1 rE_ x.aC,sl 1 gE x.sT],agg [sl 1 rE_ t.aC,sl 2 sE t.sT],agg [sl 1 rE_ s.aC,sl 2 sE s.sT]]) (φ:=int (fineX x t s)) ⟨J,J,J,tV⟩ (divv.fine_ok x t s aS aS) T.ent56 (ag (nl (th (sq (rg (mv (bi J J b_neq (nl (th ?_)))))))))))))))))))))))))
 refine cd J (fun hc0=> ?_) (fun hc0=> ?_)
 ·try simp at hc0
  refine sq (rg (mv (ag (ag (nl (th (rt (rt_ ?_))))))))
  have hr0:false=(rightB x t s vh m):=by
   first|rfl|exact right_no hc0
  exact rE () [.tmp 8,.tmp 9] J [bl false,int (fineX x t s)] ⟨.tmp J,.tmp J,tV⟩ (cA1 (fun x0=>rV [bl x0,int (fineX x t s)]) hr0) trivial eX
 ·try simp at hc0
  have hfz:fineX x t s=0:=hc0
  obtain⟨hxv,htv,hsv,hxt,hts⟩:=fineX_ok hfz
  have hx:=sysOK_ok hxv
  have ht:=okSpec_of htv
  have hs:=okSpec_of hsv
  refine sk (th (sq (rg (fP J T.fld49_1 (lPA J J T.agg38 J (al (key:=11) T.z38 (eC (eC eZ)) fun b11=>(sPA (cs':= [sl 1 rE_ m.aC,sl 1 gE m.sT]) J J J T.agg38 J J (nl (th (sq (sq (rg (fP J T.fld49_0 (lP J J J T.one4 (nl (th ?_))))))))))))))))
  refine cd J (fun hc1=> ?_) (fun hc1=> ?_)
  ·try simp at hc1
   refine sq (rg (fP J T.fld38_0 (lP J J J T.one22 (fc (slenI 24 J) fun hm24=>(lnF J T.sl22 (fP J T.fld38_1 (lP J J J T.one36 (fc (slenI 27 J) fun hm27=>(lnF J T.sl36 (bi J J (b_add i6) (bi J J b_eql (mv ?_))))))))))))
   apply gAnd (t:=31) (pd:=37) rfl
   rotate_left
   ·intro hg0 fin
    have hg0':=hg0
    try simp at hg0'
    exact gy J J J hg0 (lPA J J T.agg38 J (gy J J J hg0 (lPA J J T.agg25 J (gy J J J hg0 (lPA J J T.agg25 J (gy J J J hg0 (cl (divj.judge_ok x t s aS aS aS aS aS aS) T.ent57 trivial fun N35 i35=>(gy J J J hg0 (fld1 J T.flv49_0 T.one4 J (kn 36 (bl (fitB x t s)) J (by rw[jdg_fit i35.2];exact fun h=>h) (pkT J hg0 J (drp (X:= [(36,_),(36,_),(35,_),(34,_),(33,_),(32,_)]) ⟨J,J,J,J,J,J,tV⟩ fin))))))))))))
   ·intro hg0 fin
    exact gn J J J hg0 J J (gn J J J hg0 J J (gn J J J hg0 J J (gn J J J hg0 J J (gn J J J hg0 J J (pkF J hg0 J (drp (X:= [(36,_),(35,_),(34,_),(33,_),(32,_)]) ⟨J,J,J,J,J,tV⟩ fin))))))
   refine ag (ag (nl (th (rt (rt_ ?_)))))
   have hr0:((decide (((m.aC.length+m.sT.length:Nat):Int)=0))&&(fitB x t s))=(rightB x t s vh m):=by
    first|exact hfz.symm|exact right_vh hfz hc1
   have hr1:(0:Int)=(fineX x t s):=by
    first|exact hfz.symm|exact right_vh hfz hc1
   exact rE () [.tmp 8,.tmp 9] J [bl ((decide (((m.aC.length+m.sT.length:Nat):Int)=0))&&(fitB x t s)),int 0] ⟨.tmp J,.tmp J,tV⟩ (cA2 (fun x0 x1=>rV [bl x0,int x1]) hr0 hr1) trivial eX
  ·try simp at hc1
   refine sk (th (sq (rg (lPA J J T.agg38 J (cal0 (φs:= [agg [sl 1 rE_ m.aC,sl 1 gE m.sT]]) (φ:=bl (sysOK m)) ⟨J,tV⟩ (sysw.Valid_ok m) T.ent59 (mv ?_))))))
   apply gAnd (t:=40) (pd:=46) rfl
   rotate_left
   ·intro hg1 fin
    have hg1':=hg1
    try simp at hg1'
    have hmv:sysOK m=true:=hg1
    have hm:=sysOK_ok hmv
    exact gy J J J hg1 (fP J T.fld38_0 (gy J J J hg1 (lP J J J T.one22 (gy J J J hg1 (fP J T.fld25_0 (gy J J J hg1 (lP J J J T.one22 (gy J J J hg1 (cal0 (φs:= [sl 1 rE_ m.aC,sl 1 rE_ s.aC]) (φ:=bl (decide (m.aC=s.aC))) ⟨J,J,tV⟩ (prog.sEqualstrE_ok _ _) T.ent60 (pkT J hg1 J (drp (X:= [(45,_),(44,_),(43,_),(42,_),(41,_)]) ⟨J,J,J,J,J,tV⟩ fin)))))))))))
   ·intro hg1 fin
    exact gn J J J hg1 J J (gn J J J hg1 J J (gn J J J hg1 J J (gn J J J hg1 J J (gn J J J hg1 J J (pkF J hg1 J (drp (X:= [(45,_),(44,_),(43,_),(42,_),(41,_)]) ⟨J,J,J,J,J,tV⟩ fin))))))
   refine mv ?_
   apply gAnd (t:=47) (pd:=52) rfl
   rotate_left
   ·intro hg2 fin
    have hg2':=hg2
    try simp at hg2'
    have hmv:sysOK m=true:=(Bool.and_eq_true_iff.1 hg2).1
    have hms:m.aC=s.aC:=by have:=(Bool.and_eq_true_iff.1 hg2).2;simpa using this
    have hm:=sysOK_ok hmv
    exact gy J J J hg2 (lPA J J T.agg38 J (gy J J J hg2 (lPA J J T.agg25 J (gy J J J hg2 (cl (satj.Judge_ok m aS s aS) T.ent61 trivial fun N50 i50=>(gy J J J hg2 (fld1 J T.flv65_0 T.one4 J (kn 51 (bl (satD m s)) J (by rw[sat_judge i50.2];exact fun h=>h) (pkT J hg2 J (drp (X:= [(51,_),(51,_),(50,_),(49,_),(48,_)]) ⟨J,J,J,J,J,tV⟩ fin))))))))))
   ·intro hg2 fin
    exact gn J J J hg2 J J (gn J J J hg2 J J (gn J J J hg2 J J (gn J J J hg2 J J (pkF J hg2 J (drp (X:= [(51,_),(50,_),(49,_),(48,_)]) ⟨J,J,J,J,tV⟩ fin)))))
   refine mv ?_
   apply gAnd (t:=53) (pd:=58) rfl
   rotate_left
   ·intro hg3 fin
    have hg3':=hg3
    try simp at hg3'
    have hmv:sysOK m=true:=(Bool.and_eq_true_iff.1 (Bool.and_eq_true_iff.1 hg3).1).1
    have hm:=sysOK_ok hmv
    have hz3:=hz2 hmv
    have hxl:x.aC.length=t.aC.length:=by rw[hxt]
    exact gy J J J hg3 (lPA J J T.agg38 J (gy J J J hg3 (lPA J J T.agg38 J (gy J J J hg3 (lPA J J T.agg25 J (gy J J J hg3 (cal0 (φs:= [agg [sl 1 rE_ m.aC,sl 1 gE m.sT],agg [sl 1 rE_ x.aC,sl 1 gE x.sT],agg [sl 1 rE_ t.aC,sl 2 sE t.sT]]) (φ:=bl (!togB m x t)) ⟨J,J,J,tV⟩ (divb.breaks_ok m x t aS aS aS aS aS) T.ent62 (pkT J hg3 J (drp (X:= [(57,_),(56,_),(55,_),(54,_)]) ⟨J,J,J,J,tV⟩ fin)))))))))
   ·intro hg3 fin
    exact gn J J J hg3 J J (gn J J J hg3 J J (gn J J J hg3 J J (gn J J J hg3 J J (pkF J hg3 J (drp (X:= [(57,_),(56,_),(55,_),(54,_)]) ⟨J,J,J,J,tV⟩ fin)))))
   refine ag (ag (nl (th (rt ?_))))
   have hr0:((((sysOK m)&&(decide (m.aC=s.aC)))&&(satD m s))&&(!togB m x t))=(rightB x t s vh m):=by
    first|exact hfz.symm|exact right_pt hfz hc1
   have hr1:(0:Int)=(fineX x t s):=by
    first|exact hfz.symm|exact right_pt hfz hc1
   exact rE () [.tmp 8,.tmp 9] J [bl ((((sysOK m)&&(decide (m.aC=s.aC)))&&(satD m s))&&(!togB m x t)),int 0] ⟨.tmp J,.tmp J,tV⟩ (cA2 (fun x0 x1=>rV [bl x0,int x1]) hr0 hr1) trivial eX
end divb
end
section
namespace OtherM
open ref01 ref03 ref04 ref06 Part Rungs LeftM TrimM RoundM MergeM BisM BisM2 BisM4 BisM5 BisM6 WalkM WitM JudgM LevM divr divs divd dive divv refj ChsM BisS TrimI ValidM QuoM FailM DivM
noncomputable def othS (t s:SS):SS × Int:=if (divS t s).2=0 then divS t (divS t s).1 else(⟨[],[]⟩,(divS t s).2)
end OtherM
end
section
open ref01 ref03 ref04 ref06 prog prog2 prog3 prog6 prog13 starts Part Rungs LeftM TrimM RoundM MergeM BisM BisM4 BisM5 WalkM StepM WitM JudgM JudgM2 refw judg wit refj sysw divr divs divd dive divg divw divv divf divc divj divq divp divm diva LevM LevM2 ChsM QuoM FailM DivM QuoW RefM FitM PartM EncM OtherM
namespace divo
end divo
end
end Go.Proofs.YtcjemmihcplgdaaGreat
