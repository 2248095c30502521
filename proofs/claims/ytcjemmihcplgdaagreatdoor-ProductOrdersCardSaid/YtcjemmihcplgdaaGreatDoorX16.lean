/- The walks of the functions and the plain laws. Own texts of this claim, packed: Zddive, ZdLevM2, Zddivg, ZdWitSat, ZdWitVal, ZdBisS, Zddivw, Zddivv, Zddivf, ZdChsM, ZdValidM, ZdTrimI, ZdQuoM, ZdFailM, ZdDivM. -/
import Derived.Test.YtcjemmihcplgdaaGreatDoorX15
import Derived.Test.YtcjemmihcplgdaaGreatDoorX09
import Derived.Test.YtcjemmihcplgdaaGreatDoorX07
set_option linter.all false
namespace Go.Proofs.YtcjemmihcplgdaaGreatDoor
open AL Go
set_option maxRecDepth 100000
section
open ref01 ref03 ref04 ref06 prog prog2 prog3 prog6 prog13 Part Rungs LeftM TrimM RoundM MergeM BisM BisM4 BisM5 WalkM StepM WitM JudgM refw judg wit refj sysw divr divs divd LevM
noncomputable def eqR (s t:SS):Bool:=jO s t&&jO t s
noncomputable def rX (g w:SS):Bool:=aX g&&decide (g.aC=w.aC)&&oH g&&eqR g w
namespace T
theorem Vj:Ent Tryz.prog 192:=aG kR
theorem Nj:Ent Tryz.prog 154:=aG kR
theorem KQ:Ent Tryz.prog 32:=aG kR
theorem Vk:Ent Tryz.prog 106:=aG kR
theorem Vl:Ent Tryz.prog 107:=aG kR
end T
namespace dive
theorem rY (s t:SS) (hs:oK s) (ht:oK t):
 Fn0 Tryz.prog 154 [spec s,spec t] (bl (jO s t)):=by
 refine fnI Tryz.func154 rfl rfl (fun w0 F0=> ?_)
 refine fcC (bO 0 J) (fun hS0=> ?_)
 obtain⟨hsa0,hss0,hse0⟩:=sLn hS0
 refine fcC (bO 1 J) (fun hS1=> ?_)
 obtain⟨hsa1,hss1,hse1⟩:=sLn hS1
 refine sq (rg (bx (key:=2) (cs:= [sl 1 rE_ s.aC,sl 2 sE s.sT]) J fun b2=>(bx (key:=3) (cs:= [sl 1 rE_ t.aC,sl 2 sE t.sT]) J fun b3=>(ag (nl (th (sq (rg (lPA J J T.aD J (lPA J J T.aD J (cl (divd.PK s t aS aS) T.Vj trivial fun N7 i7=>(bi J J aN (ag (nl (th (rt ?_))))))))))))))))
 have hr0:(decide (i7.1<0))=(jO s t):=by
  rw[Bool.eq_iff_iff,nR,decide_eq_true_eq];exact i7.2
 exact rE () [.tmp 4] J [bl (decide (i7.1<0))] ⟨.tmp J,tV⟩ (cA1 (fun x0=>rV [bl x0]) hr0) trivial eX
theorem Bo (s t:SS) (hs:oK s) (ht:oK t):
 Fn0 Tryz.prog 107 [spec s,spec t] (bl (eqR s t)):=by
 refine fnI Tryz.func107 rfl rfl (fun w0 F0=> ?_)
 refine fcC (bO 0 J) (fun hS0=> ?_)
 obtain⟨hsa0,hss0,hse0⟩:=sLn hS0
 refine fcC (bO 1 J) (fun hS1=> ?_)
 obtain⟨hsa1,hss1,hse1⟩:=sLn hS1
 refine sq (rg (bx (key:=2) (cs:= [sl 1 rE_ s.aC,sl 2 sE s.sT]) J fun b2=>(bx (key:=3) (cs:= [sl 1 rE_ t.aC,sl 2 sE t.sT]) J fun b3=>(ag (nl (th (sq (rg (lPA J J T.aD J (lPA J J T.aD J (aO (φs:= [agg [sl 1 rE_ s.aC,sl 2 sE s.sT],agg [sl 1 rE_ t.aC,sl 2 sE t.sT]]) (φ:=bl (jO s t)) ⟨J,J,tV⟩ (dive.rY s t aS aS) T.Nj (mv ?_))))))))))))
 apply eH (t:=8) (pd:=12) rfl
 rotate_left
 ·intro hg0 fin
  have hg0':=hg0
  try simp at hg0'
  exact gy J J J hg0 (lPA J J T.aD J (gy J J J hg0 (lPA J J T.aD J (gy J J J hg0 (aO (φs:= [agg [sl 1 rE_ t.aC,sl 2 sE t.sT],agg [sl 1 rE_ s.aC,sl 2 sE s.sT]]) (φ:=bl (jO t s)) ⟨J,J,tV⟩ (dive.rY t s aS aS) T.Nj (pkT J hg0 J (drp (X:= [(11,_),(10,_),(9,_)]) ⟨J,J,J,tV⟩ fin)))))))
 ·intro hg0 fin
  exact gn J J J hg0 J J (gn J J J hg0 J J (gn J J J hg0 J J (pkF J hg0 J (drp (X:= [(11,_),(10,_),(9,_)]) ⟨J,J,J,tV⟩ fin))))
 refine ag (nl (th (rt ?_)))
 have hr0:((jO s t)&&(jO t s))=(eqR s t):=by
  first|rfl|simp_all|omega
 exact rE () [.tmp 4] J [bl ((jO s t)&&(jO t s))] ⟨.tmp J,tV⟩ (cA1 (fun x0=>rV [bl x0]) hr0) trivial eX
theorem mS (g w:SS) (hw:oK w):
 Fn0 Tryz.prog 54 [spec g,spec w] (bl (rX g w)):=by
 refine fnI Tryz.func54 rfl rfl (fun w0 F0=> ?_)
 refine fcC (bO 0 J) (fun hS0=> ?_)
 obtain⟨hsa0,hss0,hse0⟩:=sLn hS0
 refine fcC (bO 1 J) (fun hS1=> ?_)
 obtain⟨hsa1,hss1,hse1⟩:=sLn hS1
 refine sq (rg (bx (key:=2) (cs:= [sl 1 rE_ g.aC,sl 2 sE g.sT]) J fun b2=>(bx (key:=3) (cs:= [sl 1 rE_ w.aC,sl 2 sE w.sT]) J fun b3=>(ag (nl (th (sq (rg (lPA J J T.aD J (aO (φs:= [agg [sl 1 rE_ g.aC,sl 2 sE g.sT]]) (φ:=bl (aX g)) ⟨J,tV⟩ (ref03.tU g) T.KQ (mv ?_)))))))))))
 apply eH (t:=7) (pd:=13) rfl
 rotate_left
 ·intro hg0 fin
  have hg0':=hg0
  try simp at hg0'
  exact gy J J J hg0 (fP J T.cR (gy J J J hg0 (lP J J J T.cV (gy J J J hg0 (fP J T.cR (gy J J J hg0 (lP J J J T.cV (gy J J J hg0 (aO (φs:= [sl 1 rE_ g.aC,sl 1 rE_ w.aC]) (φ:=bl (decide (g.aC=w.aC))) ⟨J,J,tV⟩ (ref01.mM _ _) T.Fc (pkT J hg0 J (drp (X:= [(12,_),(11,_),(10,_),(9,_),(8,_)]) ⟨J,J,J,J,J,tV⟩ fin)))))))))))
 ·intro hg0 fin
  exact gn J J J hg0 J J (gn J J J hg0 J J (gn J J J hg0 J J (gn J J J hg0 J J (gn J J J hg0 J J (pkF J hg0 J (drp (X:= [(12,_),(11,_),(10,_),(9,_),(8,_)]) ⟨J,J,J,J,J,tV⟩ fin))))))
 refine mv ?_
 apply eH (t:=14) (pd:=17) rfl
 rotate_left
 ·intro hg1 fin
  have hg1':=hg1
  try simp at hg1'
  have hok:oK g:=bW (by simp at hg1;exact hg1.1)
  exact gy J J J hg1 (lPA J J T.aD J (gy J J J hg1 (aO (φs:= [agg [sl 1 rE_ g.aC,sl 2 sE g.sT]]) (φ:=bl (oH g)) ⟨J,tV⟩ (divr.Nb g aS) T.Vk (pkT J hg1 J (drp (X:= [(16,_),(15,_)]) ⟨J,J,tV⟩ fin)))))
 ·intro hg1 fin
  exact gn J J J hg1 J J (gn J J J hg1 J J (pkF J hg1 J (drp (X:= [(16,_),(15,_)]) ⟨J,J,tV⟩ fin)))
 refine mv ?_
 apply eH (t:=18) (pd:=22) rfl
 rotate_left
 ·intro hg2 fin
  have hg2':=hg2
  try simp at hg2'
  have hok:oK g:=bW (by simp at hg2;exact hg2.1.1)
  exact gy J J J hg2 (lPA J J T.aD J (gy J J J hg2 (lPA J J T.aD J (gy J J J hg2 (aO (φs:= [agg [sl 1 rE_ g.aC,sl 2 sE g.sT],agg [sl 1 rE_ w.aC,sl 2 sE w.sT]]) (φ:=bl (eqR g w)) ⟨J,J,tV⟩ (dive.Bo g w aS aS) T.Vl (pkT J hg2 J (drp (X:= [(21,_),(20,_),(19,_)]) ⟨J,J,J,tV⟩ fin)))))))
 ·intro hg2 fin
  exact gn J J J hg2 J J (gn J J J hg2 J J (gn J J J hg2 J J (pkF J hg2 J (drp (X:= [(21,_),(20,_),(19,_)]) ⟨J,J,J,tV⟩ fin))))
 refine ag (nl (th (rt ?_)))
 have hr0:((((aX g)&&(decide (g.aC=w.aC)))&&(oH g))&&(eqR g w))=(rX g w):=by
  first|rfl|simp_all|omega
 exact rE () [.tmp 4] J [bl ((((aX g)&&(decide (g.aC=w.aC)))&&(oH g))&&(eqR g w))] ⟨.tmp J,tV⟩ (cA1 (fun x0=>rV [bl x0]) hr0) trivial eX
end dive
end
section
namespace LevM2
open ref01 ref03 ref04 ref06 Part Rungs LeftM TrimM BisM BisM5 BisM6 WitM JudgM LevM
def iX (m:aI) (t:SS) (p:PP):Prop:=cJ m p.1.toNat∉acc t p.2.toNat
def kK (m:aI) (t:SS) (p q:PP):Prop:=∃e∈edg m p.1.toNat,q=(e.2,ix (nxt t p.2.toNat) e.1.toNat)
def KR (m:aI) (t:SS) (p:PP):Prop:=0≤p.1∧p.1<(m.sT.length:Int)∧0≤p.2∧p.2<(t.sT.length:Int)
theorem Hb {m:aI} {t:SS} (hm:dJ m) (ht:oK t) {p q:PP} (hp:KR m t p) (hb:¬iX m t p) (hs:kK m t p q):KR m t q:=by
 obtain⟨e,he,rfl⟩:=hs
 obtain⟨p0,p1,p2,p3⟩:=hp
 have ha:cJ m p.1.toNat∈acc t p.2.toNat:=Classical.byContradiction hb
 have g1:=hm.ed p.1.toNat O e he
 have g2:=pX hm ht (x:=p.1.toNat) (y:=p.2.toNat) O O ha he
 exact⟨g1.2.2.1,g1.2.2.2,g2.2.1,g2.2.2⟩
theorem nS {m:aI} {t:SS} (hm:dJ m) (ht:oK t) {p:PP} (h:Rch (iX m t) (kK m t) p):KR m t p:=by
 induction h with
 |zero=>exact⟨by simp,by have:=hm.few0;show(0:Int)<_;omega,by simp,by have:=ht.few0;show(0:Int)<_;omega⟩
 |step h1 h2 h3 ih=>exact Hb hm ht ih h2 h3
theorem Hc {m:aI} {t:SS} (hm:dJ m) (ht:oK t):GU (iX m t) (kK m t)↔lT m t:=by
 constructor
 ·intro hw
  have hacc:∀{x y:Nat},Rch (iX m t) (kK m t) ((x:Int),(y:Int))→cJ m x∈acc t y:=fun {x y} h=>Classical.byContradiction (hw _ h)
  have hbox:∀{x y:Nat},Rch (iX m t) (kK m t) ((x:Int),(y:Int))→x<m.sT.length∧y<t.sT.length:=fun {x y} h=>by
   obtain⟨_,h1,_,h2⟩:=nS hm ht h
   dsimp only at h1 h2
   omega
  refine⟨fun x y=>Rch (iX m t) (kK m t) ((x:Int),(y:Int)),⟨fun {x y} h=>(hbox h).2,fun {x y} h=>hacc h,fun {x y} h e he=> ?_,fun {x y} h e he=> ?_⟩,.zero⟩
  ·obtain⟨e',he',rfl⟩:=List.mem_map.1 he
   have:=(pX hm ht (hbox h).1 (hbox h).2 (hacc h) he').1
   show e'.1.toNat<_
   rw[(ht.st y (hbox h).2).len];exact this
  ·obtain⟨e',he',rfl⟩:=List.mem_map.1 he
   have hr:Rch (iX m t) (kK m t) (e'.2,ix (nxt t y) e'.1.toNat):=Rch.step h (hw _ h) ⟨e',he',rfl⟩
   have hb:=nS hm ht hr
   obtain⟨b0,_,b2,_⟩:=hb
   dsimp only at b0 b2
   refine⟨b2,?_⟩
   show Rch _ _ (((e'.2.toNat:Nat):Int),_)
   rw[Int.toNat_of_nonneg b0,Int.toNat_of_nonneg b2]
   exact hr
 ·rintro⟨R,hR,h0⟩ p hp
  have:KR m t p∧R p.1.toNat p.2.toNat:=by
   induction hp with
   |zero=>exact⟨nS hm ht .zero,h0⟩
   |step h1 h2 h3 ih=>
    refine⟨Hb hm ht ih.1 h2 h3,?_⟩
    obtain⟨e,he,rfl⟩:=h3
    exact(hR.nxt ih.2 _ (List.mem_map.2 ⟨e,he,rfl⟩)).2
  exact fun hb=>hb (hR.acc this.2)
end LevM2
end
section
open ref01 ref03 ref04 ref06 prog prog2 prog3 prog6 prog13 Part Rungs LeftM TrimM RoundM MergeM BisM BisM4 BisM5 WalkM StepM WitM JudgM refw judg wit refj sysw divr divs divd dive LevM LevM2
noncomputable def yE (m:aI) (s:SS):Bool:= @decide (lT m s) (Classical.propDecidable _)
theorem Hd {m:aI} {s:SS}:yE m s=true↔lT m s:=by unfold yE;simp
noncomputable def jS (m:aI) (s:SS):Bool:=eV m&&decide (m.aC=s.aC)&&yE m s
theorem He {m:aI} {t:SS} {p:Int × Int} (h:0≤p.2):yD t p.2 (cJ m p.1.toNat)=true↔¬iX m t p:=by
 unfold yD iX
 simp[h]
theorem KS {m:aI} (hm:dJ m) {x:Nat} (hx:x<m.sT.length):∀e∈ix m.sT x,0≤e.1∧e.1<8:=fun e he=>by
 have:=hm.ed x hx e he
 have:=hm.n8
 omega
namespace T
theorem KT:Ent Tryz.prog 74:=aG kR
theorem Vm:Ent Tryz.prog 119:=aG kR
theorem Vn:Ent Tryz.prog 166:=aG kR
theorem Vo:Ent Tryz.prog 129:=aG kR
theorem WB:Ent Tryz.prog 31:=aG kR
theorem WC:Ent Tryz.prog 72:=aG kR
end T
namespace divg
theorem ST (m:aI) (t:SS) (x y:Int) (hm:dJ m) (x0:0≤x) (hx:x<(m.sT.length:Int)) (y0:0≤y) (hy:y<(t.sT.length:Int)):
 Fn0 Tryz.prog 166 [sys m,spec t,agg [int x,int y]] (bl (yD t y (cJ m x.toNat))):=by
 refine fnI Tryz.func166 rfl rfl (fun w0 F0=> ?_)
 have h8:=KS hm (x:=x.toNat) O
 refine fcC (bO 0 J) (fun hS0=> ?_)
 obtain⟨hma0,hms0,hme0⟩:=eI hS0
 refine fcC (bO 1 J) (fun hS1=> ?_)
 obtain⟨hsa1,hss1,hse1⟩:=sLn hS1
 refine sq (rg (bx (key:=3) (cs:= [sl 1 rE_ m.aC,sl 1 gE m.sT]) J fun b3=>(bx (key:=4) (cs:= [sl 1 rE_ t.aC,sl 2 sE t.sT]) J fun b4=>(bx (key:=5) (cs:= [int x,int y]) J fun b5=>(ag (nl (th (sq (dr (nh:=9) [0,0,2,0,0,16,56,127,255] T.mixed kR ?_)))))))))
 refine st_ J (fun _ _ _ gq kq=>lPA (gq.1.trans J) J T.aD J kq) ?_
 refine st_ J (fun _ _ _ gq kq=>iPA (gq.1.trans J) J T.fA T.aF J kq) ?_
 refine st_ J (fun _ _ _ gq kq=>lP (gq.1.trans J) J J T.aF kq) ?_
 refine st_ J (fun _ _ _ gq kq=>lPA (gq.1.trans J) J T.cD J kq) ?_
 refine st_ J (fun _ _ _ gq kq=>iPA (gq.1.trans J) J T.fA T.aF J kq) ?_
 refine st_ J (fun _ _ _ gq kq=>lP (gq.1.trans J) J J T.aF kq) ?_
 refine st_ J (fun _ _ _ gq kq=>aO (φs:= [agg [sl 1 rE_ m.aC,sl 1 gE m.sT],int x]) (φ:=int (cJ m x.toNat)) ⟨(gq.1.trans J),(gq.2.1.trans J),tV⟩ (divs.Bm m x aS O O) T.KT kq) ?_
 refine st_ J (fun _ _ _ gq kq=>aO (φs:= [agg [sl 1 rE_ t.aC,sl 2 sE t.sT],int y,int (cJ m x.toNat)]) (φ:=bl (yD t y (cJ m x.toNat))) ⟨(gq.1.trans J),(gq.2.1.trans J),(gq.2.2.1.trans J),tV⟩ (divs.oZ t y (cJ m x.toNat) O) T.Vm kq) ?_
 refine st_ J (fun _ _ _ gq kq=>ag' (gq.1.trans J) kq) ?_
 refine pn (nl (th (rt ?_)))
 exact rE () [.tmp 6] J [bl (yD t y (cJ m x.toNat))] ⟨.tmp J,tV⟩ J trivial eX
theorem PL (m:aI) (t:SS) (hm:dJ m) (ht:oK t):
 AL.Fn Tryz.prog 129 [sys m,spec t] [] (ι:= { z:List (Int × Int) × Int × Bool//z.2.2=true↔lT m t }) (fun _ i=>tup [sl 2 pE i.1.1,int i.1.2.1,bl i.1.2.2]) (fun _=> []):=by
 refine fnI Tryz.func129 rfl rfl (fun w0 F0=> ?_)
 have hT0:=hm.few0;have hT1:=hm.few1;have ht0:=ht.few0;have ht1:=ht.few1;have hn8:=hm.n8;have hm8:=ht.n8
 have hmm:m.sT.length*t.sT.length≤10000*10000:=Nat.mul_le_mul hT1 ht1
 refine fcC (bO 0 J) (fun hS0=> ?_)
 obtain⟨hma0,hms0,hme0⟩:=eI hS0
 refine fcC (bO 1 J) (fun hS1=> ?_)
 obtain⟨hsa1,hss1,hse1⟩:=sLn hS1
 refine sq (rg (bx (key:=2) (cs:= [sl 1 rE_ m.aC,sl 1 gE m.sT]) J fun b2=>(bx (key:=3) (cs:= [sl 1 rE_ t.aC,sl 2 sE t.sT]) J fun b3=>(ag (kn 4 (sl 2 pE []) J bT (ag (ag (nl (th (sq (rg (fP J T.dS (lP J J J T.gH (fc (aL 22 J) fun hm22=>(lnF J T.jN (mk (key:=24) (m:=m.sT.length) (enc:=cF) (y:=(.slice none 0 0:Value)) J J T.Ko (eC eZ) mL mL fun v24=>(ag (nl (th (sq (sq (rg (nbB 231 m.sT.length 4 1 blE (mv (lnO J J T.lD (mv (nl (th (bk ?_)))))))))))))))))))))))))))))
 have hI0_0:0≤(List.replicate m.sT.length (.slice none 0 0:Value)).length:=by
  first|omega|simp
 have hI0_1:(List.replicate m.sT.length (.slice none 0 0:Value)).length=m.sT.length∧(List.replicate m.sT.length [])=List.replicate 0 (List.replicate t.sT.length false)++List.replicate (m.sT.length- 0) []:=by
  exact⟨by simp,by simp⟩
 refine lp (κ:=Nat × (List Value) × (List (List Bool))) (fun p=> [(2,ptr 2 b2 0),(3,ptr 3 b3 0),(4,sl 2 pE []),(5,int 0),(6,bl false),(7,osl 24 v24),(26,int ((List.replicate m.sT.length (.slice none 0 0:Value)).length:Int)),(27,int (p.1:Int))]) (fun p=> [(2,cell b2 [sl 1 rE_ m.aC,sl 1 gE m.sT]),(3,cell b3 [sl 1 rE_ t.aC,sl 2 sE t.sT]),(24,own v24 143 1 cF p.2.1),(231,aW p.2.1 4 1 blE p.2.2 none)]) (fun p=>(p.1≤(List.replicate m.sT.length (.slice none 0 0:Value)).length)∧(p.2.1.length=m.sT.length∧p.2.2=List.replicate p.1 (List.replicate t.sT.length false)++List.replicate (m.sT.length- p.1) [])) (fun p=>(List.replicate m.sT.length (.slice none 0 0:Value)).length- p.1) ⟨0,List.replicate m.sT.length (.slice none 0 0:Value),List.replicate m.sT.length []⟩ ⟨hI0_0,hI0_1⟩ ⟨id,id,id,id,id,id,id,id,tV⟩ ⟨rI,rI,rI,rI,tV⟩ ?_
 intro⟨k,us,mt⟩ hG0
 obtain⟨hk0,⟨hul,hmt⟩⟩:(k≤(List.replicate m.sT.length (.slice none 0 0:Value)).length)∧(us.length=m.sT.length∧mt=List.replicate k (List.replicate t.sT.length false)++List.replicate (m.sT.length- k) []):=hG0
 show Ct _ _ _ _ [(2,ptr 2 b2 0),(3,ptr 3 b3 0),(4,sl 2 pE []),(5,int 0),(6,bl false),(7,osl 24 v24),(26,int ((List.replicate m.sT.length (.slice none 0 0:Value)).length:Int)),(27,int (k:Int))] [(2,cell b2 [sl 1 rE_ m.aC,sl 1 gE m.sT]),(3,cell b3 [sl 1 rE_ t.aC,sl 2 sE t.sT]),(24,own v24 143 1 cF us),(231,aW us 4 1 blE mt none)] _
 have hml:mt.length=m.sT.length:=by rw[hmt];simp;omega
 refine sq (rg (bi J J aN (nl (th (sq ?_)))))
 refine cd J (fun hc0=> ?_) (fun hc0=> ?_)
 ·try simp at hc0
  refine sk (th (sq (bk (sq (rg (mv (ag (nl (th (AE 231 2399 k J J (by decide) (gK O) (gK O) (rg (mv (mv (fP J T.aY (lP J J J T.bI (fc (aL 33 J) fun hm33=>(lnF J T.bU (mk (key:=35) (m:=t.sT.length) (enc:=blE) (y:=false) J J T.tX (eC eZ) mL mL fun v35=>(iO J J J T.lD O O (sOO (k2:=35) J J gZ J T.gS gB J (y':=v35) J (nl (eb (th (rg (gvB (us:=us) 231 35 k J J (by decide) O (bi J J (aK i6) (mv (nl ?_))))))))))))))))))))))))))))
  have hN0:(k+1)≤(List.replicate m.sT.length (.slice none 0 0:Value)).length:=by
   first|omega|simp_all
  have hN1:(us.set k v35).length=m.sT.length∧(mt.set k (List.replicate t.sT.length false))=List.replicate (k+1) (List.replicate t.sT.length false)++List.replicate (m.sT.length- (k+1)) []:=by
   refine⟨by simpa using hul,?_⟩
   rw[hmt];exact Jt _ _ hc0
  exact ln (⟨k+1,us.set k v35,mt.set k (List.replicate t.sT.length false)⟩:Nat × (List Value) × (List (List Bool))) ⟨hN0,hN1⟩ dO ⟨id,id,id,id,id,id,id,id,tV⟩ ⟨rI,rI,rI,rI,tV⟩
 ·try simp at hc0
  have hmz:mt=mat m.sT.length t.sT.length []:=by rw[hmt,show k=m.sT.length by omega,Nat.sub_self,GV];simp
  have hr0:(ix mt 0).length=t.sT.length:=by rw[hmz];exact pG O
  refine ex (xt_ (xt_ (xb (th (sq (rg (mv (iO J J J T.lD O O (lO J J gB J T.gS (tkB 231 2310 0 J J (by decide) (gK (k:=0) O) (gK (k:=0) O) (kn 40 (osl 2310 (ix us 0)) J dY (iO J J J T.fJ O O (sO (φ:=bl true) J J J T.eB gB J (y':=true) J (nl (th (sq (rg (gvU 231 2310 0 J J (by decide) (gK (k:=0) O) (bd (css:= [(0,_),(1,_)]) T.sW (eC (eC eZ)) ⟨J,J,p1 (φ:=int 0) J,⟨J,J,p1 (φ:=int 0) J,tV⟩⟩ (bsE (enc:=pE) (xs:= [(0,0)]) (css:= [[int 0,int 0]]) T.mD ⟨J,J,pA (cs:= [int 0,int 0]) J,tV⟩ J J J J (ag (nl (th (sq (sq (rg (ag (nl (th (bk ?_))))))))))))))))))))))))))))))
  have hI1_0:(mt.set 0 ((ix mt 0).set 0 true))=mat m.sT.length t.sT.length ([(0,0)]:List (Int × Int))∧LI (iX m t) (kK m t) ([(0,0)]:List (Int × Int)) ([(0,0)]:List (Int × Int))∧0≤(0:Int)∧(0:Int)+((min ([(0,0)]:List (Int × Int)).length 1:Nat):Int)≤(([(0,0)]:List (Int × Int)).length:Int):=by
   refine⟨?_,Jq,O,by simp⟩
   rw[hmz]
   exact zI (vis:= []) (x:=0) (y:=0) O O
  refine lp (κ:=(List (List Bool)) × (List (Int × Int)) × (List (Int × Int)) × Int) (fun p=> [(2,ptr 2 b2 0),(3,ptr 3 b3 0),(7,osl 24 v24),(9,sl 2 pE p.2.2.1),(10,int p.2.2.2)]) (fun p=> [(2,cell b2 [sl 1 rE_ m.aC,sl 1 gE m.sT]),(3,cell b3 [sl 1 rE_ t.aC,sl 2 sE t.sT]),(24,own v24 143 1 cF us),(231,aW us 4 1 blE p.1 none)]) (fun p=>p.1=mat m.sT.length t.sT.length p.2.1∧LI (iX m t) (kK m t) p.2.1 p.2.2.1∧0≤p.2.2.2∧p.2.2.2+((min p.2.2.1.length 1:Nat):Int)≤(p.2.1.length:Int)) (fun p=>m.sT.length*t.sT.length- p.2.1.length+min p.2.2.1.length 1) ⟨mt.set 0 ((ix mt 0).set 0 true),([(0,0)]:List (Int × Int)),([(0,0)]:List (Int × Int)),(0:Int)⟩ hI1_0 ⟨id,id,id,id,id,tV⟩ ⟨rI,rI,rI,rI,tV⟩ ?_
  intro⟨mt1,vis,now,dp⟩ hG1
  obtain⟨hmt1,hLI,hd0,hdp⟩:mt1=mat m.sT.length t.sT.length vis∧LI (iX m t) (kK m t) vis now∧0≤dp∧dp+((min now.length 1:Nat):Int)≤(vis.length:Int):=hG1
  show Ct _ _ _ _ [(2,ptr 2 b2 0),(3,ptr 3 b3 0),(7,osl 24 v24),(9,sl 2 pE now),(10,int dp)] [(2,cell b2 [sl 1 rE_ m.aC,sl 1 gE m.sT]),(3,cell b3 [sl 1 rE_ t.aC,sl 2 sE t.sT]),(24,own v24 143 1 cF us),(231,aW us 4 1 blE mt1 none)] _
  have hv1:=jM m.sT.length t.sT.length vis hLI.nd (fun p hp=>nS hm ht (hLI.rch p hp))
  have hml1:mt1.length=m.sT.length:=by rw[hmt1];exact sK _ _ _
  refine sq (sq (rg (mv (fc (aL 44 J) fun hm44=>(lnF J T.pR (bi J J gW (nl (th ?_))))))))
  refine cd J (fun hc1=> ?_) (fun hc1=> ?_)
  ·try simp at hc1
   refine sk (th (sq (bk (sq (rg (nw 11 84 2 pE (ag (rtg (key:=11) 11 J (nl (th (sq (sq (rg (mv (lnF J T.pR (mv (nl (th (bk ?_)))))))))))))))))))
   have hI2_0:0≤now.length:=by
    first|omega|simp
   have hI2_1:mt1=mat m.sT.length t.sT.length vis∧LI (iX m t) (kK m t) vis (now.drop 0++([]:List (Int × Int)))∧vis.length=vis.length+([]:List (Int × Int)).length:=by
    exact⟨hmt1,by simpa using hLI,rfl⟩
   refine lp (κ:=Nat × (List (List Bool)) × Value × (List (Int × Int)) × (List (Int × Int))) (fun p=> [(2,ptr 2 b2 0),(3,ptr 3 b3 0),(7,osl 24 v24),(9,sl 2 pE now),(10,int dp),(11,osl 11 p.2.2.1),(49,sl 2 pE now),(50,int (now.length:Int)),(51,int (p.1:Int))]) (fun p=> [(2,cell b2 [sl 1 rE_ m.aC,sl 1 gE m.sT]),(3,cell b3 [sl 1 rE_ t.aC,sl 2 sE t.sT]),(11,own p.2.2.1 84 2 pE p.2.2.2.1),(24,own v24 143 1 cF us),(231,aW us 4 1 blE p.2.1 none)]) (fun p=>(p.1≤now.length)∧(p.2.1=mat m.sT.length t.sT.length p.2.2.2.2∧LI (iX m t) (kK m t) p.2.2.2.2 (now.drop p.1++p.2.2.2.1)∧p.2.2.2.2.length=vis.length+p.2.2.2.1.length)) (fun p=>now.length- p.1) ⟨0,mt1,(.slice none 0 0),([]:List (Int × Int)),vis⟩ ⟨hI2_0,hI2_1⟩ ⟨id,id,id,id,id,id,id,id,id,tV⟩ ⟨rI,rI,rI,rI,rI,tV⟩ ?_
   intro⟨k2,mt2,v9x,nx,vis2⟩ hG2
   obtain⟨hk2,⟨hmt2,hLI2,hvl2⟩⟩:(k2≤now.length)∧(mt2=mat m.sT.length t.sT.length vis2∧LI (iX m t) (kK m t) vis2 (now.drop k2++nx)∧vis2.length=vis.length+nx.length):=hG2
   show Ct _ _ _ _ [(2,ptr 2 b2 0),(3,ptr 3 b3 0),(7,osl 24 v24),(9,sl 2 pE now),(10,int dp),(11,osl 11 v9x),(49,sl 2 pE now),(50,int (now.length:Int)),(51,int (k2:Int))] [(2,cell b2 [sl 1 rE_ m.aC,sl 1 gE m.sT]),(3,cell b3 [sl 1 rE_ t.aC,sl 2 sE t.sT]),(11,own v9x 84 2 pE nx),(24,own v24 143 1 cF us),(231,aW us 4 1 blE mt2 none)] _
   have hv2:=jM m.sT.length t.sT.length vis2 hLI2.nd (fun p hp=>nS hm ht (hLI2.rch p hp))
   have hml2:mt2.length=m.sT.length:=by rw[hmt2];exact sK _ _ _
   refine sq (rg (bi J J aN (nl (th (sq ?_)))))
   refine cd J (fun hc2=> ?_) (fun hc2=> ?_)
   ·try simp at hc2
    have hpv:ix now k2∈vis2:=hLI2.opn _ (List.mem_append.2 (.inl (by rw[zH O];exact List.mem_cons_self)))
    have hpr:=hLI2.rch _ hpv
    obtain⟨hp0,hp1,hp2,hp3⟩:=nS hm ht hpr
    have hel:=hm.many (ix now k2).1.toNat O
    have hyl:=(ht.st (ix now k2).2.toNat O).len
    refine sk (th (sq (bk (sq (rg (iF J J T.pR O gB (lFA J T.eY (Nat.le_of_ble_eq_true J) (al (key:=13) T.z84 (eC (eC eZ)) fun b13=>(sPA (cs':= [int ((ix now k2).1),int ((ix now k2).2)]) J J J T.eY J J (nl (th (sq (sq (rg (lPA J J T.cD J (lPA J J T.aD J (lPA J J T.eY J (aO (φs:= [agg [sl 1 rE_ m.aC,sl 1 gE m.sT],agg [sl 1 rE_ t.aC,sl 2 sE t.sT],agg [int ((ix now k2).1),int ((ix now k2).2)]]) (φ:=bl (yD t ((ix now k2).2) (cJ m ((ix now k2).1).toNat))) ⟨J,J,J,tV⟩ (divg.ST m t ((ix now k2).1) ((ix now k2).2) aS O O O O) T.Vn (no J (nl (th ?_)))))))))))))))))))))
    refine cd J (fun hc3=> ?_) (fun hc3=> ?_)
    ·skip
     have hbd:iX m t (ix now k2):=Classical.byContradiction fun h=>by have h2:=(He hp2).2 h;simp[h2] at hc3
     refine sq (rg (mv (ag (kn 4 (sl 2 pE []) J bT (ag (ag (nl (th (rt (rt_ (rb (rt_ (rt_ (rb (rt_ (rb (rt_ (rt_ (rb (rt_ ?_))))))))))))))))))))
     exact rE ⟨([],dp,false),⟨fun h=>absurd (show false=true from h) (by decide),fun h=>absurd ((Hc hm ht).2 h) (Ro hLI2 hpv hbd)⟩⟩ [.tmp 4,.tmp 5,.tmp 6] J [sl 2 pE [],int dp,bl false] ⟨.tmp J,.tmp J,.tmp J,tV⟩ J trivial eX
    ·skip
     have hnb:¬iX m t (ix now k2):=(He hp2).1 (by simpa using hc3)
     refine sk (th (sq (rg (fP J T.dS (lP J J J T.gH (iPA J J T.fA T.aF J (lP J J J T.aF (iF J J T.jN O gB (lF J J T.iL (fc (aL 66 J) fun hm66=>(lnF J T.iE (mv (nl (th (bk ?_)))))))))))))))
     have hI3_0:0≤(ix m.sT ((ix now k2).1).toNat).length:=by
      first|omega|simp
     have hI3_1:mt2=mat m.sT.length t.sT.length vis2∧LI (iX m t) (kK m t) vis2 (now.drop k2++nx)∧vis2.length=vis.length+nx.length∧∀j,j<0→((ix (ix m.sT (ix now k2).1.toNat) j).2,ix (ix t.sT (ix now k2).2.toNat).next (ix (ix m.sT (ix now k2).1.toNat) j).1.toNat)∈vis2:=by
      exact⟨hmt2,hLI2,hvl2,fun a ha=>absurd ha O⟩
     refine lp (κ:=Nat × (List (List Bool)) × Value × (List (Int × Int)) × (List (Int × Int))) (fun p=> [(2,ptr 2 b2 0),(3,ptr 3 b3 0),(7,osl 24 v24),(9,sl 2 pE now),(10,int dp),(11,osl 11 p.2.2.1),(13,ptr 13 b13 0),(49,sl 2 pE now),(50,int (now.length:Int)),(51,int (k2:Int)),(66,sl 2 pE (ix m.sT ((ix now k2).1).toNat)),(67,int ((ix m.sT ((ix now k2).1).toNat).length:Int)),(68,int (p.1:Int))]) (fun p=> [(2,cell b2 [sl 1 rE_ m.aC,sl 1 gE m.sT]),(3,cell b3 [sl 1 rE_ t.aC,sl 2 sE t.sT]),(11,own p.2.2.1 84 2 pE p.2.2.2.1),(13,cell b13 [int ((ix now k2).1),int ((ix now k2).2)]),(24,own v24 143 1 cF us),(231,aW us 4 1 blE p.2.1 none)]) (fun p=>(p.1≤(ix m.sT ((ix now k2).1).toNat).length)∧(p.2.1=mat m.sT.length t.sT.length p.2.2.2.2∧LI (iX m t) (kK m t) p.2.2.2.2 (now.drop k2++p.2.2.2.1)∧p.2.2.2.2.length=vis.length+p.2.2.2.1.length∧∀j,j<p.1→((ix (ix m.sT (ix now k2).1.toNat) j).2,ix (ix t.sT (ix now k2).2.toNat).next (ix (ix m.sT (ix now k2).1.toNat) j).1.toNat)∈p.2.2.2.2)) (fun p=>(ix m.sT ((ix now k2).1).toNat).length- p.1) ⟨0,mt2,v9x,nx,vis2⟩ ⟨hI3_0,hI3_1⟩ ⟨id,id,id,id,id,id,id,id,id,id,id,id,id,tV⟩ ⟨rI,rI,rI,rI,rI,rI,tV⟩ ?_
     intro⟨k3,mt3,v9y,nx3,vis3⟩ hG3
     obtain⟨hk3,⟨hmt3,hLI3,hvl3,hdn⟩⟩:(k3≤(ix m.sT ((ix now k2).1).toNat).length)∧(mt3=mat m.sT.length t.sT.length vis3∧LI (iX m t) (kK m t) vis3 (now.drop k2++nx3)∧vis3.length=vis.length+nx3.length∧∀j,j<k3→((ix (ix m.sT (ix now k2).1.toNat) j).2,ix (ix t.sT (ix now k2).2.toNat).next (ix (ix m.sT (ix now k2).1.toNat) j).1.toNat)∈vis3):=hG3
     show Ct _ _ _ _ [(2,ptr 2 b2 0),(3,ptr 3 b3 0),(7,osl 24 v24),(9,sl 2 pE now),(10,int dp),(11,osl 11 v9y),(13,ptr 13 b13 0),(49,sl 2 pE now),(50,int (now.length:Int)),(51,int (k2:Int)),(66,sl 2 pE (ix m.sT ((ix now k2).1).toNat)),(67,int ((ix m.sT ((ix now k2).1).toNat).length:Int)),(68,int (k3:Int))] [(2,cell b2 [sl 1 rE_ m.aC,sl 1 gE m.sT]),(3,cell b3 [sl 1 rE_ t.aC,sl 2 sE t.sT]),(11,own v9y 84 2 pE nx3),(13,cell b13 [int ((ix now k2).1),int ((ix now k2).2)]),(24,own v24 143 1 cF us),(231,aW us 4 1 blE mt3 none)] _
     have hv3:=jM m.sT.length t.sT.length vis3 hLI3.nd (fun p hp=>nS hm ht (hLI3.rch p hp))
     have hml3:mt3.length=m.sT.length:=by rw[hmt3];exact sK _ _ _
     refine sq (rg (bi J J aN (nl (th (sq ?_)))))
     refine cd J (fun hc4=> ?_) (fun hc4=> ?_)
     ·try simp at hc4
      have hein:(ix (ix m.sT (ix now k2).1.toNat) k3)∈edg m (ix now k2).1.toNat:=aZ (l:=(ix m.sT (ix now k2).1.toNat)) O
      have hes:=hm.ed _ O _ hein
      have hga:=pX hm ht (x:=(ix now k2).1.toNat) (y:=(ix now k2).2.toNat) O O (Classical.byContradiction hnb) hein
      obtain⟨hga1,hga2,hga3⟩:=hga
      dsimp only [nxt] at hga2 hga3
      have hrq:Rch (iX m t) (kK m t) ((ix (ix m.sT (ix now k2).1.toNat) k3).2,ix (ix t.sT (ix now k2).2.toNat).next (ix (ix m.sT (ix now k2).1.toNat) k3).1.toNat):=Rch.step hpr hnb ⟨_,hein,rfl⟩
      have hrl:(ix mt3 (ix (ix m.sT (ix now k2).1.toNat) k3).2.toNat).length=t.sT.length:=by rw[hmt3];exact pG O
      have hmq:ix (ix mt3 (ix (ix m.sT (ix now k2).1.toNat) k3).2.toNat) (ix (ix t.sT (ix now k2).2.toNat).next (ix (ix m.sT (ix now k2).1.toNat) k3).1.toNat).toNat=decide (((ix (ix m.sT (ix now k2).1.toNat) k3).2,ix (ix t.sT (ix now k2).2.toNat).next (ix (ix m.sT (ix now k2).1.toNat) k3).1.toNat)∈vis3):=by
       rw[hmt3,Nh O O,Int.toNat_of_nonneg O,Int.toNat_of_nonneg O]
      refine sk (th (sq (bk (sq (rg (iF J J T.iE O gB (lFA J T.gC (Nat.le_of_ble_eq_true J) (al (key:=15) T.yC (eC (eC eZ)) fun b15=>(sPA (cs':= [int ((ix (ix m.sT ((ix now k2).1).toNat) k3).1),int ((ix (ix m.sT ((ix now k2).1).toNat) k3).2)]) J J J T.gC J J (nl (th (sq ?_))))))))))))
      refine drH (nh:=16) [0,1,0,4,0,16,60,124,252,0,512,2044,4092,8191,0,32767] [(none,[]),(none,[15]),(none,[]),(none,[3]),(none,[]),(none,[13]),(none,[]),(none,[]),(none,[]),(none,[]),(none,[15]),(none,[]),(none,[]),(none,[]),(some 16,[]),(some 16,[16])] T.mixed kR kR ?_
      refine stv (d:=72) (fun β0=>ptr 15 b15 1) [] J bH (fun β0 _ _ _ _ gq gh kq=>fP (gq.1.trans J) T.iW kq) ?_
      refine stv (d:=73) (fun β0=>int ((ix (ix m.sT ((ix now k2).1).toNat) k3).2)) [15] J bH (fun β0 _ _ _ _ gq gh kq=>lP (gq.1.trans J) (gh.1.trans J) J T.aF kq) ?_
      refine stv (d:=74) (fun β0=>ptr 3 b3 1) [] J bH (fun β0 _ _ _ _ gq gh kq=>fP (gq.1.trans J) T.aY kq) ?_
      refine stv (d:=75) (fun β0=>sl 2 sE t.sT) [3] J bH (fun β0 _ _ _ _ gq gh kq=>lP (gq.1.trans J) (gh.1.trans J) J T.bI kq) ?_
      refine stv (d:=76) (fun β0=>ptr 13 b13 1) [] J bH (fun β0 _ _ _ _ gq gh kq=>iPA (gq.1.trans J) J T.fA T.aF J kq) ?_
      refine stv (d:=77) (fun β0=>int ((ix now k2).2)) [13] J bH (fun β0 _ _ _ _ gq gh kq=>lP (gq.1.trans J) (gh.1.trans J) J T.aF kq) ?_
      refine stv (d:=78) (fun β0=>fp [sl 1 nE (ix t.sT ((ix now k2).2).toNat).aP,sl 1 nE (ix t.sT ((ix now k2).2).toNat).next]) [] J bH (fun β0 _ _ _ _ gq gh kq=>iF (gq.1.trans J) (gq.2.1.trans J) T.bU O gB kq) ?_
      refine stv (d:=79) (fun β0=>fp [sl 1 nE (ix t.sT ((ix now k2).2).toNat).next]) [] J bH (fun β0 _ _ _ _ gq gh kq=>fF (gq.1.trans J) T.bQ kq) ?_
      refine stv (d:=80) (fun β0=>sl 1 nE (ix t.sT ((ix now k2).2).toNat).next) [] J bH (fun β0 _ _ _ _ gq gh kq=>lF (gq.1.trans J) J T.aV kq) ?_
      refine stv (d:=81) (fun β0=>ptr 15 b15 0) [] J bH (fun β0 _ _ _ _ gq gh kq=>fP (gq.1.trans J) T.eJ kq) ?_
      refine stv (d:=82) (fun β0=>int ((ix (ix m.sT ((ix now k2).1).toNat) k3).1)) [15] J bH (fun β0 _ _ _ _ gq gh kq=>lP (gq.1.trans J) (gh.1.trans J) J T.aF kq) ?_
      refine stv (d:=83) (fun β0=>fp [int (ix (ix t.sT ((ix now k2).2).toNat).next ((ix (ix m.sT ((ix now k2).1).toNat) k3).1).toNat)]) [] J bH (fun β0 _ _ _ _ gq gh kq=>iF (gq.1.trans J) (gq.2.1.trans J) T.aM O gB kq) ?_
      refine stv (d:=84) (fun β0=>int (ix (ix t.sT ((ix now k2).2).toNat).next ((ix (ix m.sT ((ix now k2).1).toNat) k3).1).toNat)) [] J bH (fun β0 _ _ _ _ gq gh kq=>lF (gq.1.trans J) J T.aF kq) ?_
      refine stv (d:=85) (fun β0=>agg [int ((ix (ix m.sT ((ix now k2).1).toNat) k3).2),int (ix (ix t.sT ((ix now k2).2).toNat).next ((ix (ix m.sT ((ix now k2).1).toNat) k3).1).toNat)]) [] J bH (fun β0 _ _ _ _ gq gh kq=>bd (css:= [(0,_),(1,_)]) T.sW (eC (eC eZ)) ⟨J,J,p1 (φ:=int ((ix (ix m.sT ((ix now k2).1).toNat) k3).2)) (by exact(gq.1.trans J)),⟨J,J,p1 (φ:=int (ix (ix t.sT ((ix now k2).2).toNat).next ((ix (ix m.sT ((ix now k2).1).toNat) k3).1).toNat)) (by exact(gq.2.1.trans J)),tV⟩⟩ kq) ?_
      refine sta 16 T.z84 (eC (eC eZ)) ?_
      refine stw 16 (fun β0=>cell (gbk (β0 14)) [int ((ix (ix m.sT ((ix now k2).1).toNat) k3).2),int (ix (ix t.sT ((ix now k2).2).toNat).next ((ix (ix m.sT ((ix now k2).1).toNat) k3).1).toNat)]) [16] J (fun β β' hb=>by first|rw[hb 14 J]|(dsimp only;rw[hb 14 J])) (fun β0 _ _ _ _ gq gh kq=>sPA (cs':= [int ((ix (ix m.sT ((ix now k2).1).toNat) k3).2),int (ix (ix t.sT ((ix now k2).2).toNat).next ((ix (ix m.sT ((ix now k2).1).toNat) k3).1).toNat)]) (gq.1.trans J) (gh.1.trans J) (gq.2.1.trans J) T.eY J J kq) ?_
      refine pnH fun β0=>(nl (th (sq (AE 231 2310 ((ix (ix m.sT (ix now k2).1.toNat) k3).2.toNat) J J (by decide) (gK O) (gK O) (dr (nh:=10) [0,0,2,7,15,0,32,127,255,511] T.mixed kR ?_)))))
      refine st_ J (fun _ _ _ gq kq=>mv' (gq.1.trans J) kq) ?_
      refine st_ J (fun _ _ _ gq kq=>iPA (gq.1.trans J) J T.fA T.aF J kq) ?_
      refine st_ J (fun _ _ _ gq kq=>lP (gq.1.trans J) J J T.aF kq) ?_
      refine st_ J (fun _ _ _ gq kq=>iO (gq.1.trans J) J (gq.2.1.trans J) T.lD O O kq) ?_
      refine st_ J (fun _ _ _ gq kq=>lO (gq.1.trans J) J gB J T.gS kq) ?_
      refine st_ J (fun _ _ _ gq kq=>iPA (gq.1.trans J) J T.fA T.aF J kq) ?_
      refine st_ J (fun _ _ _ gq kq=>lP (gq.1.trans J) J J T.aF kq) ?_
      refine st_ J (fun _ _ _ gq kq=>iO ((gq.1.trans J).trans (gZ (key:=2310)).symm) J (gq.2.1.trans J) T.fJ O O kq) ?_
      refine st_ J (fun _ _ _ gq kq=>lO (gq.1.trans J) J gB J T.eB kq) ?_
      refine st_ J (fun _ _ _ gq kq=>no (gq.1.trans J) kq) ?_
      refine pn (nl (th ?_))
      refine cd J (fun hc5=> ?_) (fun hc5=> ?_)
      ·skip
       have hnq:((ix (ix m.sT (ix now k2).1.toNat) k3).2,ix (ix t.sT (ix now k2).2.toNat).next (ix (ix m.sT (ix now k2).1.toNat) k3).1.toNat)∉vis3:=by
        intro h
        rw[hmq] at hc5
        simp[h] at hc5
       refine sq (dr (nh:=8) [0,0,2,7,15,0,32,127,255] T.mixed kR ?_)
       refine st_ J (fun _ _ _ gq kq=>mv' (gq.1.trans J) kq) ?_
       refine st_ J (fun _ _ _ gq kq=>iPA (gq.1.trans J) J T.fA T.aF J kq) ?_
       refine st_ J (fun _ _ _ gq kq=>lP (gq.1.trans J) J J T.aF kq) ?_
       refine st_ J (fun _ _ _ gq kq=>iO (gq.1.trans J) J (gq.2.1.trans J) T.lD O O kq) ?_
       refine st_ J (fun _ _ _ gq kq=>lO (gq.1.trans J) J gB J T.gS kq) ?_
       refine st_ J (fun _ _ _ gq kq=>iPA (gq.1.trans J) J T.fA T.aF J kq) ?_
       refine st_ J (fun _ _ _ gq kq=>lP (gq.1.trans J) J J T.aF kq) ?_
       refine st_ J (fun _ _ _ gq kq=>iO ((gq.1.trans J).trans (gZ (key:=2310)).symm) J (gq.2.1.trans J) T.fJ O O kq) ?_
       refine pn (sO (φ:=bl true) J J J T.eB gB J (y':=true) J (nl (th (rg (gvU 231 2310 ((ix (ix m.sT (ix now k2).1.toNat) k3).2.toNat) J J (by decide) (gK O) (mv (lPA J J T.eY J (bs (css:= [[int ((ix (ix m.sT ((ix now k2).1).toNat) k3).2),int (ix (ix t.sT ((ix now k2).2).toNat).next ((ix (ix m.sT ((ix now k2).1).toNat) k3).1).toNat)]]) T.mD ⟨J,J,pA (cs:= [int ((ix (ix m.sT ((ix now k2).1).toNat) k3).2),int (ix (ix t.sT ((ix now k2).2).toNat).next ((ix (ix m.sT ((ix now k2).1).toNat) k3).1).toNat)]) J,tV⟩ J J J (ap (key:=11) (zs:= [((ix (ix m.sT ((ix now k2).1).toNat) k3).2,ix (ix t.sT ((ix now k2).2).toNat).next ((ix (ix m.sT ((ix now k2).1).toNat) k3).1).toNat)]) cH J J J T.mD (by unfold aU at*;simp;omega) (by unfold aU at*;simp;omega) fun v107=>(ag (nl (eb (th (rg (bi J J (aK i6) (mv (nl ?_)))))))))))))))))
       have hN0:(k3+1)≤(ix m.sT ((ix now k2).1).toNat).length:=by
        first|omega|simp_all
       have hN1:(mt3.set ((ix (ix m.sT (ix now k2).1.toNat) k3).2.toNat) ((ix mt3 ((ix (ix m.sT (ix now k2).1.toNat) k3).2.toNat)).set (ix (ix t.sT ((ix now k2).2).toNat).next ((ix (ix m.sT ((ix now k2).1).toNat) k3).1).toNat).toNat true))=mat m.sT.length t.sT.length (vis3++ [((ix (ix m.sT (ix now k2).1.toNat) k3).2,ix (ix t.sT (ix now k2).2.toNat).next (ix (ix m.sT (ix now k2).1.toNat) k3).1.toNat)])∧LI (iX m t) (kK m t) (vis3++ [((ix (ix m.sT (ix now k2).1.toNat) k3).2,ix (ix t.sT (ix now k2).2.toNat).next (ix (ix m.sT (ix now k2).1.toNat) k3).1.toNat)]) (now.drop k2++(nx3++ [((ix (ix m.sT ((ix now k2).1).toNat) k3).2,ix (ix t.sT ((ix now k2).2).toNat).next ((ix (ix m.sT ((ix now k2).1).toNat) k3).1).toNat)]))∧(vis3++ [((ix (ix m.sT (ix now k2).1.toNat) k3).2,ix (ix t.sT (ix now k2).2.toNat).next (ix (ix m.sT (ix now k2).1.toNat) k3).1.toNat)]).length=vis.length+(nx3++ [((ix (ix m.sT ((ix now k2).1).toNat) k3).2,ix (ix t.sT ((ix now k2).2).toNat).next ((ix (ix m.sT ((ix now k2).1).toNat) k3).1).toNat)]).length∧∀j,j<(k3+1)→((ix (ix m.sT (ix now k2).1.toNat) j).2,ix (ix t.sT (ix now k2).2.toNat).next (ix (ix m.sT (ix now k2).1.toNat) j).1.toNat)∈(vis3++ [((ix (ix m.sT (ix now k2).1.toNat) k3).2,ix (ix t.sT (ix now k2).2.toNat).next (ix (ix m.sT (ix now k2).1.toNat) k3).1.toNat)]):=by
        refine⟨?_,?_,by simp;omega,fun a ha=> ?_⟩
        ·have hms:=zI (n:=m.sT.length) (m:=t.sT.length) (vis:=vis3) (x:=(ix (ix m.sT (ix now k2).1.toNat) k3).2.toNat) (y:=(ix (ix t.sT (ix now k2).2.toNat).next (ix (ix m.sT (ix now k2).1.toNat) k3).1.toNat).toNat) O O
         rw[Int.toNat_of_nonneg O,Int.toNat_of_nonneg O,←hmt3] at hms
         exact hms
        ·have:=Jr hLI3 hnq hrq
         rwa [List.append_assoc] at this
        ·by_cases e:a=k3
         ·subst e;exact List.mem_append.2 (.inr (List.mem_singleton.2 rfl))
         ·exact List.mem_append.2 (.inl (hdn a O))
       exact ln (⟨k3+1,mt3.set ((ix (ix m.sT (ix now k2).1.toNat) k3).2.toNat) ((ix mt3 ((ix (ix m.sT (ix now k2).1.toNat) k3).2.toNat)).set (ix (ix t.sT ((ix now k2).2).toNat).next ((ix (ix m.sT ((ix now k2).1).toNat) k3).1).toNat).toNat true),v107,nx3++ [((ix (ix m.sT ((ix now k2).1).toNat) k3).2,ix (ix t.sT ((ix now k2).2).toNat).next ((ix (ix m.sT ((ix now k2).1).toNat) k3).1).toNat)],vis3++ [((ix (ix m.sT (ix now k2).1.toNat) k3).2,ix (ix t.sT (ix now k2).2.toNat).next (ix (ix m.sT (ix now k2).1.toNat) k3).1.toNat)]⟩:Nat × (List (List Bool)) × Value × (List (Int × Int)) × (List (Int × Int))) ⟨hN0,hN1⟩ dO ⟨id,id,id,id,id,id,id,id,id,id,id,id,id,tV⟩ ⟨rI,rI,rI,rI,rI,rI,tV⟩
      ·skip
       have hyq:((ix (ix m.sT (ix now k2).1.toNat) k3).2,ix (ix t.sT (ix now k2).2.toNat).next (ix (ix m.sT (ix now k2).1.toNat) k3).1.toNat)∈vis3:=by
        rw[hmq] at hc5
        simpa using hc5
       refine Oz 231 2310 ((ix (ix m.sT (ix now k2).1.toNat) k3).2.toNat) rfl rfl (by decide) (gK O) (gK O) (sk (eb (th (rg (bi rfl rfl (aK i6) (mv (nl ?_)))))))
       have hN0:(k3+1)≤(ix m.sT ((ix now k2).1).toNat).length:=by
        first|omega|simp_all
       have hN1:mt3=mat m.sT.length t.sT.length vis3∧LI (iX m t) (kK m t) vis3 (now.drop k2++nx3)∧vis3.length=vis.length+nx3.length∧∀j,j<(k3+1)→((ix (ix m.sT (ix now k2).1.toNat) j).2,ix (ix t.sT (ix now k2).2.toNat).next (ix (ix m.sT (ix now k2).1.toNat) j).1.toNat)∈vis3:=by
        refine⟨hmt3,hLI3,hvl3,fun a ha=> ?_⟩
        by_cases e:a=k3
        ·subst e;exact hyq
        ·exact hdn a O
       exact ln (⟨k3+1,mt3,v9y,nx3,vis3⟩:Nat × (List (List Bool)) × Value × (List (Int × Int)) × (List (Int × Int))) ⟨hN0,hN1⟩ dO ⟨id,id,id,id,id,id,id,id,id,id,id,id,id,tV⟩ ⟨rI,rI,rI,rI,rI,rI,tV⟩
     ·try simp at hc4
      refine ex (xt_ (xt_ (xb (eb (th (rg (bi J J (aK i6) (mv (nl ?_)))))))))
      have hN0:(k2+1)≤now.length:=by
       first|omega|simp_all
      have hN1:mt3=mat m.sT.length t.sT.length vis3∧LI (iX m t) (kK m t) vis3 (now.drop (k2+1)++nx3)∧vis3.length=vis.length+nx3.length:=by
       refine⟨hmt3,?_,hvl3⟩
       have h3:=hLI3
       rw[zH O] at h3
       refine Nf h3 ⟨hnb,?_⟩
       rintro _ ⟨e,he,rfl⟩
       obtain⟨j,hj,rfl⟩:=List.getElem_of_mem he
       have hj2:j<(ix m.sT (ix now k2).1.toNat).length:=hj
       have:=hdn j O
       rw[aJ hj] at this
       exact this
      exact ln (⟨k2+1,mt3,v9y,nx3,vis3⟩:Nat × (List (List Bool)) × Value × (List (Int × Int)) × (List (Int × Int))) ⟨hN0,hN1⟩ dO ⟨id,id,id,id,id,id,id,id,id,tV⟩ ⟨rI,rI,rI,rI,rI,tV⟩
   ·try simp at hc2
    refine ex (xt_ (xt_ (xb (th (rg (fz 11 11 J J (mv (ag (nl (eb (th (rg (mv (bi J J (aK i6) (ag (nl ?_))))))))))))))))
    have hN0:mt2=mat m.sT.length t.sT.length vis2∧LI (iX m t) (kK m t) vis2 nx∧0≤(dp+1)∧(dp+1)+((min nx.length 1:Nat):Int)≤(vis2.length:Int):=by
     refine⟨hmt2,?_,O,?_⟩
     ·rw[show now.drop k2= [] from List.drop_eq_nil_of_le O] at hLI2
      simpa using hLI2
     ·omega
    exact ln (⟨mt2,vis2,nx,dp+1⟩:(List (List Bool)) × (List (Int × Int)) × (List (Int × Int)) × Int) hN0 dO ⟨id,id,id,id,id,tV⟩ ⟨rI,rI,rI,rI,tV⟩
  ·try simp at hc1
   refine ex (xt_ (xt_ (xb (th (sq (rg (nw 17 84 2 pE (ag (rtg (key:=17) 17 J (nl (th (sq (sq (rg (mv (lnO J J T.lD (mv (nl (th (bk ?_))))))))))))))))))))
   have hI4_0:0≤us.length:=by
    first|omega|simp
   have hI4_1:([]:List (Int × Int)).length≤0*t.sT.length:=by
    exact Nat.zero_le _
   refine lp (κ:=Nat × Value × (List (Int × Int))) (fun p=> [(7,osl 24 v24),(17,osl 17 p.2.1),(112,int (us.length:Int)),(113,int (p.1:Int))]) (fun p=> [(2,cell b2 [sl 1 rE_ m.aC,sl 1 gE m.sT]),(3,cell b3 [sl 1 rE_ t.aC,sl 2 sE t.sT]),(17,own p.2.1 84 2 pE p.2.2),(24,own v24 143 1 cF us),(231,aW us 4 1 blE mt1 none)]) (fun p=>(p.1≤us.length)∧(p.2.2.length≤p.1*t.sT.length)) (fun p=>us.length- p.1) ⟨0,(.slice none 0 0),([]:List (Int × Int))⟩ ⟨hI4_0,hI4_1⟩ ⟨id,id,id,id,tV⟩ ⟨rI,rI,rI,rI,rI,tV⟩ ?_
   intro⟨k4,v17x,ps⟩ hG4
   obtain⟨hk4,hps⟩:(k4≤us.length)∧(ps.length≤k4*t.sT.length):=hG4
   show Ct _ _ _ _ [(7,osl 24 v24),(17,osl 17 v17x),(112,int (us.length:Int)),(113,int (k4:Int))] [(2,cell b2 [sl 1 rE_ m.aC,sl 1 gE m.sT]),(3,cell b3 [sl 1 rE_ t.aC,sl 2 sE t.sT]),(17,own v17x 84 2 pE ps),(24,own v24 143 1 cF us),(231,aW us 4 1 blE mt1 none)] _
   refine sq (rg (bi J J aN (nl (th (sq ?_)))))
   refine cd J (fun hc6=> ?_) (fun hc6=> ?_)
   ·try simp at hc6
    have hr4:(ix mt1 k4).length=t.sT.length:=by rw[hmt1];exact pG O
    have hkm:k4*t.sT.length+t.sT.length≤m.sT.length*t.sT.length:=by rw[←Nat.succ_mul];exact Nat.mul_le_mul_right _ O
    refine sk (th (sq (bk (sq (rg (mv (ag (nl (th (sq (rg (mv (mv (iO J J J T.lD O O (lO J J gB J T.gS (tkB 231 2320 k4 J J (by decide) (gK O) (gK O) (kn 119 (osl 2320 (ix us k4)) J dY (lnO J J T.fJ (mv (nl (th (bk ?_))))))))))))))))))))))
    have hI5_0:0≤(ix mt1 k4).length:=by
     first|omega|simp
    have hI5_1:ps.length≤k4*t.sT.length+0:=by
     exact hps
    refine lp (κ:=Nat × Value × (List (Int × Int))) (fun p=> [(7,osl 24 v24),(17,osl 17 p.2.1),(18,int (k4:Int)),(112,int (us.length:Int)),(113,int (k4:Int)),(119,osl 2320 (ix us k4)),(120,int ((ix mt1 k4).length:Int)),(121,int (p.1:Int))]) (fun p=> [(2,cell b2 [sl 1 rE_ m.aC,sl 1 gE m.sT]),(3,cell b3 [sl 1 rE_ t.aC,sl 2 sE t.sT]),(17,own p.2.1 84 2 pE p.2.2),(24,own v24 143 1 cF us),(231,aW us 4 1 blE mt1 (some k4)),(2320,own (ix us k4) 4 1 blE (ix mt1 k4))]) (fun p=>(p.1≤(ix mt1 k4).length)∧(p.2.2.length≤k4*t.sT.length+p.1)) (fun p=>(ix mt1 k4).length- p.1) ⟨0,v17x,ps⟩ ⟨hI5_0,hI5_1⟩ ⟨id,id,id,id,id,id,id,id,tV⟩ ⟨rI,rI,rI,rI,rI,rI,tV⟩ ?_
    intro⟨k5,v17y,ps5⟩ hG5
    obtain⟨hk5,hps5⟩:(k5≤(ix mt1 k4).length)∧(ps5.length≤k4*t.sT.length+k5):=hG5
    show Ct _ _ _ _ [(7,osl 24 v24),(17,osl 17 v17y),(18,int (k4:Int)),(112,int (us.length:Int)),(113,int (k4:Int)),(119,osl 2320 (ix us k4)),(120,int ((ix mt1 k4).length:Int)),(121,int (k5:Int))] [(2,cell b2 [sl 1 rE_ m.aC,sl 1 gE m.sT]),(3,cell b3 [sl 1 rE_ t.aC,sl 2 sE t.sT]),(17,own v17y 84 2 pE ps5),(24,own v24 143 1 cF us),(231,aW us 4 1 blE mt1 (some k4)),(2320,own (ix us k4) 4 1 blE (ix mt1 k4))] _
    refine sq (rg (bi J J aN (nl (th (sq ?_)))))
    refine cd J (fun hc7=> ?_) (fun hc7=> ?_)
    ·try simp at hc7
     refine sk (th (sq (bk (sq (rg (mv (iO J J J T.fJ O O (lO J J gB J T.eB (ag (ag (nl (th (sq (rg (mv (nl (th ?_)))))))))))))))))
     refine cd J (fun hc8=> ?_) (fun hc8=> ?_)
     ·try simp at hc8
      refine rg (mv (mv (mv (bd (css:= [(0,_),(1,_)]) T.sW (eC (eC eZ)) ⟨J,J,p1 (φ:=int (k4:Int)) J,⟨J,J,p1 (φ:=int (k5:Int)) J,tV⟩⟩ (bs (css:= [[int (k4:Int),int (k5:Int)]]) T.mD ⟨J,J,pA (cs:= [int (k4:Int),int (k5:Int)]) J,tV⟩ J J J (ap (key:=17) (zs:= [((k4:Int),(k5:Int))]) cH J J J T.mD (by unfold aU at*;simp;omega) (by unfold aU at*;simp;omega) fun v132=>(ag (nl (eb (th (rg (bi J J (aK i6) (mv (nl ?_))))))))))))))
      have hN0:(k5+1)≤(ix mt1 k4).length:=by
       first|omega|simp_all
      have hN1:(ps5++ [((k4:Int),(k5:Int))]).length≤k4*t.sT.length+(k5+1):=by
       simp;omega
      exact ln (⟨k5+1,v132,ps5++ [((k4:Int),(k5:Int))]⟩:Nat × Value × (List (Int × Int))) ⟨hN0,hN1⟩ dO ⟨id,id,id,id,id,id,id,id,tV⟩ ⟨rI,rI,rI,rI,rI,rI,tV⟩
     ·try simp at hc8
      refine sk (eb (th (rg (bi J J (aK i6) (mv (nl ?_))))))
      have hN0:(k5+1)≤(ix mt1 k4).length:=by
       first|omega|simp_all
      have hN1:ps5.length≤k4*t.sT.length+(k5+1):=by
       omega
      exact ln (⟨k5+1,v17y,ps5⟩:Nat × Value × (List (Int × Int))) ⟨hN0,hN1⟩ dO ⟨id,id,id,id,id,id,id,id,tV⟩ ⟨rI,rI,rI,rI,rI,rI,tV⟩
    ·try simp at hc7
     refine ex (xt_ (xt_ (xb (eb (th (rg (gvS 231 2320 k4 J J (by decide) (gK O) (gK O) (bi J J (aK i6) (mv (nl ?_))))))))))
     have hN0:(k4+1)≤us.length:=by
      first|omega|simp_all
     have hN1:ps5.length≤(k4+1)*t.sT.length:=by
      rw[Nat.succ_mul];omega
     exact ln (⟨k4+1,v17y,ps5⟩:Nat × Value × (List (Int × Int))) ⟨hN0,hN1⟩ dO ⟨id,id,id,id,tV⟩ ⟨rI,rI,rI,rI,rI,tV⟩
   ·try simp at hc6
    refine ex (xt_ (xt_ (xb (th (sq (rg (fz 17 17 J J (mv (ag (ag (ag (nl (th (rt ?_))))))))))))))
    exact rE ⟨(ps,0,true),⟨fun _=>(Hc hm ht).1 (Ng (by rw[show now= [] from by first|exact hc1|exact List.eq_nil_of_length_eq_zero O] at hLI;exact hLI)),fun _=>J⟩⟩ [.tmp 4,.tmp 5,.tmp 6] J [sl 2 pE ps,int 0,bl true] ⟨.tmp J,.tmp J,.tmp J,tV⟩ J trivial eX
theorem tK (m:aI) (t:SS) (hm:dJ m) (ht:oK t):
 Fn0 Tryz.prog 72 [sys m,spec t] (bl (yE m t)):=by
 refine fnI Tryz.func72 rfl rfl (fun w0 F0=> ?_)
 refine fcC (bO 0 J) (fun hS0=> ?_)
 obtain⟨hma0,hms0,hme0⟩:=eI hS0
 refine fcC (bO 1 J) (fun hS1=> ?_)
 obtain⟨hsa1,hss1,hse1⟩:=sLn hS1
 refine sq (rg (bx (key:=2) (cs:= [sl 1 rE_ m.aC,sl 1 gE m.sT]) J fun b2=>(bx (key:=3) (cs:= [sl 1 rE_ t.aC,sl 2 sE t.sT]) J fun b3=>(ag (nl (th (sq (rg (lPA J J T.cD J (lPA J J T.aD J (cl (divg.PL m t aS aS) T.Vo trivial fun N11 i11=>(mv (xt J J (xt J J (xt J J (ag (ag (ag (nl (th (sq (rg (mv (ag (nl (th (rt ?_)))))))))))))))))))))))))))
 have hr0:i11.1.2.2=(yE m t):=by
  rw[Bool.eq_iff_iff,Hd];exact i11.2
 exact rE () [.tmp 4] J [bl i11.1.2.2] ⟨.tmp J,tV⟩ (cA1 (fun x0=>rV [bl x0]) hr0) trivial eX
theorem Ju (m:aI) (t:SS) (ht:oK t):
 Fn0 Tryz.prog 24 [sys m,spec t] (bl (jS m t)):=by
 refine fnI Tryz.func24 rfl rfl (fun w0 F0=> ?_)
 refine fcC (bO 0 J) (fun hS0=> ?_)
 obtain⟨hma0,hms0,hme0⟩:=eI hS0
 refine fcC (bO 1 J) (fun hS1=> ?_)
 obtain⟨hsa1,hss1,hse1⟩:=sLn hS1
 refine sq (rg (bx (key:=2) (cs:= [sl 1 rE_ m.aC,sl 1 gE m.sT]) J fun b2=>(bx (key:=3) (cs:= [sl 1 rE_ t.aC,sl 2 sE t.sT]) J fun b3=>(ag (nl (th (sq (rg (lPA J J T.cD J (aO (φs:= [agg [sl 1 rE_ m.aC,sl 1 gE m.sT]]) (φ:=bl (eV m)) ⟨J,tV⟩ (divs.tU m) T.WB (mv ?_)))))))))))
 apply eH (t:=7) (pd:=13) rfl
 rotate_left
 ·intro hg0 fin
  have hg0':=hg0
  try simp at hg0'
  exact gy J J J hg0 (fP J T.mW (gy J J J hg0 (lP J J J T.cV (gy J J J hg0 (fP J T.cR (gy J J J hg0 (lP J J J T.cV (gy J J J hg0 (aO (φs:= [sl 1 rE_ m.aC,sl 1 rE_ t.aC]) (φ:=bl (decide (m.aC=t.aC))) ⟨J,J,tV⟩ (ref01.mM _ _) T.Fc (pkT J hg0 J (drp (X:= [(12,_),(11,_),(10,_),(9,_),(8,_)]) ⟨J,J,J,J,J,tV⟩ fin)))))))))))
 ·intro hg0 fin
  exact gn J J J hg0 J J (gn J J J hg0 J J (gn J J J hg0 J J (gn J J J hg0 J J (gn J J J hg0 J J (pkF J hg0 J (drp (X:= [(12,_),(11,_),(10,_),(9,_),(8,_)]) ⟨J,J,J,J,J,tV⟩ fin))))))
 refine mv ?_
 apply eH (t:=14) (pd:=18) rfl
 rotate_left
 ·intro hg1 fin
  have hg1':=hg1
  try simp at hg1'
  have hok:dJ m:=pZ (by simp at hg1;exact hg1.1)
  exact gy J J J hg1 (lPA J J T.cD J (gy J J J hg1 (lPA J J T.aD J (gy J J J hg1 (aO (φs:= [agg [sl 1 rE_ m.aC,sl 1 gE m.sT],agg [sl 1 rE_ t.aC,sl 2 sE t.sT]]) (φ:=bl (yE m t)) ⟨J,J,tV⟩ (divg.tK m t aS aS) T.WC (pkT J hg1 J (drp (X:= [(17,_),(16,_),(15,_)]) ⟨J,J,J,tV⟩ fin)))))))
 ·intro hg1 fin
  exact gn J J J hg1 J J (gn J J J hg1 J J (gn J J J hg1 J J (pkF J hg1 J (drp (X:= [(17,_),(16,_),(15,_)]) ⟨J,J,J,tV⟩ fin))))
 refine ag (nl (th (rt ?_)))
 have hr0:(((eV m)&&(decide (m.aC=t.aC)))&&(yE m t))=(jS m t):=by
  first|rfl|simp_all|omega
 exact rE () [.tmp 4] J [bl (((eV m)&&(decide (m.aC=t.aC)))&&(yE m t))] ⟨.tmp J,tV⟩ (cA1 (fun x0=>rV [bl x0]) hr0) trivial eX
end divg
end
section
namespace WitSat
open ref01 ref03 ref04 ref06 Part Rungs LeftM TrimM BisM BisM5 BisM6 WalkM StepM WitM JudgM
theorem SU {u v:Int} (h0:0≤u) (h1:0≤v) (h:∀a:Nat,has u (a:Int)=has v (a:Int)):u=v:=by
 have:u.toNat=v.toNat:=Nat.eq_of_testBit_eq fun a=>by have:=h a;unfold has at this;simpa using this
 omega
theorem Hg {u:Int} (h:u<256) {a:Nat} (ha:has u (a:Int)=true):a<8:=by
 unfold has at ha
 rw[Int.toNat_natCast] at ha
 refine Classical.byContradiction fun hn=> ?_
 rw[Nat.testBit_lt_two_pow (Nat.lt_of_lt_of_le (show u.toNat<2^8 by omega) (Nat.pow_le_pow_right O O))] at ha
 cases ha
variable {T:SS} {want:List PP} {ss:List (List Int)} {q:List PP} {mm:List (PP × Int)} {m:aI}
theorem wH (h:WI T ss (eM T want) q.length q mm m.sT) {x:Nat} (hx:x<q.length) {e:PP}:e∈edg m x↔∃a:Nat,e.1=(a:Int)∧a<63∧has (ix q x).2 (a:Int)=true∧∃u∈ix ss (tgt T (ix q x) (a:Int)).toNat,e.2=(q.idxOf (tgt T (ix q x) (a:Int),u):Int):=by
 have e1:edg m x=gG (edF T ss q (ix q x)):=by
  show ix m.sT x=_
  rw[h.out];exact cY hx
 rw[e1,(rU _).mem_iff]
 unfold edF
 rw[List.mem_flatMap]
 constructor
 ·rintro⟨_,ha,he⟩
  obtain⟨a,rfl,ha1,ha2⟩:=cQ.1 ha
  obtain⟨u,hu,rfl⟩:=List.mem_map.1 he
  exact⟨a,rfl,ha1,ha2,u,hu,rfl⟩
 ·rintro⟨a,e0,ha1,ha2,u,hu,e2⟩
  exact⟨(a:Int),cQ.2 ⟨a,rfl,ha1,ha2⟩,List.mem_map.2 ⟨u,hu,Prod.ext e0.symm e2.symm⟩⟩
theorem Rq (h:WI T ss (eM T want) q.length q mm m.sT):m.sT.length=q.length:=by rw[h.out];simp
theorem wI (hT:oK T) (hw:jF T want) (hs:eU T want ss) (h:WI T ss (eM T want) q.length q mm m.sT) {x:Nat} (hx:x<q.length):
 0≤(ix q x).1∧(ix q x).1<(T.sT.length:Int)∧(ix q x).2∈acc T (ix q x).1.toNat∧0≤(ix q x).2∧(ix q x).2<256:=by
 obtain⟨b0,b1,b2⟩:=h.wq.bd _ (aZ hx)
 have ha:=pU hw hs (fun _ h=>h) O b2
 have:=oV (hT.st (ix q x).1.toNat O) ha
 exact⟨b0,b1,ha,this.1,this.2⟩
theorem PM (hs:eU T want ss) {x:Nat} (hx:x<T.sT.length):ix (acc T x) 0∈ix ss x:=(hs.mem x hx _).2 (.inl rfl)
theorem Fl (hT:oK T) (hw:jF T want) (hs:eU T want ss) (h:WI T ss (eM T want) q.length q mm m.sT) {x:Nat} (hx:x<q.length) {a:Nat} (ha:has (ix q x).2 (a:Int)=true):
 a<T.aC.length∧0≤tgt T (ix q x) (a:Int)∧tgt T (ix q x) (a:Int)<(T.sT.length:Int):=by
 obtain⟨b0,b1,b2,_⟩:=wI hT hw hs h hx
 exact jR hT O ((bR _ _).2 ⟨_,b2,ha⟩)
theorem Nk (hT:oK T) (hw:jF T want) (hs:eU T want ss) (h:WI T ss (eM T want) q.length q mm m.sT) {x:Nat} (hx:x<q.length):cJ m x=(ix q x).2:=by
 obtain⟨b0,b1,b2,b3,b4⟩:=wI hT hw hs h hx
 refine SU (Gb _) b3 fun a=> ?_
 rw[Bool.eq_iff_iff]
 show has (iC (edg m x)) (a:Int)=true↔_
 rw[Dw]
 constructor
 ·rintro⟨e,he,rfl⟩
  obtain⟨b,e1,_,hb,_⟩:=(wH h hx).1 he
  rw[e1,Int.toNat_natCast];exact hb
 ·intro ha
  have hg:=Fl hT hw hs h hx ha
  exact⟨((a:Int),_),(wH h hx).2 ⟨a,rfl,by have:=Hg b4 ha;omega,ha,_,PM hs (x:=(tgt T (ix q x) (a:Int)).toNat) O,rfl⟩,by simp⟩
theorem DA (hT:oK T) (hw:jF T want) (hs:eU T want ss) (h:WI T ss (eM T want) q.length q mm m.sT) {x:Nat} (hx:x<q.length) {e:PP} (he:e∈edg m x):
 0≤e.1∧e.1<(T.aC.length:Int)∧0≤e.2∧e.2<(q.length:Int)∧0≤ix (nxt T (ix q x).1.toNat) e.1.toNat∧(ix q e.2.toNat).1=ix (nxt T (ix q x).1.toNat) e.1.toNat:=by
 obtain⟨a,e1,_,ha,u,hu,e2⟩:=(wH h hx).1 he
 have hg:=Fl hT hw hs h hx ha
 have hin:(tgt T (ix q x) (a:Int),u)∈q:=h.dn x hx (a:Int) (cQ.2 ⟨a,rfl,by have:=(wI hT hw hs h hx).2.2.2.2;have:=Hg this ha;omega,ha⟩) u hu
 have hi:=List.idxOf_lt_length_of_mem hin
 have hq:ix q (q.idxOf (tgt T (ix q x) (a:Int),u))=(tgt T (ix q x) (a:Int),u):=by rw[aJ hi];exact List.getElem_idxOf hi
 have ht:tgt T (ix q x) (a:Int)=ix (nxt T (ix q x).1.toNat) e.1.toNat:=by rw[e1];rfl
 refine⟨O,O,O,O,by rw[←ht];exact hg.2.1,?_⟩
 rw[e2,Int.toNat_natCast,hq];exact ht
theorem SV (hT:oK T) (hw:jF T want) (hf:(eM T want).1=0) (hm:lX T want m):lT m T:=by
 obtain⟨ss,q,mm,hs,h,_⟩:=hm
 refine⟨fun x y=>x<q.length∧(ix q x).1=(y:Int),⟨?_,?_,?_,?_⟩,h.wq.ne,?_⟩
 ·rintro x y ⟨hx,e⟩
  have:=(wI hT hw hs h hx).2.1;omega
 ·rintro x y ⟨hx,e⟩
  rw[Nk hT hw hs h hx]
  have:=(wI hT hw hs h hx).2.2.1
  rw[e,Int.toNat_natCast] at this;exact this
 ·rintro x y ⟨hx,e⟩ _ he
  obtain⟨e',he',rfl⟩:=List.mem_map.1 he
  have hb:=wI hT hw hs h hx
  have hg:=DA hT hw hs h hx he'
  show e'.1.toNat<(nxt T y).length
  have:(nxt T y).length=T.aC.length:=(hT.st y O).len
  omega
 ·rintro x y ⟨hx,e⟩ _ he
  obtain⟨e',he',rfl⟩:=List.mem_map.1 he
  have hg:=DA hT hw hs h hx he'
  rw[e,Int.toNat_natCast] at hg
  exact⟨hg.2.2.2.2.1,by show e'.2.toNat<_;omega,by show(ix q e'.2.toNat).1=_;rw[hg.2.2.2.2.2];show _=((ix (nxt T y) e'.1.toNat).toNat:Int);omega⟩
 ·rw[h.wq.hd,hf];rfl
end WitSat
end
section
namespace WitVal
open ref01 ref03 ref04 ref06 Part Rungs LeftM TrimM BisM BisM5 BisM6 WalkM StepM WitM JudgM WitSat sysw
variable {T:SS} {want:List PP} {ss:List (List Int)} {q:List PP} {mm:List (PP × Int)} {m:aI}
theorem yF {α β:Type} {f:α→β}:∀{l:List α},l.Nodup→(∀a∈l,∀b∈l,f a=f b→a=b)→(l.map f).Nodup
 | [],_,_=>by simp
 |a::l,h,hf=>by
  rw[List.map_cons,List.nodup_cons]
  obtain⟨h1,h2⟩:=List.nodup_cons.1 h
  refine⟨fun hm=> ?_,yF h2 fun x hx y hy=>hf x (List.mem_cons_of_mem _ hx) y (List.mem_cons_of_mem _ hy)⟩
  obtain⟨b,hb,e⟩:=List.mem_map.1 hm
  rw[hf b (List.mem_cons_of_mem _ hb) a List.mem_cons_self e] at hb
  exact h1 hb
theorem CR {α β:Type} {f:α→List β}:∀{l:List α},l.Nodup→(∀a∈l,(f a).Nodup)→(∀a∈l,∀b∈l,∀x,x∈f a→x∈f b→a=b)→(l.flatMap f).Nodup
 | [],_,_,_=>by simp
 |a::l,h,h1,h2=>by
  obtain⟨g1,g2⟩:=List.nodup_cons.1 h
  rw[List.flatMap_cons,List.nodup_append]
  refine⟨h1 a List.mem_cons_self,CR g2 (fun b hb=>h1 b (List.mem_cons_of_mem _ hb)) fun x hx y hy=>h2 x (List.mem_cons_of_mem _ hx) y (List.mem_cons_of_mem _ hy),fun x hx y hy e=> ?_⟩
  subst e
  obtain⟨b,hb,hxb⟩:=List.mem_flatMap.1 hy
  rw[←h2 a List.mem_cons_self b (List.mem_cons_of_mem _ hb) x hx hxb] at hb
  exact g1 hb
theorem pV {α β:Type} {f:α→List β} {K:Nat}:∀{l:List α},(∀a∈l,(f a).length≤K)→(l.flatMap f).length≤l.length*K
 | [],_=>by simp
 |a::l,h=>by
  have:=pV (K:=K) (fun b hb=>h b (List.mem_cons_of_mem a hb))
  have h0:=h a List.mem_cons_self
  rw[List.flatMap_cons,List.length_append,List.length_cons,Nat.succ_mul]
  omega
theorem yG (n:Nat) (t:Int):(listOf n t).Nodup:=by
 unfold listOf
 exact yF (List.filter_sublist.nodup List.nodup_range) fun a _ b _ e=>by omega
theorem Vp {l:List (List PP)} {K:Nat}:(∀x∈l,x.length≤K)→eE l≤l.length*K:=by
 induction l with
 |nil=>intro _;simp[eE]
 |cons a l ih=>
  intro h
  have:=ih fun x hx=>h x (List.mem_cons_of_mem _ hx)
  have h0:=h a List.mem_cons_self
  rw[List.length_cons,Nat.succ_mul]
  unfold eE at this ⊢
  rw[List.map_cons,List.sum_cons]
  omega
theorem SW {u:Int} (h:u<256):(listOf 63 u).length≤8:=by
 have h1:∀x∈listOf 63 u,x∈(List.range 8).map fun(a:Nat)=>(a:Int):=fun x hx=>by
  obtain⟨a,rfl,_,ha⟩:=cQ.1 hx
  exact List.mem_map.2 ⟨a,List.mem_range.2 (Hg h ha),rfl⟩
 have:=List.Nodup.length_le_of_subset (yG 63 u) h1
 simpa using this
theorem Bp (h:WI T ss (eM T want) q.length q mm m.sT) {x:Nat} (hx:x<q.length):edg m x=gG (edF T ss q (ix q x)):=by
 show ix m.sT x=_
 rw[h.out];exact cY hx
theorem Nl (hT:oK T) (hw:jF T want) (hs:eU T want ss) (h:WI T ss (eM T want) q.length q mm m.sT) {x:Nat} (hx:x<q.length):(edF T ss q (ix q x)).Nodup:=by
 refine CR (yG _ _) (fun a ha=> ?_) (fun a ha b hb e he1 he2=> ?_)
 ·obtain⟨a,rfl,ha1,ha2⟩:=cQ.1 ha
  have hg:=Fl hT hw hs h hx ha2
  refine yF (hs.nd _ O) fun u hu v hv e=> ?_
  have hu':=h.dn x hx (a:Int) ha u hu
  have hv':=h.dn x hx (a:Int) ha v hv
  have hi:=List.idxOf_lt_length_of_mem hu'
  have e2:=(Prod.mk.inj e).2
  have e3:q.idxOf (tgt T (ix q x) (a:Int),u)=q.idxOf (tgt T (ix q x) (a:Int),v):=by omega
  have g1:=List.getElem_idxOf hi
  have g2:=List.getElem_idxOf (List.idxOf_lt_length_of_mem hv')
  simp only [e3] at g1
  exact(Prod.mk.inj (g1.symm.trans g2)).2
 ·obtain⟨u,_,rfl⟩:=List.mem_map.1 he1
  obtain⟨v,_,e⟩:=List.mem_map.1 he2
  exact(Prod.mk.inj e).1.symm
theorem Nn {K:Nat} (hT:oK T) (hw:jF T want) (hs:eU T want ss) (h:WI T ss (eM T want) q.length q mm m.sT) (ha:m.aC=T.aC) (hK:∀x,x<T.sT.length→(ix ss x).length≤K) (hq:q.length≤5000) (hn:q.length*(8*K)≤400000):eV m=true:=by
 have hml:=Rq h
 have h0:=h.wq.ne
 have hlen:∀x,x<q.length→(edg m x).length≤8*K:=fun x hx=>by
  obtain⟨b0,b1,b2,b3,b4⟩:=wI hT hw hs h hx
  rw[Bp h hx,(rU _).length_eq]
  have h1:(edF T ss q (ix q x)).length≤(listOf 63 (ix q x).2).length*K:=pV fun a ha=>by
   obtain⟨a,rfl,_,ha2⟩:=cQ.1 ha
   have hg:=Fl hT hw hs h hx ha2
   unfold edA
   rw[List.length_map];exact hK _ O
  exact Nat.le_trans h1 (Nat.mul_le_mul_right K (SW b4))
 have hed:∀x,x<q.length→eQ m.aC.length m.sT.length (edg m x)=true:=fun x hx=>by
  have hnd:(edg m x).Nodup:=by rw[Bp h hx];exact(rU _).nodup_iff.2 (Nl hT hw hs h hx)
  have hso:(edg m x).Pairwise (fun p q=>p.1<q.1∨(p.1=q.1∧p.2≤q.2)):=by rw[Bp h hx];exact GJ _
  refine Bk (fun j hj=> ?_) (fun j hj=> ?_)
  ·have hg:=DA hT hw hs h hx (aZ hj)
   rw[ha,hml]
   exact fK.2 ⟨hg.1,hg.2.1,hg.2.2.1,hg.2.2.2.1⟩
  ·rw[aJ (show j<(edg m x).length by omega),aJ hj]
   have g1:=(List.pairwise_iff_getElem.1 hso) j (j+1) O hj O
   have g2:=(List.pairwise_iff_getElem.1 hnd) j (j+1) O hj O
   rw[Dy]
   rcases g1 with g|⟨g,g'⟩
   ·exact .inl g
   ·refine .inr ⟨g,?_⟩
    rcases Int.lt_or_eq_of_le g' with k|k
    ·exact k
    ·exact absurd (Prod.ext g k) g2
 have hmem:∀l∈m.sT,∃x,x<q.length∧l=edg m x:=fun l hl=>by
  obtain⟨x,hx,rfl⟩:=List.getElem_of_mem hl
  exact⟨x,O,(aJ hx).symm⟩
 unfold eV
 rw[ha,hT.acts,decide_eq_true (show 1≤m.sT.length by omega),decide_eq_true (show m.sT.length≤5000 by omega),decide_eq_true (show eE m.sT≤400000 from by
  refine Nat.le_trans (Vp (K:=8*K) fun l hl=> ?_) (by rw[hml];exact hn)
  obtain⟨x,hx,rfl⟩:=hmem l hl
  exact hlen x hx)]
 simp only [Bool.true_and,Bool.and_true]
 refine List.all_eq_true.2 fun l hl=> ?_
 obtain⟨x,hx,rfl⟩:=hmem l hl
 rw[←ha]
 exact hed x hx
end WitVal
end
section
namespace BisS
open ref01 ref03 ref04 ref06 Part Rungs LeftM TrimM MergeM RoundM BisM BisM4 BisM5 BisM6
structure BB (S D:SS) (R:Nat→Nat→Prop):Prop where
 bis:Bis S D R
 bd:∀{x y},R x y→x<S.sT.length∧y<D.sT.length
theorem BB.symm {S D:SS} {R:Nat→Nat→Prop} (h:BB S D R):BB D S (fun y x=>R x y):=
 ⟨⟨fun g=>(h.bis.acc g).symm,fun g=>(h.bis.len g).symm,fun {y x} g a ha=>by
   obtain⟨h1,h2⟩:=h.bis.nxt g a (by rw[h.bis.len g];exact ha)
   exact⟨h1.symm,fun h0=>h2 O⟩⟩,fun g=>⟨(h.bd g).2,(h.bd g).1⟩⟩
theorem Np {S D:SS} {R:Nat→Nat→Prop} (h:BB S D R) {x y:Nat} (hxy:R x y) (hh:Hol S x):Hol D y:=by
 have key:Closed S (fun x=> ∀y,R x y→Hol D y):=by
  intro x hx hc y hxy
  refine oQ D y (h.bd hxy).2 (fun i hi=> ?_)
  have ea:(ix S.sT x).aP=(ix D.sT y).aP:=h.bis.acc hxy
  have el:(ix S.sT x).next.length=(ix D.sT y).next.length:=h.bis.len hxy
  obtain⟨a,ha,h1,h2,h3⟩:=hc i (by rw[ea];exact hi)
  obtain⟨g1,g2⟩:=h.bis.nxt hxy a ha
  have g1:ix (ix S.sT x).next a<0↔ix (ix D.sT y).next a<0:=g1
  exact⟨a,by rw[←el];exact ha,O,by rw[←ea];exact h2,h3 _ (g2 h1)⟩
 exact hh _ key y hxy
theorem EF {S D:SS} {R:Nat→Nat→Prop} (h:BB S D R) {x y:Nat} (hxy:R x y):ix (hOl S) x=ix (hOl D) y:=by
 rw[Bool.eq_iff_iff,iK (h.bd hxy).1,iK (h.bd hxy).2]
 exact⟨Np h hxy,Np h.symm hxy⟩
theorem Jv {S D:SS} {R:Nat→Nat→Prop} (h:BB S D R) {x y:Nat} (hxy:R x y):keep S x=keep D y:=by
 have ea:(ix S.sT x).aP=(ix D.sT y).aP:=h.bis.acc hxy
 have el:(ix S.sT x).next.length=(ix D.sT y).next.length:=h.bis.len hxy
 unfold keep
 rw[ea,EF h hxy]
 congr 1
 funext t
 congr 2
 unfold falls
 rw[el]
 refine GI fun a ha=> ?_
 have hal:=List.mem_range.1 ha
 obtain⟨g1,g2⟩:=h.bis.nxt hxy a (by show a<(ix S.sT x).next.length;omega)
 have g1:ix (ix S.sT x).next a<0↔ix (ix D.sT y).next a<0:=g1
 by_cases hn:0≤ix (ix S.sT x).next a
 ·have hg:R (ix (ix S.sT x).next a).toNat (ix (ix D.sT y).next a).toNat:=g2 hn
  rw[decide_eq_true hn,decide_eq_true (show 0≤ix (ix D.sT y).next a by omega),EF h hg]
 ·rw[decide_eq_false hn,decide_eq_false (show ¬0≤ix (ix D.sT y).next a by omega)];rfl
theorem PO {S D:SS} (hS:oK S) (hD:oK D) {R:Nat→Nat→Prop} (h:BB S D R):Bis (aB S) (aB D) R:=by
 have hl:∀{x y},R x y→S.aC.length=D.aC.length:=fun {x y} hxy=>by
  have h1:=(hS.st x (h.bd hxy).1).len
  have h2:=(hD.st y (h.bd hxy).2).len
  have h3:(ix S.sT x).next.length=(ix D.sT y).next.length:=h.bis.len hxy
  omega
 refine⟨fun {x y} hxy=>by rw[gU (h.bd hxy).1,gU (h.bd hxy).2,Jv h hxy],fun {x y} hxy=>by rw[gT hS (h.bd hxy).1,gT hD (h.bd hxy).2,hl hxy],fun {x y} hxy a ha=> ?_⟩
 have hx:=(h.bd hxy).1
 rw[gT hS hx] at ha
 have hal:a<(nxt S x).length:=by have:(nxt S x).length=S.aC.length:=(hS.st x hx).len;omega
 rw[kI hS hx ha,kI hD (h.bd hxy).2 (by rw[←hl hxy];exact ha),Jv h hxy]
 by_cases g:has (aT (keep D y)) (a:Int)=true
 ·rw[if_pos g,if_pos g];exact h.bis.nxt hxy a hal
 ·rw[if_neg g,if_neg g];exact⟨Iff.rfl,fun h0=>absurd h0 (by decide)⟩
theorem Vq {S D:SS} (hS:oK S) (hD:oK D) (ha:S.aC=D.aC) {R:Nat→Nat→Prop} (h:BB S D R) (h0:R 0 0):dA S D∧dA D S:=(zC hS hD ha).2 ⟨R,PO hS hD h,h0⟩
structure pH {α:Type} [DecidableEq α] [Inhabited α] (A:α→List Int) (N:α→Nat→α) (n:Nat) (z:α) (l:List α) (D:SS):Prop where
 len:D.sT.length=l.length
 nd:l.Nodup
 ne:0<l.length
 hd:ix l 0=z
 acc:∀i,i<l.length→acc D i=A (ix l i)
 nl:∀i,i<l.length→(nxt D i).length=n
 nx:∀i,i<l.length→∀a,a<n→ix (nxt D i) a=if has (aT (A (ix l i))) (a:Int)=true then(l.idxOf (N (ix l i) a):Int) else-1
 cl:∀i,i<l.length→∀a,a<n→has (aT (A (ix l i))) (a:Int)=true→N (ix l i) a∈l
theorem SX {α:Type} [DecidableEq α] [Inhabited α] {A:α→List Int} {N:α→Nat→α} {n:Nat} {z:α} {l r:List α} {S D:SS} (h:pH A N n z l S) (g:pH A N n z r D):
 BB S D (fun x y=>x<l.length∧y<r.length∧ix l x=ix r y):=by
 refine⟨⟨fun {x y} ⟨hx,hy,e⟩=>by rw[h.acc x hx,g.acc y hy,e],fun {x y} ⟨hx,hy,e⟩=>by rw[h.nl x hx,g.nl y hy],fun {x y} ⟨hx,hy,e⟩ a ha=> ?_⟩,fun {x y} ⟨hx,hy,_⟩=>⟨by rw[h.len];exact hx,by rw[g.len];exact hy⟩⟩
 rw[h.nl x hx] at ha
 rw[h.nx x hx a ha,g.nx y hy a ha,e]
 by_cases c:has (aT (A (ix r y))) (a:Int)=true
 ·rw[if_pos c,if_pos c]
  have h1:=h.cl x hx a ha (by rw[e];exact c)
  have h2:=g.cl y hy a ha c
  rw[e] at h1
  have i1:=List.idxOf_lt_length_of_mem h1
  have i2:=List.idxOf_lt_length_of_mem h2
  refine⟨O,fun _=>⟨by rw[Int.toNat_natCast];exact i1,by rw[Int.toNat_natCast];exact i2,?_⟩⟩
  rw[Int.toNat_natCast,Int.toNat_natCast,aJ i1,aJ i2,List.getElem_idxOf,List.getElem_idxOf]
 ·rw[if_neg c,if_neg c];exact⟨Iff.rfl,fun h0=>absurd h0 (by decide)⟩
theorem PQ {α:Type} [DecidableEq α] [Inhabited α] {A:α→List Int} {N:α→Nat→α} {n:Nat} {z:α} {l r:List α} {S D:SS} (hS:oK S) (hD:oK D) (ha:S.aC=D.aC) (h:pH A N n z l S) (g:pH A N n z r D):
 dA S D∧dA D S:=Vq hS hD ha (SX h g) ⟨h.ne,g.ne,h.hd.trans g.hd.symm⟩
end BisS
end
section
open ref01 ref03 ref04 ref06 prog prog2 prog3 prog6 prog13 Part Rungs LeftM TrimM RoundM MergeM BisM BisM4 BisM5 WalkM StepM WitM JudgM JudgM2 refw judg wit refj sysw divr divs divd dive divg LevM LevM2
structure Vr (s:SS) (z:aI × Int):Prop where
 bad:aX s=false→z=(⟨[],[]⟩,30)
 hol:aX s=true→ix (hOl s) 0=true→z=(⟨[],[]⟩,3)
 fit:aX s=true→ix (hOl s) 0=false→z.2=0∧lX (tS s) [] z.1
namespace divw
end divw
end
section
open ref01 ref03 ref04 ref06 prog prog2 prog3 prog6 prog13 Part Rungs LeftM TrimM RoundM MergeM BisM BisM4 BisM5 WalkM StepM WitM JudgM JudgM2 refw judg wit refj sysw divr divs divd dive divg divw LevM LevM2
namespace divv
end divv
end
section
open ref01 ref03 ref04 ref06 prog prog2 prog3 prog6 prog13 Part Rungs LeftM TrimM RoundM MergeM BisM BisM4 BisM5 WalkM StepM WitM JudgM JudgM2 refw judg wit refj sysw divr divs divd dive divg divw divv LevM LevM2
namespace divf
end divf
end
section
namespace ChsM
open ref01 ref03 divs divf
end ChsM
end
section
open ref01 ref03 ref04 ref06 Part Rungs LeftM TrimM
namespace ValidM
theorem DB {u n:Nat} (h:∀a,u.testBit a=true→a<n):u<2^n:=
 Nat.lt_pow_two_of_testBit u (fun i hi=>by
  cases hb:u.testBit i with
  |false=>rfl
  |true=>exact absurd (h i hb) O)
theorem KU {x:SA} {N n:Nat} (h:okState x N n):dC x (N:Int) n=true:=by
 unfold dC
 simp only [Bool.and_eq_true,decide_eq_true_eq]
 refine⟨⟨⟨by rw[h.len],h.rise⟩,List.all_eq_true.2 (fun j hj=> ?_)⟩,List.all_eq_true.2 (fun u hu=> ?_)⟩
 ·obtain⟨a,ha,rfl⟩:=oT hj
  have:=h.nx a (by rw[←h.len];exact ha)
  simp;omega
 ·obtain⟨i,hi,rfl⟩:=oT hu
  have h1:=h.ac i hi
  have h2:=h.go i hi
  unfold gP
  rw[Bool.and_eq_true]
  constructor
  ·unfold jB
   have:(ix x.aP i).toNat<2^n:=DB (fun a ha=>(h2 a (by unfold has;rw[Int.toNat_natCast];exact ha)).1)
   simp only [Bool.and_eq_true,decide_eq_true_eq,Int.toNat_natCast]
   omega
  ·refine List.all_eq_true.2 (fun a ha=> ?_)
   obtain⟨b,rfl,hb,hh⟩:=cQ.1 ha
   have:=(h2 b hh).2
   rw[Int.toNat_natCast];simpa using this
theorem gD {s:SS} (h:oK s) (h5:s.sT.length≤500):aX s=true:=by
 unfold aX
 simp only [Bool.and_eq_true,decide_eq_true_eq]
 exact⟨⟨⟨h.acts,h.few0⟩,h5⟩,List.all_eq_true.2 (fun x hx=>by
  obtain⟨k,hk,rfl⟩:=List.getElem_of_mem hx
  have:=KU (h.st k hk)
  rwa [aJ hk] at this)⟩
theorem KV {s:SS} (h:aX s=true):s.sT.length≤500:=by
 unfold aX at h
 simp only [Bool.and_eq_true,decide_eq_true_eq] at h
 exact h.1.2
end ValidM
end
section
namespace TrimI
open ref01 ref03 ref04 ref06 Part Rungs LeftM TrimM RoundM MergeM BisM BisM2 BisM3 BisM4 BisM5 BisM6 divr divd
theorem Bq:∀m,visit [] (rg m)=rg m
 |0=>rfl
 |m+1=>by rw[Sk,Er,Bq m,CC O (fun h=>by have:=(UC.1 h).2;omega)]
theorem Jw {s:SS} {m:Nat} (hm:m≤(aH s).length):((aH s).take m).map (gV (aH s))=rg m:=by
 apply List.ext_getElem
 ·simp[BisM3.rg];omega
 ·intro i h1 h2
  simp only [List.length_map,List.length_take] at h1
  rw[List.getElem_map,List.getElem_take]
  have hi:i<(aH s).length:=by omega
  have:=Ja (qK (aB s)) hi
  rw[aJ hi] at this
  rw[←aJ h2,Fe O]
  exact this
theorem SY {s:SS} (hs:oK s) {i:Nat} (hi:i<(aH s).length):((ix (aB s).sT (ix (aH s) i).toNat).next.map fun k=>if 0≤k then gV (aH s) k else k)=(ix (tS s).sT i).next:=by
 have hbd:=hO hs hi
 have hx:(ix (aH s) i).toNat<s.sT.length:=by omega
 have hl:=(hs.st _ hx).len
 rw[nJ hi,gR hx]
 show(cut (ix s.sT _) (aT (keep s _))).map _=jD s _
 unfold cut jD
 rw[List.map_map,hl]
 refine List.map_congr_left (fun a ha=> ?_)
 show(if 0≤(if _ then _ else _:Int) then gV _ (if _ then _ else _) else(if _ then _ else _))=(if _ then _ else _)
 by_cases hh:has (aT (keep s (ix (aH s) i).toNat)) (a:Int)=true
 ·rw[if_pos hh]
  have hg:=jY hs hx hh
  rw[if_pos hg.2.1,if_pos hh]
 ·rw[if_neg hh,if_neg hh];rfl
theorem Vs {s:SS} (hs:oK s) {i:Nat} (hi:i<(aH s).length):rg (qn s (i+1))=visit (rg (qn s i)) (ix (tS s).sT i).next:=by
 have hol:=pF hs
 have hgt:=Rg hs hi
 have hix:ix (bq (aB s) i) i=ix (aH s) i:=(nZ (nQ hs (i:=i) O) hgt).symm
 have hstep:bq (aB s) (i+1)=visit (bq (aB s) i) (ix (aB s).sT (ix (aH s) i).toNat).next:=by
  show(if i<(bq (aB s) i).length then _ else _)=_
  rw[if_pos hgt,hix]
 rw[←Bq (qn s (i+1)),←Bq (qn s i),←Jw (Rf hs (i:=i+1) O),←Jw (Rf hs (i:=i) O),←Je hs (i:=i+1) O,←Je hs (i:=i) O,hstep,
  Ap (g:=gV (aH s)) (fun k=>(jW _ k).1),SY hs hi]
theorem Vt {s:SS} (hs:oK s):∀i,i≤(aH s).length→bq (tS s) i=rg (qn s i)
 |0,_=>rfl
 |i+1,hi=>by
  have ih:=Vt hs i O
  have hgt:=Rg hs (i:=i) O
  show(if i<(bq (tS s) i).length then _ else _)=_
  rw[ih,xU,if_pos hgt,Fe hgt,Int.toNat_natCast,Vs hs O]
theorem Jy {s:SS} (hs:oK s):order (tS s)=rg (aH s).length:=by
 have hol:=pF hs
 have e:bq (aB s) (aH s).length=aH s:=by
  refine Cy hs ?_ hol
  exact(nQ hs hol).length_le
 unfold order
 rw[iJ,Vt hs _ (Nat.le_refl _)]
 show rg (bq (aB s) (aH s).length).length=_
 rw[e]
theorem WD {s:SS} (hs:oK s) (h0:ix (hOl s) 0=false):tS (tS s)=tS s:=by
 have ho:aH (tS s)=rg (aH s).length:=by
  show order (aB (tS s))=_
  rw[AW hs h0,Jy hs]
 have hT:=Ky hs
 show(⟨s.aC,(aH (tS s)).map (eL (tS s))⟩:SS)=⟨s.aC,(aH s).map (eL s)⟩
 congr 1
 rw[ho]
 apply List.ext_getElem
 ·simp[BisM3.rg]
 ·intro i h1 h2
  simp only [List.length_map,xU] at h1
  have hi:i<(aH s).length:=h1
  have e1:(rg (aH s).length)[i]'(by rw[xU];exact h1)=(i:Int):=by rw[←aJ (by rw[xU];exact h1)];exact Fe h1
  rw[List.getElem_map,e1]
  have e2:(List.map (eL s) (aH s))[i]=ix (tS s).sT i:=(aJ (by rw[iJ];exact hi)).symm
  rw[e2]
  have hk:=Jd hs h0 hi
  unfold eL jD
  rw[Int.toNat_natCast,hk,ho]
  have e3:ix (tS s).sT i=⟨keep s (ix (aH s) i).toNat,jD s (ix (aH s) i)⟩:=nJ hi
  rw[e3]
  congr 1
  unfold jD
  refine List.map_congr_left fun a ha=> ?_
  have ha:a<s.aC.length:=List.mem_range.1 ha
  by_cases hh:has (aT (keep s (ix (aH s) i).toNat)) (a:Int)=true
  ·rw[if_pos hh,if_pos hh,cY ha,if_pos hh]
   obtain⟨p1,_⟩:=oC (lI hs hi hh)
   have p0:=(jW (aH s) (ix (ix s.sT (ix (aH s) i).toNat).next a)).1
   have hnd:(rg (aH s).length).Nodup:=by
    have:=qK (tS s)
    rwa [Jy hs] at this
   have hq:=Ja hnd (i:=(gV (aH s) (ix (ix s.sT (ix (aH s) i).toNat).next a)).toNat) (by rw[xU];omega)
   rw[Fe O,Int.toNat_of_nonneg p0] at hq
   exact hq
  ·rw[if_neg hh,if_neg hh]
theorem qX {s:SS} (hs:oK s):(tR (tR s).1).1=(tR s).1:=by
 cases h:ix (hOl s) 0 with
 |true=>rw[dK h];show(tR (nothing s.aC)).1=_;rw[dK (eP _)];rfl
 |false=>
  rw[bX h]
  show(tR (tS s)).1=tS s
  rw[bX (uD hs h 0)]
  exact WD hs h
theorem IJ {s:SS} (hs:oK s):ix (hOl (tR s).1) 0=ix (hOl s) 0:=by
 cases h:ix (hOl s) 0 with
 |true=>rw[dK h];exact eP _
 |false=>rw[bX h];exact uD hs h 0
theorem wJ {s:SS} (hs:oK s):Sim2 (aB (tR s).1) (aB s) 0 0:=by
 cases h:ix (hOl s) 0 with
 |true=>
  rw[dK h]
  have f:=hs.few0
  have g:=(jE hs.acts).few0
  exact Jf (jE hs.acts) hs rfl O O (eP _) h
 |false=>
  rw[bX h]
  have hop:=iU s
  have:=UB hs h (i:=0) O
  show Sim2 (aB (tS s)) (aB s) 0 0
  rw[AW hs h]
  rw[mE] at this
  exact this
theorem wK {s:SS} (hs:oK s):dA s s:=((zC hs hs rfl).2 (Pd _ _)).1
theorem Hh {s d:SS} (hs:oK s) (hd:oK d) (ha:s.aC=d.aC) (h:dA s d∧dA d s):dA (tR s).1 d∧dA d (tR s).1:=
 (zC (bC hs) hd ((dV s).trans ha)).2 ((wJ hs).trans ((zC hs hd ha).1 h))
theorem nT {s:SS} (hs:oK s):(tR s).1.sT.length≤s.sT.length:=by
 cases h:ix (hOl s) 0 with
 |true=>rw[dK h];have:=hs.few0;show 1≤_;omega
 |false=>rw[bX h];show((aH s).map _).length≤_;rw[List.length_map];exact pF hs
end TrimI
end
section
namespace QuoM
open ref01 ref03 ref04 ref06 Part Rungs LeftM TrimM RoundM MergeM BisM BisM4 BisM5 WitM JudgM LevM divr divs divd divf ChsM BisS TrimI
section
variable {α:Type} [DecidableEq α] [Inhabited α]
def jH (l:List α) (p:α):List α:=if p∈l then l else l++ [p]
def lJ (A:α→List Int) (N:α→Nat→α) (p:α) (ks:List Int) (l:List α):List α:=ks.foldl (fun l a=>jH l (N p a.toNat)) l
def dN (A:α→List Int) (p:α):List Int:=listOf 63 (aT (A p))
def kB (A:α→List Int) (N:α→Nat→α) (l:List α) (p:α):List α:=lJ A N p (dN A p) l
def jT (A:α→List Int) (N:α→Nat→α):Nat→Nat→List α→List α
 |0,_,l=>l
 |f+1,i,l=>if i<l.length then jT A N f (i+1) (kB A N l (ix l i)) else l
theorem IK (l:List α) (p:α):l<+:jH l p:=by
 unfold jH
 split
 ·exact List.prefix_rfl
 ·exact List.prefix_append _ _
theorem PR (l:List α) (p:α):p∈jH l p:=by
 unfold jH
 split
 ·assumption
 ·simp
theorem gL (A:α→List Int) (N:α→Nat→α) (p:α):∀(ks:List Int) (l:List α),l<+:lJ A N p ks l
 | [],l=>List.prefix_rfl
 |a::ks,l=>(IK l _).trans (gL A N p ks _)
theorem Nq (A:α→List Int) (N:α→Nat→α) (p:α) (ks:List Int) (a:Int) (l:List α):lJ A N p (ks++ [a]) l=jH (lJ A N p ks l) (N p a.toNat):=by
 unfold lJ;rw[List.foldl_append];rfl
theorem Hl (A:α→List Int) (N:α→Nat→α) (p:α):∀(ks:List Int) (l:List α) (a:Int),a∈ks→N p a.toNat∈lJ A N p ks l
 | [],l,a,h=>nomatch h
 |b::ks,l,a,h=>by
  rcases List.mem_cons.1 h with rfl|h
  ·exact(gL A N p ks _).subset (PR l _)
  ·exact Hl A N p ks _ a h
theorem CS (A:α→List Int) (N:α→Nat→α):∀(f i:Nat) (l:List α),l<+:jT A N f i l
 |0,i,l=>List.prefix_rfl
 |f+1,i,l=>by
  unfold jT
  split
  ·exact(gL A N _ _ l).trans (CS A N f (i+1) _)
  ·exact List.prefix_rfl
structure rH (A:α→List Int) (N:α→Nat→α) (ok:α→Prop) (z:α) (i:Nat) (l:List α):Prop where
 nd:l.Nodup
 ne:0<l.length
 hd:ix l 0=z
 ok:∀p∈l,ok p
 dn:∀j,j<i→j<l.length→∀a∈dN A (ix l j),N (ix l j) a.toNat∈l
theorem Hm {l m:List α} (h:l<+:m) {j:Nat} (hj:j<l.length):ix m j=ix l j:=by
 obtain⟨t,rfl⟩:=h
 unfold ix
 rw[List.getD_eq_getElem?_getD,List.getD_eq_getElem?_getD,List.getElem?_append_left hj]
theorem Jz {l:List α} {p:α} (h:l.Nodup):(jH l p).Nodup:=by
 unfold jH
 split
 ·exact h
 ·next g=>
  rw[List.nodup_append]
  refine⟨h,by simp,fun a ha b hb e=> ?_⟩
  rw[List.mem_singleton.1 hb] at e
  subst e;exact g ha
theorem push_in {l:List α} {p q:α} (h:q∈jH l p):q∈l∨q=p:=by
 unfold jH at h
 split at h
 ·exact .inl h
 ·rcases List.mem_append.1 h with h|h
  ·exact .inl h
  ·exact .inr (List.mem_singleton.1 h)
theorem JA (A:α→List Int) (N:α→Nat→α) (p:α):∀(ks:List Int) (l:List α),l.Nodup→(lJ A N p ks l).Nodup
 | [],l,h=>h
 |a::ks,l,h=>JA A N p ks _ (Jz h)
theorem JB (A:α→List Int) (N:α→Nat→α) (p:α):∀(ks:List Int) (l:List α) (q:α),q∈lJ A N p ks l→q∈l∨∃a∈ks,q=N p a.toNat
 | [],l,q,h=> .inl h
 |a::ks,l,q,h=>by
  rcases JB A N p ks _ q h with h|⟨b,hb,e⟩
  ·rcases push_in h with h|h
   ·exact .inl h
   ·exact .inr ⟨a,List.mem_cons_self,h⟩
  ·exact .inr ⟨b,List.mem_cons_of_mem _ hb,e⟩
variable {A:α→List Int} {N:α→Nat→α} {ok:α→Prop} {z:α}
theorem Nr (hok:∀p,ok p→∀a∈dN A p,ok (N p a.toNat)) {i:Nat} {l:List α} (h:rH A N ok z i l) (hi:i<l.length):rH A N ok z (i+1) (kB A N l (ix l i)):=by
 have hp:=gL A N (ix l i) (dN A (ix l i)) l
 refine⟨JA A N _ _ l h.nd,Nat.lt_of_lt_of_le h.ne hp.length_le,(Hm hp h.ne).trans h.hd,fun p hq=> ?_,fun j hj hl a ha=> ?_⟩
 ·rcases JB A N _ _ l p hq with g|⟨a,ha,rfl⟩
  ·exact h.ok p g
  ·exact hok _ (h.ok _ (aZ hi)) a ha
 ·have hjl:j<l.length:=by omega
  have e:ix (kB A N l (ix l i)) j=ix l j:=Hm hp hjl
  rw[e] at ha ⊢
  by_cases g:j<i
  ·exact hp.subset (h.dn j g hjl a ha)
  ·have:j=i:=by omega
   subst this
   exact Hl A N _ _ l a ha
theorem Hn (hok:∀p,ok p→∀a∈dN A p,ok (N p a.toNat)):∀(f i:Nat) (l:List α),i≤l.length→rH A N ok z i l→∃j,j≤(jT A N f i l).length∧rH A N ok z j (jT A N f i l)∧(j=(jT A N f i l).length∨j=i+f)
 |0,i,l,hi,h=>⟨i,hi,h,.inr O⟩
 |f+1,i,l,hi,h=>by
  unfold jT
  split
  ·next g=>
   have hp:=gL A N (ix l i) (dN A (ix l i)) l
   obtain⟨j,h1,h2,h3⟩:=Hn hok f (i+1) _ (by have:=hp.length_le;show _≤(kB A N l (ix l i)).length;unfold kB;omega) (Nr hok h g)
   exact⟨j,h1,h2,O⟩
  ·next g=>exact⟨i,hi,h,.inl O⟩
theorem PS (hok:∀p,ok p→∀a∈dN A p,ok (N p a.toNat)) {B:Nat} (hB:∀l:List α,l.Nodup→(∀p∈l,ok p)→l.length≤B) {l:List α} (h:rH A N ok z 0 l) {f:Nat} (hf:B≤f):rH A N ok z (jT A N f 0 l).length (jT A N f 0 l):=by
 obtain⟨j,h1,h2,h3⟩:=Hn hok f 0 l O h
 have:=hB _ h2.nd h2.ok
 have e:j=(jT A N f 0 l).length:=by omega
 rwa [e] at h2
def ofL (A:α→List Int) (N:α→Nat→α) (n:Nat) (L:List α) (p:α):SA:=⟨A p,(List.range n).map fun(a:Nat)=>if has (aT (A p)) (a:Int)=true then(L.idxOf (N p a):Int) else-1⟩
theorem SZ (hn:∀p,ok p→∀a:Nat,has (aT (A p)) (a:Int)=true→a<63) {n:Nat} {L:List α} (h:rH A N ok z L.length L) (acts:List ByteArray):pH A N n z L ⟨acts,L.map (ofL A N n L)⟩:=by
 have hat:∀i,i<L.length→ix (L.map (ofL A N n L)) i=ofL A N n L (ix L i):=fun i hi=>TurnM.Dp hi
 refine⟨by simp,h.nd,h.ne,h.hd,fun i hi=> ?_,fun i hi=> ?_,fun i hi a ha=> ?_,fun i hi a ha hh=> ?_⟩
 ·show(ix (L.map (ofL A N n L)) i).aP=_
  rw[hat i hi];rfl
 ·show(ix (L.map (ofL A N n L)) i).next.length=_
  rw[hat i hi];simp[ofL]
 ·show ix (ix (L.map (ofL A N n L)) i).next a=_
  rw[hat i hi]
  exact cY ha
 ·have:=h.dn i hi hi (a:Int) (cQ.2 ⟨a,rfl,hn _ (h.ok _ (aZ hi)) a hh,hh⟩)
  rwa [Int.toNat_natCast] at this
theorem JC {n:Nat} {L:List α} {D:SS} (hD:pH A N n z L D) (hact:bM D.aC=true) (hn:D.aC.length=n) (hl:L.length≤10000) (hb:∀p∈L,∀u∈A p,0≤u∧u<256) (hg:∀p∈L,∀a:Nat,has (aT (A p)) (a:Int)=true→a<n) (hr:∀p∈L,rising (A p)=true):oK D:=by
 have n8:=fG hact
 refine⟨hact,n8,by rw[hD.len];exact hD.ne,by rw[hD.len];exact hl,fun k hk=> ?_⟩
 rw[hD.len] at hk
 have hm:ix L k∈L:=aZ hk
 have ea:(ix D.sT k).aP=A (ix L k):=hD.acc k hk
 have en:(ix D.sT k).next.length=n:=hD.nl k hk
 have ex:∀a,a<n→ix (ix D.sT k).next a=if has (aT (A (ix L k))) (a:Int)=true then(L.idxOf (N (ix L k) a):Int) else-1:=hD.nx k hk
 refine⟨by rw[en,hn],fun a ha=> ?_,fun i hi=> ?_,fun i hi a ha=> ?_,by rw[ea];exact hr _ hm⟩
 ·rw[ex a O]
  by_cases hh:has (aT (A (ix L k))) (a:Int)=true
  ·rw[if_pos hh]
   have:=List.idxOf_lt_length_of_mem (hD.cl k hk a O hh)
   rw[hD.len];omega
  ·rw[if_neg hh];omega
 ·rw[ea] at hi ⊢
  exact hb _ hm _ (aZ hi)
 ·rw[ea] at hi ha
  have hh:has (aT (A (ix L k))) (a:Int)=true:=(bR _ _).2 ⟨_,aZ hi,ha⟩
  have:=hg _ hm a hh
  rw[ex a this,if_pos hh]
  omega
end
abbrev pix (l:List PP) (p:PP):Nat:= @List.idxOf PP instBEqOfDecidableEq p l
theorem CT {α:Type} [DecidableEq α] {l:List α} {p:α} (h:p∈l):l.idxOf p<l.length:=List.idxOf_lt_length_of_mem h
theorem Hq {α:Type} [DecidableEq α] [Inhabited α] {l:List α} {p:α} (h:p∈l):ix l (l.idxOf p)=p:=by rw[aJ (CT h)];exact List.getElem_idxOf _
theorem Ta {α:Type} [DecidableEq α] {l r:List α} {p:α} (h:p∈l):(l++r).idxOf p=l.idxOf p:=by rw[List.idxOf_append,if_pos h]
theorem Tb {α:Type} [DecidableEq α] {l:List α} {p:α} (h:p∉l):(l++ [p]).idxOf p=l.length:=by rw[List.idxOf_append,if_neg h];simp
theorem Vu {α:Type} [DecidableEq α] [Inhabited α] {l:List α} {p:α} {k:Nat} (hk:k<l.length) (h:ix l k=p):l.idxOf p≤k:=by
 rcases Nat.lt_or_ge k (l.idxOf p) with g|g
 ·have hf:=List.not_of_lt_findIdx (p:=(· ==p)) (xs:=l) (i:=k) (by unfold List.idxOf at g;exact g)
  rw[aJ hk] at h
  simp[h] at hf
 ·exact g
def bes:PP:=(-1,-1)
def uR (n:Nat):List Int:=(List.range (2^n)).map fun(x:Nat)=>(x:Int)
def qA (t s:SS) (p:PP):List Int:=if p=bes then uR t.aC.length else(uR t.aC.length).filter (Wz (ix t.sT p.1.toNat) (ix s.sT p.2.toNat))
def qN (t s:SS) (p:PP) (a:Nat):PP:=if p≠bes∧0≤ix (nxt s p.2.toNat) a then(ix (nxt t p.1.toNat) a,ix (nxt s p.2.toNat) a) else bes
def qOk (t s:SS) (p:PP):Prop:=p=bes∨(0≤p.1∧p.1<(t.sT.length:Int)∧0≤p.2∧p.2<(s.sT.length:Int))
theorem Br {n:Nat} {u:Int}:u∈uR n↔0≤u∧u<((2^n:Nat):Int):=by
 unfold uR
 rw[List.mem_map]
 constructor
 ·rintro⟨k,hk,rfl⟩
  have:=List.mem_range.1 hk
  omega
 ·rintro⟨h0,h1⟩
  exact⟨u.toNat,List.mem_range.2 O,O⟩
theorem Nt (n:Nat):(uR n).Pairwise (· < ·):=by
 unfold uR
 rw[List.pairwise_map]
 exact List.pairwise_lt_range.imp fun h=>by omega
theorem pQ {u o:Int} {a:Nat}:has (bV u o) (a:Int)=(has u (a:Int)&&has o (a:Int)):=by
 unfold has bV
 rw[Int.toNat_natCast,Int.toNat_natCast,Nat.testBit_and]
def qL (t s:SS):List PP:=jT (qA t s) (qN t s) (t.sT.length*s.sT.length+1) 0 [(0,0)]
def Xw (t s:SS):SS:=⟨t.aC,(qL t s).map (ofL (qA t s) (qN t s) t.aC.length (qL t s))⟩
end QuoM
end
section
namespace FailM
open ref01 ref03 ref04 ref06 prog15 starts Part Rungs LeftM TrimM RoundM BisM BisM5 BisM6 WalkM StepM WitM JudgM LevM divs QuoM
abbrev T3:=Int × Int × Int
structure M5 where
 x:Int
 t:Int
 s:Int
 before:Int
 action:Int
deriving Inhabited,DecidableEq
def tri (m:M5):T3:=(m.x,m.t,m.s)
def Xx (m:M5):Mt:=⟨m.s,m.t,m.before,m.action⟩
def KW (mm:List (T3 × Bool)) (l:List T3):Prop:=∀p,cX mm p=if p∈l then some true else none
def KX (x:aI) (t s:SS) (p:T3):Prop:=∃o∈acc s p.2.2.toNat,bV (cJ x p.1.toNat) o∉acc t p.2.1.toNat
def nx3 (t s:SS) (p:T3) (e:PP):T3:=(e.2,ix (nxt t p.2.1.toNat) e.1.toNat,ix (nxt s p.2.2.toNat) e.1.toNat)
inductive Hr (x:aI) (t s:SS):T3→Prop
 |zero:Hr x t s (0,0,0)
 |step {p:T3} {e:PP}:Hr x t s p→¬KX x t s p→e∈edg x p.1.toNat→0≤ix (nxt s p.2.2.toNat) e.1.toNat→Hr x t s (nx3 t s p e)
def Rs (x:aI) (t s:SS):Prop:=∀p,Hr x t s p→¬KX x t s p
variable {x:aI} {t s:SS}
structure QF (x:aI) (t s:SS) (q:List M5):Prop where
 ne:0<q.length
 hd:ix q 0=⟨0,0,0,-1,0⟩
 nd:(q.map tri).Nodup
 rch:∀m∈q,Hr x t s (tri m)
 back:∀k,0<k→k<q.length→∃(b:Nat) (e:PP),(ix q k).before=(b:Int)∧(ix q k).action=e.1∧b<k∧¬KX x t s (tri (ix q b))∧e∈edg x (ix q b).x.toNat∧0≤ix (nxt s (ix q b).s.toNat) e.1.toNat∧tri (ix q k)=nx3 t s (tri (ix q b)) e
def WE (x:aI) (t s:SS) (q:List M5) (k:Nat):Prop:=
 ¬KX x t s (tri (ix q k))∧∀e∈edg x (ix q k).x.toNat,0≤ix (nxt s (ix q k).s.toNat) e.1.toNat→nx3 t s (tri (ix q k)) e∈q.map tri
structure XL (x:aI) (t s:SS) (q:List M5) (i k:Nat) (q2:List M5) (mm2:List (T3 × Bool)):Prop where
 qi:QF x t s q2
 sm:KW mm2 (q2.map tri)
 pre:q<+:q2
 dn:∀j,j<i→WE x t s q2 j
 al:∀e∈(edg x (ix q i).x.toNat).take k,0≤ix (nxt s (ix q i).s.toNat) e.1.toNat→nx3 t s (tri (ix q i)) e∈q2.map tri
variable {q q2:List M5} {i k:Nat} {mm mm2:List (T3 × Bool)}
abbrev Rt (q:List M5) (k:Nat):List Int:=eD (q.map Xx) k
structure XE (x:aI) (t s:SS) (z:List Int × Int × Bool):Prop where
 none:z.2.2=false→z.1= []∧z.2.1=0∧Rs x t s
 some:z.2.2=true→∃q i,QF x t s q∧i<q.length∧z.1=Rt q i∧z.2.1∈acc s (ix q i).s.toNat∧bV (cJ x (ix q i).x.toNat) z.2.1∉acc t (ix q i).t.toNat
end FailM
end
section
namespace DivM
open ref01 ref03 ref04 ref06 Part Rungs LeftM TrimM RoundM MergeM BisM BisM2 BisM4 BisM5 BisM6 WalkM WitM JudgM JudgM2 LevM divr divs divd dive divg divw divv refj sysw ChsM BisS TrimI ValidM WitSat WitVal QuoM
theorem yH {n a:Nat} (v:Int) (h:a<n):ix (List.replicate n v) a=v:=by rw[aJ (by simpa using h)];simp
noncomputable def Vv (t s:SS):SS × Bool:=
 if ix (hOl s) 0=true then(Na t.aC,true)
 else if (qL t (tR s).1).length≤500 then((tR (Xw t (tR s).1)).1,true) else(⟨[],[]⟩,false)
noncomputable def KY (t s:SS):SS × Int:=
 if bN t s=0 then(if (Vv t s).2=true then((Vv t s).1,0) else(⟨[],[]⟩,2)) else(⟨[],[]⟩,bN t s)
structure XM (t s D:SS):Prop where
 acts:D.aC=t.aC
 hol:ix (hOl s) 0=true→D=Na t.aC
 num:ix (hOl s) 0=false→∃l,pH (qA t (tR s).1) (qN t (tR s).1) t.aC.length (0,0) l D∧l.length≤t.sT.length*s.sT.length+1
structure Same (q D:SS):Prop where
 ok:oK q
 few:q.sT.length≤500
 acts:q.aC=D.aC
 trim:(tR q).1=q
 r1:dA q D
 r2:dA D q
theorem JD {s t:SS} (h:dA s t):jO s t=true:=nR.2 h
theorem Nu {q D:SS} (h:Same q D):rX q D=true:=by
 unfold rX eqR oH
 rw[gD h.ok h.few,decide_eq_true h.acts,decide_eq_true h.trim.symm,JD h.r1,JD h.r2];rfl
structure XF (t s:SS) (z:aI × Int):Prop where
 no:(KY t s).2≠0→z=(⟨[],[]⟩,(KY t s).2)
 yes:(KY t s).2=0→Vr (KY t s).1 z
end DivM
end
end Go.Proofs.YtcjemmihcplgdaaGreatDoor
