/- The walks of the functions and the plain laws. Own texts of this claim, packed: Mkmks, Mkmks2, MkFixM, Mkmkv, Mkmkw, MkFixP, Mkdivx, Mkdivb, MkEncM2, Mkdivy, Mkmkx. -/
import Derived.Test.YtnlfjojfgghchaaGreatDoorX29
import Derived.Test.YtnlfjojfgghchaaGreatDoorX22
import Derived.Test.YtnlfjojfgghchaaGreatDoorX06
import Derived.Test.YtnlfjojfgghchaaGreatDoorX30
import Derived.Test.YtnlfjojfgghchaaGreatDoorX23
import Derived.Test.YtnlfjojfgghchaaGreatDoorX14
import Derived.Test.YtnlfjojfgghchaaGreatDoorX19
import Derived.Test.YtnlfjojfgghchaaGreatDoorX28
set_option linter.all false
namespace Go.Proofs.YtnlfjojfgghchaaGreatDoor
open AL Go
set_option maxRecDepth 100000
section
open ref01 ref03 ref04 ref06 prog prog2 prog3 prog4 prog5 prog6 prog7 prog8 prog9 prog13 prog15 starts Part Rungs LeftM TrimM RoundM MergeM BisM BisM4 BisM5 Itoa Keys WalkM StepM WitM JudgM JudgM2 search refw judg wit refj sysw satj divr divs divd dive divg divw divv divp divt LevM LevM2 TrimI QuoM FailM DivM RefM FitM TogM ProdM prodw GenW CompM CompP CrossM KeepK GuardM MakeM LsysM LsysM2 MakeM2 KeepB AtM ClsM LstM MakeM3 GuaW LeadM ValidM mkk mkp mkl mkc mkq mkg mkr
namespace mks
end mks
end
section
open ref01 ref03 ref04 ref06 prog prog2 prog3 prog4 prog5 prog6 prog7 prog8 prog9 prog13 prog15 starts Part Rungs LeftM TrimM RoundM MergeM BisM BisM4 BisM5 Itoa Keys WalkM StepM WitM JudgM JudgM2 search refw judg wit refj sysw satj divr divs divd dive divg divw divv divp divt LevM LevM2 TrimI QuoM FailM DivM RefM FitM TogM ProdM prodw GenW CompM CompP CrossM KeepK GuardM MakeM LsysM LsysM2 MakeM2 KeepB AtM ClsM LstM MakeM3 GuaW LeadM ValidM mkk mkp mkl mkc mkq mkg mkr mks
namespace mks2
end mks2
end
section
namespace FixM
open CompP ref01 ref03 ref04 ref06 Part Rungs LeftM TrimM RoundM MergeM BisM BisM3 BisM4 BisM5 BisM6 Keys WalkM WitM JudgM JudgM2 LevM divr divs divd dive divf divv judg refj sysw satj ChsM BisS TrimI ValidM WitSat WitVal QuoM FailM DivM RefM GenW CompM CrossM FitM TogM KeepK GuardM MakeM LsysM LsysM2 MakeM2 KeepB LstM MakeM3 GuaW LeadM
section
variable {s:SS} (hs:oK s) {ch:SS→Nat→Int} (hc:∀y,y<s.sT.length→ch s y∈acc s y)
include hs hc
theorem Oi (hf:s.sT.length≤500):(iN ch s).sT.length≤500∧bP (iN ch s).sT≤4000:=by
 have hm:=vJ hs hc
 obtain⟨g,hk,_⟩:=Fj (qJ hm)
 have ho:=Ny (qJ hm) hk
 have e1:(mkM (ch s) s).sT.length=s.sT.length:=by simp[mkM]
 have e2:=rJ hm
 have e3:=hk.few
 rw[lG] at e3
 have hl:=rL (aF (mkM (ch s) s)) (kY (aF (mkM (ch s) s))) (aI (aF (mkM (ch s) s)))
 have h5:(iN ch s).sT.length≤500:=by
  show(jK (aF (mkM (ch s) s)) (kY (aF (mkM (ch s) s))) (aI (aF (mkM (ch s) s)))).sT.length≤500
  omega
 refine⟨h5,Nat.le_trans (Gs (K:=8) fun l hl2=> ?_) O⟩
 obtain⟨c,hc2,rfl⟩:=List.getElem_of_mem hl2
 have hc3:c<kY (aF (mkM (ch s) s)):=by
  have hc4:c<(jK (aF (mkM (ch s) s)) (kY (aF (mkM (ch s) s))) (aI (aF (mkM (ch s) s)))).sT.length:=hc2
  omega
 have:=Hy hs hc hk hc3
 rw[←aG hc2]
 exact this
end
structure XN (x:aA) (g:SS) (u:Int):Prop where
 ok:bM x=true
 acts:x.aC=g.aC
 sat:eR x g
 keep:oI x u
 few:x.sT.length≤500
 sum:bP x.sT≤4000
theorem Oj {g:SS} {ok:Bool} {u:Int} (hg:ok=true→oK g∧g.sT.length≤500):
 (ok=false∧cT g ok u=(⟨[],[]⟩,2))∨(ok=true∧ix (hOl (aW u g)) 0=true∧cT g ok u=(⟨[],[]⟩,3))∨(ok=true∧ix (hOl (aW u g)) 0=false∧(cT g ok u).2=0∧XN (cT g ok u).1 g u):=by
 cases ok with
 |false=>exact .inl ⟨rfl,EO⟩
 |true=>
  obtain⟨hk,hf⟩:=hg rfl
  right
  obtain⟨hT,hT5⟩:=EM hk hf u
  have hh:=yS hk hf u
  cases e:ix (hOl (tR (aW u g)).1) 0 with
  |true=>exact .inl ⟨rfl,by rw[←hh];exact e,HJ e⟩
  |false=>
   right
   rw[JR e]
   have hfree:=CO hk hf e
   have hc:=Oa hfree
   have hv:=Ob hT (ch:=lgC) hc hT5
   have hsat:=(Nn hk (u:=u)).1 (Um hT (ch:=lgC) hc)
   have hsm:=Oi hT (ch:=lgC) hc hT5
   exact⟨rfl,by rw[←hh];exact e,rfl,hv,(QI hT (ch:=lgC) hc).trans (qI _),hsat.1,hsat.2,hsm.1,hsm.2⟩
theorem yT {m:aA} {t:SS} {u:Int} (hf:bK m t=0) (hu:fR (t.aC.length:Int) u=true):
 ((aY m t).2=false∧bE m t u=(⟨[],[]⟩,2))∨((aY m t).2=true∧ix (hOl (aW u (aY m t).1)) 0=true∧bE m t u=(⟨[],[]⟩,3))∨
 ((aY m t).2=true∧ix (hOl (aW u (aY m t).1)) 0=false∧(bE m t u).2=0∧bM (bE m t u).1=true∧(bE m t u).1.aC=t.aC∧oG m (bE m t u).1 t∧oI (bE m t u).1 u∧(bE m t u).1.sT.length≤500∧bP (bE m t u).1.sT≤4000):=by
 obtain⟨hmv,htv,hmt⟩:=lB hf
 have hm:=cU hmv
 have ht:=eJ htv
 have e:bE m t u=cT (aY m t).1 (aY m t).2 u:=by unfold bE;rw[if_pos hf,if_pos hu]
 rw[e]
 rcases Oj (u:=u) (fun h=>⟨(oM hm ht h).1,(oM hm ht h).2.1⟩:(aY m t).2=true→oK (aY m t).1∧(aY m t).1.sT.length≤500) with h|h|⟨h1,h2,h3,h4⟩
 ·exact .inl h
 ·exact .inr (.inl h)
 ·refine .inr (.inr ⟨h1,h2,h3,h4.ok,h4.acts.trans (oM hm ht h1).2.2,?_,h4.keep,h4.few,h4.sum⟩)
  exact(DR hm (cU h4.ok) ht (h4.acts.trans (oM hm ht h1).2.2) h1).1 h4.sat
def aK:aA:=⟨[⟨#[97]⟩,⟨#[98]⟩],[[(0,0),(1,0)]]⟩
def aB:SS:=⟨[⟨#[97]⟩,⟨#[98]⟩],[⟨[1],[0,-1]⟩]⟩
theorem Ah:bM aK=true:=by decide+kernel
theorem tB:cC aB=true:=by decide+kernel
theorem rF:oK aB:=eJ tB
theorem Bl:bK aK aB=0:=by
 unfold bK
 rw[if_pos Ah,if_pos tB,if_pos (show aK.aC=aB.aC from rfl)]
theorem Ol:gL aK aB= [[(0,0)]]:=by unfold gL;decide+kernel
theorem WZ:gD aK aB=aB:=by unfold gD;rw[Ol];decide+kernel
theorem Ln:ix (hOl aB) 0=false:=CompP.Dx (by decide) (by decide)
theorem II:(tR aB).1=aB:=by
 have hs:=rF
 have hn:=Ln
 have ho:aJ aB= [0]:=by
  have h1:(aJ aB).length≤1:=nZ hs
  have h2:=kT aB
  have h3:=BisM2.rX aB
  match hq:aJ aB,h1,h2,h3 with
  | [y],_,_,h3=>rw[show y=0 from h3]
 have hk:keep aB 0= [1]:=PU hs (by decide) (by decide)
 rw[dC hn]
 show(⟨aB.aC,(aJ aB).map (fM aB)⟩:SS)=aB
 rw[ho]
 show(⟨aB.aC,[fM aB 0]⟩:SS)=aB
 unfold fM iQ
 rw[show(0:Int).toNat=0 from rfl,hk,ho]
 decide
theorem vQ:aY aK aB=(aB,true):=by
 unfold aY
 rw[Ol,if_pos (by decide),WZ,II]
theorem UC:gdS aK aB=(aB,0):=by
 unfold gdS
 rw[if_pos Bl,vQ,if_pos rfl]
theorem DV (u:Int) (h:u=1∨u=2):fR (aB.aC.length:Int) u=true:=by
 rcases h with rfl|rfl<;>decide
theorem UD:ix (hOl (aW 2 aB)) 0=true:=by
 cases e:ix (hOl (aW 2 aB)) 0 with
 |true=>rfl
 |false=>
  obtain⟨x,R,hR,h0⟩:=(wZ (iM rF 2)).1 e
  have:=hR.acc h0
  have:=(tX (s:=aB) (k:=0) (by decide)).1 this
  have h1:bR x 0=1:=List.mem_singleton.1 this.1
  rw[h1] at this
  exact absurd this.2 (by decide)
theorem Rc:bE aK aB 2=(⟨[],[]⟩,3):=by
 rcases yT Bl (DV 2 (.inr rfl)) with⟨h,_⟩|⟨_,_,h⟩|⟨_,h,_⟩
 ·rw[vQ] at h;cases h
 ·exact h
 ·rw[vQ] at h
  rw[show((aB,true):SS × Bool).1=aB from rfl,UD] at h;cases h
theorem UE:eR ⟨[⟨#[97]⟩,⟨#[98]⟩],[[(0,0)]]⟩ (aW 1 aB):=by
 refine yN.2 ⟨⟨fun x y=>x=0∧y=0,⟨fun {x y} h=>by rw[h.2];decide,fun {x y} h=>by rw[h.1,h.2];decide,fun {x y} h e he=> ?_,fun {x y} h e he=> ?_⟩,rfl,rfl⟩,fun x hx=> ?_⟩
 ·rw[h.1] at he
  rw[h.2]
  have:e=(0,0):=by
   obtain⟨d,hd,rfl⟩:=List.mem_map.1 he
   rw[List.mem_singleton.1 (show d∈[((0,0):PP)] from hd)];rfl
  rw[this];decide
 ·rw[h.1] at he
  rw[h.2]
  have:e=(0,0):=by
   obtain⟨d,hd,rfl⟩:=List.mem_map.1 he
   rw[List.mem_singleton.1 (show d∈[((0,0):PP)] from hd)];rfl
  rw[this];exact⟨by decide,by decide,by decide⟩
 ·have:x=0:=by
   induction hx with
   |zero=>rfl
   |step h1 h2 ih=>
    rw[ih] at h2
    have:=List.mem_singleton.1 h2
    rw[this];rfl
  rw[this];decide
theorem HR:(bE aK aB 1).2=0∧bM (bE aK aB 1).1=true∧(bE aK aB 1).1.aC=aB.aC∧oG aK (bE aK aB 1).1 aB∧oI (bE aK aB 1).1 1∧(bE aK aB 1).1.sT.length≤500∧bP (bE aK aB 1).1.sT≤4000:=by
 rcases yT Bl (DV 1 (.inl rfl)) with⟨h,_⟩|⟨_,h,_⟩|⟨_,_,h⟩
 ·rw[vQ] at h;cases h
 ·rw[vQ] at h
  have:ix (hOl (aW 1 aB)) 0=false:=(wZ (iM rF 1)).2 ⟨_,UE⟩
  rw[show((aB,true):SS × Bool).1=aB from rfl,this] at h;cases h
 ·exact h
theorem Re {x m:aA} {t:SS} {u:Int} (hx:bM x=true) (hm:bM m=true) (ht:cC t=true) (h1:x.aC=m.aC) (h2:x.aC=t.aC) (hu:fR (t.aC.length:Int) u=true):eU x m t u=0:=by
 unfold eU
 rw[if_pos ⟨hx,hm⟩,if_pos ht,if_pos ⟨h1,h2⟩,if_pos hu]
theorem Rf {x m:aA} {t:SS} {u:Int} (hE:eU x m t u=0) (hx:bC x) (hw:oG m x t) (hk:oI x u):iV x m t u=true:=by
 unfold iV
 rw[hE,decide_eq_true rfl,Bool.true_and,(EI hx).2 hk,Bool.and_true]
 simp[hw]
theorem Om:eU (bE aK aB 1).1 aK aB 1=0∧iV (bE aK aB 1).1 aK aB 1=true:=by
 obtain⟨_,h1,h2,h3,h4,_⟩:=HR
 have e:=Re h1 Ah tB (h2.trans rfl) h2 (DV 1 (.inl rfl))
 exact⟨e,Rf e (cU h1) h3 h4⟩
end FixM
end
section
open ref01 ref03 ref04 ref06 prog prog2 prog3 prog4 prog5 prog6 prog7 prog8 prog9 prog13 prog15 starts Part Rungs LeftM TrimM RoundM MergeM BisM BisM4 BisM5 Itoa Keys WalkM StepM WitM JudgM JudgM2 search refw judg wit refj sysw satj divr divs divd dive divg divw divv divp divt LevM LevM2 TrimI QuoM FailM DivM RefM FitM TogM ProdM prodw GenW CompM CompP CrossM KeepK GuardM MakeM LsysM LsysM2 MakeM2 KeepB AtM ClsM LstM MakeM3 GuaW LeadM FixM ValidM mkk mkp mkl mkc mkq mkg mkr mks mks2
def yU (m:aA) (n:Int):Bool:=decide ((m.sT.length:Int)≤n)&&yG m 300
def qO (s:SS) (n:Int):Bool:=decide ((s.sT.length:Int)≤n)&&few s 400
theorem Oo {m:aA} {n:Int} (h:yU m n=true):(m.sT.length:Int)≤n∧oF m≤300:=by
 unfold yU yG at h
 rw[Bool.and_eq_true,decide_eq_true_eq,decide_eq_true_eq] at h
 exact⟨h.1,O⟩
theorem HT {s:SS} {n:Int} (h:qO s n=true):(s.sT.length:Int)≤n∧(size s:Int)≤400:=by
 unfold qO few at h
 rw[Bool.and_eq_true,decide_eq_true_eq,decide_eq_true_eq] at h
 exact h
theorem HU {m:aA} {n:Nat} (h:oF m≤n):bP m.sT≤n:=by unfold oF at h;omega
theorem UF {a b c:Bool} (h:((!a|| !b)|| !c)=false):a=true∧b=true∧c=true:=by
 cases a<;>cases b<;>cases c<;>simp_all
namespace T
theorem XO:Ent Tryz.prog 45:=aR kR
theorem XP:Ent Tryz.prog 46:=aR kR
theorem Fl:Ent Tryz.prog 47:=aR kR
theorem Fp:Ent Tryz.prog 48:=aR kR
theorem RZ:Ent Tryz.prog 16:=aR kR
theorem Lp:Ent Tryz.prog 25:=aR kR
theorem Sa:Ent Tryz.prog 30:=aR kR
theorem XQ:Ent Tryz.prog 49:=aR kR
end T
namespace mkv
theorem HV (m:aA) (n:Int):
 Fn0 Tryz.prog 11 [sys m,int n] (bl (yU m n)):=by
 refine fnI Tryz.func11 rfl rfl (fun w0 F0=> ?_)
 refine fcC (bW 0 J) (fun hS0=> ?_)
 obtain⟨hma0,hms0,hme0⟩:=cJ hS0
 refine sq (rg (bx (key:=2) (cs:= [sl 1 rE_ m.aC,sl 1 gE m.sT]) J fun b2=>(ag (nl (th (sq (rg (fP J T.bY (lP J J J T.dA (fc (bL 6 J) fun hm6=>(lnF J T.gY (mv (bi J J tD (mv ?_))))))))))))))
 apply fT (t:=10) (pd:=13) rfl
 rotate_left
 ·intro hg0 fin
  have hg0':=hg0
  try simp at hg0'
  exact gy J J J hg0 (lPA J J T.aU J (gy J J J hg0 (bI (φs:= [agg [sl 1 rE_ m.aC,sl 1 gE m.sT],int 300]) (φ:=bl (yG m 300)) ⟨J,J,tV⟩ (sysw.FK m 300 O) T.XO (pkT J hg0 J (drp (X:= [(12,_),(11,_)]) ⟨J,J,tV⟩ fin)))))
 ·intro hg0 fin
  exact gn J J J hg0 J J (gn J J J hg0 J J (pkF J hg0 J (drp (X:= [(12,_),(11,_)]) ⟨J,J,tV⟩ fin)))
 refine ag (nl (th (rt ?_)))
 have hr0:((decide ((m.sT.length:Int)≤n))&&(yG m 300))=(yU m n):=by
  rfl
 exact rE () [.tmp 4] J [bl ((decide ((m.sT.length:Int)≤n))&&(yG m 300))] ⟨.tmp J,tV⟩ (cA1 (fun x0=>rV [bl x0]) hr0) trivial eX
theorem CV (s:SS) (n:Int):
 Fn0 Tryz.prog 12 [spec s,int n] (bl (qO s n)):=by
 refine fnI Tryz.func12 rfl rfl (fun w0 F0=> ?_)
 refine fcC (bW 0 J) (fun hS0=> ?_)
 obtain⟨hsa0,hss0,hse0⟩:=sLn hS0
 refine sq (rg (bx (key:=2) (cs:= [sl 1 rE_ s.aC,sl 2 sE s.sT]) J fun b2=>(ag (nl (th (sq (rg (fP J T.bO (lP J J J T.cM (fc (bL 6 J) fun hm6=>(lnF J T.dB (mv (bi J J tD (mv ?_))))))))))))))
 apply fT (t:=10) (pd:=13) rfl
 rotate_left
 ·intro hg0 fin
  have hg0':=hg0
  try simp at hg0'
  exact gy J J J hg0 (lPA J J T.bA J (gy J J J hg0 (bI (φs:= [agg [sl 1 rE_ s.aC,sl 2 sE s.sT],int 400]) (φ:=bl (few s 400)) ⟨J,J,tV⟩ (ref03.FK s _ O) T.XP (pkT J hg0 J (drp (X:= [(12,_),(11,_)]) ⟨J,J,tV⟩ fin)))))
 ·intro hg0 fin
  exact gn J J J hg0 J J (gn J J J hg0 J J (pkF J hg0 J (drp (X:= [(12,_),(11,_)]) ⟨J,J,tV⟩ fin)))
 refine ag (nl (th (rt ?_)))
 have hr0:((decide ((s.sT.length:Int)≤n))&&(few s 400))=(qO s n):=by
  rfl
 exact rE () [.tmp 4] J [bl ((decide ((s.sT.length:Int)≤n))&&(few s 400))] ⟨.tmp J,tV⟩ (cA1 (fun x0=>rV [bl x0]) hr0) trivial eX
theorem xD:
 Fn0 Tryz.prog 47 [] (sys aK):=by
 refine fnI Tryz.func47 rfl rfl (fun w0 F0=> ?_)
 refine sq (rg (al (key:=0) T.z25 (eC (eC eZ)) fun b0=>(nl (th (sq (rg (bsE (enc:=rE_) (xs:= [({ data:= #[97] }),({ data:= #[98] })]) (css:= [[str ({ data:= #[97] })],[str ({ data:= #[98] })]]) T.Db ⟨J,J,p1 (φ:=str ({ data:= #[97] })) J,⟨J,J,p1 (φ:=str ({ data:= #[98] })) J,tV⟩⟩ J J J J (bd (css:= []) T.wN (eC (eC eZ)) trivial (bd (css:= [(0,_)]) T.wN (eC (eC eZ)) ⟨J,J,p1 (φ:=int 1) J,tV⟩ (bsE (enc:=pE) (xs:= [(0,0),(1,0)]) (css:= [[int 0,int 0],[int 1,int 0]]) T.kW ⟨J,J,pA (cs:= [int 0,int 0]) J,⟨J,J,pA (cs:= [int 1,int 0]) J,tV⟩⟩ J J J J (bsE (enc:=gE) (xs:= [[(0,0),(1,0)]]) (css:= [[sl 2 pE [(0,0),(1,0)]]]) T.pF ⟨J,J,p1 (φ:=sl 2 pE [(0,0),(1,0)]) J,tV⟩ J J J J (bd (css:= [(0,_),(1,_)]) T.mW (eC (eC eZ)) ⟨J,J,p1 (φ:=sl 1 rE_ [({ data:= #[97] }),({ data:= #[98] })]) J,⟨J,J,p1 (φ:=sl 1 gE [[(0,0),(1,0)]]) J,tV⟩⟩ (sPA (cs':= [sl 1 rE_ [({ data:= #[97] }),({ data:= #[98] })],sl 1 gE [[(0,0),(1,0)]]]) J J J T.aU J J (nl (th (rt ?_))))))))))))))))
 have hr0: [({ data:= #[97] }),({ data:= #[98] })]=aK.aC:=by
  first|rfl|simp_all|omega
 have hr1: [[(0,0),(1,0)]]=aK.sT:=by
  first|rfl|simp_all|omega
 exact rE () [.cell 0 25] J [agg [sl 1 rE_ [({ data:= #[97] }),({ data:= #[98] })],sl 1 gE [[(0,0),(1,0)]]]] ⟨.agg J J T.aU J J,tV⟩ (cA2 (fun x0 x1=>rV [agg [sl 1 rE_ x0,sl 1 gE x1]]) hr0 hr1) trivial eX
theorem tY:
 Fn0 Tryz.prog 48 [] (spec aB):=by
 refine fnI Tryz.func48 rfl rfl (fun w0 F0=> ?_)
 refine sq (rg (al (key:=0) T.z28 (eC (eC eZ)) fun b0=>(nl (th (sq (rg (bsE (enc:=rE_) (xs:= [({ data:= #[97] }),({ data:= #[98] })]) (css:= [[str ({ data:= #[97] })],[str ({ data:= #[98] })]]) T.Db ⟨J,J,p1 (φ:=str ({ data:= #[97] })) J,⟨J,J,p1 (φ:=str ({ data:= #[98] })) J,tV⟩⟩ J J J J (bsE (enc:=nE) (xs:= [1]) (css:= [[int 1]]) T.cQ ⟨J,J,p1 (φ:=int 1) J,tV⟩ J J J J (bsE (enc:=nE) (xs:= [0,(-1)]) (css:= [[int 0],[int (-1)]]) T.cQ ⟨J,J,p1 (φ:=int 0) J,⟨J,J,p1 (φ:=int (-1)) J,tV⟩⟩ J J J J (bd (css:= [(0,_),(1,_)]) T.Aq (eC (eC eZ)) ⟨J,J,p1 (φ:=sl 1 nE [1]) J,⟨J,J,p1 (φ:=sl 1 nE [0,(-1)]) J,tV⟩⟩ (bsE (enc:=sE) (xs:= [(⟨[1],[0,(-1)]⟩)]) (css:= [[sl 1 nE [1],sl 1 nE [0,(-1)]]]) T.rP ⟨J,J,pA (cs:= [sl 1 nE [1],sl 1 nE [0,(-1)]]) J,tV⟩ J J J J (bd (css:= [(0,_),(1,_)]) T.uB (eC (eC eZ)) ⟨J,J,p1 (φ:=sl 1 rE_ [({ data:= #[97] }),({ data:= #[98] })]) J,⟨J,J,p1 (φ:=sl 2 sE [(⟨[1],[0,(-1)]⟩)]) J,tV⟩⟩ (sPA (cs':= [sl 1 rE_ [({ data:= #[97] }),({ data:= #[98] })],sl 2 sE [(⟨[1],[0,(-1)]⟩)]]) J J J T.bA J J (nl (th (rt ?_))))))))))))))))
 have hr0: [({ data:= #[97] }),({ data:= #[98] })]=aB.aC:=by
  first|rfl|simp_all|omega
 have hr1: [(⟨[1],[0,(-1)]⟩)]=aB.sT:=by
  first|rfl|simp_all|omega
 exact rE () [.cell 0 28] J [agg [sl 1 rE_ [({ data:= #[97] }),({ data:= #[98] })],sl 2 sE [(⟨[1],[0,(-1)]⟩)]]] ⟨.agg J J T.bA J J,tV⟩ (cA2 (fun x0 x1=>rV [agg [sl 1 rE_ x0,sl 2 sE x1]]) hr0 hr1) trivial eX
theorem CW:
 AL.Fn Tryz.prog 13 [] [(998,dS tab)] (ι:=Unit) (fun _ _=>bl true) (fun _=> []):=by
 refine fnI Tryz.func13 rfl rfl (fun w0 F0=> ?_)
 have hsm:dH aB:=rF.small
 obtain⟨q1,q2,q3,q4,q5,q6,q7⟩:=HR
 obtain⟨r1,r2⟩:=Om
 have q8:=Rc
 have q9:=UC
 have hz:aK.sT.length*(bE aK aB 1).1.sT.length<5000:=by show 1*_<5000;omega
 have hz2:bP aK.sT*bP (bE aK aB 1).1.sT≤400000:=by show 2*_≤400000;omega
 refine tbH 9999 998 rfl ?_
 refine sq (rg (ag (nl (th (sq (rg (bI (φs:= []) (φ:=agg [sl 1 rE_ aK.aC,sl 1 gE aK.sT]) trivial mkv.xD T.Fl (bI (φs:= []) (φ:=agg [sl 1 rE_ aB.aC,sl 2 sE aB.sT]) trivial mkv.tY T.Fp (tbU (ψ:=tab) 10 9999 J J (bI (φs:= [both (agg [sl 1 rE_ aK.aC,sl 1 gE aK.sT]) tab,agg [sl 1 rE_ aB.aC,sl 2 sE aB.sT]]) (φ:=tup [agg [sl 1 rE_ ((gdS aK aB).1).aC,sl 2 sE ((gdS aK aB).1).sT],int ((gdS aK aB).2)]) ⟨J,J,tV⟩ (mkg.HH aK aB aS) T.RZ (mv (xt J J (kn 13 (spec aB) J (by rw[q9];exact fun h=>h) (xt J J (al (key:=1) T.z28 (eC (eC eZ)) fun b1=>(sPA (cs':= [sl 1 rE_ aB.aC,sl 2 sE aB.sT]) J J J T.bA J J (ag (nl (th (sq (rg (bI (φs:= []) (φ:=agg [sl 1 rE_ aK.aC,sl 1 gE aK.sT]) trivial mkv.xD T.Fl (bI (φs:= []) (φ:=agg [sl 1 rE_ aB.aC,sl 2 sE aB.sT]) trivial mkv.tY T.Fp (tbU (ψ:=tab) 16 9999 J J (eI (φs:= [both (agg [sl 1 rE_ aK.aC,sl 1 gE aK.sT]) tab,agg [sl 1 rE_ aB.aC,sl 2 sE aB.sT],int 1]) (φ:=tup [agg [sl 1 rE_ ((bE aK aB 1).1).aC,sl 1 gE ((bE aK aB 1).1).sT],int ((bE aK aB 1).2)]) ⟨J,J,J,tV⟩ (mkr.xC aK aB aS 1) T.Lp (fun N hN=>fun h=>pZ (cs:= [agg [fre N (sl 1 rE_ ((bE aK aB 1).1).aC),fre N (sl 1 gE ((bE aK aB 1).1).sT)],int ((bE aK aB 1).2)]) (ds:= [agg [sl 1 rE_ ((bE aK aB 1).1).aC,sl 1 gE ((bE aK aB 1).1).sT],int ((bE aK aB 1).2)]) ⟨fun h=>cV (cs:= [fre N (sl 1 rE_ ((bE aK aB 1).1).aC),fre N (sl 1 gE ((bE aK aB 1).1).sT)]) (ds:= [sl 1 rE_ ((bE aK aB 1).1).aC,sl 1 gE ((bE aK aB 1).1).sT]) ⟨fun h=>bV h,fun h=>bV h,tV⟩ h,fun h=>h,tV⟩ h) (mv (xt J J (xt J J (al (key:=3) T.z25 (eC (eC eZ)) fun b3=>(sPA (cs':= [sl 1 rE_ ((bE aK aB 1).1).aC,sl 1 gE ((bE aK aB 1).1).sT]) J J J T.aU J J (ag (nl (th (sq (rg (bI (φs:= []) (φ:=agg [sl 1 rE_ aK.aC,sl 1 gE aK.sT]) trivial mkv.xD T.Fl (bI (φs:= []) (φ:=agg [sl 1 rE_ aB.aC,sl 2 sE aB.sT]) trivial mkv.tY T.Fp (tbU (ψ:=tab) 22 9999 J J (eI (φs:= [both (agg [sl 1 rE_ aK.aC,sl 1 gE aK.sT]) tab,agg [sl 1 rE_ aB.aC,sl 2 sE aB.sT],int 2]) (φ:=tup [agg [sl 1 rE_ ((bE aK aB 2).1).aC,sl 1 gE ((bE aK aB 2).1).sT],int ((bE aK aB 2).2)]) ⟨J,J,J,tV⟩ (mkr.xC aK aB aS 2) T.Lp (fun N hN=>fun h=>pZ (cs:= [agg [fre N (sl 1 rE_ ((bE aK aB 2).1).aC),fre N (sl 1 gE ((bE aK aB 2).1).sT)],int ((bE aK aB 2).2)]) (ds:= [agg [sl 1 rE_ ((bE aK aB 2).1).aC,sl 1 gE ((bE aK aB 2).1).sT],int ((bE aK aB 2).2)]) ⟨fun h=>cV (cs:= [fre N (sl 1 rE_ ((bE aK aB 2).1).aC),fre N (sl 1 gE ((bE aK aB 2).1).sT)]) (ds:= [sl 1 rE_ ((bE aK aB 2).1).aC,sl 1 gE ((bE aK aB 2).1).sT]) ⟨fun h=>bV h,fun h=>bV h,tV⟩ h,fun h=>h,tV⟩ h) (mv (xt J J (xt J J (al (key:=5) T.z25 (eC (eC eZ)) fun b5=>(sPA (cs':= [sl 1 rE_ ((bE aK aB 2).1).aC,sl 1 gE ((bE aK aB 2).1).sT]) J J J T.aU J J (ag (nl (th (sq (dr (nh:=9) [0,0,2,7,15,31,31,63,255] T.mixed kR ?_)))))))))))))))))))))))))))))))))))))))))))))))))
 refine st_ J (fun _ _ _ gq kq=>lPA (gq.1.trans J) J T.aU J kq) ?_
 refine st_ J (fun _ _ _ gq kq=>bI (φs:= []) (φ:=agg [sl 1 rE_ aK.aC,sl 1 gE aK.sT]) trivial mkv.xD T.Fl kq) ?_
 refine st_ J (fun _ _ _ gq kq=>bI (φs:= []) (φ:=agg [sl 1 rE_ aB.aC,sl 2 sE aB.sT]) trivial mkv.tY T.Fp kq) ?_
 refine st_ J (fun _ _ _ gq kq=>bI (φs:= [agg [sl 1 rE_ ((bE aK aB 1).1).aC,sl 1 gE ((bE aK aB 1).1).sT],agg [sl 1 rE_ aK.aC,sl 1 gE aK.sT],agg [sl 1 rE_ aB.aC,sl 2 sE aB.sT],int 1]) (φ:=tup [bl (iV ((bE aK aB 1).1) aK aB 1),int (eU ((bE aK aB 1).1) aK aB 1)]) ⟨(gq.1.trans J),(gq.2.1.trans J),(gq.2.2.1.trans J),J,tV⟩ (mkr.HK ((bE aK aB 1).1) aK aB aS 1 aS aS) T.Sa kq) ?_
 refine st_ J (fun _ _ _ gq kq=>mv' (gq.1.trans J) kq) ?_
 refine st_ J (fun _ _ _ gq kq=>xt (gq.1.trans J) J kq) ?_
 refine st_ J (fun _ _ _ gq kq=>xt (gq.1.trans J) J kq) ?_
 refine st_ J (fun _ _ _ gq kq=>ag' (gq.1.trans J) kq) ?_
 refine st_ J (fun _ _ _ gq kq=>ag' (gq.1.trans J) kq) ?_
 refine pn (nl (th (sq (rg (mv (bi J J gF (mv ?_)))))))
 apply fT (t:=36) (pd:=41) rfl
 rotate_left
 ·intro hg0 fin
  have hg0':=hg0
  try simp at hg0'
  exact gy J J J hg0 (fP J T.bO (gy J J J hg0 (lP J J J T.cM (gy J J J hg0 (fc (bL 38 J) fun hm38=>(lnF J T.dB (gy J J J hg0 (bi J J jA (pkT J hg0 J (drp (X:= [(40,_),(39,_),(38,_),(37,_)]) ⟨J,J,J,J,tV⟩ fin))))))))))
 ·intro hg0 fin
  exact gn J J J hg0 J J (gn J J J hg0 J J (gn J J J hg0 J J (gn J J J hg0 J J (pkF J hg0 J (drp (X:= [(40,_),(39,_),(38,_),(37,_)]) ⟨J,J,J,J,tV⟩ fin)))))
 refine mv ?_
 apply fT (t:=42) (pd:=50) rfl
 rotate_left
 ·intro hg1 fin
  have hg1':=hg1
  try simp at hg1'
  exact gy J J J hg1 (fP J T.bO (gy J J J hg1 (lP J J J T.cM (gy J J J hg1 (iF J J T.dB O gB (gy J J J hg1 (fF J T.cY (gy J J J hg1 (lF J J T.bF (gy J J J hg1 (bsE (enc:=nE) (xs:= [1]) (css:= [[int 1]]) T.cQ ⟨J,J,p1 (φ:=int 1) J,tV⟩ J J J J (gy J J J hg1 (bI (φs:= [sl 1 nE (ix aB.sT 0).aP,sl 1 nE [1]]) (φ:=bl (decide ((ix aB.sT 0).aP= [1]))) ⟨J,J,tV⟩ (ref01.Ic _ _) T.XQ (pkT J hg1 J (drp (X:= [(49,_),(48,_),(47,_),(46,_),(45,_),(44,_),(43,_)]) ⟨J,J,J,J,J,J,J,tV⟩ fin)))))))))))))))
 ·intro hg1 fin
  exact gn J J J hg1 J J (gn J J J hg1 J J (gn J J J hg1 J J (gn J J J hg1 J J (gn J J J hg1 J J (gn J J J hg1 J J (gn J J J hg1 J J (pkF J hg1 J (drp (X:= [(49,_),(48,_),(47,_),(46,_),(45,_),(44,_),(43,_)]) ⟨J,J,J,J,J,J,J,tV⟩ fin))))))))
 refine mv ?_
 apply fT (t:=51) (pd:=54) rfl
 rotate_left
 ·intro hg2 fin
  have hg2':=hg2
  try simp at hg2'
  exact gy J J J hg2 (mv (gy J J J hg2 (bi J J gF (pkT J hg2 J (drp (X:= [(53,_),(52,_)]) ⟨J,J,tV⟩ fin)))))
 ·intro hg2 fin
  exact gn J J J hg2 J J (gn J J J hg2 J J (pkF J hg2 J (drp (X:= [(53,_),(52,_)]) ⟨J,J,tV⟩ fin)))
 refine mv ?_
 apply fT (t:=55) (pd:=58) rfl
 rotate_left
 ·intro hg3 fin
  have hg3':=hg3
  try simp at hg3'
  exact gy J J J hg3 (mv (gy J J J hg3 (bi J J gF (pkT J hg3 J (drp (X:= [(57,_),(56,_)]) ⟨J,J,tV⟩ fin)))))
 ·intro hg3 fin
  exact gn J J J hg3 J J (gn J J J hg3 J J (pkF J hg3 J (drp (X:= [(57,_),(56,_)]) ⟨J,J,tV⟩ fin)))
 refine mv ?_
 apply fT (t:=59) (pd:=62) rfl
 rotate_left
 ·intro hg4 fin
  have hg4':=hg4
  try simp at hg4'
  exact gy J J J hg4 (mv (gy J J J hg4 (bi J J gF (pkT J hg4 J (drp (X:= [(61,_),(60,_)]) ⟨J,J,tV⟩ fin)))))
 ·intro hg4 fin
  exact gn J J J hg4 J J (gn J J J hg4 J J (pkF J hg4 J (drp (X:= [(61,_),(60,_)]) ⟨J,J,tV⟩ fin)))
 refine mv ?_
 apply fT (t:=63) (pd:=65) rfl
 rotate_left
 ·intro hg5 fin
  have hg5':=hg5
  try simp at hg5'
  exact gy J J J hg5 (mv (pkT J hg5 J (drp (X:= [(64,_)]) ⟨J,tV⟩ fin)))
 ·intro hg5 fin
  exact gn J J J hg5 J J (pkF J hg5 J (drp (X:= [(64,_)]) ⟨J,tV⟩ fin))
 refine ag (nl (th (rt ?_)))
 have hr0:(((((((decide (((gdS aK aB).2)=0))&&(decide (0<(aB.sT.length:Int))))&&(decide ((ix aB.sT 0).aP= [1])))&&(decide (((bE aK aB 1).2)=0)))&&(decide (((bE aK aB 2).2)=3)))&&(decide ((eU ((bE aK aB 1).1) aK aB 1)=0)))&&(iV ((bE aK aB 1).1) aK aB 1))=true:=by
  rw[q9,q1,q8,r1,r2];rfl
 exact rE () [.tmp 0] J [bl (((((((decide (((gdS aK aB).2)=0))&&(decide (0<(aB.sT.length:Int))))&&(decide ((ix aB.sT 0).aP= [1])))&&(decide (((bE aK aB 1).2)=0)))&&(decide (((bE aK aB 2).2)=3)))&&(decide ((eU ((bE aK aB 1).1) aK aB 1)=0)))&&(iV ((bE aK aB 1).1) aK aB 1))] ⟨.tmp J,tV⟩ (cA1 (fun x0=>rV [bl x0]) hr0) trivial eX
end mkv
end
section
open ref01 ref03 ref04 ref06 prog prog2 prog3 prog4 prog5 prog6 prog7 prog8 prog9 prog13 prog15 starts Part Rungs LeftM TrimM RoundM MergeM BisM BisM4 BisM5 Itoa Keys WalkM StepM WitM JudgM JudgM2 search refw judg wit refj sysw satj divr divs divd dive divg divw divv divp divt LevM LevM2 TrimI QuoM FailM DivM RefM FitM TogM ProdM prodw GenW CompM CompP CrossM KeepK GuardM MakeM LsysM LsysM2 MakeM2 KeepB AtM ClsM LstM MakeM3 GuaW LeadM FixM ValidM mkk mkp mkl mkc mkq mkg mkr mks mks2 mkv
theorem UG {x m:aA} {t:SS} {u:Int} (h:eU x m t u=0):bM x=true∧bM m=true∧cC t=true∧x.aC=m.aC∧x.aC=t.aC∧fR (t.aC.length:Int) u=true:=by
 unfold eU at h
 split at h
 ·next g1=>
  split at h
  ·next g2=>
   split at h
   ·next g3=>
    split at h
    ·next g4=>exact⟨g1.1,g1.2,g2,g3.1,g3.2,g4⟩
    ·cases h
   ·cases h
  ·cases h
 ·cases h
theorem Oq {m:aA} {t:SS} (h:(gdS m t).2=0):bK m t=0∧(aY m t).2=true∧(gdS m t).1=(aY m t).1∧cC (gdS m t).1=true:=by
 unfold gdS at h ⊢
 split at h
 ·next e=>
  obtain⟨hm,ht,_⟩:=lB e
  split at h
  ·next g=>
   rw[if_pos e,if_pos g]
   have hk:=oM (cU hm) (eJ ht) g
   exact⟨e,g,rfl,MQ hk.1 hk.2.1⟩
  ·cases h
 ·next e=>exact absurd h e
namespace mkw
end mkw
end
section
namespace FixP
open ref01 ref03 ref04 ref06 Part Rungs LeftM TrimM RoundM MergeM BisM BisM3 BisM4 BisM5 BisM6 Keys WalkM WitM JudgM JudgM2 LevM divr divs divd dive divf divv judg refj sysw satj ChsM BisS TrimI ValidM WitSat WitVal QuoM FailM DivM RefM GenW CompM CrossM FitM TogM KeepK GuardM MakeM LsysM LsysM2 MakeM2 KeepB LstM MakeM3 GuaW LeadM FixM
theorem UH {s:SS} (hs:oK s):size s≤8+10000+s.sT.length*264:=by
 have h8:=hs.n8
 have h1:=hs.few1
 have h0:part s 0≤8+10000:=by unfold part;simp;omega
 have key:∀k,k≤s.sT.length→part s k≤8+10000+k*264:=by
  intro k
  induction k with
  |zero=>intro _;omega
  |succ k ih=>
   intro hk
   have h2:=(hs.st k O).len
   have h3:=(hs.st k O).acl
   have h4:=ih O
   rw[tI O,Nat.add_mul]
   omega
 exact key _ (Nat.le_refl _)
theorem Rh {s:SS} (hs:oK s):size s≤100000000:=by
 have h1:=UH hs
 have h2:=hs.few1
 have h3:s.sT.length*264≤10000*264:=Nat.mul_le_mul_right _ h2
 omega
end FixP
end
section
open ref01 ref03 ref04 ref06 prog prog2 prog3 prog6 prog13 starts Part Rungs LeftM TrimM RoundM MergeM BisM BisM4 BisM5 WalkM StepM WitM JudgM JudgM2 refw judg wit refj sysw divr divs divd dive divg divw divv divf divc divj divq divp divm diva LevM LevM2 ChsM QuoM FailM DivM QuoW RefM FitM PartM EncM TogM divt
noncomputable def Lr (x:aA) (t s:SS):Bool:= @decide (ix (hOl s) 0=true∨zQ x t (tR s).1) (Classical.propDecidable _)
theorem HX {x:aA} {t s:SS}:Lr x t s=true↔(ix (hOl s) 0=true∨zQ x t (tR s).1):= @decide_eq_true_iff _ (Classical.propDecidable _)
theorem UI {x:aA} {t s:SS} {v:Bool × aA} (hv:zS x t s v):v.1=Lr x t s:=by
 rw[Bool.eq_iff_iff,HX]
 constructor
 ·intro g;exact(hv.yes g).2
 ·intro g
  cases e:v.1 with
  |true=>rfl
  |false=>
   obtain⟨h0,q,i,u,hq,hi,h1,h2,_⟩:=hv.no e
   have g:=g.resolve_left (by simp[h0])
   have e2:(tR s).1=tS s:=by rw[dC h0]
   rw[e2] at g
   exact absurd ⟨u,h1,h2⟩ (g _ (hq.rch _ (aO hi)))
namespace divx
end divx
end
section
open ref01 ref03 ref04 ref06 prog prog2 prog3 prog6 prog13 starts Part Rungs LeftM TrimM RoundM MergeM BisM BisM4 BisM5 WalkM StepM WitM JudgM JudgM2 refw judg wit refj sysw divr divs divd dive divg divw divv divf divc divj divq divp divm diva LevM LevM2 ChsM QuoM FailM DivM QuoW RefM FitM PartM EncM TogM divt divx BrkM satj
namespace divb
end divb
end
section
namespace EncM2
open EncM JudgM ref01
def HY (v:VJ):Value:=encZ (⟨[],[v.pairs,v.word.map fun a=>(a,0),[(if v.holds then 1 else 0,v.state)]]⟩,0)
noncomputable def cI (x:Value):VJ:=let m:=(Dz x).1;⟨decide ((ix (ix m.sT 2) 0).1=1),ix m.sT 0,(ix m.sT 1).map Prod.fst,(ix (ix m.sT 2) 0).2⟩
theorem Bm (v:VJ):cI (HY v)=v:=by
 obtain⟨b,ps,w,st⟩:=v
 unfold cI HY
 rw[DC]
 show(⟨decide ((if b=true then(1:Int) else 0)=1),ps,(w.map fun a=>(a,(0:Int))).map Prod.fst,st⟩:VJ)=_
 have e1:(w.map fun a=>(a,(0:Int))).map Prod.fst=w:=by
  rw[List.map_map]
  exact List.map_id' w
 rw[e1]
 cases b<;>rfl
def Ri (z:aA × List (Int × Int)):Value:=encZ (⟨z.1.aC,z.2::z.1.sT⟩,0)
noncomputable def fE (x:Value):aA × List (Int × Int):=let m:=(Dz x).1;(⟨m.aC,m.sT.tail⟩,ix m.sT 0)
theorem Rj (z:aA × List (Int × Int)):fE (Ri z)=z:=by
 obtain⟨⟨a,s⟩,q⟩:=z
 unfold fE Ri
 rw[DC];rfl
end EncM2
end
section
open ValidM ref01 ref03 ref04 ref06 prog prog2 prog3 prog6 prog13 starts Part Rungs LeftM TrimM RoundM MergeM BisM BisM4 BisM5 BisM6 WalkM StepM WitM JudgM JudgM2 refw judg wit refj sysw divr divs divd dive divg divw divv divf divc divj divq divp divm diva LevM LevM2 ChsM TrimI QuoM FailM DivM QuoW RefM FitM PartM EncM EncM2 TogM divt divx BrkM satj divb ProdM prodw
theorem IJ {m:aA} {s:SS} (hs:oK s) (h:eR m s):eR m (tR s).1:=by
 unfold eR at h ⊢
 rw[nK hs (qF m)] at h
 rw[nK (nN hs) (qF m)]
 exact vB h (pI hs).symm
theorem Rk {m:aA} {s:SS} (hs:oK s) (h:eR m s):ix (hOl s) 0=false:=by
 obtain⟨R,hR,h0⟩:=h
 exact zJ hs (qF m) hR h0
theorem tW (a b:Int):bS a b=bS b a:=by unfold bS;rw[Nat.and_comm]
theorem Rl {m x:aA} {t s:SS} (hs:oK s) (hf:Lr x t s=true) (hsat:eR m s):oG m x t:=by
 have h0:=Rk hs hsat
 have hw:zQ x t (tR s).1:=(HX.1 hf).resolve_left (by simp[h0])
 obtain⟨R,hR,hR0⟩:=IJ hs hsat
 generalize (tR s).1=T at*
 intro p hp
 have key:∃z:Nat,R p.1.toNat z∧yJ x t T (p.2.1,p.2.2,(z:Int)):=by
  induction hp with
  |zero=>exact⟨0,hR0,.zero⟩
  |step h1 h2 hd he hde ih=>
   rename_i p d e
   obtain⟨z,hr,h3⟩:=ih
   have hn:=hR.nxt hr (d.1.toNat,d.2.toNat) (List.mem_map.2 ⟨d,hd,rfl⟩)
   have hn1:0≤ix (nxt T z) d.1.toNat:=hn.1
   refine⟨(ix (nxt T z) d.1.toNat).toNat,hn.2,?_⟩
   have:=yJ.step h3 (hw _ h3) he (by show 0≤ix (nxt T (z:Int).toNat) e.1.toNat;rw[Int.toNat_natCast,←hde];exact hn1)
   have e2:nx3 t T (p.2.1,p.2.2,(z:Int)) e=(e.2,ix (nxt t p.2.2.toNat) d.1.toNat,((ix (nxt T z) d.1.toNat).toNat:Int)):=by
    unfold nx3
    dsimp only
    rw[Int.toNat_natCast,←hde,Int.toNat_of_nonneg hn1]
   rw[e2] at this
   exact this
 obtain⟨z,hr,h3⟩:=key
 intro hb
 refine hw _ h3 ⟨bR m p.1.toNat,?_,?_⟩
 ·show bR m _∈acc T (z:Int).toNat
  rw[Int.toNat_natCast];exact hR.acc hr
 ·show bS (bR x p.2.1.toNat) (bR m p.1.toNat)∉acc t p.2.2.toNat
  rw[tW];exact hb
namespace divy
end divy
end
section
open ref01 ref03 ref04 ref06 prog prog2 prog3 prog4 prog5 prog6 prog7 prog8 prog9 prog13 prog15 starts Part Rungs LeftM TrimM RoundM MergeM BisM BisM4 BisM5 Itoa Keys WalkM StepM WitM JudgM JudgM2 search refw judg wit refj sysw satj divr divs divd dive divg divw divv divf divc divj divq divm divp divt LevM LevM2 ChsM TrimI QuoM FailM DivM QuoW RefM FitM PartM EncM EncM2 TogM ProdM prodw GenW CompM CompP CrossM KeepK GuardM MakeM LsysM LsysM2 MakeM2 KeepB AtM ClsM LstM MakeM3 GuaW LeadM FixM FixP ValidM mkk mkp mkl mkc mkq mkg mkr mks mks2 mkv
noncomputable def jW (m x:aA) (t:SS):Bool:=decide (dK m x=0)&&decide (bK m t=0)
noncomputable def nB (m x:aA) (t:SS):Bool:=jW m x t&& @decide (oG m x t) (Classical.propDecidable _)
theorem Xa {m x:aA} {t:SS} (h:dK m x≠0):jW m x t=false∧nB m x t=false:=by
 have e:jW m x t=false:=by unfold jW;rw[decide_eq_false h,Bool.false_and]
 exact⟨e,by unfold nB;rw[e,Bool.false_and]⟩
theorem Ot {m k:aA} {t:SS} (hm:bM m=true) (hk:bM k=true) (ha:k.aC=m.aC):bK k t=bK m t:=by
 unfold bK
 rw[if_pos hm,if_pos hk,ha]
theorem JS {m x k:aA} {t:SS} {q:List (Int × Int)} {v:VJ} (hb:dK m x=0) (h:jC m x k q) (hkv:bM k=true) (hv:oH k t v):nB m x t=v.holds∧jW m x t=decide (bK k t=0):=by
 obtain⟨hmv,hxv,_⟩:=xB hb
 have hm:=cU hmv
 have hx:=cU hxv
 have hf:=Ot (t:=t) hmv hkv h.acts
 have e:jW m x t=decide (bK k t=0):=by unfold jW;rw[decide_eq_true hb,Bool.true_and,hf]
 refine⟨?_,e⟩
 rw[wT hv]
 unfold nB Gz
 rw[e]
 by_cases g:bK k t=0
 ·obtain⟨_,htv,_⟩:=lB g
  rw[decide_eq_true g,Bool.true_and,Bool.true_and]
  have:=GL hm hx (eJ htv) h
  rw[Bool.eq_iff_iff];simp[this]
 ·rw[decide_eq_false g,Bool.false_and,Bool.false_and]
theorem XR {m x:aA} {t:SS} (h:jW m x t=true):bM m=true∧bM x=true∧cC t=true∧m.aC=x.aC∧m.aC=t.aC:=by
 unfold jW at h
 rw[Bool.and_eq_true,decide_eq_true_eq,decide_eq_true_eq] at h
 obtain⟨a,b,c⟩:=xB h.1
 obtain⟨_,d,e⟩:=lB h.2
 exact⟨a,b,d,c,e⟩
theorem Sb {m x:aA} {t:SS} (h:jW m x t=true):nB m x t=true↔oG m x t:=by
 unfold nB
 rw[h,Bool.true_and];simp
theorem Xb {m x:aA} {t:SS} {v:VJ} (h0:(gdS m t).2=0) (ho:jW m x t=true) (hv:oH x (gdS m t).1 v):(decide (bK x (gdS m t).1≠0)||(v.holds !=nB m x t))=false:=by
 obtain⟨hf,hg,h1,hgv⟩:=Oq h0
 obtain⟨hmv,hxv,htv,hmx,hmt⟩:=XR ho
 have hm:=cU hmv
 have hx:=cU hxv
 have ht:=eJ htv
 have hga:=(oM hm ht hg).2.2
 have hxg:x.aC=(gdS m t).1.aC:=by rw[h1,hga];exact hmx.symm.trans hmt
 have hfx:bK x (gdS m t).1=0:=by unfold bK;rw[if_pos hxv,if_pos hgv,if_pos hxg]
 have hvm:v.holds=nB m x t:=by
  rw[Bool.eq_iff_iff,Sb ho,wT hv]
  unfold Gz
  rw[decide_eq_true hfx,Bool.true_and,←DR hm hx ht (hmx.symm.trans hmt) hg,←h1]
  simp
 rw[hfx,hvm];simp
theorem Xc {m x:aA} {t s:SS} {w:Bool × aA} {v:VJ} (hw:eF x t s=0→zS x t s w) (hv:oH m s v):(((((decide (eF x t s=0)&&decide (bK m s=0))&&jW m x t)&&w.1)&&v.holds)&& !nB m x t)=false:=by
 by_cases h1:eF x t s=0
 ·by_cases h2:bK m s=0
  ·cases ho:jW m x t with
   |false=>simp
   |true=>
    cases hw1:w.1 with
    |false=>simp
    |true=>
     cases hv1:v.holds with
     |false=>simp
     |true=>
      obtain⟨hxv,htv,hsv,hxt,hts⟩:=HL h1
      have hfit:Lr x t s=true:=by rw[←UI (hw h1)];exact hw1
      have hsat:eR m s:=by
       rw[wT hv] at hv1
       unfold Gz at hv1
       rw[decide_eq_true h2,Bool.true_and] at hv1
       simpa using hv1
      rw[(Sb ho).2 (Rl (eJ hsv) hfit hsat)];simp
  ·rw[decide_eq_false h2];simp
 ·rw[decide_eq_false h1];simp
theorem Xd (x m:aA) (t:SS) (u:Int):((decide ((bE m t u).2≠3)||decide (eU x m t u≠0))|| !iV x m t u)=true:=by
 by_cases h1:(bE m t u).2=3
 ·by_cases h2:eU x m t u=0
  ·cases h3:iV x m t u with
   |false=>simp
   |true=>
    exfalso
    obtain⟨hxv,hmv,htv,hxm,hxt,hus⟩:=UG h2
    have hm:=cU hmv
    have hx:=cU hxv
    have ht:=eJ htv
    have hfs:bK m t=0:=by unfold bK;rw[if_pos hmv,if_pos htv,if_pos (hxm.symm.trans hxt)]
    unfold iV at h3
    rw[h2,decide_eq_true rfl,Bool.true_and,Bool.and_eq_true] at h3
    have hwt:oG m x t:=by simpa using h3.1
    have hkp:=(EI hx).1 h3.2
    rcases yT hfs hus with⟨_,g⟩|⟨g1,g2,_⟩|⟨_,_,g,_⟩
    ·rw[g] at h1;cases h1
    ·exact QE (oM hm ht g1).1 g2 ⟨(DR hm hx ht hxt g1).2 hwt,hkp⟩
    ·rw[g] at h1;cases h1
  ·rw[decide_eq_true h2];simp
 ·rw[decide_eq_true h1];simp
theorem UJ {x m:aA} {t s:SS} (h:(((!yU x 8|| !yU m 8)|| !qO t 6)|| !qO s 6)=false):x.sT.length≤8∧m.sT.length≤8∧t.sT.length≤6∧s.sT.length≤6∧oF x≤300∧oF m≤300∧(size t:Int)≤400∧(size s:Int)≤400:=by
 rw[Bool.or_eq_false_iff,Bool.not_eq_false'] at h
 obtain⟨h1,h2,h3⟩:=UF h.1
 have a:=Oo h1
 have b:=Oo h2
 have c:=HT h3
 have d:=HT h.2
 omega
namespace T
theorem rG:Ent Tryz.prog 17:=aR kR
theorem tZ:Ent Tryz.prog 18:=aR kR
theorem Ls:Ent Tryz.prog 43:=aR kR
theorem DW:cS Tryz.prog 68 0 0:=bZ kR
theorem Sc:Ent Tryz.prog 11:=aR kR
theorem Sg:Ent Tryz.prog 12:=aR kR
theorem Si:Ent Tryz.prog 13:=aR kR
theorem XS:Ent Tryz.prog 42:=aR kR
theorem XT:Tryz.prog.underlying 4=some .bool:=by kernel_rfl
theorem XU:Ent Tryz.prog 44:=aR kR
theorem UK:cS Tryz.prog 72 0 0:=bZ kR
end T
namespace mkx
theorem Rm (m x:aA) (t:SS) (hts:dH t) (hz:m.sT.length*x.sT.length<5000) (hz2:bP m.sT*bP x.sT≤400000) (hm9:oF m≤100000000) (hx9:oF x≤100000000) (ht9:size t≤100000000):
 Fn0 Tryz.prog 42 [sys m,sys x,spec t] (tup [bl (nB m x t),bl (jW m x t)]):=by
 refine fnI Tryz.func42 rfl rfl (fun w0 F0=> ?_)
 refine fcC (bW 0 J) (fun hS0=> ?_)
 obtain⟨hma0,hms0,hme0⟩:=cJ hS0
 refine fcC (bW 1 J) (fun hS1=> ?_)
 obtain⟨hma1,hms1,hme1⟩:=cJ hS1
 refine fcC (bW 2 J) (fun hS2=> ?_)
 obtain⟨hsa2,hss2,hse2⟩:=sLn hS2
 refine sq (rg (bx (key:=3) (cs:= [sl 1 rE_ m.aC,sl 1 gE m.sT]) J fun b3=>(bx (key:=4) (cs:= [sl 1 rE_ x.aC,sl 1 gE x.sT]) J fun b4=>(bx (key:=5) (cs:= [sl 1 rE_ t.aC,sl 2 sE t.sT]) J fun b5=>(ag (ag (nl (th (sq ?_)))))))))
 refine drH (nh:=13) [0,1,0,7,15,31,63,63,63,0,639,1791,4095] [(none,[3]),(none,[]),(none,[4]),(none,[]),(none,[]),(none,[]),(none,[]),(none,[]),(none,[]),(some 8,[]),(some 8,[8]),(none,[]),(none,[])] T.mixed kR kR ?_
 refine stv (d:=13) (fun β0=>agg [sl 1 rE_ m.aC,sl 1 gE m.sT]) [3] J bH (fun β0 _ _ _ _ gq gh kq=>lPA (gq.1.trans J) (gh.1.trans J) T.aU J kq) ?_
 refine stv (d:=14) (fun β0=>agg [sl 1 rE_ m.aC,sl 1 gE m.sT]) [] J bH (fun β0 _ _ _ _ gq gh kq=>eI (φs:= [agg [sl 1 rE_ m.aC,sl 1 gE m.sT]]) (φ:=agg [sl 1 rE_ m.aC,sl 1 gE m.sT]) ⟨(gq.1.trans J),tV⟩ (sysw.eV m O) T.rG (fun N hN=>fun h=>cV (cs:= [fre N (sl 1 rE_ m.aC),fre N (sl 1 gE m.sT)]) (ds:= [sl 1 rE_ m.aC,sl 1 gE m.sT]) ⟨fun h=>bV h,fun h=>bV h,tV⟩ h) kq) ?_
 refine stv (d:=15) (fun β0=>agg [sl 1 rE_ x.aC,sl 1 gE x.sT]) [4] J bH (fun β0 _ _ _ _ gq gh kq=>lPA (gq.1.trans J) (gh.1.trans J) T.aU J kq) ?_
 refine stv (d:=16) (fun β0=>agg [sl 1 rE_ x.aC,sl 1 gE x.sT]) [] J bH (fun β0 _ _ _ _ gq gh kq=>eI (φs:= [agg [sl 1 rE_ x.aC,sl 1 gE x.sT]]) (φ:=agg [sl 1 rE_ x.aC,sl 1 gE x.sT]) ⟨(gq.1.trans J),tV⟩ (sysw.eV x O) T.rG (fun N hN=>fun h=>cV (cs:= [fre N (sl 1 rE_ x.aC),fre N (sl 1 gE x.sT)]) (ds:= [sl 1 rE_ x.aC,sl 1 gE x.sT]) ⟨fun h=>bV h,fun h=>bV h,tV⟩ h) kq) ?_
 refine ste (d:=17) Ri fE Rj (fun z=>(dK m x≠0→z=(⟨[],[]⟩,[]))∧(dK m x=0→jC m x z.1 z.2)) (fun z=>tup [agg [sl 1 rE_ z.1.aC,sl 1 gE z.1.sT],sl 2 pE z.2,int (dK m x)]) rfl (fun β0 _ _ _ _ gq gh kq=>cal (Hi:= []) (φs:= [agg [sl 1 rE_ m.aC,sl 1 gE m.sT],agg [sl 1 rE_ x.aC,sl 1 gE x.sT]]) ⟨(gq.1.trans rfl),(gq.2.1.trans rfl),tV⟩ (prodw.CQ m x aS aS) T.RV trivial fun N i=>kq i.1 i.2) ?_
 refine stv (d:=12) (fun β0=>whn ((dK m x≠0→(fE (β0 4))=(⟨[],[]⟩,[]))∧(dK m x=0→jC m x (fE (β0 4)).1 (fE (β0 4)).2)) (tup [agg [sl 1 rE_ ((fE (β0 4)).1.aC),sl 1 gE ((fE (β0 4)).1.sT)],sl 2 pE ((fE (β0 4)).2),int (dK m x)])) [] J (fun β β' hb=>by first|rw[hb 4 J]|(dsimp only;rw[hb 4 J])) (fun β0 _ _ _ _ gq gh kq=>mv' (gq.1.trans J) kq) ?_
 refine stv (d:=18) (fun β0=>agg [sl 1 rE_ ((fE (β0 4)).1.aC),sl 1 gE ((fE (β0 4)).1.sT)]) [] J (fun β β' hb=>by first|rw[hb 4 J]|(dsimp only;rw[hb 4 J])) (fun β0 _ _ _ _ gq gh kq=>xtW (gq.1.trans J) J kq) ?_
 refine stv (d:=19) (fun β0=>sl 2 pE ((fE (β0 4)).2)) [] J (fun β β' hb=>by first|rw[hb 4 J]|(dsimp only;rw[hb 4 J])) (fun β0 _ _ _ _ gq gh kq=>xtW (gq.1.trans J) J kq) ?_
 refine stv (d:=20) (fun β0=>int (dK m x)) [] J bH (fun β0 _ _ _ _ gq gh kq=>xtW (gq.1.trans J) J kq) ?_
 refine sta 8 T.z25 (eC (eC eZ)) ?_
 refine stw 8 (fun β0=>cell (gbk (β0 9)) [sl 1 rE_ ((fE (β0 4)).1.aC),sl 1 gE ((fE (β0 4)).1.sT)]) [8] J (fun β β' hb=>by first|rw[hb 4 J,hb 9 J]|(dsimp only;rw[hb 4 J,hb 9 J])) (fun β0 _ _ _ _ gq gh kq=>sPA (cs':= [sl 1 rE_ ((fE (β0 4)).1.aC),sl 1 gE ((fE (β0 4)).1.sT)]) (gq.1.trans J) (gh.1.trans J) (gq.2.1.trans J) T.aU J J kq) ?_
 refine stv (d:=9) (fun β0=>sl 2 pE ((fE (β0 4)).2)) [] J (fun β β' hb=>by first|rw[hb 4 J]|(dsimp only;rw[hb 4 J])) (fun β0 _ _ _ _ gq gh kq=>ag' (gq.1.trans J) kq) ?_
 refine stv (d:=10) (fun β0=>int (dK m x)) [] J bH (fun β0 _ _ _ _ gq gh kq=>ag' (gq.1.trans J) kq) ?_
 refine pnH fun β0=>(nl (th (sq (sq (Gx 17 J fun hP=>(rg (mv (bi J J fV (nl (th ?_))))))))))
 refine cd J (fun hc0=> ?_) (fun hc0=> ?_)
 ·skip
  have hbn:dK m x≠0:=of_decide_eq_true hc0
  obtain⟨hn1,hn2⟩:=Xa (t:=t) hbn
  refine sq (rg (ag (ag (nl (th (rt (rt_ ?_)))))))
  have hr0:false=(nB m x t):=by
   rw[hn2]
  have hr1:false=(jW m x t):=by
   rw[hn1]
  exact rE () [.tmp 6,.tmp 7] J [bl false,bl false] ⟨.tmp J,.tmp J,tV⟩ (cA2 (fun x0 x1=>rV [bl x0,bl x1]) hr0 hr1) trivial eX
 ·skip
  have hb:dK m x=0:=by simpa using hc0
  obtain⟨hmv,hxv,_⟩:=xB hb
  have hPk:jC m x (fE (β0 4)).1 (fE (β0 4)).2:=hP.2 hb
  have hkv:=RS hmv hxv hPk hz hz2
  refine sk (th (sq ?_))
  refine drH (nh:=10) [0,0,2,7,15,31,31,0,191,511] [(none,[8]),(none,[5]),(none,[]),(none,[]),(none,[]),(none,[]),(none,[]),(some 11,[]),(some 11,[11]),(none,[])] T.mixed kR kR ?_
  refine stv (d:=24) (fun β1=>agg [sl 1 rE_ ((fE (β0 4)).1.aC),sl 1 gE ((fE (β0 4)).1.sT)]) [8] J bH (fun β1 _ _ _ _ gq gh kq=>lPA (gq.1.trans J) (gh.1.trans J) T.aU J kq) ?_
  refine stv (d:=25) (fun β1=>agg [sl 1 rE_ t.aC,sl 2 sE t.sT]) [5] J bH (fun β1 _ _ _ _ gq gh kq=>lPA (gq.1.trans J) (gh.1.trans J) T.bA J kq) ?_
  refine stv (d:=26) (fun β1=>agg [sl 1 rE_ t.aC,sl 2 sE t.sT]) [] J bH (fun β1 _ _ _ _ gq gh kq=>eI (φs:= [agg [sl 1 rE_ t.aC,sl 2 sE t.sT]]) (φ:=agg [sl 1 rE_ t.aC,sl 2 sE t.sT]) ⟨(gq.1.trans J),tV⟩ (ref03.eV t O) T.tZ (fun N hN=>fun h=>cV (cs:= [fre N (sl 1 rE_ t.aC),fre N (sl 2 sE t.sT)]) (ds:= [sl 1 rE_ t.aC,sl 2 sE t.sT]) ⟨fun h=>bV h,fun h=>bV h,tV⟩ h) kq) ?_
  refine ste (d:=27) HY cI Bm (fun z=>oH (fE (β0 4)).1 t z) (fun z=>tup [agg [bl z.holds,sl 2 pE z.pairs,sl 1 nE z.word,int z.state],int (bK (fE (β0 4)).1 t)]) rfl (fun β1 _ _ _ _ gq gh kq=>cal (Hi:= []) (φs:= [agg [sl 1 rE_ ((fE (β0 4)).1.aC),sl 1 gE ((fE (β0 4)).1.sT)],agg [sl 1 rE_ t.aC,sl 2 sE t.sT]]) ⟨(gq.1.trans rfl),(gq.2.1.trans rfl),tV⟩ (satj.sU (fE (β0 4)).1 t aS) T.Ls trivial fun N i=>kq i.1 i.2) ?_
  refine stv (d:=23) (fun β1=>whn (oH (fE (β0 4)).1 t (cI (β1 3))) (tup [agg [bl (cI (β1 3)).holds,sl 2 pE (cI (β1 3)).pairs,sl 1 nE (cI (β1 3)).word,int (cI (β1 3)).state],int (bK (fE (β0 4)).1 t)])) [] J (fun β β' hb=>by first|rw[hb 3 J]|(dsimp only;rw[hb 3 J])) (fun β1 _ _ _ _ gq gh kq=>mv' (gq.1.trans J) kq) ?_
  refine stv (d:=28) (fun β1=>agg [bl (cI (β1 3)).holds,sl 2 pE (cI (β1 3)).pairs,sl 1 nE (cI (β1 3)).word,int (cI (β1 3)).state]) [] J (fun β β' hb=>by first|rw[hb 3 J]|(dsimp only;rw[hb 3 J])) (fun β1 _ _ _ _ gq gh kq=>xtW (gq.1.trans J) J kq) ?_
  refine stv (d:=29) (fun β1=>int (bK (fE (β0 4)).1 t)) [] J bH (fun β1 _ _ _ _ gq gh kq=>xtW (gq.1.trans J) J kq) ?_
  refine sta 11 T.z68 (eC (eC (eC (eC eZ)))) ?_
  refine stw 11 (fun β1=>cell (gbk (β1 7)) [bl (cI (β1 3)).holds,sl 2 pE (cI (β1 3)).pairs,sl 1 nE (cI (β1 3)).word,int (cI (β1 3)).state]) [11] J (fun β β' hb=>by first|rw[hb 3 J,hb 7 J]|(dsimp only;rw[hb 3 J,hb 7 J])) (fun β1 _ _ _ _ gq gh kq=>sPA (cs':= [bl (cI (β1 3)).holds,sl 2 pE (cI (β1 3)).pairs,sl 1 nE (cI (β1 3)).word,int (cI (β1 3)).state]) (gq.1.trans J) (gh.1.trans J) (gq.2.1.trans J) T.lU J J kq) ?_
  refine stv (d:=10) (fun β1=>int (bK (fE (β0 4)).1 t)) [] J bH (fun β1 _ _ _ _ gq gh kq=>ag' (gq.1.trans J) kq) ?_
  refine pnH fun β1=>(nl (th (sq (Gx 27 J fun hS=>(rg (fP J T.DW (lP J J J T.iG (mv (bi J J gF (ag (ag (nl (th (rt ?_))))))))))))))
  have hr0:(cI (β1 3)).holds=(nB m x t):=by
   exact(JS hb hPk hkv hS).1.symm
  have hr1:(decide ((bK (fE (β0 4)).1 t)=0))=(jW m x t):=by
   exact(JS hb hPk hkv hS).2.symm
  exact rE () [.tmp 6,.tmp 7] J [bl (cI (β1 3)).holds,bl (decide ((bK (fE (β0 4)).1 t)=0))] ⟨.tmp J,.tmp J,tV⟩ (cA2 (fun x0 x1=>rV [bl x0,bl x1]) hr0 hr1) trivial eX
theorem HZ (x m:aA) (t:SS) (htm:dH t) (s:SS) (hsm:dH s) (u:Int):
 Fn0 Tryz.prog 10 [mE (sys x),sys m,spec t,spec s,int u] (bl true):=by
 refine fnI Tryz.func10 rfl rfl (fun w0 F0=> ?_)
 refine tbI 0 9999 rfl ?_
 refine Dm (ψ:=tab) 9999 997 rfl ?_
 refine fcC (bW 0 J) (fun hS0=> ?_)
 obtain⟨hma0,hms0,hme0⟩:=cJ hS0
 refine fcC (bW 1 J) (fun hS1=> ?_)
 obtain⟨hma1,hms1,hme1⟩:=cJ hS1
 refine fcC (bW 2 J) (fun hS2=> ?_)
 obtain⟨hsa2,hss2,hse2⟩:=sLn hS2
 refine fcC (bW 3 J) (fun hS3=> ?_)
 obtain⟨hsa3,hss3,hse3⟩:=sLn hS3
 refine sq (rg (bx (key:=5) (cs:= [sl 1 rE_ x.aC,sl 1 gE x.sT]) J fun b5=>(bx (key:=6) (cs:= [sl 1 rE_ m.aC,sl 1 gE m.sT]) J fun b6=>(bx (key:=7) (cs:= [sl 1 rE_ t.aC,sl 2 sE t.sT]) J fun b7=>(bx (key:=8) (cs:= [sl 1 rE_ s.aC,sl 2 sE s.sT]) J fun b8=>(ag (nl (th (sq (sq (rg (lPA J J T.aU J (bI (φs:= [agg [sl 1 rE_ x.aC,sl 1 gE x.sT],int 8]) (φ:=bl (yU x 8)) ⟨J,J,tV⟩ (mkv.HV x 8) T.Sc (no J (mv ?_)))))))))))))))
 apply gOr (t:=24) (pd:=28) rfl
 rotate_left
 ·intro hg0 fin
  have hg0':=hg0
  try simp at hg0'
  exact gy J J J hg0 (lPA J J T.aU J (gy J J J hg0 (bI (φs:= [agg [sl 1 rE_ m.aC,sl 1 gE m.sT],int 8]) (φ:=bl (yU m 8)) ⟨J,J,tV⟩ (mkv.HV m 8) T.Sc (gy J J J hg0 (no J (pkF J hg0 J (drp (X:= [(27,_),(26,_),(25,_)]) ⟨J,J,J,tV⟩ fin)))))))
 ·intro hg0 fin
  exact gn J J J hg0 J J (gn J J J hg0 J J (gn J J J hg0 J J (pkT J hg0 J (drp (X:= [(27,_),(26,_),(25,_)]) ⟨J,J,J,tV⟩ fin))))
 refine mv ?_
 apply gOr (t:=29) (pd:=33) rfl
 rotate_left
 ·intro hg1 fin
  have hg1':=hg1
  try simp at hg1'
  exact gy J J J hg1 (lPA J J T.bA J (gy J J J hg1 (bI (φs:= [agg [sl 1 rE_ t.aC,sl 2 sE t.sT],int 6]) (φ:=bl (qO t 6)) ⟨J,J,tV⟩ (mkv.CV t 6) T.Sg (gy J J J hg1 (no J (pkF J hg1 J (drp (X:= [(32,_),(31,_),(30,_)]) ⟨J,J,J,tV⟩ fin)))))))
 ·intro hg1 fin
  exact gn J J J hg1 J J (gn J J J hg1 J J (gn J J J hg1 J J (pkT J hg1 J (drp (X:= [(32,_),(31,_),(30,_)]) ⟨J,J,J,tV⟩ fin))))
 refine mv ?_
 apply gOr (t:=34) (pd:=38) rfl
 rotate_left
 ·intro hg2 fin
  have hg2':=hg2
  try simp at hg2'
  exact gy J J J hg2 (lPA J J T.bA J (gy J J J hg2 (bI (φs:= [agg [sl 1 rE_ s.aC,sl 2 sE s.sT],int 6]) (φ:=bl (qO s 6)) ⟨J,J,tV⟩ (mkv.CV s 6) T.Sg (gy J J J hg2 (no J (pkF J hg2 J (drp (X:= [(37,_),(36,_),(35,_)]) ⟨J,J,J,tV⟩ fin)))))))
 ·intro hg2 fin
  exact gn J J J hg2 J J (gn J J J hg2 J J (gn J J J hg2 J J (pkT J hg2 J (drp (X:= [(37,_),(36,_),(35,_)]) ⟨J,J,J,tV⟩ fin))))
 refine nl (th ?_)
 refine cd J (fun hc0=> ?_) (fun hc0=> ?_)
 ·skip
  refine sq (rg (UY (ψ:=tab) (φs:= []) (φ:=bl true) trivial mkv.CW T.Si 9999 J J (ag (nl (th (rt (rt_ ?_)))))))
  exact rE () [.tmp 10] J [bl true] ⟨.tmp J,tV⟩ J trivial eX
 ·skip
  obtain⟨hz1,hz2,hz3,hz4,hz5,hz6,hz7,hz8⟩:=UJ hc0
  have hx3:=HU hz5
  have hm3:=HU hz6
  have hmx:m.sT.length*x.sT.length≤8*8:=Nat.mul_le_mul hz2 hz1
  have hz:m.sT.length*x.sT.length<5000:=by omega
  have hzz:bP m.sT*bP x.sT≤400000:=Nat.le_trans (Nat.mul_le_mul hm3 hx3) (by decide)
  have hts1:t.sT.length*s.sT.length≤6*6:=Nat.mul_le_mul hz3 hz4
  have hxts:x.sT.length*(t.sT.length*s.sT.length)≤8*36:=Nat.mul_le_mul hz1 hts1
  refine sk (th (sq ?_))
  refine drH (nh:=11) [0,1,0,7,15,31,63,63,0,383,1023] [(none,[6]),(none,[]),(none,[7]),(none,[]),(none,[997]),(none,[]),(none,[]),(none,[]),(some 11,[]),(some 11,[11]),(none,[])] T.mixed kR kR ?_
  refine stv (d:=41) (fun β0=>agg [sl 1 rE_ m.aC,sl 1 gE m.sT]) [6] J bH (fun β0 _ _ _ _ gq gh kq=>lPA (gq.1.trans J) (gh.1.trans J) T.aU J kq) ?_
  refine stv (d:=42) (fun β0=>agg [sl 1 rE_ m.aC,sl 1 gE m.sT]) [] J bH (fun β0 _ _ _ _ gq gh kq=>eI (φs:= [agg [sl 1 rE_ m.aC,sl 1 gE m.sT]]) (φ:=agg [sl 1 rE_ m.aC,sl 1 gE m.sT]) ⟨(gq.1.trans J),tV⟩ (sysw.eV m O) T.rG (fun N hN=>fun h=>cV (cs:= [fre N (sl 1 rE_ m.aC),fre N (sl 1 gE m.sT)]) (ds:= [sl 1 rE_ m.aC,sl 1 gE m.sT]) ⟨fun h=>bV h,fun h=>bV h,tV⟩ h) kq) ?_
  refine stv (d:=43) (fun β0=>agg [sl 1 rE_ t.aC,sl 2 sE t.sT]) [7] J bH (fun β0 _ _ _ _ gq gh kq=>lPA (gq.1.trans J) (gh.1.trans J) T.bA J kq) ?_
  refine stv (d:=44) (fun β0=>agg [sl 1 rE_ t.aC,sl 2 sE t.sT]) [] J bH (fun β0 _ _ _ _ gq gh kq=>eI (φs:= [agg [sl 1 rE_ t.aC,sl 2 sE t.sT]]) (φ:=agg [sl 1 rE_ t.aC,sl 2 sE t.sT]) ⟨(gq.1.trans J),tV⟩ (ref03.eV t O) T.tZ (fun N hN=>fun h=>cV (cs:= [fre N (sl 1 rE_ t.aC),fre N (sl 2 sE t.sT)]) (ds:= [sl 1 rE_ t.aC,sl 2 sE t.sT]) ⟨fun h=>bV h,fun h=>bV h,tV⟩ h) kq) ?_
  refine stv (d:=45) (fun β0=>tup [agg [sl 1 rE_ ((gdS m t).1).aC,sl 2 sE ((gdS m t).1).sT],int ((gdS m t).2)]) [997] J bH (fun β0 _ _ _ _ gq gh kq=>tbK (ψ:=tab) 42 997 (gq.1.trans J) (gh.1.trans J) (bI (φs:= [both (agg [sl 1 rE_ m.aC,sl 1 gE m.sT]) tab,agg [sl 1 rE_ t.aC,sl 2 sE t.sT]]) (φ:=tup [agg [sl 1 rE_ ((gdS m t).1).aC,sl 2 sE ((gdS m t).1).sT],int ((gdS m t).2)]) ⟨J,(gq.2.1.trans J),tV⟩ (mkg.HH m t aS) T.RZ (tbX (gq.1.trans J) kq))) ?_
  refine stv (d:=40) (fun β0=>tup [agg [sl 1 rE_ ((gdS m t).1).aC,sl 2 sE ((gdS m t).1).sT],int ((gdS m t).2)]) [] J bH (fun β0 _ _ _ _ gq gh kq=>mv' (gq.1.trans J) kq) ?_
  refine stv (d:=46) (fun β0=>agg [sl 1 rE_ ((gdS m t).1).aC,sl 2 sE ((gdS m t).1).sT]) [] J bH (fun β0 _ _ _ _ gq gh kq=>xt (gq.1.trans J) J kq) ?_
  refine stv (d:=47) (fun β0=>int ((gdS m t).2)) [] J bH (fun β0 _ _ _ _ gq gh kq=>xt (gq.1.trans J) J kq) ?_
  refine sta 11 T.z28 (eC (eC eZ)) ?_
  refine stw 11 (fun β0=>cell (gbk (β0 8)) [sl 1 rE_ ((gdS m t).1).aC,sl 2 sE ((gdS m t).1).sT]) [11] J (fun β β' hb=>by first|rw[hb 8 J]|(dsimp only;rw[hb 8 J])) (fun β0 _ _ _ _ gq gh kq=>sPA (cs':= [sl 1 rE_ ((gdS m t).1).aC,sl 2 sE ((gdS m t).1).sT]) (gq.1.trans J) (gh.1.trans J) (gq.2.1.trans J) T.bA J J kq) ?_
  refine stv (d:=12) (fun β0=>int ((gdS m t).2)) [] J bH (fun β0 _ _ _ _ gq gh kq=>ag' (gq.1.trans J) kq) ?_
  refine pnH fun β0=>(nl (th (sq (rg (lPA J J T.aU J (lPA J J T.aU J (lPA J J T.bA J (bI (φs:= [agg [sl 1 rE_ m.aC,sl 1 gE m.sT],agg [sl 1 rE_ x.aC,sl 1 gE x.sT],agg [sl 1 rE_ t.aC,sl 2 sE t.sT]]) (φ:=tup [bl (nB m x t),bl (jW m x t)]) ⟨J,J,J,tV⟩ (mkx.Rm m x t aS aS aS O O O) T.XS (mv (xt J J (xt J J (ag (ag (nl (th (sq (sq (rg (mv (bi J J gF (mv ?_)))))))))))))))))))))
  apply fT (t:=57) (pd:=59) rfl
  rotate_left
  ·intro hg3 fin
   have hg3':=hg3
   try simp at hg3'
   exact gy J J J hg3 (mv (pkT J hg3 J (drp (X:= [(58,_)]) ⟨J,tV⟩ fin)))
  ·intro hg3 fin
   exact gn J J J hg3 J J (pkF J hg3 J (drp (X:= [(58,_)]) ⟨J,tV⟩ fin))
  refine nl (th ?_)
  refine jn (κ:=Unit) (fun p=> [(4,int u),(5,ptr 5 b5 0),(6,ptr 6 b6 0),(7,ptr 7 b7 0),(8,ptr 8 b8 0),(12,int ((gdS m t).2)),(13,bl (nB m x t)),(14,bl (jW m x t)),(9999,tab)]) (fun p=> [(5,cell b5 [sl 1 rE_ x.aC,sl 1 gE x.sT]),(6,cell b6 [sl 1 rE_ m.aC,sl 1 gE m.sT]),(7,cell b7 [sl 1 rE_ t.aC,sl 2 sE t.sT]),(8,cell b8 [sl 1 rE_ s.aC,sl 2 sE s.sT]),(11,cell (gbk (β0 8)) [sl 1 rE_ ((gdS m t).1).aC,sl 2 sE ((gdS m t).1).sT]),(997,dS tab)]) (fun p=>True) ?_ ?_
  ·
   refine cd J (fun hc1=> ?_) (fun hc1=> ?_)
   ·skip
    rw[Bool.and_eq_true,decide_eq_true_eq] at hc1
    obtain⟨hg0,hmo⟩:=hc1
    obtain⟨hgf,hg2,hg1,hgv⟩:=Oq hg0
    have hgo:=eJ hgv
    have hgs:=hgo.small
    have hgz:=Rh hgo
    refine sq ?_
    refine drH (nh:=11) [0,1,0,7,15,31,63,63,0,383,1023] [(none,[5]),(none,[]),(none,[11]),(none,[]),(none,[]),(none,[]),(none,[]),(none,[]),(some 15,[]),(some 15,[15]),(none,[])] T.mixed kR kR ?_
    refine stv (d:=61) (fun β1=>agg [sl 1 rE_ x.aC,sl 1 gE x.sT]) [5] J bH (fun β1 _ _ _ _ gq gh kq=>lPA (gq.1.trans J) (gh.1.trans J) T.aU J kq) ?_
    refine stv (d:=62) (fun β1=>agg [sl 1 rE_ x.aC,sl 1 gE x.sT]) [] J bH (fun β1 _ _ _ _ gq gh kq=>eI (φs:= [agg [sl 1 rE_ x.aC,sl 1 gE x.sT]]) (φ:=agg [sl 1 rE_ x.aC,sl 1 gE x.sT]) ⟨(gq.1.trans J),tV⟩ (sysw.eV x O) T.rG (fun N hN=>fun h=>cV (cs:= [fre N (sl 1 rE_ x.aC),fre N (sl 1 gE x.sT)]) (ds:= [sl 1 rE_ x.aC,sl 1 gE x.sT]) ⟨fun h=>bV h,fun h=>bV h,tV⟩ h) kq) ?_
    refine stv (d:=63) (fun β1=>agg [sl 1 rE_ ((gdS m t).1).aC,sl 2 sE ((gdS m t).1).sT]) [11] J bH (fun β1 _ _ _ _ gq gh kq=>lPA (gq.1.trans J) (gh.1.trans J) T.bA J kq) ?_
    refine stv (d:=64) (fun β1=>agg [sl 1 rE_ ((gdS m t).1).aC,sl 2 sE ((gdS m t).1).sT]) [] J bH (fun β1 _ _ _ _ gq gh kq=>eI (φs:= [agg [sl 1 rE_ ((gdS m t).1).aC,sl 2 sE ((gdS m t).1).sT]]) (φ:=agg [sl 1 rE_ ((gdS m t).1).aC,sl 2 sE ((gdS m t).1).sT]) ⟨(gq.1.trans J),tV⟩ (ref03.eV ((gdS m t).1) O) T.tZ (fun N hN=>fun h=>cV (cs:= [fre N (sl 1 rE_ ((gdS m t).1).aC),fre N (sl 2 sE ((gdS m t).1).sT)]) (ds:= [sl 1 rE_ ((gdS m t).1).aC,sl 2 sE ((gdS m t).1).sT]) ⟨fun h=>bV h,fun h=>bV h,tV⟩ h) kq) ?_
    refine ste (d:=65) HY cI Bm (fun z=>oH x (gdS m t).1 z) (fun z=>tup [agg [bl z.holds,sl 2 pE z.pairs,sl 1 nE z.word,int z.state],int (bK x (gdS m t).1)]) rfl (fun β1 _ _ _ _ gq gh kq=>cal (Hi:= []) (φs:= [agg [sl 1 rE_ x.aC,sl 1 gE x.sT],agg [sl 1 rE_ ((gdS m t).1).aC,sl 2 sE ((gdS m t).1).sT]]) ⟨(gq.1.trans rfl),(gq.2.1.trans rfl),tV⟩ (satj.sU x (gdS m t).1 aS) T.Ls trivial fun N i=>kq i.1 i.2) ?_
    refine stv (d:=60) (fun β1=>whn (oH x (gdS m t).1 (cI (β1 4))) (tup [agg [bl (cI (β1 4)).holds,sl 2 pE (cI (β1 4)).pairs,sl 1 nE (cI (β1 4)).word,int (cI (β1 4)).state],int (bK x (gdS m t).1)])) [] J (fun β β' hb=>by first|rw[hb 4 J]|(dsimp only;rw[hb 4 J])) (fun β1 _ _ _ _ gq gh kq=>mv' (gq.1.trans J) kq) ?_
    refine stv (d:=66) (fun β1=>agg [bl (cI (β1 4)).holds,sl 2 pE (cI (β1 4)).pairs,sl 1 nE (cI (β1 4)).word,int (cI (β1 4)).state]) [] J (fun β β' hb=>by first|rw[hb 4 J]|(dsimp only;rw[hb 4 J])) (fun β1 _ _ _ _ gq gh kq=>xtW (gq.1.trans J) J kq) ?_
    refine stv (d:=67) (fun β1=>int (bK x (gdS m t).1)) [] J bH (fun β1 _ _ _ _ gq gh kq=>xtW (gq.1.trans J) J kq) ?_
    refine sta 15 T.z68 (eC (eC (eC (eC eZ)))) ?_
    refine stw 15 (fun β1=>cell (gbk (β1 8)) [bl (cI (β1 4)).holds,sl 2 pE (cI (β1 4)).pairs,sl 1 nE (cI (β1 4)).word,int (cI (β1 4)).state]) [15] J (fun β β' hb=>by first|rw[hb 4 J,hb 8 J]|(dsimp only;rw[hb 4 J,hb 8 J])) (fun β1 _ _ _ _ gq gh kq=>sPA (cs':= [bl (cI (β1 4)).holds,sl 2 pE (cI (β1 4)).pairs,sl 1 nE (cI (β1 4)).word,int (cI (β1 4)).state]) (gq.1.trans J) (gh.1.trans J) (gq.2.1.trans J) T.lU J J kq) ?_
    refine stv (d:=16) (fun β1=>int (bK x (gdS m t).1)) [] J bH (fun β1 _ _ _ _ gq gh kq=>ag' (gq.1.trans J) kq) ?_
    refine pnH fun β1=>(nl (th (sq (Gx 65 J fun h65=>(rg (mv (bi J J fV (mv ?_))))))))
    apply gOr (t:=70) (pd:=75) rfl
    rotate_left
    ·intro hg4 fin
     have hg4':=hg4
     try simp at hg4'
     exact gy J J J hg4 (fP J T.DW (gy J J J hg4 (lP J J J T.iG (gy J J J hg4 (mv (gy J J J hg4 (bi J J (UN T.XT) (pkF J hg4 J (drp (X:= [(74,_),(73,_),(72,_),(71,_)]) ⟨J,J,J,J,tV⟩ fin)))))))))
    ·intro hg4 fin
     exact gn J J J hg4 J J (gn J J J hg4 J J (gn J J J hg4 J J (gn J J J hg4 J J (pkT J hg4 J (drp (X:= [(74,_),(73,_),(72,_),(71,_)]) ⟨J,J,J,J,tV⟩ fin)))))
    refine nl (th ?_)
    refine cd J (fun hc2=> ?_) (fun hc2=> ?_)
    ·skip
     exact absurd hc2 (by rw[Xb hg0 hmo h65];decide)
    ·skip
     refine sk ?_
     have hN0:True:=by
      trivial
     exact jx () hN0 ⟨id,id,id,id,id,id,id,id,id,tV⟩ ⟨rI,rI,rI,rI,rI,rI,tV⟩
   ·skip
    refine sk ?_
    have hN0:True:=by
     trivial
    exact jx () hN0 ⟨id,id,id,id,id,id,id,id,id,tV⟩ ⟨rI,rI,rI,rI,rI,rI,tV⟩
  ·intro _ hG
   have hJ1:True:=hG
   skip
   show At _ _ _ [(4,int u),(5,ptr 5 b5 0),(6,ptr 6 b6 0),(7,ptr 7 b7 0),(8,ptr 8 b8 0),(12,int ((gdS m t).2)),(13,bl (nB m x t)),(14,bl (jW m x t)),(9999,tab)] [(5,cell b5 [sl 1 rE_ x.aC,sl 1 gE x.sT]),(6,cell b6 [sl 1 rE_ m.aC,sl 1 gE m.sT]),(7,cell b7 [sl 1 rE_ t.aC,sl 2 sE t.sT]),(8,cell b8 [sl 1 rE_ s.aC,sl 2 sE s.sT]),(11,cell (gbk (β0 8)) [sl 1 rE_ ((gdS m t).1).aC,sl 2 sE ((gdS m t).1).sT]),(997,dS tab)]
   refine th (sq ?_)
   refine drH (nh:=13) [0,1,0,7,0,31,63,127,255,255,0,1535,4095] [(none,[5]),(none,[]),(none,[7]),(none,[]),(none,[8]),(none,[]),(none,[]),(none,[]),(none,[]),(none,[]),(some 17,[]),(some 17,[17]),(none,[])] T.mixed kR kR ?_
   refine stv (d:=77) (fun β2=>agg [sl 1 rE_ x.aC,sl 1 gE x.sT]) [5] J bH (fun β2 _ _ _ _ gq gh kq=>lPA (gq.1.trans J) (gh.1.trans J) T.aU J kq) ?_
   refine stv (d:=78) (fun β2=>agg [sl 1 rE_ x.aC,sl 1 gE x.sT]) [] J bH (fun β2 _ _ _ _ gq gh kq=>eI (φs:= [agg [sl 1 rE_ x.aC,sl 1 gE x.sT]]) (φ:=agg [sl 1 rE_ x.aC,sl 1 gE x.sT]) ⟨(gq.1.trans J),tV⟩ (sysw.eV x O) T.rG (fun N hN=>fun h=>cV (cs:= [fre N (sl 1 rE_ x.aC),fre N (sl 1 gE x.sT)]) (ds:= [sl 1 rE_ x.aC,sl 1 gE x.sT]) ⟨fun h=>bV h,fun h=>bV h,tV⟩ h) kq) ?_
   refine stv (d:=79) (fun β2=>agg [sl 1 rE_ t.aC,sl 2 sE t.sT]) [7] J bH (fun β2 _ _ _ _ gq gh kq=>lPA (gq.1.trans J) (gh.1.trans J) T.bA J kq) ?_
   refine stv (d:=80) (fun β2=>agg [sl 1 rE_ t.aC,sl 2 sE t.sT]) [] J bH (fun β2 _ _ _ _ gq gh kq=>eI (φs:= [agg [sl 1 rE_ t.aC,sl 2 sE t.sT]]) (φ:=agg [sl 1 rE_ t.aC,sl 2 sE t.sT]) ⟨(gq.1.trans J),tV⟩ (ref03.eV t O) T.tZ (fun N hN=>fun h=>cV (cs:= [fre N (sl 1 rE_ t.aC),fre N (sl 2 sE t.sT)]) (ds:= [sl 1 rE_ t.aC,sl 2 sE t.sT]) ⟨fun h=>bV h,fun h=>bV h,tV⟩ h) kq) ?_
   refine stv (d:=81) (fun β2=>agg [sl 1 rE_ s.aC,sl 2 sE s.sT]) [8] J bH (fun β2 _ _ _ _ gq gh kq=>lPA (gq.1.trans J) (gh.1.trans J) T.bA J kq) ?_
   refine stv (d:=82) (fun β2=>agg [sl 1 rE_ s.aC,sl 2 sE s.sT]) [] J bH (fun β2 _ _ _ _ gq gh kq=>eI (φs:= [agg [sl 1 rE_ s.aC,sl 2 sE s.sT]]) (φ:=agg [sl 1 rE_ s.aC,sl 2 sE s.sT]) ⟨(gq.1.trans J),tV⟩ (ref03.eV s O) T.tZ (fun N hN=>fun h=>cV (cs:= [fre N (sl 1 rE_ s.aC),fre N (sl 2 sE s.sT)]) (ds:= [sl 1 rE_ s.aC,sl 2 sE s.sT]) ⟨fun h=>bV h,fun h=>bV h,tV⟩ h) kq) ?_
   refine ste (d:=83) Qc lA Qd (fun z=>(eF x t s≠0→z=(false,⟨[],[]⟩))∧(eF x t s=0→zS x t s z)) (fun z=>tup [agg [bl z.1,sl 1 rE_ z.2.aC,sl 1 gE z.2.sT],int (eF x t s)]) rfl (fun β2 _ _ _ _ gq gh kq=>cal (Hi:= []) (φs:= [agg [sl 1 rE_ x.aC,sl 1 gE x.sT],agg [sl 1 rE_ t.aC,sl 2 sE t.sT],agg [sl 1 rE_ s.aC,sl 2 sE s.sT]]) ⟨(gq.1.trans rfl),(gq.2.1.trans rfl),(gq.2.2.1.trans rfl),tV⟩ (divj.UB x t s htm hsm O) T.XU trivial fun N i=>kq i.1 i.2) ?_
   refine stv (d:=76) (fun β2=>whn ((eF x t s≠0→(lA (β2 6))=(false,⟨[],[]⟩))∧(eF x t s=0→zS x t s (lA (β2 6)))) (tup [agg [bl ((lA (β2 6)).1),sl 1 rE_ ((lA (β2 6)).2.aC),sl 1 gE ((lA (β2 6)).2.sT)],int (eF x t s)])) [] J (fun β β' hb=>by first|rw[hb 6 J]|(dsimp only;rw[hb 6 J])) (fun β2 _ _ _ _ gq gh kq=>mv' (gq.1.trans J) kq) ?_
   refine stv (d:=84) (fun β2=>agg [bl ((lA (β2 6)).1),sl 1 rE_ ((lA (β2 6)).2.aC),sl 1 gE ((lA (β2 6)).2.sT)]) [] J (fun β β' hb=>by first|rw[hb 6 J]|(dsimp only;rw[hb 6 J])) (fun β2 _ _ _ _ gq gh kq=>xtW (gq.1.trans J) J kq) ?_
   refine stv (d:=85) (fun β2=>int (eF x t s)) [] J bH (fun β2 _ _ _ _ gq gh kq=>xtW (gq.1.trans J) J kq) ?_
   refine sta 17 T.z72 (eC (eC (eC eZ))) ?_
   refine stw 17 (fun β2=>cell (gbk (β2 10)) [bl ((lA (β2 6)).1),sl 1 rE_ ((lA (β2 6)).2.aC),sl 1 gE ((lA (β2 6)).2.sT)]) [17] J (fun β β' hb=>by first|rw[hb 6 J,hb 10 J]|(dsimp only;rw[hb 6 J,hb 10 J])) (fun β2 _ _ _ _ gq gh kq=>sPA (cs':= [bl ((lA (β2 6)).1),sl 1 rE_ ((lA (β2 6)).2.aC),sl 1 gE ((lA (β2 6)).2.sT)]) (gq.1.trans J) (gh.1.trans J) (gq.2.1.trans J) T.oN J J kq) ?_
   refine stv (d:=12) (fun β2=>int (eF x t s)) [] J bH (fun β2 _ _ _ _ gq gh kq=>ag' (gq.1.trans J) kq) ?_
   refine pnH fun β2=>(nl (th (sq (Gx 83 J fun h83=> ?_))))
   refine drH (nh:=11) [0,1,0,7,15,31,63,63,0,383,1023] [(none,[6]),(none,[]),(none,[8]),(none,[]),(none,[]),(none,[]),(none,[]),(none,[]),(some 18,[]),(some 18,[18]),(none,[])] T.mixed kR kR ?_
   refine stv (d:=87) (fun β3=>agg [sl 1 rE_ m.aC,sl 1 gE m.sT]) [6] J bH (fun β3 _ _ _ _ gq gh kq=>lPA (gq.1.trans J) (gh.1.trans J) T.aU J kq) ?_
   refine stv (d:=88) (fun β3=>agg [sl 1 rE_ m.aC,sl 1 gE m.sT]) [] J bH (fun β3 _ _ _ _ gq gh kq=>eI (φs:= [agg [sl 1 rE_ m.aC,sl 1 gE m.sT]]) (φ:=agg [sl 1 rE_ m.aC,sl 1 gE m.sT]) ⟨(gq.1.trans J),tV⟩ (sysw.eV m O) T.rG (fun N hN=>fun h=>cV (cs:= [fre N (sl 1 rE_ m.aC),fre N (sl 1 gE m.sT)]) (ds:= [sl 1 rE_ m.aC,sl 1 gE m.sT]) ⟨fun h=>bV h,fun h=>bV h,tV⟩ h) kq) ?_
   refine stv (d:=89) (fun β3=>agg [sl 1 rE_ s.aC,sl 2 sE s.sT]) [8] J bH (fun β3 _ _ _ _ gq gh kq=>lPA (gq.1.trans J) (gh.1.trans J) T.bA J kq) ?_
   refine stv (d:=90) (fun β3=>agg [sl 1 rE_ s.aC,sl 2 sE s.sT]) [] J bH (fun β3 _ _ _ _ gq gh kq=>eI (φs:= [agg [sl 1 rE_ s.aC,sl 2 sE s.sT]]) (φ:=agg [sl 1 rE_ s.aC,sl 2 sE s.sT]) ⟨(gq.1.trans J),tV⟩ (ref03.eV s O) T.tZ (fun N hN=>fun h=>cV (cs:= [fre N (sl 1 rE_ s.aC),fre N (sl 2 sE s.sT)]) (ds:= [sl 1 rE_ s.aC,sl 2 sE s.sT]) ⟨fun h=>bV h,fun h=>bV h,tV⟩ h) kq) ?_
   refine ste (d:=91) HY cI Bm (fun z=>oH m s z) (fun z=>tup [agg [bl z.holds,sl 2 pE z.pairs,sl 1 nE z.word,int z.state],int (bK m s)]) rfl (fun β3 _ _ _ _ gq gh kq=>cal (Hi:= []) (φs:= [agg [sl 1 rE_ m.aC,sl 1 gE m.sT],agg [sl 1 rE_ s.aC,sl 2 sE s.sT]]) ⟨(gq.1.trans rfl),(gq.2.1.trans rfl),tV⟩ (satj.sU m s aS) T.Ls trivial fun N i=>kq i.1 i.2) ?_
   refine stv (d:=86) (fun β3=>whn (oH m s (cI (β3 4))) (tup [agg [bl (cI (β3 4)).holds,sl 2 pE (cI (β3 4)).pairs,sl 1 nE (cI (β3 4)).word,int (cI (β3 4)).state],int (bK m s)])) [] J (fun β β' hb=>by first|rw[hb 4 J]|(dsimp only;rw[hb 4 J])) (fun β3 _ _ _ _ gq gh kq=>mv' (gq.1.trans J) kq) ?_
   refine stv (d:=92) (fun β3=>agg [bl (cI (β3 4)).holds,sl 2 pE (cI (β3 4)).pairs,sl 1 nE (cI (β3 4)).word,int (cI (β3 4)).state]) [] J (fun β β' hb=>by first|rw[hb 4 J]|(dsimp only;rw[hb 4 J])) (fun β3 _ _ _ _ gq gh kq=>xtW (gq.1.trans J) J kq) ?_
   refine stv (d:=93) (fun β3=>int (bK m s)) [] J bH (fun β3 _ _ _ _ gq gh kq=>xtW (gq.1.trans J) J kq) ?_
   refine sta 18 T.z68 (eC (eC (eC (eC eZ)))) ?_
   refine stw 18 (fun β3=>cell (gbk (β3 8)) [bl (cI (β3 4)).holds,sl 2 pE (cI (β3 4)).pairs,sl 1 nE (cI (β3 4)).word,int (cI (β3 4)).state]) [18] J (fun β β' hb=>by first|rw[hb 4 J,hb 8 J]|(dsimp only;rw[hb 4 J,hb 8 J])) (fun β3 _ _ _ _ gq gh kq=>sPA (cs':= [bl (cI (β3 4)).holds,sl 2 pE (cI (β3 4)).pairs,sl 1 nE (cI (β3 4)).word,int (cI (β3 4)).state]) (gq.1.trans J) (gh.1.trans J) (gq.2.1.trans J) T.lU J J kq) ?_
   refine stv (d:=19) (fun β3=>int (bK m s)) [] J bH (fun β3 _ _ _ _ gq gh kq=>ag' (gq.1.trans J) kq) ?_
   refine pnH fun β3=>(nl (th (sq (sq (Gx 91 J fun h91=>(rg (mv (bi J J gF (mv ?_)))))))))
   apply fT (t:=96) (pd:=99) rfl
   rotate_left
   ·intro hg5 fin
    have hg5':=hg5
    try simp at hg5'
    exact gy J J J hg5 (mv (gy J J J hg5 (bi J J gF (pkT J hg5 J (drp (X:= [(98,_),(97,_)]) ⟨J,J,tV⟩ fin)))))
   ·intro hg5 fin
    exact gn J J J hg5 J J (gn J J J hg5 J J (pkF J hg5 J (drp (X:= [(98,_),(97,_)]) ⟨J,J,tV⟩ fin)))
   refine mv ?_
   apply fT (t:=100) (pd:=102) rfl
   rotate_left
   ·intro hg6 fin
    have hg6':=hg6
    try simp at hg6'
    exact gy J J J hg6 (mv (pkT J hg6 J (drp (X:= [(101,_)]) ⟨J,tV⟩ fin)))
   ·intro hg6 fin
    exact gn J J J hg6 J J (pkF J hg6 J (drp (X:= [(101,_)]) ⟨J,tV⟩ fin))
   refine mv ?_
   apply fT (t:=103) (pd:=106) rfl
   rotate_left
   ·intro hg7 fin
    have hg7':=hg7
    try simp at hg7'
    exact gy J J J hg7 (fP J T.UK (gy J J J hg7 (lP J J J T.iG (pkT J hg7 J (drp (X:= [(105,_),(104,_)]) ⟨J,J,tV⟩ fin)))))
   ·intro hg7 fin
    exact gn J J J hg7 J J (gn J J J hg7 J J (pkF J hg7 J (drp (X:= [(105,_),(104,_)]) ⟨J,J,tV⟩ fin)))
   refine mv ?_
   apply fT (t:=107) (pd:=110) rfl
   rotate_left
   ·intro hg8 fin
    have hg8':=hg8
    try simp at hg8'
    exact gy J J J hg8 (fP J T.DW (gy J J J hg8 (lP J J J T.iG (pkT J hg8 J (drp (X:= [(109,_),(108,_)]) ⟨J,J,tV⟩ fin)))))
   ·intro hg8 fin
    exact gn J J J hg8 J J (gn J J J hg8 J J (pkF J hg8 J (drp (X:= [(109,_),(108,_)]) ⟨J,J,tV⟩ fin)))
   refine mv ?_
   apply fT (t:=111) (pd:=114) rfl
   rotate_left
   ·intro hg9 fin
    have hg9':=hg9
    try simp at hg9'
    exact gy J J J hg9 (mv (gy J J J hg9 (no J (pkT J hg9 J (drp (X:= [(113,_),(112,_)]) ⟨J,J,tV⟩ fin)))))
   ·intro hg9 fin
    exact gn J J J hg9 J J (gn J J J hg9 J J (pkF J hg9 J (drp (X:= [(113,_),(112,_)]) ⟨J,J,tV⟩ fin)))
   refine nl (th ?_)
   refine cd J (fun hc3=> ?_) (fun hc3=> ?_)
   ·skip
    exact absurd hc3 (by rw[Xc h83.2 h91];decide)
   ·skip
    refine sk (th (sq (dr (nh:=10) [0,1,0,7,0,31,63,127,127,511] T.mixed kR ?_)))
    refine st_ J (fun _ _ _ gq kq=>lPA (gq.1.trans J) J T.aU J kq) ?_
    refine st_ J (fun _ _ _ gq kq=>eI (φs:= [agg [sl 1 rE_ m.aC,sl 1 gE m.sT]]) (φ:=agg [sl 1 rE_ m.aC,sl 1 gE m.sT]) ⟨(gq.1.trans J),tV⟩ (sysw.eV m O) T.rG (fun N hN=>fun h=>cV (cs:= [fre N (sl 1 rE_ m.aC),fre N (sl 1 gE m.sT)]) (ds:= [sl 1 rE_ m.aC,sl 1 gE m.sT]) ⟨fun h=>bV h,fun h=>bV h,tV⟩ h) kq) ?_
    refine st_ J (fun _ _ _ gq kq=>lPA (gq.1.trans J) J T.bA J kq) ?_
    refine st_ J (fun _ _ _ gq kq=>eI (φs:= [agg [sl 1 rE_ t.aC,sl 2 sE t.sT]]) (φ:=agg [sl 1 rE_ t.aC,sl 2 sE t.sT]) ⟨(gq.1.trans J),tV⟩ (ref03.eV t O) T.tZ (fun N hN=>fun h=>cV (cs:= [fre N (sl 1 rE_ t.aC),fre N (sl 2 sE t.sT)]) (ds:= [sl 1 rE_ t.aC,sl 2 sE t.sT]) ⟨fun h=>bV h,fun h=>bV h,tV⟩ h) kq) ?_
    refine st_ J (fun _ _ _ gq kq=>mv' (gq.1.trans J) kq) ?_
    refine st_ J (fun _ _ _ gq kq=>tbK (ψ:=tab) 117 997 (gq.1.trans J) J (eI (φs:= [both (agg [sl 1 rE_ m.aC,sl 1 gE m.sT]) tab,agg [sl 1 rE_ t.aC,sl 2 sE t.sT],int u]) (φ:=tup [agg [sl 1 rE_ ((bE m t u).1).aC,sl 1 gE ((bE m t u).1).sT],int ((bE m t u).2)]) ⟨J,(gq.2.1.trans J),(gq.2.2.1.trans J),tV⟩ (mkr.xC m t aS u) T.Lp (fun N hN=>fun h=>pZ (cs:= [agg [fre N (sl 1 rE_ ((bE m t u).1).aC),fre N (sl 1 gE ((bE m t u).1).sT)],int ((bE m t u).2)]) (ds:= [agg [sl 1 rE_ ((bE m t u).1).aC,sl 1 gE ((bE m t u).1).sT],int ((bE m t u).2)]) ⟨fun h=>cV (cs:= [fre N (sl 1 rE_ ((bE m t u).1).aC),fre N (sl 1 gE ((bE m t u).1).sT)]) (ds:= [sl 1 rE_ ((bE m t u).1).aC,sl 1 gE ((bE m t u).1).sT]) ⟨fun h=>bV h,fun h=>bV h,tV⟩ h,fun h=>h,tV⟩ h) (tbX (gq.1.trans J) kq))) ?_
    refine st_ J (fun _ _ _ gq kq=>mv' (gq.1.trans J) kq) ?_
    refine st_ J (fun _ _ _ gq kq=>xt (gq.1.trans J) J kq) ?_
    refine st_ J (fun _ _ _ gq kq=>xt (gq.1.trans J) J kq) ?_
    refine st_ J (fun _ _ _ gq kq=>ag' (gq.1.trans J) kq) ?_
    refine pn (nl (th (sq (dr (nh:=13) [0,1,0,7,0,31,0,127,255,511,511,1023,4095] T.mixed kR ?_))))
    refine st_ J (fun _ _ _ gq kq=>lPA (gq.1.trans J) J T.aU J kq) ?_
    refine st_ J (fun _ _ _ gq kq=>eI (φs:= [agg [sl 1 rE_ x.aC,sl 1 gE x.sT]]) (φ:=agg [sl 1 rE_ x.aC,sl 1 gE x.sT]) ⟨(gq.1.trans J),tV⟩ (sysw.eV x O) T.rG (fun N hN=>fun h=>cV (cs:= [fre N (sl 1 rE_ x.aC),fre N (sl 1 gE x.sT)]) (ds:= [sl 1 rE_ x.aC,sl 1 gE x.sT]) ⟨fun h=>bV h,fun h=>bV h,tV⟩ h) kq) ?_
    refine st_ J (fun _ _ _ gq kq=>lPA (gq.1.trans J) J T.aU J kq) ?_
    refine st_ J (fun _ _ _ gq kq=>eI (φs:= [agg [sl 1 rE_ m.aC,sl 1 gE m.sT]]) (φ:=agg [sl 1 rE_ m.aC,sl 1 gE m.sT]) ⟨(gq.1.trans J),tV⟩ (sysw.eV m O) T.rG (fun N hN=>fun h=>cV (cs:= [fre N (sl 1 rE_ m.aC),fre N (sl 1 gE m.sT)]) (ds:= [sl 1 rE_ m.aC,sl 1 gE m.sT]) ⟨fun h=>bV h,fun h=>bV h,tV⟩ h) kq) ?_
    refine st_ J (fun _ _ _ gq kq=>lPA (gq.1.trans J) J T.bA J kq) ?_
    refine st_ J (fun _ _ _ gq kq=>eI (φs:= [agg [sl 1 rE_ t.aC,sl 2 sE t.sT]]) (φ:=agg [sl 1 rE_ t.aC,sl 2 sE t.sT]) ⟨(gq.1.trans J),tV⟩ (ref03.eV t O) T.tZ (fun N hN=>fun h=>cV (cs:= [fre N (sl 1 rE_ t.aC),fre N (sl 2 sE t.sT)]) (ds:= [sl 1 rE_ t.aC,sl 2 sE t.sT]) ⟨fun h=>bV h,fun h=>bV h,tV⟩ h) kq) ?_
    refine st_ J (fun _ _ _ gq kq=>mv' (gq.1.trans J) kq) ?_
    refine st_ J (fun _ _ _ gq kq=>bI (φs:= [agg [sl 1 rE_ x.aC,sl 1 gE x.sT],agg [sl 1 rE_ m.aC,sl 1 gE m.sT],agg [sl 1 rE_ t.aC,sl 2 sE t.sT],int u]) (φ:=tup [bl (iV x m t u),int (eU x m t u)]) ⟨(gq.1.trans J),(gq.2.1.trans J),(gq.2.2.1.trans J),(gq.2.2.2.1.trans J),tV⟩ (mkr.HK x m t aS u aS aS) T.Sa kq) ?_
    refine st_ J (fun _ _ _ gq kq=>mv' (gq.1.trans J) kq) ?_
    refine st_ J (fun _ _ _ gq kq=>xt (gq.1.trans J) J kq) ?_
    refine st_ J (fun _ _ _ gq kq=>xt (gq.1.trans J) J kq) ?_
    refine st_ J (fun _ _ _ gq kq=>ag' (gq.1.trans J) kq) ?_
    refine st_ J (fun _ _ _ gq kq=>ag' (gq.1.trans J) kq) ?_
    refine pn (nl (th (sq (rg (mv (bi J J fV (mv ?_)))))))
    apply gOr (t:=137) (pd:=140) rfl
    rotate_left
    ·intro hg10 fin
     have hg10':=hg10
     try simp at hg10'
     exact gy J J J hg10 (mv (gy J J J hg10 (bi J J fV (pkF J hg10 J (drp (X:= [(139,_),(138,_)]) ⟨J,J,tV⟩ fin)))))
    ·intro hg10 fin
     exact gn J J J hg10 J J (gn J J J hg10 J J (pkT J hg10 J (drp (X:= [(139,_),(138,_)]) ⟨J,J,tV⟩ fin)))
    refine mv ?_
    apply gOr (t:=141) (pd:=144) rfl
    rotate_left
    ·intro hg11 fin
     have hg11':=hg11
     try simp at hg11'
     exact gy J J J hg11 (mv (gy J J J hg11 (no J (pkF J hg11 J (drp (X:= [(143,_),(142,_)]) ⟨J,J,tV⟩ fin)))))
    ·intro hg11 fin
     exact gn J J J hg11 J J (gn J J J hg11 J J (pkT J hg11 J (drp (X:= [(143,_),(142,_)]) ⟨J,J,tV⟩ fin)))
    refine mv ?_
    apply fT (t:=145) (pd:=147) rfl
    rotate_left
    ·intro hg12 fin
     have hg12':=hg12
     try simp at hg12'
     exact gy J J J hg12 (UY (ψ:=tab) (φs:= []) (φ:=bl true) trivial mkv.CW T.Si 9999 J J (pkT J hg12 J (drp (X:= [(146,_)]) ⟨J,tV⟩ fin)))
    ·intro hg12 fin
     exact gn J J J hg12 J J (pkF J hg12 J (drp (X:= [(146,_)]) ⟨J,tV⟩ fin))
    refine ag (nl (th (rt ?_)))
    have hr0:((((decide (((bE m t u).2)≠3))||(decide ((eU x m t u)≠0)))||(!(iV x m t u)))&&true)=true:=by
     rw[Xd];rfl
    exact rE () [.tmp 10] J [bl ((((decide (((bE m t u).2)≠3))||(decide ((eU x m t u)≠0)))||(!(iV x m t u)))&&true)] ⟨.tmp J,tV⟩ (cA1 (fun x0=>rV [bl x0]) hr0) trivial eX
end mkx
end
end Go.Proofs.YtnlfjojfgghchaaGreatDoor
