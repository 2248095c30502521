/- The walks of the functions and the plain laws. Own texts of this claim, packed: Mkmks, Mkmks2, MkFixM, Mkmkv, Mkmkw, MkFixP, Mkmkw2, Mkspoil, Mkwreck. -/
import Derived.Test.YtnlfjojfgghchaaGreatDoorX29
import Derived.Test.YtnlfjojfgghchaaGreatDoorX22
import Derived.Test.YtnlfjojfgghchaaGreatDoorX06
import Derived.Test.YtnlfjojfgghchaaGreatDoorX30
import Derived.Test.YtnlfjojfgghchaaGreatDoorX23
import Derived.Test.YtnlfjojfgghchaaGreatDoorX14
import Derived.Test.YtnlfjojfgghchaaGreatDoorX03
import Derived.Test.YtnlfjojfgghchaaGreatDoorX11
import Derived.Test.YtnlfjojfgghchaaGreatDoorX25
set_option linter.all false
namespace Go.Proofs.YtnlfjojfgghchaaGreatDoor
open AL Go
set_option maxRecDepth 100000
section
open ref01 ref03 ref04 ref06 prog prog2 prog3 prog4 prog5 prog6 prog7 prog8 prog9 prog13 prog15 starts Part Rungs LeftM TrimM RoundM MergeM BisM BisM4 BisM5 Itoa Keys WalkM StepM WitM JudgM JudgM2 search refw judg wit refj sysw satj divr divs divd dive divg divw divv divp divt LevM LevM2 TrimI QuoM FailM DivM RefM FitM TogM ProdM prodw GenW CompM CompP CrossM KeepK GuardM MakeM LsysM LsysM2 MakeM2 KeepB AtM ClsM LstM MakeM3 GuaW LeadM ValidM mkk mkp mkl mkc mkq mkg mkr
namespace mks
end mks
end
section
open ref01 ref03 ref04 ref06 prog prog2 prog3 prog4 prog5 prog6 prog7 prog8 prog9 prog13 prog15 starts Part Rungs LeftM TrimM RoundM MergeM BisM BisM4 BisM5 Itoa Keys WalkM StepM WitM JudgM JudgM2 search refw judg wit refj sysw satj divr divs divd dive divg divw divv divp divt LevM LevM2 TrimI QuoM FailM DivM RefM FitM TogM ProdM prodw GenW CompM CompP CrossM KeepK GuardM MakeM LsysM LsysM2 MakeM2 KeepB AtM ClsM LstM MakeM3 GuaW LeadM ValidM mkk mkp mkl mkc mkq mkg mkr mks
namespace mks2
end mks2
end
section
namespace FixM
open CompP ref01 ref03 ref04 ref06 Part Rungs LeftM TrimM RoundM MergeM BisM BisM3 BisM4 BisM5 BisM6 Keys WalkM WitM JudgM JudgM2 LevM divr divs divd dive divf divv judg refj sysw satj ChsM BisS TrimI ValidM WitSat WitVal QuoM FailM DivM RefM GenW CompM CrossM FitM TogM KeepK GuardM MakeM LsysM LsysM2 MakeM2 KeepB LstM MakeM3 GuaW LeadM
section
variable {s:SS} (hs:oK s) {ch:SS→Nat→Int} (hc:∀y,y<s.sT.length→ch s y∈acc s y)
include hs hc
theorem Ow (hf:s.sT.length≤500):(eG ch s).sT.length≤500∧bV (eG ch s).sT≤4000:=by
 have hm:=vO hs hc
 obtain⟨g,hk,_⟩:=Fj (qQ hm)
 have ho:=NF (qQ hm) hk
 have e1:(mkM (ch s) s).sT.length=s.sT.length:=by simp[mkM]
 have e2:=rR hm
 have e3:=hk.few
 rw[mA] at e3
 have hl:=rT (aG (mkM (ch s) s)) (kY (aG (mkM (ch s) s))) (aJ (aG (mkM (ch s) s)))
 have h5:(eG ch s).sT.length≤500:=by
  show(kG (aG (mkM (ch s) s)) (kY (aG (mkM (ch s) s))) (aJ (aG (mkM (ch s) s)))).sT.length≤500
  omega
 refine⟨h5,Nat.le_trans (Gz (K:=8) fun l hl2=> ?_) O⟩
 obtain⟨c,hc2,rfl⟩:=List.getElem_of_mem hl2
 have hc3:c<kY (aG (mkM (ch s) s)):=by
  have hc4:c<(kG (aG (mkM (ch s) s)) (kY (aG (mkM (ch s) s))) (aJ (aG (mkM (ch s) s)))).sT.length:=hc2
  omega
 have:=HK hs hc hk hc3
 rw[←aK hc2]
 exact this
end
structure WX (x:aA) (g:SS) (u:Int):Prop where
 ok:bR x=true
 acts:x.aC=g.aC
 sat:iA x g
 keep:qP x u
 few:x.sT.length≤500
 sum:bV x.sT≤4000
theorem Ox {g:SS} {ok:Bool} {u:Int} (hg:ok=true→oK g∧g.sT.length≤500):
 (ok=false∧bW g ok u=(⟨[],[]⟩,2))∨(ok=true∧ix (hOl (aM u g)) 0=true∧bW g ok u=(⟨[],[]⟩,3))∨(ok=true∧ix (hOl (aM u g)) 0=false∧(bW g ok u).2=0∧WX (bW g ok u).1 g u):=by
 cases ok with
 |false=>exact .inl ⟨rfl,EM⟩
 |true=>
  obtain⟨hk,hf⟩:=hg rfl
  right
  obtain⟨hT,hT5⟩:=EI hk hf u
  have hh:=zA hk hf u
  cases e:ix (hOl (tR (aM u g)).1) 0 with
  |true=>exact .inl ⟨rfl,by rw[←hh];exact e,Ia e⟩
  |false=>
   right
   rw[Kr e]
   have hfree:=CC hk hf e
   have hc:=Og hfree
   have hv:=Oh hT (ch:=lgC) hc hT5
   have hsat:=(Ny hk (u:=u)).1 (Ub hT (ch:=lgC) hc)
   have hsm:=Ow hT (ch:=lgC) hc hT5
   exact⟨rfl,by rw[←hh];exact e,rfl,hv,(QD hT (ch:=lgC) hc).trans (kK _),hsat.1,hsat.2,hsm.1,hsm.2⟩
theorem EO {m:aA} {t:SS} {u:Int} (hf:dF m t=0) (hu:eI (t.aC.length:Int) u=true):
 ((aW m t).2=false∧bM m t u=(⟨[],[]⟩,2))∨((aW m t).2=true∧ix (hOl (aM u (aW m t).1)) 0=true∧bM m t u=(⟨[],[]⟩,3))∨
 ((aW m t).2=true∧ix (hOl (aM u (aW m t).1)) 0=false∧(bM m t u).2=0∧bR (bM m t u).1=true∧(bM m t u).1.aC=t.aC∧wV m (bM m t u).1 t∧qP (bM m t u).1 u∧(bM m t u).1.sT.length≤500∧bV (bM m t u).1.sT≤4000):=by
 obtain⟨hmv,htv,hmt⟩:=uC hf
 have hm:=eY hmv
 have ht:=gH htv
 have e:bM m t u=bW (aW m t).1 (aW m t).2 u:=by unfold bM;rw[if_pos hf,if_pos hu]
 rw[e]
 rcases Ox (u:=u) (fun h=>⟨(vV hm ht h).1,(vV hm ht h).2.1⟩:(aW m t).2=true→oK (aW m t).1∧(aW m t).1.sT.length≤500) with h|h|⟨h1,h2,h3,h4⟩
 ·exact .inl h
 ·exact .inr (.inl h)
 ·refine .inr (.inr ⟨h1,h2,h3,h4.ok,h4.acts.trans (vV hm ht h1).2.2,?_,h4.keep,h4.few,h4.sum⟩)
  exact(TZ hm (eY h4.ok) ht (h4.acts.trans (vV hm ht h1).2.2) h1).1 h4.sat
def aO:aA:=⟨[⟨#[97]⟩,⟨#[98]⟩],[[(0,0),(1,0)]]⟩
def aB:SS:=⟨[⟨#[97]⟩,⟨#[98]⟩],[⟨[1],[0,-1]⟩]⟩
theorem Am:bR aO=true:=by decide+kernel
theorem tH:cK aB=true:=by decide+kernel
theorem rO:oK aB:=gH tH
theorem Bj:dF aO aB=0:=by
 unfold dF
 rw[if_pos Am,if_pos tH,if_pos (show aO.aC=aB.aC from rfl)]
theorem Oy:gL aO aB= [[(0,0)]]:=by unfold gL;decide+kernel
theorem Wl:gD aO aB=aB:=by unfold gD;rw[Oy];decide+kernel
theorem LG:ix (hOl aB) 0=false:=CompP.Di (by decide) (by decide)
theorem Ja:(tR aB).1=aB:=by
 have hs:=rO
 have hn:=LG
 have ho:aF aB= [0]:=by
  have h1:(aF aB).length≤1:=oQ hs
  have h2:=jU aB
  have h3:=BisM2.sL aB
  match hq:aF aB,h1,h2,h3 with
  | [y],_,_,h3=>rw[show y=0 from h3]
 have hk:keep aB 0= [1]:=PU hs (by decide) (by decide)
 rw[dE hn]
 show(⟨aB.aC,(aF aB).map (fQ aB)⟩:SS)=aB
 rw[ho]
 show(⟨aB.aC,[fQ aB 0]⟩:SS)=aB
 unfold fQ jE
 rw[show(0:Int).toNat=0 from rfl,hk,ho]
 decide
theorem vZ:aW aO aB=(aB,true):=by
 unfold aW
 rw[Oy,if_pos (by decide),Wl,Ja]
theorem Uk:gdS aO aB=(aB,0):=by
 unfold gdS
 rw[if_pos Bj,vZ,if_pos rfl]
theorem Dy (u:Int) (h:u=1∨u=2):eI (aB.aC.length:Int) u=true:=by
 rcases h with rfl|rfl<;>decide
theorem Ul:ix (hOl (aM 2 aB)) 0=true:=by
 cases e:ix (hOl (aM 2 aB)) 0 with
 |true=>rfl
 |false=>
  obtain⟨x,R,hR,h0⟩:=(CB (jB rO 2)).1 e
  have:=hR.acc h0
  have:=(uD (s:=aB) (k:=0) (by decide)).1 this
  have h1:cJ x 0=1:=List.mem_singleton.1 this.1
  rw[h1] at this
  exact absurd this.2 (by decide)
theorem QP:bM aO aB 2=(⟨[],[]⟩,3):=by
 rcases EO Bj (Dy 2 (.inr rfl)) with⟨h,_⟩|⟨_,_,h⟩|⟨_,h,_⟩
 ·rw[vZ] at h;cases h
 ·exact h
 ·rw[vZ] at h
  rw[show((aB,true):SS × Bool).1=aB from rfl,Ul] at h;cases h
theorem Um:iA ⟨[⟨#[97]⟩,⟨#[98]⟩],[[(0,0)]]⟩ (aM 1 aB):=by
 refine Eu.2 ⟨⟨fun x y=>x=0∧y=0,⟨fun {x y} h=>by rw[h.2];decide,fun {x y} h=>by rw[h.1,h.2];decide,fun {x y} h e he=> ?_,fun {x y} h e he=> ?_⟩,rfl,rfl⟩,fun x hx=> ?_⟩
 ·rw[h.1] at he
  rw[h.2]
  have:e=(0,0):=by
   obtain⟨d,hd,rfl⟩:=List.mem_map.1 he
   rw[List.mem_singleton.1 (show d∈[((0,0):PP)] from hd)];rfl
  rw[this];decide
 ·rw[h.1] at he
  rw[h.2]
  have:e=(0,0):=by
   obtain⟨d,hd,rfl⟩:=List.mem_map.1 he
   rw[List.mem_singleton.1 (show d∈[((0,0):PP)] from hd)];rfl
  rw[this];exact⟨by decide,by decide,by decide⟩
 ·have:x=0:=by
   induction hx with
   |zero=>rfl
   |step h1 h2 ih=>
    rw[ih] at h2
    have:=List.mem_singleton.1 h2
    rw[this];rfl
  rw[this];decide
theorem Il:(bM aO aB 1).2=0∧bR (bM aO aB 1).1=true∧(bM aO aB 1).1.aC=aB.aC∧wV aO (bM aO aB 1).1 aB∧qP (bM aO aB 1).1 1∧(bM aO aB 1).1.sT.length≤500∧bV (bM aO aB 1).1.sT≤4000:=by
 rcases EO Bj (Dy 1 (.inl rfl)) with⟨h,_⟩|⟨_,h,_⟩|⟨_,_,h⟩
 ·rw[vZ] at h;cases h
 ·rw[vZ] at h
  have:ix (hOl (aM 1 aB)) 0=false:=(CB (jB rO 1)).2 ⟨_,Um⟩
  rw[show((aB,true):SS × Bool).1=aB from rfl,this] at h;cases h
 ·exact h
theorem QQ {x m:aA} {t:SS} {u:Int} (hx:bR x=true) (hm:bR m=true) (ht:cK t=true) (h1:x.aC=m.aC) (h2:x.aC=t.aC) (hu:eI (t.aC.length:Int) u=true):gW x m t u=0:=by
 unfold gW
 rw[if_pos ⟨hx,hm⟩,if_pos ht,if_pos ⟨h1,h2⟩,if_pos hu]
theorem QR {x m:aA} {t:SS} {u:Int} (hE:gW x m t u=0) (hx:bL x) (hw:wV m x t) (hk:qP x u):mE x m t u=true:=by
 unfold mE
 rw[hE,decide_eq_true rfl,Bool.true_and,(NJ hx).2 hk,Bool.and_true]
 simp[hw]
theorem Oz:gW (bM aO aB 1).1 aO aB 1=0∧mE (bM aO aB 1).1 aO aB 1=true:=by
 obtain⟨_,h1,h2,h3,h4,_⟩:=Il
 have e:=QQ h1 Am tH (h2.trans rfl) h2 (Dy 1 (.inl rfl))
 exact⟨e,QR e (eY h1) h3 h4⟩
end FixM
end
section
open ref01 ref03 ref04 ref06 prog prog2 prog3 prog4 prog5 prog6 prog7 prog8 prog9 prog13 prog15 starts Part Rungs LeftM TrimM RoundM MergeM BisM BisM4 BisM5 Itoa Keys WalkM StepM WitM JudgM JudgM2 search refw judg wit refj sysw satj divr divs divd dive divg divw divv divp divt LevM LevM2 TrimI QuoM FailM DivM RefM FitM TogM ProdM prodw GenW CompM CompP CrossM KeepK GuardM MakeM LsysM LsysM2 MakeM2 KeepB AtM ClsM LstM MakeM3 GuaW LeadM FixM ValidM mkk mkp mkl mkc mkq mkg mkr mks mks2
def zB (m:aA) (n:Int):Bool:=decide ((m.sT.length:Int)≤n)&&yJ m 300
def qU (s:SS) (n:Int):Bool:=decide ((s.sT.length:Int)≤n)&&few s 400
theorem OA {m:aA} {n:Int} (h:zB m n=true):(m.sT.length:Int)≤n∧rL m≤300:=by
 unfold zB yJ at h
 rw[Bool.and_eq_true,decide_eq_true_eq,decide_eq_true_eq] at h
 exact⟨h.1,O⟩
theorem Im {s:SS} {n:Int} (h:qU s n=true):(s.sT.length:Int)≤n∧(size s:Int)≤400:=by
 unfold qU few at h
 rw[Bool.and_eq_true,decide_eq_true_eq,decide_eq_true_eq] at h
 exact h
theorem Io {m:aA} {n:Nat} (h:rL m≤n):bV m.sT≤n:=by unfold rL at h;omega
namespace T
theorem WY:Ent Tryz.prog 45:=aZ kR
theorem WZ:Ent Tryz.prog 46:=aZ kR
theorem Fu:Ent Tryz.prog 47:=aZ kR
theorem Fv:Ent Tryz.prog 48:=aZ kR
theorem RR:Ent Tryz.prog 16:=aZ kR
theorem LH:Ent Tryz.prog 25:=aZ kR
theorem RS:Ent Tryz.prog 30:=aZ kR
end T
namespace mkv
theorem Ip (m:aA) (n:Int):
 Fn0 Tryz.prog 11 [sys m,int n] (bl (zB m n)):=by
 refine fnI Tryz.func11 rfl rfl (fun w0 F0=> ?_)
 refine fcC (cG 0 J) (fun hS0=> ?_)
 obtain⟨hma0,hms0,hme0⟩:=cZ hS0
 refine sq (rg (bx (key:=2) (cs:= [sl 1 rE_ m.aC,sl 1 gE m.sT]) J fun b2=>(ag (nl (th (sq (rg (fP J T.bX (lP J J J T.dB (fc (bB 6 J) fun hm6=>(lnF J T.fJ (mv (bi J J tJ (mv ?_))))))))))))))
 apply gM (t:=10) (pd:=13) rfl
 rotate_left
 ·intro hg0 fin
  have hg0':=hg0
  try simp at hg0'
  exact gy J J J hg0 (lPA J J T.aY J (gy J J J hg0 (bC (φs:= [agg [sl 1 rE_ m.aC,sl 1 gE m.sT],int 300]) (φ:=bl (yJ m 300)) ⟨J,J,tV⟩ (sysw.FP m 300 O) T.WY (pkT J hg0 J (drp (X:= [(12,_),(11,_)]) ⟨J,J,tV⟩ fin)))))
 ·intro hg0 fin
  exact gn J J J hg0 J J (gn J J J hg0 J J (pkF J hg0 J (drp (X:= [(12,_),(11,_)]) ⟨J,J,tV⟩ fin)))
 refine ag (nl (th (rt ?_)))
 have hr0:((decide ((m.sT.length:Int)≤n))&&(yJ m 300))=(zB m n):=by
  rfl
 exact rE () [.tmp 4] J [bl ((decide ((m.sT.length:Int)≤n))&&(yJ m 300))] ⟨.tmp J,tV⟩ (cA1 (fun x0=>rV [bl x0]) hr0) trivial eX
theorem CG (s:SS) (n:Int):
 Fn0 Tryz.prog 12 [spec s,int n] (bl (qU s n)):=by
 refine fnI Tryz.func12 rfl rfl (fun w0 F0=> ?_)
 refine fcC (cG 0 J) (fun hS0=> ?_)
 obtain⟨hsa0,hss0,hse0⟩:=sLn hS0
 refine sq (rg (bx (key:=2) (cs:= [sl 1 rE_ s.aC,sl 2 sE s.sT]) J fun b2=>(ag (nl (th (sq (rg (fP J T.bE (lP J J J T.bP (fc (bB 6 J) fun hm6=>(lnF J T.cR (mv (bi J J tJ (mv ?_))))))))))))))
 apply gM (t:=10) (pd:=13) rfl
 rotate_left
 ·intro hg0 fin
  have hg0':=hg0
  try simp at hg0'
  exact gy J J J hg0 (lPA J J T.aI J (gy J J J hg0 (bC (φs:= [agg [sl 1 rE_ s.aC,sl 2 sE s.sT],int 400]) (φ:=bl (few s 400)) ⟨J,J,tV⟩ (ref03.FP s _ O) T.WZ (pkT J hg0 J (drp (X:= [(12,_),(11,_)]) ⟨J,J,tV⟩ fin)))))
 ·intro hg0 fin
  exact gn J J J hg0 J J (gn J J J hg0 J J (pkF J hg0 J (drp (X:= [(12,_),(11,_)]) ⟨J,J,tV⟩ fin)))
 refine ag (nl (th (rt ?_)))
 have hr0:((decide ((s.sT.length:Int)≤n))&&(few s 400))=(qU s n):=by
  rfl
 exact rE () [.tmp 4] J [bl ((decide ((s.sT.length:Int)≤n))&&(few s 400))] ⟨.tmp J,tV⟩ (cA1 (fun x0=>rV [bl x0]) hr0) trivial eX
theorem xI:
 Fn0 Tryz.prog 47 [] (sys aO):=by
 refine fnI Tryz.func47 rfl rfl (fun w0 F0=> ?_)
 refine sq (rg (al (key:=0) T.z25 (eC (eC eZ)) fun b0=>(nl (th (sq (rg (bsE (enc:=rE_) (xs:= [({ data:= #[97] }),({ data:= #[98] })]) (css:= [[str ({ data:= #[97] })],[str ({ data:= #[98] })]]) T.CN ⟨J,J,p1 (φ:=str ({ data:= #[97] })) J,⟨J,J,p1 (φ:=str ({ data:= #[98] })) J,tV⟩⟩ J J J J (bd (css:= []) T.xD (eC (eC eZ)) trivial (bd (css:= [(0,_)]) T.xD (eC (eC eZ)) ⟨J,J,p1 (φ:=int 1) J,tV⟩ (bsE (enc:=pE) (xs:= [(0,0),(1,0)]) (css:= [[int 0,int 0],[int 1,int 0]]) T.nK ⟨J,J,pA (cs:= [int 0,int 0]) J,⟨J,J,pA (cs:= [int 1,int 0]) J,tV⟩⟩ J J J J (bsE (enc:=gE) (xs:= [[(0,0),(1,0)]]) (css:= [[sl 2 pE [(0,0),(1,0)]]]) T.pO ⟨J,J,p1 (φ:=sl 2 pE [(0,0),(1,0)]) J,tV⟩ J J J J (bd (css:= [(0,_),(1,_)]) T.kQ (eC (eC eZ)) ⟨J,J,p1 (φ:=sl 1 rE_ [({ data:= #[97] }),({ data:= #[98] })]) J,⟨J,J,p1 (φ:=sl 1 gE [[(0,0),(1,0)]]) J,tV⟩⟩ (sPA (cs':= [sl 1 rE_ [({ data:= #[97] }),({ data:= #[98] })],sl 1 gE [[(0,0),(1,0)]]]) J J J T.aY J J (nl (th (rt ?_))))))))))))))))
 have hr0: [({ data:= #[97] }),({ data:= #[98] })]=aO.aC:=by
  first|rfl|simp_all|omega
 have hr1: [[(0,0),(1,0)]]=aO.sT:=by
  first|rfl|simp_all|omega
 exact rE () [.cell 0 25] J [agg [sl 1 rE_ [({ data:= #[97] }),({ data:= #[98] })],sl 1 gE [[(0,0),(1,0)]]]] ⟨.agg J J T.aY J J,tV⟩ (cA2 (fun x0 x1=>rV [agg [sl 1 rE_ x0,sl 1 gE x1]]) hr0 hr1) trivial eX
theorem uE:
 Fn0 Tryz.prog 48 [] (spec aB):=by
 refine fnI Tryz.func48 rfl rfl (fun w0 F0=> ?_)
 refine sq (rg (al (key:=0) T.z28 (eC (eC eZ)) fun b0=>(nl (th (sq (rg (bsE (enc:=rE_) (xs:= [({ data:= #[97] }),({ data:= #[98] })]) (css:= [[str ({ data:= #[97] })],[str ({ data:= #[98] })]]) T.CN ⟨J,J,p1 (φ:=str ({ data:= #[97] })) J,⟨J,J,p1 (φ:=str ({ data:= #[98] })) J,tV⟩⟩ J J J J (bsE (enc:=nE) (xs:= [1]) (css:= [[int 1]]) T.cH ⟨J,J,p1 (φ:=int 1) J,tV⟩ J J J J (bsE (enc:=nE) (xs:= [0,(-1)]) (css:= [[int 0],[int (-1)]]) T.cH ⟨J,J,p1 (φ:=int 0) J,⟨J,J,p1 (φ:=int (-1)) J,tV⟩⟩ J J J J (bd (css:= [(0,_),(1,_)]) T.sB (eC (eC eZ)) ⟨J,J,p1 (φ:=sl 1 nE [1]) J,⟨J,J,p1 (φ:=sl 1 nE [0,(-1)]) J,tV⟩⟩ (bsE (enc:=sE) (xs:= [(⟨[1],[0,(-1)]⟩)]) (css:= [[sl 1 nE [1],sl 1 nE [0,(-1)]]]) T.kN ⟨J,J,pA (cs:= [sl 1 nE [1],sl 1 nE [0,(-1)]]) J,tV⟩ J J J J (bd (css:= [(0,_),(1,_)]) T.kA (eC (eC eZ)) ⟨J,J,p1 (φ:=sl 1 rE_ [({ data:= #[97] }),({ data:= #[98] })]) J,⟨J,J,p1 (φ:=sl 2 sE [(⟨[1],[0,(-1)]⟩)]) J,tV⟩⟩ (sPA (cs':= [sl 1 rE_ [({ data:= #[97] }),({ data:= #[98] })],sl 2 sE [(⟨[1],[0,(-1)]⟩)]]) J J J T.aI J J (nl (th (rt ?_))))))))))))))))
 have hr0: [({ data:= #[97] }),({ data:= #[98] })]=aB.aC:=by
  first|rfl|simp_all|omega
 have hr1: [(⟨[1],[0,(-1)]⟩)]=aB.sT:=by
  first|rfl|simp_all|omega
 exact rE () [.cell 0 28] J [agg [sl 1 rE_ [({ data:= #[97] }),({ data:= #[98] })],sl 2 sE [(⟨[1],[0,(-1)]⟩)]]] ⟨.agg J J T.aI J J,tV⟩ (cA2 (fun x0 x1=>rV [agg [sl 1 rE_ x0,sl 2 sE x1]]) hr0 hr1) trivial eX
theorem CH:
 AL.Fn Tryz.prog 13 [] [(998,cV tab)] (ι:=Unit) (fun _ _=>bl true) (fun _=> []):=by
 refine fnI Tryz.func13 rfl rfl (fun w0 F0=> ?_)
 have hsm:eB aB:=rO.small
 obtain⟨q1,q2,q3,q4,q5,q6,q7⟩:=Il
 obtain⟨r1,r2⟩:=Oz
 have q8:=QP
 have q9:=Uk
 have hz:aO.sT.length*(bM aO aB 1).1.sT.length<5000:=by show 1*_<5000;omega
 have hz2:bV aO.sT*bV (bM aO aB 1).1.sT≤400000:=by show 2*_≤400000;omega
 refine tbH 9999 998 rfl ?_
 refine sq (rg (ag (nl (th (sq (rg (bC (φs:= []) (φ:=agg [sl 1 rE_ aO.aC,sl 1 gE aO.sT]) trivial mkv.xI T.Fu (bC (φs:= []) (φ:=agg [sl 1 rE_ aB.aC,sl 2 sE aB.sT]) trivial mkv.uE T.Fv (tbU (ψ:=tab) 10 9999 J J (bC (φs:= [both (agg [sl 1 rE_ aO.aC,sl 1 gE aO.sT]) tab,agg [sl 1 rE_ aB.aC,sl 2 sE aB.sT]]) (φ:=tup [agg [sl 1 rE_ ((gdS aO aB).1).aC,sl 2 sE ((gdS aO aB).1).sT],int ((gdS aO aB).2)]) ⟨J,J,tV⟩ (mkg.QG aO aB aS) T.RR (mv (xt J J (kn 13 (spec aB) J (by rw[q9];exact fun h=>h) (xt J J (al (key:=1) T.z28 (eC (eC eZ)) fun b1=>(sPA (cs':= [sl 1 rE_ aB.aC,sl 2 sE aB.sT]) J J J T.aI J J (ag (nl (th (sq (rg (bC (φs:= []) (φ:=agg [sl 1 rE_ aO.aC,sl 1 gE aO.sT]) trivial mkv.xI T.Fu (bC (φs:= []) (φ:=agg [sl 1 rE_ aB.aC,sl 2 sE aB.sT]) trivial mkv.uE T.Fv (tbU (ψ:=tab) 16 9999 J J (eW (φs:= [both (agg [sl 1 rE_ aO.aC,sl 1 gE aO.sT]) tab,agg [sl 1 rE_ aB.aC,sl 2 sE aB.sT],int 1]) (φ:=tup [agg [sl 1 rE_ ((bM aO aB 1).1).aC,sl 1 gE ((bM aO aB 1).1).sT],int ((bM aO aB 1).2)]) ⟨J,J,J,tV⟩ (mkr.xH aO aB aS 1) T.LH (fun N hN=>fun h=>jL (cs:= [agg [fre N (sl 1 rE_ ((bM aO aB 1).1).aC),fre N (sl 1 gE ((bM aO aB 1).1).sT)],int ((bM aO aB 1).2)]) (ds:= [agg [sl 1 rE_ ((bM aO aB 1).1).aC,sl 1 gE ((bM aO aB 1).1).sT],int ((bM aO aB 1).2)]) ⟨fun h=>dY (cs:= [fre N (sl 1 rE_ ((bM aO aB 1).1).aC),fre N (sl 1 gE ((bM aO aB 1).1).sT)]) (ds:= [sl 1 rE_ ((bM aO aB 1).1).aC,sl 1 gE ((bM aO aB 1).1).sT]) ⟨fun h=>eS h,fun h=>eS h,tV⟩ h,fun h=>h,tV⟩ h) (mv (xt J J (xt J J (al (key:=3) T.z25 (eC (eC eZ)) fun b3=>(sPA (cs':= [sl 1 rE_ ((bM aO aB 1).1).aC,sl 1 gE ((bM aO aB 1).1).sT]) J J J T.aY J J (ag (nl (th (sq (rg (bC (φs:= []) (φ:=agg [sl 1 rE_ aO.aC,sl 1 gE aO.sT]) trivial mkv.xI T.Fu (bC (φs:= []) (φ:=agg [sl 1 rE_ aB.aC,sl 2 sE aB.sT]) trivial mkv.uE T.Fv (tbU (ψ:=tab) 22 9999 J J (eW (φs:= [both (agg [sl 1 rE_ aO.aC,sl 1 gE aO.sT]) tab,agg [sl 1 rE_ aB.aC,sl 2 sE aB.sT],int 2]) (φ:=tup [agg [sl 1 rE_ ((bM aO aB 2).1).aC,sl 1 gE ((bM aO aB 2).1).sT],int ((bM aO aB 2).2)]) ⟨J,J,J,tV⟩ (mkr.xH aO aB aS 2) T.LH (fun N hN=>fun h=>jL (cs:= [agg [fre N (sl 1 rE_ ((bM aO aB 2).1).aC),fre N (sl 1 gE ((bM aO aB 2).1).sT)],int ((bM aO aB 2).2)]) (ds:= [agg [sl 1 rE_ ((bM aO aB 2).1).aC,sl 1 gE ((bM aO aB 2).1).sT],int ((bM aO aB 2).2)]) ⟨fun h=>dY (cs:= [fre N (sl 1 rE_ ((bM aO aB 2).1).aC),fre N (sl 1 gE ((bM aO aB 2).1).sT)]) (ds:= [sl 1 rE_ ((bM aO aB 2).1).aC,sl 1 gE ((bM aO aB 2).1).sT]) ⟨fun h=>eS h,fun h=>eS h,tV⟩ h,fun h=>h,tV⟩ h) (mv (xt J J (xt J J (al (key:=5) T.z25 (eC (eC eZ)) fun b5=>(sPA (cs':= [sl 1 rE_ ((bM aO aB 2).1).aC,sl 1 gE ((bM aO aB 2).1).sT]) J J J T.aY J J (ag (nl (th (sq (dr (nh:=9) [0,0,2,7,15,31,31,63,255] T.mixed kR ?_)))))))))))))))))))))))))))))))))))))))))))))))))
 refine st_ J (fun _ _ _ gq kq=>lPA (gq.1.trans J) J T.aY J kq) ?_
 refine st_ J (fun _ _ _ gq kq=>bC (φs:= []) (φ:=agg [sl 1 rE_ aO.aC,sl 1 gE aO.sT]) trivial mkv.xI T.Fu kq) ?_
 refine st_ J (fun _ _ _ gq kq=>bC (φs:= []) (φ:=agg [sl 1 rE_ aB.aC,sl 2 sE aB.sT]) trivial mkv.uE T.Fv kq) ?_
 refine st_ J (fun _ _ _ gq kq=>bC (φs:= [agg [sl 1 rE_ ((bM aO aB 1).1).aC,sl 1 gE ((bM aO aB 1).1).sT],agg [sl 1 rE_ aO.aC,sl 1 gE aO.sT],agg [sl 1 rE_ aB.aC,sl 2 sE aB.sT],int 1]) (φ:=tup [bl (mE ((bM aO aB 1).1) aO aB 1),int (gW ((bM aO aB 1).1) aO aB 1)]) ⟨(gq.1.trans J),(gq.2.1.trans J),(gq.2.2.1.trans J),J,tV⟩ (mkr.Ic ((bM aO aB 1).1) aO aB aS 1 aS aS) T.RS kq) ?_
 refine st_ J (fun _ _ _ gq kq=>mv' (gq.1.trans J) kq) ?_
 refine st_ J (fun _ _ _ gq kq=>xt (gq.1.trans J) J kq) ?_
 refine st_ J (fun _ _ _ gq kq=>xt (gq.1.trans J) J kq) ?_
 refine st_ J (fun _ _ _ gq kq=>ag' (gq.1.trans J) kq) ?_
 refine st_ J (fun _ _ _ gq kq=>ag' (gq.1.trans J) kq) ?_
 refine pn (nl (th (sq (rg (mv (bi J J fS (mv ?_)))))))
 apply gM (t:=36) (pd:=41) rfl
 rotate_left
 ·intro hg0 fin
  have hg0':=hg0
  try simp at hg0'
  exact gy J J J hg0 (fP J T.bE (gy J J J hg0 (lP J J J T.bP (gy J J J hg0 (fc (bB 38 J) fun hm38=>(lnF J T.cR (gy J J J hg0 (bi J J jV (pkT J hg0 J (drp (X:= [(40,_),(39,_),(38,_),(37,_)]) ⟨J,J,J,J,tV⟩ fin))))))))))
 ·intro hg0 fin
  exact gn J J J hg0 J J (gn J J J hg0 J J (gn J J J hg0 J J (gn J J J hg0 J J (pkF J hg0 J (drp (X:= [(40,_),(39,_),(38,_),(37,_)]) ⟨J,J,J,J,tV⟩ fin)))))
 refine mv ?_
 apply gM (t:=42) (pd:=50) rfl
 rotate_left
 ·intro hg1 fin
  have hg1':=hg1
  try simp at hg1'
  exact gy J J J hg1 (fP J T.bE (gy J J J hg1 (lP J J J T.bP (gy J J J hg1 (iF J J T.cR O gB (gy J J J hg1 (fF J T.cE (gy J J J hg1 (lF J J T.aQ (gy J J J hg1 (bsE (enc:=nE) (xs:= [1]) (css:= [[int 1]]) T.cH ⟨J,J,p1 (φ:=int 1) J,tV⟩ J J J J (gy J J J hg1 (bC (φs:= [sl 1 nE (ix aB.sT 0).aP,sl 1 nE [1]]) (φ:=bl (decide ((ix aB.sT 0).aP= [1]))) ⟨J,J,tV⟩ (ref01.uG _ _) T.KH (pkT J hg1 J (drp (X:= [(49,_),(48,_),(47,_),(46,_),(45,_),(44,_),(43,_)]) ⟨J,J,J,J,J,J,J,tV⟩ fin)))))))))))))))
 ·intro hg1 fin
  exact gn J J J hg1 J J (gn J J J hg1 J J (gn J J J hg1 J J (gn J J J hg1 J J (gn J J J hg1 J J (gn J J J hg1 J J (gn J J J hg1 J J (pkF J hg1 J (drp (X:= [(49,_),(48,_),(47,_),(46,_),(45,_),(44,_),(43,_)]) ⟨J,J,J,J,J,J,J,tV⟩ fin))))))))
 refine mv ?_
 apply gM (t:=51) (pd:=54) rfl
 rotate_left
 ·intro hg2 fin
  have hg2':=hg2
  try simp at hg2'
  exact gy J J J hg2 (mv (gy J J J hg2 (bi J J fS (pkT J hg2 J (drp (X:= [(53,_),(52,_)]) ⟨J,J,tV⟩ fin)))))
 ·intro hg2 fin
  exact gn J J J hg2 J J (gn J J J hg2 J J (pkF J hg2 J (drp (X:= [(53,_),(52,_)]) ⟨J,J,tV⟩ fin)))
 refine mv ?_
 apply gM (t:=55) (pd:=58) rfl
 rotate_left
 ·intro hg3 fin
  have hg3':=hg3
  try simp at hg3'
  exact gy J J J hg3 (mv (gy J J J hg3 (bi J J fS (pkT J hg3 J (drp (X:= [(57,_),(56,_)]) ⟨J,J,tV⟩ fin)))))
 ·intro hg3 fin
  exact gn J J J hg3 J J (gn J J J hg3 J J (pkF J hg3 J (drp (X:= [(57,_),(56,_)]) ⟨J,J,tV⟩ fin)))
 refine mv ?_
 apply gM (t:=59) (pd:=62) rfl
 rotate_left
 ·intro hg4 fin
  have hg4':=hg4
  try simp at hg4'
  exact gy J J J hg4 (mv (gy J J J hg4 (bi J J fS (pkT J hg4 J (drp (X:= [(61,_),(60,_)]) ⟨J,J,tV⟩ fin)))))
 ·intro hg4 fin
  exact gn J J J hg4 J J (gn J J J hg4 J J (pkF J hg4 J (drp (X:= [(61,_),(60,_)]) ⟨J,J,tV⟩ fin)))
 refine mv ?_
 apply gM (t:=63) (pd:=65) rfl
 rotate_left
 ·intro hg5 fin
  have hg5':=hg5
  try simp at hg5'
  exact gy J J J hg5 (mv (pkT J hg5 J (drp (X:= [(64,_)]) ⟨J,tV⟩ fin)))
 ·intro hg5 fin
  exact gn J J J hg5 J J (pkF J hg5 J (drp (X:= [(64,_)]) ⟨J,tV⟩ fin))
 refine ag (nl (th (rt ?_)))
 have hr0:(((((((decide (((gdS aO aB).2)=0))&&(decide (0<(aB.sT.length:Int))))&&(decide ((ix aB.sT 0).aP= [1])))&&(decide (((bM aO aB 1).2)=0)))&&(decide (((bM aO aB 2).2)=3)))&&(decide ((gW ((bM aO aB 1).1) aO aB 1)=0)))&&(mE ((bM aO aB 1).1) aO aB 1))=true:=by
  rw[q9,q1,q8,r1,r2];rfl
 exact rE () [.tmp 0] J [bl (((((((decide (((gdS aO aB).2)=0))&&(decide (0<(aB.sT.length:Int))))&&(decide ((ix aB.sT 0).aP= [1])))&&(decide (((bM aO aB 1).2)=0)))&&(decide (((bM aO aB 2).2)=3)))&&(decide ((gW ((bM aO aB 1).1) aO aB 1)=0)))&&(mE ((bM aO aB 1).1) aO aB 1))] ⟨.tmp J,tV⟩ (cA1 (fun x0=>rV [bl x0]) hr0) trivial eX
end mkv
end
section
open ref01 ref03 ref04 ref06 prog prog2 prog3 prog4 prog5 prog6 prog7 prog8 prog9 prog13 prog15 starts Part Rungs LeftM TrimM RoundM MergeM BisM BisM4 BisM5 Itoa Keys WalkM StepM WitM JudgM JudgM2 search refw judg wit refj sysw satj divr divs divd dive divg divw divv divp divt LevM LevM2 TrimI QuoM FailM DivM RefM FitM TogM ProdM prodw GenW CompM CompP CrossM KeepK GuardM MakeM LsysM LsysM2 MakeM2 KeepB AtM ClsM LstM MakeM3 GuaW LeadM FixM ValidM mkk mkp mkl mkc mkq mkg mkr mks mks2 mkv
namespace mkw
end mkw
end
section
namespace FixP
open ref01 ref03 ref04 ref06 Part Rungs LeftM TrimM RoundM MergeM BisM BisM3 BisM4 BisM5 BisM6 Keys WalkM WitM JudgM JudgM2 LevM divr divs divd dive divf divv judg refj sysw satj ChsM BisS TrimI ValidM WitSat WitVal QuoM FailM DivM RefM GenW CompM CrossM FitM TogM KeepK GuardM MakeM LsysM LsysM2 MakeM2 KeepB LstM MakeM3 GuaW LeadM FixM
theorem Ku {t s:SS} (ht:oK t) (hs:oK s) (ha:t.aC=s.aC) (hq:(bN t s).2=true):oK (bN t s).1∧(bN t s).1.sT.length≤500∧(bN t s).1.aC=t.aC:=by
 refine⟨Vj ht hs ha hq,?_⟩
 unfold bN at hq ⊢
 cases e:ix (hOl s) 0 with
 |true=>rw[if_pos rfl];exact⟨by show 1≤500;omega,rfl⟩
 |false=>
  rw[e] at hq
  rw[if_neg (by simp)] at hq ⊢
  split at hq
  ·next g=>
   rw[if_pos g]
   have hN:=GI ht (kC hs) (yL hs) (by rw[kK,←ha])
   have hok:oK (eM t (tR s).1):=PO ht hN rfl O
   have:=wT hok
   have e2:(eM t (tR s).1).sT.length=(qL t (tR s).1).length:=by simp[eM]
   exact⟨by show(tR (eM t (tR s).1)).1.sT.length≤500;omega,by rw[kK];rfl⟩
  ·cases hq
noncomputable def jD (t s:SS) (u:Int):aA × Int:=
 if iP t s=0 then(if eI (t.aC.length:Int) u=true then bW (bN t s).1 (bN t s).2 u else(⟨[],[]⟩,1)) else(⟨[],[]⟩,iP t s)
end FixP
end
section
open ref01 ref03 ref04 ref06 prog prog2 prog3 prog4 prog5 prog6 prog7 prog8 prog9 prog13 prog15 starts Part Rungs LeftM TrimM RoundM MergeM BisM BisM4 BisM5 Itoa Keys WalkM StepM WitM JudgM JudgM2 search refw judg wit refj sysw satj divr divs divd dive divg divw divv divp divt LevM LevM2 TrimI QuoM FailM DivM RefM FitM TogM ProdM prodw GenW CompM CompP CrossM KeepK GuardM MakeM LsysM LsysM2 MakeM2 KeepB AtM ClsM LstM MakeM3 GuaW LeadM FixM FixP ValidM mkk mkp mkl mkc mkq mkg mkr mks mks2 mkv mkw
namespace T
theorem Xa:Ent Tryz.prog 83:=aZ kR
theorem Xb:Ent Tryz.prog 84:=aZ kR
end T
namespace mkw2
theorem Un (t:SS) (htm:eB t) (s:SS) (hsm:eB s) (u:Int):
 AL.Fn Tryz.prog 37 [jA (spec t),spec s,int u] [] (ι:=Unit) (fun N _=>tup [agg [fre N (strs (jD t s u).1.aC),fre N (sl 1 gE (jD t s u).1.sT)],int (jD t s u).2]) (fun _=> []):=by
 refine fnI Tryz.func37 rfl rfl (fun w0 F0=> ?_)
 refine tbI 0 9999 rfl ?_
 refine uK (ψ:=tab) 9999 997 rfl ?_
 refine fcC (cG 0 J) (fun hS0=> ?_)
 obtain⟨hsa0,hss0,hse0⟩:=sLn hS0
 refine fcC (cG 1 J) (fun hS1=> ?_)
 obtain⟨hsa1,hss1,hse1⟩:=sLn hS1
 refine sq (rg (bx (key:=3) (cs:= [sl 1 rE_ t.aC,sl 2 sE t.sT]) J fun b3=>(bx (key:=4) (cs:= [sl 1 rE_ s.aC,sl 2 sE s.sT]) J fun b4=>(al (key:=6) T.z25 (eC (eC eZ)) fun b6=>(ag (nl (th (sq (sq (rg (lPA J J T.aI J (lPA J J T.aI J (bC (φs:= [agg [sl 1 rE_ t.aC,sl 2 sE t.sT],agg [sl 1 rE_ s.aC,sl 2 sE s.sT]]) (φ:=int (iP t s)) ⟨J,J,tV⟩ (judg.vI t s aS aS) T.Xa (ag (nl (th (sq (rg (mv (bi J J gO (nl (th ?_))))))))))))))))))))))
 refine cd J (fun hc0=> ?_) (fun hc0=> ?_)
 ·try simp at hc0
  have hd:jD t s u=(⟨[],[]⟩,iP t s):=by unfold jD;rw[if_neg hc0]
  refine sq (rg (bd (css:= []) T.kQ (eC (eC eZ)) trivial (mv (sPA (cs':= [eqv (.slice none 0 0),eqv (.slice none 0 0)]) J J J T.aY J J (ag (nl (th (rt (rt_ ?_)))))))))
  refine dI 6 0 (fre w0.heap.size (sl 1 rE_ [])) rfl rfl dP ?_
  refine dI 6 1 (fre w0.heap.size (sl 1 gE [])) rfl rfl dP ?_
  have hr0: []=((jD t s u).1.aC):=by
   rw[hd]
  have hr1: []=((jD t s u).1.sT):=by
   rw[hd]
  have hr2:((iP t s):Int)=((jD t s u).2):=by
   rw[hd]
  exact rE () [.cell 6 25,.tmp 7] J [agg [fre w0.heap.size (sl 1 rE_ []),fre w0.heap.size (sl 1 gE [])],int (iP t s)] ⟨.agg J J T.aY J J,.tmp J,tV⟩ (cA3 (fun x0 x1 x2=>rV [agg [fre w0.heap.size (sl 1 rE_ x0),fre w0.heap.size (sl 1 gE x1)],int x2]) hr0 hr1 hr2) trivial eX
 ·try simp at hc0
  obtain⟨htv,hsv,hts⟩:=Go.Proofs.YtnlfjojfgghchaaGreatDoor.SZ hc0
  have ht:=gH htv
  have hs:=gH hsv
  have hn8:=ht.n8
  refine sk (th (sq (sq (rg (fP J T.cD (lP J J J T.bZ (fc (bB 19 J) fun hm19=>(lnF J T.eH (mv (bC (φs:= [int (t.aC.length:Int),int u]) (φ:=bl (eI (t.aC.length:Int) u)) ⟨J,J,tV⟩ (prodp.Qc _ _ O O) T.Fq (no J (nl (th ?_)))))))))))))
  refine cd J (fun hc1=> ?_) (fun hc1=> ?_)
  ·try simp at hc1
   have hd:jD t s u=(⟨[],[]⟩,1):=by unfold jD;rw[if_pos hc0,if_neg (by simpa using hc1)]
   refine sq (rg (bd (css:= []) T.kQ (eC (eC eZ)) trivial (sPA (cs':= [eqv (.slice none 0 0),eqv (.slice none 0 0)]) J J J T.aY J J (ag (nl (th (rt (rt_ ?_))))))))
   refine dI 6 0 (fre w0.heap.size (sl 1 rE_ [])) rfl rfl dP ?_
   refine dI 6 1 (fre w0.heap.size (sl 1 gE [])) rfl rfl dP ?_
   have hr0: []=((jD t s u).1.aC):=by
    rw[hd]
   have hr1: []=((jD t s u).1.sT):=by
    rw[hd]
   have hr2:(1:Int)=((jD t s u).2):=by
    rw[hd]
   exact rE () [.cell 6 25,.tmp 7] J [agg [fre w0.heap.size (sl 1 rE_ []),fre w0.heap.size (sl 1 gE [])],int 1] ⟨.agg J J T.aY J J,.tmp J,tV⟩ (cA3 (fun x0 x1 x2=>rV [agg [fre w0.heap.size (sl 1 rE_ x0),fre w0.heap.size (sl 1 gE x1)],int x2]) hr0 hr1 hr2) trivial eX
  ·try simp at hc1
   have hse:eI (t.aC.length:Int) u=true:=by simpa using hc1
   obtain⟨hu0,hu1⟩:=wZ ht.n8 hse
   have hd:jD t s u=bW (bN t s).1 (bN t s).2 u:=by unfold jD;rw[if_pos hc0,if_pos hse]
   have hgk:(bN t s).2=true→oK (bN t s).1∧(bN t s).1.sT.length≤500:=fun h=>⟨(Ku ht hs hts h).1,(Ku ht hs hts h).2.1⟩
   refine sk (th (sq (rg (lPA J J T.aI J (lPA J J T.aI J (bC (φs:= [agg [sl 1 rE_ t.aC,sl 2 sE t.sT],agg [sl 1 rE_ s.aC,sl 2 sE s.sT]]) (φ:=tup [agg [sl 1 rE_ ((bN t s).1).aC,sl 2 sE ((bN t s).1).sT],bl ((bN t s).2)]) ⟨J,J,tV⟩ (divq.IZ t s aS aS aS) T.Xb (mv (xt J J (xt J J (al (key:=9) T.z28 (eC (eC eZ)) fun b9=>(sPA (cs':= [sl 1 rE_ ((bN t s).1).aC,sl 2 sE ((bN t s).1).sT]) J J J T.aI J J (ag (nl (th (sq (rg (lPA J J T.aI J (mv (mv (tbU (ψ:=tab) 31 9999 J J (eW (φs:= [both (agg [sl 1 rE_ ((bN t s).1).aC,sl 2 sE ((bN t s).1).sT]) tab,bl ((bN t s).2),int u]) (φ:=tup [agg [fre w0.heap.size (sl 1 rE_ ((bW ((bN t s).1) ((bN t s).2) u).1).aC),fre w0.heap.size (sl 1 gE ((bW ((bN t s).1) ((bN t s).2) u).1).sT)],int ((bW ((bN t s).1) ((bN t s).2) u).2)]) ⟨J,J,J,tV⟩ (mkr.Kt ((bN t s).1) ((bN t s).2) aS u O O) T.RP (fun N hN=>fun h=>jL (cs:= [agg [fre N (sl 1 rE_ ((bW ((bN t s).1) ((bN t s).2) u).1).aC),fre N (sl 1 gE ((bW ((bN t s).1) ((bN t s).2) u).1).sT)],int ((bW ((bN t s).1) ((bN t s).2) u).2)]) (ds:= [agg [fre w0.heap.size (sl 1 rE_ ((bW ((bN t s).1) ((bN t s).2) u).1).aC),fre w0.heap.size (sl 1 gE ((bW ((bN t s).1) ((bN t s).2) u).1).sT)],int ((bW ((bN t s).1) ((bN t s).2) u).2)]) ⟨fun h=>dY (cs:= [fre N (sl 1 rE_ ((bW ((bN t s).1) ((bN t s).2) u).1).aC),fre N (sl 1 gE ((bW ((bN t s).1) ((bN t s).2) u).1).sT)]) (ds:= [fre w0.heap.size (sl 1 rE_ ((bW ((bN t s).1) ((bN t s).2) u).1).aC),fre w0.heap.size (sl 1 gE ((bW ((bN t s).1) ((bN t s).2) u).1).sT)]) ⟨fun h=>dA hN h,fun h=>dA hN h,tV⟩ h,fun h=>h,tV⟩ h) (xt J J (xt J J (sPA (cs':= [fre w0.heap.size (sl 1 rE_ ((bW ((bN t s).1) ((bN t s).2) u).1).aC),fre w0.heap.size (sl 1 gE ((bW ((bN t s).1) ((bN t s).2) u).1).sT)]) J J J T.aY J J (ag (nl (th (rt ?_))))))))))))))))))))))))))))
   have hr0:((bW ((bN t s).1) ((bN t s).2) u).1).aC=((jD t s u).1.aC):=by
    rw[hd]
   have hr1:((bW ((bN t s).1) ((bN t s).2) u).1).sT=((jD t s u).1.sT):=by
    rw[hd]
   have hr2:(((bW ((bN t s).1) ((bN t s).2) u).2):Int)=((jD t s u).2):=by
    rw[hd]
   exact rE () [.cell 6 25,.tmp 7] J [agg [fre w0.heap.size (sl 1 rE_ ((bW ((bN t s).1) ((bN t s).2) u).1).aC),fre w0.heap.size (sl 1 gE ((bW ((bN t s).1) ((bN t s).2) u).1).sT)],int ((bW ((bN t s).1) ((bN t s).2) u).2)] ⟨.agg J J T.aY J J,.tmp J,tV⟩ (cA3 (fun x0 x1 x2=>rV [agg [fre w0.heap.size (sl 1 rE_ x0),fre w0.heap.size (sl 1 gE x1)],int x2]) hr0 hr1 hr2) trivial eX
end mkw2
end
section
open ref01 ref03
instance:Kinds nE 1 (fun _=>Sh.i):=MO (fun _=>⟨_,_,rfl⟩)
instance:Kinds rE_ 1 (fun _=>Sh.s):=MO (fun _=>⟨_,rfl⟩)
theorem RU {α:Type} {n:Nat} {enc:α→List AV} {xs:List α} {w:World} {F:Fz} {v:Value} (h:(sl n enc xs).p w F v):∃A m c,v= .slice A m c:=by
 have h2:=KX h
 rw[←h2];cases v<;>exact⟨_,_,_,rfl⟩
theorem QS (y:SA) {w:World} {F:Fz} {us:List Value} (h:All2 w F (sE y) us) (j:Nat) (u:Value) (hj:us[j]?=some u):∃A m c,u= .slice A m c:=by
 match us,h with
 | [a,b],⟨h0,h1,_⟩=>
   match j with
   |0=>simp at hj;subst hj;exact RU h0
   |1=>simp at hj;subst hj;exact RU h1
   |j+2=>simp at hj
namespace spoil
end spoil
end
section
open ref01 ref03 judg wit sysw spoil
attribute [local semireducible] eqv in
instance:Kinds pE 2 (fun _=>Sh.i):=⟨fun x {w F vs} ha j v hj=>by
 match vs,ha with
 | [a,b],⟨h0,h1,_⟩=>
   match j with
   |0=>simp at hj;subst hj;exact⟨_,_,h0⟩
   |1=>simp at hj;subst hj;exact⟨_,_,h1⟩
   |j+2=>simp at hj⟩
namespace wreck
end wreck
end
end Go.Proofs.YtnlfjojfgghchaaGreatDoor
