/- The walks of the functions and the plain laws. Own texts of this claim, packed: Mkmkr, MkLeadM, Mkdivc, Mkdivj, Mkdivq, Mkdivm, Mkdiva, Mkdivt. -/
import Derived.Test.YtnlfjojfgghchaaGreatDoorX28
import Derived.Test.YtnlfjojfgghchaaGreatDoorX22
import Derived.Test.YtnlfjojfgghchaaGreatDoorX16
import Derived.Test.YtnlfjojfgghchaaGreatDoorX14
import Derived.Test.YtnlfjojfgghchaaGreatDoorX15
import Derived.Test.YtnlfjojfgghchaaGreatDoorX06
import Derived.Test.YtnlfjojfgghchaaGreatDoorX19
set_option linter.all false
namespace Go.Proofs.YtnlfjojfgghchaaGreatDoor
open AL Go
set_option maxRecDepth 100000
section
open ref01 ref03 ref04 ref06 prog prog2 prog3 prog4 prog5 prog6 prog7 prog8 prog9 prog15 Part Rungs LeftM TrimM RoundM MergeM BisM BisM4 BisM5 Itoa Keys WalkM StepM WitM JudgM JudgM2 search refw judg wit refj sysw satj divr divs divd dive divv TrimI QuoM FailM DivM FitM TogM ProdM prodw GenW CompM CrossM KeepK GuardM MakeM LsysM LsysM2 MakeM2 KeepB AtM ClsM LstM MakeM3 GuaW ValidM mkk mkp mkl mkc mkq mkg
theorem Qc {f:FuncId} {w:World} {F:Fz} {v:Value} (h:(agg [eqv (.func (.func f) #[] #[])]).p w F v):(agg [clo f []]).p w F v:=jE (cs:= [eqv (.func (.func f) #[] #[])]) (ds:= [clo f []]) ⟨fun h=>VO h,tV⟩ h
theorem Qd {l:List Int} {m:Nat} {a:Int} (nx:List Int) (h:l[m]?=some a):(l.take (m+1)).map (fun(a:Int)=>((a,ix nx a.toNat):Int × Int))=(l.take m).map (fun(a:Int)=>((a,ix nx a.toNat):Int × Int))++ [(a,ix nx a.toNat)]:=by
 rw[List.take_succ,h,List.map_append];rfl
theorem Ee {s:SS} {u:Int}:cU s false u=(⟨[],[]⟩,2):=by unfold cU;simp
theorem GK {s:SS} {u:Int} (h:ix (hOl (tR (aU u s)).1) 0=true):cU s true u=(⟨[],[]⟩,3):=by unfold cU;simp[h]
theorem Jd {s:SS} {u:Int} (h:ix (hOl (tR (aU u s)).1) 0=false):cU s true u=(iW lgC (tR (aU u s)).1,0):=by unfold cU;simp[h]
theorem XD {m n k:aA} {q:List (Int × Int)} (hm:bN m=true) (hn:bN n=true) (h:mF m n k q) (hz:m.sT.length*n.sT.length<5000) (hz2:bR m.sT*bR n.sT≤400000):bN k=true:=
 Kf hm hn h (by have:=Pj h;omega) (Nat.le_trans (Pk h) (Nat.le_trans (IC h.nd h.box _) hz2))
noncomputable def aM (m:aA) (t:SS) (u:Int):aA × Int:=
 if dA m t=0 then(if eO (t.aC.length:Int) u=true then cU (bC m t).1 (bC m t).2 u else(⟨[],[]⟩,1)) else(⟨[],[]⟩,dA m t)
noncomputable def iE (x m:aA) (t:SS) (u:Int):Int:=
 if bN x=true∧bN m=true then(if cE t=true then(if x.aC=m.aC∧x.aC=t.aC then(if eO (t.aC.length:Int) u=true then 0 else 1) else 10) else 30) else 20
noncomputable def lX (x m:aA) (t:SS) (u:Int):Bool:=decide (iE x m t u=0)&&(@decide (lT m x t) (Classical.propDecidable _)&&dB x u)
theorem Ni {m x k:aA} {t:SS} {u:Int} {q:List (Int × Int)} {v:VJ} (hm:bA m) (hx:bA x) (ht:oK t) (h:mF m x k q) (hk:bA k) (hv:zB k t v) (hd:iE x m t u=0):lX x m t u=(v.holds&&dB x u):=by
 unfold lX
 rw[hd,decide_eq_true rfl,Bool.true_and]
 congr 1
 rw[Bool.eq_iff_iff,LY hv,Pi hm hx ht h];simp
theorem Cl {x m:aA} {t:SS} {u:Int} (h:iE x m t u≠0):lX x m t u=false:=by unfold lX;rw[decide_eq_false h,Bool.false_and]
theorem Ue {m x:aA} (hm:bN m=true) (hx:bN x=true) (h:m.aC=x.aC):iI m x=0:=by unfold iI;rw[if_pos hm,if_pos hx,if_pos h]
namespace T
theorem z87:eR Tryz.prog 87 [.slice none 0 0]:=cR kR
theorem Qe:fA Tryz.prog 104 0 0:=eL kR
theorem WG:eG Tryz.prog 102:=fT kR
theorem WH:Ent Tryz.prog 111:=aN kR
theorem WJ:Ent Tryz.prog 121:=aN kR
theorem XE:Ent Tryz.prog 72:=aN kR
theorem XF:iQ Tryz.prog 104 [(0,1)] [.nilFunc]:=jD kR kR
theorem XG:Ent Tryz.prog 75:=aN kR
theorem Rw:Ent Tryz.prog 61:=aN kR
theorem XH:Ent Tryz.prog 62:=aN kR
theorem XI:Ent Tryz.prog 69:=aN kR
theorem XJ:Ent Tryz.prog 70:=aN kR
theorem Uf:FB Tryz.prog 68 0 0 4:=Ib kR
theorem XK:Ent Tryz.prog 71:=aN kR
end T
namespace mkr
theorem Qf (s:SS) (hs:oK s) (hf:s.sT.length≤500) (hne:∀y,y<s.sT.length→acc s y≠[]):
 AL.Fn Tryz.prog 75 [agg [clo 111 []],mC (spec s)] [] (ι:=Unit) (fun N _=>agg [fre N (strs s.aC),fre N (sl 1 gE (iW lgC s).sT)]) (fun _=> []):=by
 refine fnI Tryz.func75 rfl rfl (fun w0 F0=> ?_)
 have f1:=hs.few1;have hn8:=hs.n8;have hc:=MZ hne;have hmv:=MY hs hc hf
 refine tbI 1 9999 rfl ?_
 refine CF (ψ:=tab) 9999 997 rfl ?_
 refine fcC (bW 1 J) (fun hS1=> ?_)
 obtain⟨hsa1,hss1,hse1⟩:=sLn hS1
 refine sq (rg (bx (key:=2) (cs:= [clo 111 []]) J fun b2=>(bx (key:=3) (cs:= [sl 1 rE_ s.aC,sl 2 sE s.sT]) J fun b3=>(al (key:=4) T.z25 (eC (eC eZ)) fun b4=>(nl (th (sq (rg (fP J T.dH (lP J J J T.cM (kK (φs:= [sl 1 rE_ s.aC]) (φ:=sl 1 rE_ s.aC) ⟨J,tV⟩ (prog.gJ _ O) T.tJ (fun N hN=>fun h=>iY h) (bd (css:= [(0,_)]) T.oD (eC (eC eZ)) ⟨J,J,p1 (φ:=sl 1 rE_ s.aC) J,tV⟩ (al (key:=5) T.z25 (eC (eC eZ)) fun b5=>(sPA (cs':= [sl 1 rE_ s.aC,eqv (.slice none 0 0)]) J J J T.bE J J (nl (th (sq (sq (rg (fP J T.bL (lP J J J T.bT (fc (aV 15 J) fun hm15=>(lnF J T.cO (mv (nl (th (bk ?_)))))))))))))))))))))))))))
 refine nwC 50 87 1 gE (jS 5 1 (osl 50 (.slice none 0 0)) rfl rfl dM ?_)
 have hI0_0:0≤s.sT.length:=by
  first|omega|simp
 have hI0_1:([]:List (List (Int × Int)))=mkO (lgC s) s 0:=by
  rfl
 refine lp (κ:=Nat × Value × (List (List (Int × Int)))) (fun p=> [(2,ptr 2 b2 0),(4,ptr 4 b4 0),(5,ptr 5 b5 0),(15,sl 2 sE s.sT),(16,int (s.sT.length:Int)),(17,int (p.1:Int)),(9999,tab)]) (fun p=> [(2,cell b2 [clo 111 []]),(3,cell b3 [sl 1 rE_ s.aC,sl 2 sE s.sT]),(4,cell b4 [eqv (.slice none 0 0),eqv (.slice none 0 0)]),(5,cell b5 [sl 1 rE_ s.aC,osl 50 p.2.1]),(50,own p.2.1 87 1 gE p.2.2),(997,eB tab)]) (fun p=>(p.1≤s.sT.length)∧(p.2.2=mkO (lgC s) s p.1)) (fun p=>s.sT.length- p.1) ⟨0,(.slice none 0 0),([]:List (List (Int × Int)))⟩ ⟨hI0_0,hI0_1⟩ ⟨id,id,id,id,id,id,id,tV⟩ ⟨rI,rI,rI,rI,rI,rI,tV⟩ ?_
 intro⟨k,uo,aI⟩ hG0
 obtain⟨hk0,houts⟩:(k≤s.sT.length)∧(aI=mkO (lgC s) s k):=hG0
 show Ct _ _ _ _ [(2,ptr 2 b2 0),(4,ptr 4 b4 0),(5,ptr 5 b5 0),(15,sl 2 sE s.sT),(16,int (s.sT.length:Int)),(17,int (k:Int)),(9999,tab)] [(2,cell b2 [clo 111 []]),(3,cell b3 [sl 1 rE_ s.aC,sl 2 sE s.sT]),(4,cell b4 [eqv (.slice none 0 0),eqv (.slice none 0 0)]),(5,cell b5 [sl 1 rE_ s.aC,osl 50 uo]),(50,own uo 87 1 gE aI),(997,eB tab)] _
 have hol:aI.length≤500:=by rw[houts,TS];omega
 refine sq (rg (bi J J aO (nl (th (sq ?_)))))
 refine cd J (fun hc0=> ?_) (fun hc0=> ?_)
 ·try simp at hc0
  have hst:=hs.st k O
  have hsl:=hst.len
  have hac:=hst.ac
  have hcin:(gR (ix s.sT k).aP)∈acc s k:=hc k O
  have hal:0<(ix s.sT k).aP.length:=List.length_pos_iff.2 (hne k O)
  have hcb:0≤(gR (ix s.sT k).aP)∧(gR (ix s.sT k).aP)<256:=CompM.xN hs O _ hcin
  have hcut:aK 63 (gR (ix s.sT k).aP)=aK s.aC.length (gR (ix s.sT k).aP):=TU hs O hcin
  refine sk (th (sq (bk (sq (rg (iF J J T.cO O gB (lFA J T.dJ (Nat.le_of_ble_eq_true J) (al (key:=7) T.z79 (eC (eC eZ)) fun b7=>(sPA (cs':= [sl 1 nE (ix s.sT k).aP,sl 1 nE (ix s.sT k).next]) J J J T.dJ J J (nl (th (sq (rg (al (key:=8) T.z87 (eC eZ) fun b8=>(nl (th (sq (sq (rg (fP J T.Qe (lP J J J T.WG (fP J T.cK (lP J J J T.bD (Xf (φs:= [sl 1 nE (ix s.sT k).aP]) (φ:=int (gR (ix s.sT k).aP)) J ⟨J,tV⟩ (Kh (ix s.sT k).aP hal hac) T.WH (bB (φs:= [int (gR (ix s.sT k).aP)]) (φ:=clo 137 [fp [int (gR (ix s.sT k).aP)]]) ⟨J,tV⟩ (prog3.tE (gR (ix s.sT k).aP)) T.yX (nl (th (bk (nwC 80 94 2 pE (jS 8 0 (osl 80 (.slice none 0 0)) J J dM ?_))))))))))))))))))))))))))))))
  have hR0:([]:List (Int × Int))=((aK 63 (gR (ix s.sT k).aP)).take 0).map (fun(a:Int)=>((a,ix (ix s.sT k).next a.toNat):Int × Int)):=by
   rfl
  refine rf (κ:=Value × (List (Int × Int))) 900 (fun p=> [(2,cell b2 [clo 111 []]),(3,cell b3 [sl 1 rE_ s.aC,sl 2 sE s.sT]),(4,cell b4 [eqv (.slice none 0 0),eqv (.slice none 0 0)]),(5,cell b5 [sl 1 rE_ s.aC,osl 50 uo]),(7,cell b7 [sl 1 nE (ix s.sT k).aP,sl 1 nE (ix s.sT k).next]),(8,cell b8 [osl 80 p.1]),(50,own uo 87 1 gE aI),(80,own p.1 94 2 pE p.2),(997,eB tab)]) (fun iR p=>p.2=((aK 63 (gR (ix s.sT k).aP)).take iR).map (fun(a:Int)=>((a,ix (ix s.sT k).next a.toNat):Int × Int))) (fun c p=>False) J (Cv (gR (ix s.sT k).aP) O O) T.uU J (fun _=>J) (fun _=>J) ⟨(.slice none 0 0),([]:List (Int × Int))⟩ hR0 ⟨rI,rI,rI,rI,rI,rI,rI,rI,rI,tV⟩ ?_ ?_ (fun k h=>h.elim) (fun id k h=>h.elim) (fun c k h=>h.elim)
  ·intro m0 ⟨u8x,l1⟩ x0 hG0 hx0 l R w1 M1 F1 hRd
   have hR0:l1=((aK 63 (gR (ix s.sT k).aP)).take m0).map (fun(a:Int)=>((a,ix (ix s.sT k).next a.toNat):Int × Int)):=hG0
   show Ct _ _ _ _ _ ((900,obj l (.loop R)):: [(2,cell b2 [clo 111 []]),(3,cell b3 [sl 1 rE_ s.aC,sl 2 sE s.sT]),(4,cell b4 [eqv (.slice none 0 0),eqv (.slice none 0 0)]),(5,cell b5 [sl 1 rE_ s.aC,osl 50 uo]),(7,cell b7 [sl 1 nE (ix s.sT k).aP,sl 1 nE (ix s.sT k).next]),(8,cell b8 [osl 80 u8x]),(50,own uo 87 1 gE aI),(80,own u8x 94 2 pE l1),(997,eB tab)]) _
   have hm63:m0<63:=by
    have h1:=(List.getElem?_eq_some_iff.1 hx0).1
    have h2:=Gn (gR (ix s.sT k).aP)
    omega
   have hl1l:l1.length≤63:=by rw[hR0,List.length_map,List.length_take];omega
   obtain⟨a,rfl,ha63,hha⟩:=nX hx0
   have hgo:=tP hs (x:=k) O ((dE _ _).2 ⟨_,hcin,hha⟩)
   have hgo2:0≤ix (ix s.sT k).next a∧ix (ix s.sT k).next a<(s.sT.length:Int):=hgo.2
   refine rg (ag (nl (aq hRd J (bk (dr (nh:=9) [0,0,0,4,0,28,60,126,254,511,1023] T.mixed kR ?_)))))
   refine st_ J (fun _ _ _ gq kq=>lP (gq.1.trans J) J J T.gF kq) ?_
   refine st_ J (fun _ _ _ gq kq=>mv' (gq.1.trans J) kq) ?_
   refine st_ J (fun _ _ _ gq kq=>fP (gq.1.trans J) T.cS kq) ?_
   refine st_ J (fun _ _ _ gq kq=>lP (gq.1.trans J) J J T.bD kq) ?_
   refine st_ J (fun _ _ _ gq kq=>mv' (gq.1.trans J) kq) ?_
   refine st_ J (fun _ _ _ gq kq=>iF (gq.1.trans J) (gq.2.1.trans J) T.aX O gB kq) ?_
   refine st_ J (fun _ _ _ gq kq=>lF (gq.1.trans J) J T.aF kq) ?_
   refine st_ J (fun _ _ _ gq kq=>bd (css:= [(0,_),(1,_)]) T.AB (eC (eC eZ)) ⟨J,J,p1 (φ:=int (a:Int)) (by exact(gq.1.trans J)),⟨J,J,p1 (φ:=int (ix (ix s.sT k).next a)) (by exact(gq.2.1.trans J)),tV⟩⟩ kq) ?_
   refine st_ J (fun _ _ _ gq kq=>bsE (enc:=pE) (xs:= [((a:Int),ix (ix s.sT k).next a)]) (css:= [[int (a:Int),int (ix (ix s.sT k).next a)]]) T.oY ⟨J,J,pA (cs:= [int (a:Int),int (ix (ix s.sT k).next a)]) (by exact(gq.1.trans J)),tV⟩ J J J J kq) ?_
   refine pn (ap (key:=80) (zs:= [((a:Int),ix (ix s.sT k).next a)]) bX J J J T.oY (by unfold aT at*;simp;omega) (by unfold aT at*;simp;omega) fun v37=>(cI J J J J T.gF J (nl (eb ?_))))
   have hN0:(l1++ [((a:Int),ix (ix s.sT k).next a)])=((aK 63 (gR (ix s.sT k).aP)).take (m0+1)).map (fun(a:Int)=>((a,ix (ix s.sT k).next a.toNat):Int × Int)):=by
    rw[Qd _ hx0,←hR0,Int.toNat_natCast]
   exact rqN ⟨v37,l1++ [((a:Int),ix (ix s.sT k).next a)]⟩ hN0 ⟨rI,rI,rI,rI,rI,rI,rI,rI,rI,rI,tV⟩
  ·intro⟨u8x,l1⟩ hG0
   have hR0:l1=((aK 63 (gR (ix s.sT k).aP)).take (aK 63 (gR (ix s.sT k).aP)).length).map (fun(a:Int)=>((a,ix (ix s.sT k).next a.toNat):Int × Int)):=hG0
   show At _ _ _ _ [(2,cell b2 [clo 111 []]),(3,cell b3 [sl 1 rE_ s.aC,sl 2 sE s.sT]),(4,cell b4 [eqv (.slice none 0 0),eqv (.slice none 0 0)]),(5,cell b5 [sl 1 rE_ s.aC,osl 50 uo]),(7,cell b7 [sl 1 nE (ix s.sT k).aP,sl 1 nE (ix s.sT k).next]),(8,cell b8 [osl 80 u8x]),(50,own uo 87 1 gE aI),(80,own u8x 94 2 pE l1),(997,eB tab)]
   refine eb (th (rg (fP rfl T.bO (lP rfl rfl rfl T.cF (lP rfl rfl rfl T.gF (fz 80 40 rfl rfl (bsE (enc:=gE) (xs:= [l1]) (css:= [[sl 2 pE l1]]) T.sH ⟨rfl,rfl,p1 (φ:=sl 2 pE l1) rfl,tV⟩ rfl rfl rfl rfl (ap (key:=50) (zs:= [l1]) bX rfl rfl rfl T.sH (by unfold aT at*;simp;omega) (by unfold aT at*;simp;omega) fun v42=>(fP rfl T.bO (cI rfl rfl rfl rfl T.cF rfl (nl (eb (th (rg (bi rfl rfl (aG i6) (mv (nl ?_)))))))))))))))))
   have hN0:(k+1)≤s.sT.length:=by
    first|omega|simp_all
   have hN1:(aI++ [l1])=mkO (lgC s) s (k+1):=by
    rw[PR,houts,hR0,List.take_length,hcut];rfl
   exact ln (⟨k+1,v42,aI++ [l1]⟩:Nat × Value × (List (List (Int × Int)))) ⟨hN0,hN1⟩ dO ⟨id,id,id,id,id,id,id,tV⟩ ⟨rI,rI,rI,rI,rI,rI,tV⟩
 ·try simp at hc0
  refine ex (xt_ (xt_ (xb (th (sq (rg (fzc 5 50 1 J J J J (lPA J J T.bE J (kn 46 (sys (mkM (lgC s) s)) J (by rw[show aI=(mkM (lgC s) s).sT by rw[houts,show k=s.sT.length by omega];exact TT _ _];exact fun h=>h) (tbU (ψ:=tab) 46 9999 J J (UI (φs:= [both (agg [sl 1 rE_ (mkM (lgC s) s).aC,sl 1 gE (mkM (lgC s) s).sT]) tab]) ⟨J,tV⟩ (mkq.PM (mkM (lgC s) s) aS) T.WJ trivial fun N47 i47 hN47=>(kd (φ':=tup [agg [fre w0.heap.size (sl 1 rE_ (fG (mkM (lgC s) s)).aC),fre w0.heap.size (sl 1 gE (fG (mkM (lgC s) s)).sT)],sl 1 nE i47,int 0]) (fun h=>rQ (cs:= [agg [fre N47 (sl 1 rE_ (fG (mkM (lgC s) s)).aC),fre N47 (sl 1 gE (fG (mkM (lgC s) s)).sT)],sl 1 nE i47,int 0]) (ds:= [agg [fre w0.heap.size (sl 1 rE_ (fG (mkM (lgC s) s)).aC),fre w0.heap.size (sl 1 gE (fG (mkM (lgC s) s)).sT)],sl 1 nE i47,int 0]) ⟨fun h=>jE (cs:= [fre N47 (sl 1 rE_ (fG (mkM (lgC s) s)).aC),fre N47 (sl 1 gE (fG (mkM (lgC s) s)).sT)]) (ds:= [fre w0.heap.size (sl 1 rE_ (fG (mkM (lgC s) s)).aC),fre w0.heap.size (sl 1 gE (fG (mkM (lgC s) s)).sT)]) ⟨fun h=>jN hN47 h,fun h=>jN hN47 h,tV⟩ h,fun h=>h,fun h=>h,tV⟩ h) (mv (xt J J (xt J J (xt J J (sPA (cs':= [fre w0.heap.size (sl 1 rE_ (fG (mkM (lgC s) s)).aC),fre w0.heap.size (sl 1 gE (fG (mkM (lgC s) s)).sT)]) J J J T.bE J J (nl (th (sq (rg (lPA J J T.bE J (sPA (cs':= [fre w0.heap.size (sl 1 rE_ (fG (mkM (lgC s) s)).aC),fre w0.heap.size (sl 1 gE (fG (mkM (lgC s) s)).sT)]) J J J T.bE J J (nl (th (rt ?_))))))))))))))))))))))))))
  have hr0:(fG (mkM (lgC s) s)).aC=s.aC:=by
   first|rfl|simp_all|omega
  have hr1:(fG (mkM (lgC s) s)).sT=(iW lgC s).sT:=by
   first|rfl|simp_all|omega
  exact rE () [.cell 4 25] J [agg [fre w0.heap.size (sl 1 rE_ (fG (mkM (lgC s) s)).aC),fre w0.heap.size (sl 1 gE (fG (mkM (lgC s) s)).sT)]] ⟨.agg J J T.bE J J,tV⟩ (cA2 (fun x0 x1=>rV [agg [fre w0.heap.size (sl 1 rE_ x0),fre w0.heap.size (sl 1 gE x1)]]) hr0 hr1) trivial eX
theorem Ug (s:SS) (ok:Bool) (hs:ok=true→oK s∧s.sT.length≤500) (u:Int) (h0:0≤u) (h1:u<256):
 AL.Fn Tryz.prog 62 [mC (spec s),bl ok,int u] [] (ι:=Unit) (fun N _=>tup [agg [fre N (strs (cU s ok u).1.aC),fre N (sl 1 gE (cU s ok u).1.sT)],int (cU s ok u).2]) (fun _=> []):=by
 refine fnI Tryz.func62 rfl rfl (fun w0 F0=> ?_)
 refine tbI 0 9999 rfl ?_
 refine CF (ψ:=tab) 9999 997 rfl ?_
 refine fcC (bW 0 J) (fun hS0=> ?_)
 obtain⟨hsa0,hss0,hse0⟩:=sLn hS0
 refine sq (rg (bx (key:=3) (cs:= [sl 1 rE_ s.aC,sl 2 sE s.sT]) J fun b3=>(al (key:=6) T.z25 (eC (eC eZ)) fun b6=>(ag (nl (th (sq (sq (rg (mv (no J (nl (th ?_)))))))))))))
 refine cd J (fun hc0=> ?_) (fun hc0=> ?_)
 ·try simp at hc0
  have hok:ok=false:=by simpa using hc0
  have hd:cU s ok u=(⟨[],[]⟩,2):=by rw[hok];exact Ee
  refine sq (rg (bd (css:= []) T.oD (eC (eC eZ)) trivial (sPA (cs':= [eqv (.slice none 0 0),eqv (.slice none 0 0)]) J J J T.bE J J (ag (nl (th (rt (rt_ ?_))))))))
  refine gM 6 0 (fre w0.heap.size (sl 1 rE_ [])) rfl rfl mB ?_
  refine gM 6 1 (fre w0.heap.size (sl 1 gE [])) rfl rfl mB ?_
  have hr0: []=((cU s ok u).1.aC):=by
   rw[hd]
  have hr1: []=((cU s ok u).1.sT):=by
   rw[hd]
  have hr2:(2:Int)=((cU s ok u).2):=by
   rw[hd]
  exact rE () [.cell 6 25,.tmp 7] J [agg [fre w0.heap.size (sl 1 rE_ []),fre w0.heap.size (sl 1 gE [])],int 2] ⟨.agg J J T.bE J J,.tmp J,tV⟩ (cA3 (fun x0 x1 x2=>rV [agg [fre w0.heap.size (sl 1 rE_ x0),fre w0.heap.size (sl 1 gE x1)],int x2]) hr0 hr1 hr2) trivial eX
 ·try simp at hc0
  have hok:ok=true:=by simpa using hc0
  obtain⟨hsk,hsf⟩:=hs hok
  have hT:=Ec hsk hsf u
  obtain⟨hTk,hTf⟩:=hT
  have hT0:=hTk.few0
  refine sk (th (sq (rg (lPA J J T.bF J (mv (bB (φs:= [agg [sl 1 rE_ s.aC,sl 2 sE s.sT],int u]) (φ:=agg [sl 1 rE_ ((tR (aU u s)).1).aC,sl 2 sE ((tR (aU u s)).1).sT]) ⟨J,J,tV⟩ (mkk.Kg s aS u O O) T.XE (sPA (cs':= [sl 1 rE_ ((tR (aU u s)).1).aC,sl 2 sE ((tR (aU u s)).1).sT]) J J J T.bF J J (nl (th (sq (sq (rg (lPA J J T.bF J (bB (φs:= [agg [sl 1 rE_ ((tR (aU u s)).1).aC,sl 2 sE ((tR (aU u s)).1).sT]]) (φ:=sl 1 blE (hOl ((tR (aU u s)).1))) ⟨J,tV⟩ (prog7.Bt ((tR (aU u s)).1) aS) T.Ls (iF J J T.gV O (gK (k:=0) (by rw[nT];omega)) (lF J J T.eT (nl (th ?_))))))))))))))))))
  refine cd J (fun hc1=> ?_) (fun hc1=> ?_)
  ·try simp at hc1
   have hd:cU s ok u=(⟨[],[]⟩,3):=by rw[hok];exact GK hc1
   refine sq (rg (bd (css:= []) T.oD (eC (eC eZ)) trivial (sPA (cs':= [eqv (.slice none 0 0),eqv (.slice none 0 0)]) J J J T.bE J J (ag (nl (th (rt (rt_ ?_))))))))
   refine gM 6 0 (fre w0.heap.size (sl 1 rE_ [])) rfl rfl mB ?_
   refine gM 6 1 (fre w0.heap.size (sl 1 gE [])) rfl rfl mB ?_
   have hr0: []=((cU s ok u).1.aC):=by
    rw[hd]
   have hr1: []=((cU s ok u).1.sT):=by
    rw[hd]
   have hr2:(3:Int)=((cU s ok u).2):=by
    rw[hd]
   exact rE () [.cell 6 25,.tmp 7] J [agg [fre w0.heap.size (sl 1 rE_ []),fre w0.heap.size (sl 1 gE [])],int 3] ⟨.agg J J T.bE J J,.tmp J,tV⟩ (cA3 (fun x0 x1 x2=>rV [agg [fre w0.heap.size (sl 1 rE_ x0),fre w0.heap.size (sl 1 gE x1)],int x2]) hr0 hr1 hr2) trivial eX
  ·try simp at hc1
   have hd:cU s ok u=(iW lgC (tR (aU u s)).1,0):=by rw[hok];exact Jd hc1
   have hfree:=Cj hsk hsf hc1
   refine sk (th (sq (rg (bd (css:= [(0,_)]) T.XF (eC eZ) ⟨J,J,p1 (φ:=eqv (.func (.func 111) #[] #[])) J,tV⟩ (kn 19 (agg [clo 111 []]) J Qc (lPA J J T.bF J (tbU (ψ:=tab) 20 9999 J J (kK (φs:= [agg [clo 111 []],both (agg [sl 1 rE_ ((tR (aU u s)).1).aC,sl 2 sE ((tR (aU u s)).1).sT]) tab]) (φ:=agg [fre w0.heap.size (sl 1 rE_ (iW lgC ((tR (aU u s)).1)).aC),fre w0.heap.size (sl 1 gE (iW lgC ((tR (aU u s)).1)).sT)]) ⟨J,J,tV⟩ (mkr.Qf ((tR (aU u s)).1) aS aS aS) T.XG (fun N hN=>fun h=>jE (cs:= [fre N (sl 1 rE_ (iW lgC ((tR (aU u s)).1)).aC),fre N (sl 1 gE (iW lgC ((tR (aU u s)).1)).sT)]) (ds:= [fre w0.heap.size (sl 1 rE_ (iW lgC ((tR (aU u s)).1)).aC),fre w0.heap.size (sl 1 gE (iW lgC ((tR (aU u s)).1)).sT)]) ⟨fun h=>jN hN h,fun h=>jN hN h,tV⟩ h) (sPA (cs':= [fre w0.heap.size (sl 1 rE_ (iW lgC ((tR (aU u s)).1)).aC),fre w0.heap.size (sl 1 gE (iW lgC ((tR (aU u s)).1)).sT)]) J J J T.bE J J (ag (nl (th (rt ?_)))))))))))))
   have hr0:(iW lgC ((tR (aU u s)).1)).aC=((cU s ok u).1.aC):=by
    rw[hd]
   have hr1:(iW lgC ((tR (aU u s)).1)).sT=((cU s ok u).1.sT):=by
    rw[hd]
   have hr2:(0:Int)=((cU s ok u).2):=by
    rw[hd]
   exact rE () [.cell 6 25,.tmp 7] J [agg [fre w0.heap.size (sl 1 rE_ (iW lgC ((tR (aU u s)).1)).aC),fre w0.heap.size (sl 1 gE (iW lgC ((tR (aU u s)).1)).sT)],int 0] ⟨.agg J J T.bE J J,.tmp J,tV⟩ (cA3 (fun x0 x1 x2=>rV [agg [fre w0.heap.size (sl 1 rE_ x0),fre w0.heap.size (sl 1 gE x1)],int x2]) hr0 hr1 hr2) trivial eX
theorem wO (m:aA) (t:SS) (hts:jH t) (u:Int):
 AL.Fn Tryz.prog 25 [mC (sys m),spec t,int u] [] (ι:=Unit) (fun N _=>tup [agg [fre N (strs (aM m t u).1.aC),fre N (sl 1 gE (aM m t u).1.sT)],int (aM m t u).2]) (fun _=> []):=by
 refine fnI Tryz.func25 rfl rfl (fun w0 F0=> ?_)
 refine tbI 0 9999 rfl ?_
 refine CF (ψ:=tab) 9999 997 rfl ?_
 refine fcC (bW 0 J) (fun hS0=> ?_)
 obtain⟨hma0,hms0,hme0⟩:=bU hS0
 refine fcC (bW 1 J) (fun hS1=> ?_)
 obtain⟨hsa1,hss1,hse1⟩:=sLn hS1
 refine sq (rg (bx (key:=3) (cs:= [sl 1 rE_ m.aC,sl 1 gE m.sT]) J fun b3=>(bx (key:=4) (cs:= [sl 1 rE_ t.aC,sl 2 sE t.sT]) J fun b4=>(al (key:=6) T.z25 (eC (eC eZ)) fun b6=>(ag (nl (th (sq (sq (rg (lPA J J T.bE J (lPA J J T.bF J (bB (φs:= [agg [sl 1 rE_ m.aC,sl 1 gE m.sT],agg [sl 1 rE_ t.aC,sl 2 sE t.sT]]) (φ:=int (dA m t)) ⟨J,J,tV⟩ (satj.Iz m t aS) T.Ru (ag (nl (th (sq (rg (mv (bi J J fI (nl (th ?_))))))))))))))))))))))
 refine cd J (fun hc0=> ?_) (fun hc0=> ?_)
 ·try simp at hc0
  have hd:aM m t u=(⟨[],[]⟩,dA m t):=by unfold aM;rw[if_neg hc0]
  refine sq (rg (bd (css:= []) T.oD (eC (eC eZ)) trivial (mv (sPA (cs':= [eqv (.slice none 0 0),eqv (.slice none 0 0)]) J J J T.bE J J (ag (nl (th (rt (rt_ ?_)))))))))
  refine gM 6 0 (fre w0.heap.size (sl 1 rE_ [])) rfl rfl mB ?_
  refine gM 6 1 (fre w0.heap.size (sl 1 gE [])) rfl rfl mB ?_
  have hr0: []=((aM m t u).1.aC):=by
   rw[hd]
  have hr1: []=((aM m t u).1.sT):=by
   rw[hd]
  have hr2:((dA m t):Int)=((aM m t u).2):=by
   rw[hd]
  exact rE () [.cell 6 25,.tmp 7] J [agg [fre w0.heap.size (sl 1 rE_ []),fre w0.heap.size (sl 1 gE [])],int (dA m t)] ⟨.agg J J T.bE J J,.tmp J,tV⟩ (cA3 (fun x0 x1 x2=>rV [agg [fre w0.heap.size (sl 1 rE_ x0),fre w0.heap.size (sl 1 gE x1)],int x2]) hr0 hr1 hr2) trivial eX
 ·try simp at hc0
  obtain⟨hmv,htv,hmt⟩:=lC hc0
  have hm:=eF hmv
  have ht:=iA htv
  have hn8:=ht.n8
  refine sk (th (sq (sq (rg (fP J T.dH (lP J J J T.cM (fc (aV 19 J) fun hm19=>(lnF J T.eD (mv (bB (φs:= [int (t.aC.length:Int),int u]) (φ:=bl (eO (t.aC.length:Int) u)) ⟨J,J,tV⟩ (mkk.Mo (t.aC.length:Int) u O O) T.Rw (no J (nl (th ?_)))))))))))))
  refine cd J (fun hc1=> ?_) (fun hc1=> ?_)
  ·try simp at hc1
   have hd:aM m t u=(⟨[],[]⟩,1):=by unfold aM;rw[if_pos hc0,if_neg (by simpa using hc1)]
   refine sq (rg (bd (css:= []) T.oD (eC (eC eZ)) trivial (sPA (cs':= [eqv (.slice none 0 0),eqv (.slice none 0 0)]) J J J T.bE J J (ag (nl (th (rt (rt_ ?_))))))))
   refine gM 6 0 (fre w0.heap.size (sl 1 rE_ [])) rfl rfl mB ?_
   refine gM 6 1 (fre w0.heap.size (sl 1 gE [])) rfl rfl mB ?_
   have hr0: []=((aM m t u).1.aC):=by
    rw[hd]
   have hr1: []=((aM m t u).1.sT):=by
    rw[hd]
   have hr2:(1:Int)=((aM m t u).2):=by
    rw[hd]
   exact rE () [.cell 6 25,.tmp 7] J [agg [fre w0.heap.size (sl 1 rE_ []),fre w0.heap.size (sl 1 gE [])],int 1] ⟨.agg J J T.bE J J,.tmp J,tV⟩ (cA3 (fun x0 x1 x2=>rV [agg [fre w0.heap.size (sl 1 rE_ x0),fre w0.heap.size (sl 1 gE x1)],int x2]) hr0 hr1 hr2) trivial eX
  ·try simp at hc1
   have hse:eO (t.aC.length:Int) u=true:=by simpa using hc1
   obtain⟨hu0,hu1⟩:=wJ ht.n8 hse
   have hd:aM m t u=cU (bC m t).1 (bC m t).2 u:=by unfold aM;rw[if_pos hc0,if_pos hse]
   have hgk:(bC m t).2=true→oK (bC m t).1∧(bC m t).1.sT.length≤500:=fun h=>⟨(vJ hm ht h).1,(vJ hm ht h).2.1⟩
   refine sk (th (sq (rg (lPA J J T.bE J (lPA J J T.bF J (tbU (ψ:=tab) 26 9999 J J (bB (φs:= [both (agg [sl 1 rE_ m.aC,sl 1 gE m.sT]) tab,agg [sl 1 rE_ t.aC,sl 2 sE t.sT]]) (φ:=tup [agg [sl 1 rE_ ((bC m t).1).aC,sl 2 sE ((bC m t).1).sT],bl ((bC m t).2)]) ⟨J,J,tV⟩ (mkg.GI m aS t aS aS) T.Rv (mv (xt J J (xt J J (al (key:=9) T.z28 (eC (eC eZ)) fun b9=>(sPA (cs':= [sl 1 rE_ ((bC m t).1).aC,sl 2 sE ((bC m t).1).sT]) J J J T.bF J J (ag (nl (th (sq (rg (lPA J J T.bF J (mv (mv (tbU (ψ:=tab) 31 9999 J J (kK (φs:= [both (agg [sl 1 rE_ ((bC m t).1).aC,sl 2 sE ((bC m t).1).sT]) tab,bl ((bC m t).2),int u]) (φ:=tup [agg [fre w0.heap.size (sl 1 rE_ ((cU ((bC m t).1) ((bC m t).2) u).1).aC),fre w0.heap.size (sl 1 gE ((cU ((bC m t).1) ((bC m t).2) u).1).sT)],int ((cU ((bC m t).1) ((bC m t).2) u).2)]) ⟨J,J,J,tV⟩ (mkr.Ug ((bC m t).1) ((bC m t).2) aS u O O) T.XH (fun N hN=>fun h=>rQ (cs:= [agg [fre N (sl 1 rE_ ((cU ((bC m t).1) ((bC m t).2) u).1).aC),fre N (sl 1 gE ((cU ((bC m t).1) ((bC m t).2) u).1).sT)],int ((cU ((bC m t).1) ((bC m t).2) u).2)]) (ds:= [agg [fre w0.heap.size (sl 1 rE_ ((cU ((bC m t).1) ((bC m t).2) u).1).aC),fre w0.heap.size (sl 1 gE ((cU ((bC m t).1) ((bC m t).2) u).1).sT)],int ((cU ((bC m t).1) ((bC m t).2) u).2)]) ⟨fun h=>jE (cs:= [fre N (sl 1 rE_ ((cU ((bC m t).1) ((bC m t).2) u).1).aC),fre N (sl 1 gE ((cU ((bC m t).1) ((bC m t).2) u).1).sT)]) (ds:= [fre w0.heap.size (sl 1 rE_ ((cU ((bC m t).1) ((bC m t).2) u).1).aC),fre w0.heap.size (sl 1 gE ((cU ((bC m t).1) ((bC m t).2) u).1).sT)]) ⟨fun h=>jN hN h,fun h=>jN hN h,tV⟩ h,fun h=>h,tV⟩ h) (xt J J (xt J J (sPA (cs':= [fre w0.heap.size (sl 1 rE_ ((cU ((bC m t).1) ((bC m t).2) u).1).aC),fre w0.heap.size (sl 1 gE ((cU ((bC m t).1) ((bC m t).2) u).1).sT)]) J J J T.bE J J (ag (nl (th (rt ?_)))))))))))))))))))))))))))))
   have hr0:((cU ((bC m t).1) ((bC m t).2) u).1).aC=((aM m t u).1.aC):=by
    rw[hd]
   have hr1:((cU ((bC m t).1) ((bC m t).2) u).1).sT=((aM m t u).1.sT):=by
    rw[hd]
   have hr2:(((cU ((bC m t).1) ((bC m t).2) u).2):Int)=((aM m t u).2):=by
    rw[hd]
   exact rE () [.cell 6 25,.tmp 7] J [agg [fre w0.heap.size (sl 1 rE_ ((cU ((bC m t).1) ((bC m t).2) u).1).aC),fre w0.heap.size (sl 1 gE ((cU ((bC m t).1) ((bC m t).2) u).1).sT)],int ((cU ((bC m t).1) ((bC m t).2) u).2)] ⟨.agg J J T.bE J J,.tmp J,tV⟩ (cA3 (fun x0 x1 x2=>rV [agg [fre w0.heap.size (sl 1 rE_ x0),fre w0.heap.size (sl 1 gE x1)],int x2]) hr0 hr1 hr2) trivial eX
theorem Qg (x m:aA) (t:SS) (hts:jH t) (u:Int) (hz:m.sT.length*x.sT.length<5000) (hz2:bR m.sT*bR x.sT≤400000):
 Fn0 Tryz.prog 30 [sys x,sys m,spec t,int u] (tup [bl (lX x m t u),int (iE x m t u)]):=by
 refine fnI Tryz.func30 rfl rfl (fun w0 F0=> ?_)
 refine fcC (bW 0 J) (fun hS0=> ?_)
 obtain⟨hma0,hms0,hme0⟩:=bU hS0
 refine fcC (bW 1 J) (fun hS1=> ?_)
 obtain⟨hma1,hms1,hme1⟩:=bU hS1
 refine fcC (bW 2 J) (fun hS2=> ?_)
 obtain⟨hsa2,hss2,hse2⟩:=sLn hS2
 refine sq (rg (bx (key:=4) (cs:= [sl 1 rE_ x.aC,sl 1 gE x.sT]) J fun b4=>(bx (key:=5) (cs:= [sl 1 rE_ m.aC,sl 1 gE m.sT]) J fun b5=>(bx (key:=6) (cs:= [sl 1 rE_ t.aC,sl 2 sE t.sT]) J fun b6=>(ag (ag (nl (th (sq (bk (sq (rg (lPA J J T.bE J (bB (φs:= [agg [sl 1 rE_ x.aC,sl 1 gE x.sT]]) (φ:=bl (bN x)) ⟨J,tV⟩ (sysw.jT x) T.zD (no J (mv ?_))))))))))))))))
 apply gOr (t:=17) (pd:=21) rfl
 rotate_left
 ·intro hg0 fin
  have hg0':=hg0
  try simp at hg0'
  exact gy J J J hg0 (lPA J J T.bE J (gy J J J hg0 (bB (φs:= [agg [sl 1 rE_ m.aC,sl 1 gE m.sT]]) (φ:=bl (bN m)) ⟨J,tV⟩ (sysw.jT m) T.zD (gy J J J hg0 (no J (pkF J hg0 J (drp (X:= [(20,_),(19,_),(18,_)]) ⟨J,J,J,tV⟩ fin)))))))
 ·intro hg0 fin
  exact gn J J J hg0 J J (gn J J J hg0 J J (gn J J J hg0 J J (pkT J hg0 J (drp (X:= [(20,_),(19,_),(18,_)]) ⟨J,J,J,tV⟩ fin))))
 refine ag (nl (th ?_))
 refine cd J (fun hc0=> ?_) (fun hc0=> ?_)
 ·skip
  have hxm:¬(bN x=true∧bN m=true):=fun g=>by rw[g.1,g.2] at hc0;cases hc0
  have hd:iE x m t u=20:=by unfold iE;rw[if_neg hxm]
  refine sq (rg (ag (ag (nl (th (rt (rb (rt_ ?_))))))))
  have hr0:false=(lX x m t u):=by
   rw[Cl (by rw[hd];decide)]
  have hr1:(20:Int)=(iE x m t u):=by
   rw[hd]
  exact rE () [.tmp 8,.tmp 9] J [bl false,int 20] ⟨.tmp J,.tmp J,tV⟩ (cA2 (fun x0 x1=>rV [bl x0,int x1]) hr0 hr1) trivial eX
 ·skip
  obtain⟨hxv,hmv⟩:bN x=true∧bN m=true:=by
   rw[Bool.or_eq_false_iff,Bool.not_eq_false',Bool.not_eq_false'] at hc0;exact hc0
  have hx:=eF hxv
  have hm:=eF hmv
  refine sq (rg (lPA J J T.bF J (bB (φs:= [agg [sl 1 rE_ t.aC,sl 2 sE t.sT]]) (φ:=bl (cE t)) ⟨J,tV⟩ (prog2.jT t aS) T.Rk (no J (ag (nl (th ?_)))))))
  refine cd J (fun hc1=> ?_) (fun hc1=> ?_)
  ·try simp at hc1
   have hd:iE x m t u=30:=by unfold iE;rw[if_pos ⟨hxv,hmv⟩,if_neg (by simpa using hc1)]
   refine sq (rg (ag (ag (nl (th (rt (rb (rt_ ?_))))))))
   have hr0:false=(lX x m t u):=by
    rw[Cl (by rw[hd];decide)]
   have hr1:(30:Int)=(iE x m t u):=by
    rw[hd]
   exact rE () [.tmp 8,.tmp 9] J [bl false,int 30] ⟨.tmp J,.tmp J,tV⟩ (cA2 (fun x0 x1=>rV [bl x0,int x1]) hr0 hr1) trivial eX
  ·try simp at hc1
   have htv:cE t=true:=by simpa using hc1
   have ht:=iA htv
   have hn8:=ht.n8
   refine sq (rg (fP J T.fB (lP J J J T.cM (fP J T.fB (lP J J J T.cM (bB (φs:= [sl 1 rE_ x.aC,sl 1 rE_ m.aC]) (φ:=bl (decide (x.aC=m.aC))) ⟨J,J,tV⟩ (prog.mI _ _) T.EA (no J (mv ?_))))))))
   apply gOr (t:=33) (pd:=40) rfl
   rotate_left
   ·intro hg1 fin
    have hg1':=hg1
    try simp at hg1'
    exact gy J J J hg1 (fP J T.fB (gy J J J hg1 (lP J J J T.cM (gy J J J hg1 (fP J T.dH (gy J J J hg1 (lP J J J T.cM (gy J J J hg1 (bB (φs:= [sl 1 rE_ x.aC,sl 1 rE_ t.aC]) (φ:=bl (decide (x.aC=t.aC))) ⟨J,J,tV⟩ (prog.mI _ _) T.EA (gy J J J hg1 (no J (pkF J hg1 J (drp (X:= [(39,_),(38,_),(37,_),(36,_),(35,_),(34,_)]) ⟨J,J,J,J,J,J,tV⟩ fin)))))))))))))
   ·intro hg1 fin
    exact gn J J J hg1 J J (gn J J J hg1 J J (gn J J J hg1 J J (gn J J J hg1 J J (gn J J J hg1 J J (gn J J J hg1 J J (pkT J hg1 J (drp (X:= [(39,_),(38,_),(37,_),(36,_),(35,_),(34,_)]) ⟨J,J,J,J,J,J,tV⟩ fin)))))))
   refine ag (nl (th ?_))
   refine cd J (fun hc2=> ?_) (fun hc2=> ?_)
   ·skip
    have hne:¬(x.aC=m.aC∧x.aC=t.aC):=fun g=>by rw[decide_eq_true g.1,decide_eq_true g.2] at hc2;cases hc2
    have hd:iE x m t u=10:=by unfold iE;rw[if_pos ⟨hxv,hmv⟩,if_pos htv,if_neg hne]
    refine sq (rg (ag (ag (nl (th (rt (rb (rt_ ?_))))))))
    have hr0:false=(lX x m t u):=by
     rw[Cl (by rw[hd];decide)]
    have hr1:(10:Int)=(iE x m t u):=by
     rw[hd]
    exact rE () [.tmp 8,.tmp 9] J [bl false,int 10] ⟨.tmp J,.tmp J,tV⟩ (cA2 (fun x0 x1=>rV [bl x0,int x1]) hr0 hr1) trivial eX
   ·skip
    obtain⟨hxm,hxt⟩:x.aC=m.aC∧x.aC=t.aC:=by
     rw[Bool.or_eq_false_iff,Bool.not_eq_false',Bool.not_eq_false'] at hc2;exact⟨of_decide_eq_true hc2.1,of_decide_eq_true hc2.2⟩
    have hbo:=Ue hmv hxv hxm.symm
    refine sq (rg (fP J T.dH (lP J J J T.cM (fc (aV 43 J) fun hm43=>(lnF J T.eD (mv (bB (φs:= [int (t.aC.length:Int),int u]) (φ:=bl (eO (t.aC.length:Int) u)) ⟨J,J,tV⟩ (mkk.Mo (t.aC.length:Int) u O O) T.Rw (no J (ag (nl (th ?_)))))))))))
    refine cd J (fun hc3=> ?_) (fun hc3=> ?_)
    ·skip
     have hns:¬eO (t.aC.length:Int) u=true:=fun g=>by rw[g] at hc3;cases hc3
     have hd:iE x m t u=1:=by unfold iE;rw[if_pos ⟨hxv,hmv⟩,if_pos htv,if_pos ⟨hxm,hxt⟩,if_neg hns]
     refine sq (rg (ag (ag (nl (th (rt (rb (rt_ ?_))))))))
     have hr0:false=(lX x m t u):=by
      rw[Cl (by rw[hd];decide)]
     have hr1:(1:Int)=(iE x m t u):=by
      rw[hd]
     exact rE () [.tmp 8,.tmp 9] J [bl false,int 1] ⟨.tmp J,.tmp J,tV⟩ (cA2 (fun x0 x1=>rV [bl x0,int x1]) hr0 hr1) trivial eX
    ·skip
     have hse:eO (t.aC.length:Int) u=true:=by simpa using hc3
     obtain⟨hu0,hu1⟩:=wJ ht.n8 hse
     have hd:iE x m t u=0:=by unfold iE;rw[if_pos ⟨hxv,hmv⟩,if_pos htv,if_pos ⟨hxm,hxt⟩,if_pos hse]
     refine sk (eb (th (sq (rg (lPA J J T.bE J (lPA J J T.bE J (cl (prodw.Km m x aS aS) T.XI trivial fun N51 i51=>(mv (xt J J (xt J J (xt J J (al (key:=10) T.z25 (eC (eC eZ)) fun b10=>(sPA (cs':= [sl 1 rE_ i51.1.1.aC,sl 1 gE i51.1.1.sT]) J J J T.bE J J (ag (ag (nl (th (sq (sq (rg (mv (bi J J fI (nl (th ?_))))))))))))))))))))))))
     refine cd J (fun hc4=> ?_) (fun hc4=> ?_)
     ·try simp at hc4
      exact absurd hbo (by simpa using hc4)
     ·try simp at hc4
      have hPk:=i51.2.2 hbo
      have hkv:=XD hmv hxv hPk hz hz2
      have hkk:=eF hkv
      refine sk (th (sq (rg (lPA J J T.bE J (lPA J J T.bF J (cl (satj.Pe i51.1.1 aS t aS) T.XJ trivial fun N60 i60=>(Vm J T.Uf T.eT J (mv ?_))))))))
      apply cZ (t:=62) (pd:=66) rfl
      rotate_left
      ·intro hg2 fin
       have hg2':=hg2
       try simp at hg2'
       exact gy J J J hg2 (lPA J J T.bE J (gy J J J hg2 (mv (gy J J J hg2 (bB (φs:= [agg [sl 1 rE_ x.aC,sl 1 gE x.sT],int u]) (φ:=bl (dB x u)) ⟨J,J,tV⟩ (mkp.Pq x aS u O O) T.XK (pkT J hg2 J (drp (X:= [(65,_),(64,_),(63,_)]) ⟨J,J,J,tV⟩ fin)))))))
      ·intro hg2 fin
       exact gn J J J hg2 J J (gn J J J hg2 J J (gn J J J hg2 J J (pkF J hg2 J (drp (X:= [(65,_),(64,_),(63,_)]) ⟨J,J,J,tV⟩ fin))))
      refine ag (ag (nl (th (rt ?_))))
      have hr0:(i60.1.holds&&(dB x u))=(lX x m t u):=by
       rw[Ni hm hx ht hPk hkk i60.2 hd]
      have hr1:(0:Int)=(iE x m t u):=by
       rw[hd]
      exact rE () [.tmp 8,.tmp 9] J [bl (i60.1.holds&&(dB x u)),int 0] ⟨.tmp J,.tmp J,tV⟩ (cA2 (fun x0 x1=>rV [bl x0,int x1]) hr0 hr1) trivial eX
end mkr
end
section
namespace LeadM
open ref01 ref03 ref04 ref06 Part Rungs LeftM TrimM RoundM MergeM BisM BisM3 BisM4 BisM5 BisM6 Keys WalkM WitM JudgM JudgM2 LevM divr divs divd dive divf divv judg sysw satj ChsM BisS TrimI QuoM FailM DivM RefM GenW CompM CompP CrossM FitM TogM KeepK GuardM MakeM LsysM LsysM2 GuaW
def fH (m:aA) (t:SS) (a:Nat) (l:LP):LP:=l.flatMap fun p=>(cY m [p.1] (a:Int)).map fun k=>((k,ix (nxt t p.2.toNat) a):PP)
theorem Nj {m:aA} {t:SS} {a:Nat} {l:LP} {k:Nat} (hk:k<l.length):fH m t a (l.take (k+1))=fH m t a (l.take k)++(cY m [(ix l k).1] (a:Int)).map fun x=>((x,ix (nxt t (ix l k).2.toNat) a):PP):=by
 unfold fH
 rw[bM hk,List.flatMap_append];simp
theorem Qh {m:aA} (hm:bA m) {t:SS} {a:Nat} {l:LP} (hl:gOk m t l) {q:PP}:q∈fH m t a l↔∃p∈l,∃e∈edg m p.1.toNat,e.1=(a:Int)∧e.2=q.1∧ix (nxt t p.2.toNat) a=q.2:=by
 unfold fH
 rw[List.mem_flatMap]
 constructor
 ·rintro⟨p,hp,h⟩
  obtain⟨x,hx,rfl⟩:=List.mem_map.1 h
  obtain⟨k,rfl,_,y,hy,e,he,h1,h2⟩:=Aj.1 hx
  rw[List.mem_singleton.1 hy] at he
  exact⟨p,hp,e,he,h1,h2,rfl⟩
 ·rintro⟨p,hp,e,he,h1,h2,h3⟩
  have hb:=jP hl hp
  have:=hm.ed p.1.toNat O e he
  refine⟨p,hp,List.mem_map.2 ⟨q.1,Aj.2 ⟨q.1.toNat,O,O,p.1,List.mem_singleton.2 rfl,e,he,h1,O⟩,Prod.ext rfl h3⟩⟩
def lY (n:Nat) (vis:LP) (x k:Nat):LP:=((List.range k).filter fun(y:Nat)=>decide (((x:Int),(y:Int))∈vis)).map fun(y:Nat)=>(((x:Int),(y:Int)):PP)
def qK (n:Nat) (vis:LP) (k:Nat):LP:=(List.range k).flatMap fun(x:Nat)=>lY n vis x n
theorem Qi {n:Nat} {vis:LP} {x k:Nat} (h:((x:Int),(k:Int))∈vis):lY n vis x (k+1)=lY n vis x k++ [((x:Int),(k:Int))]:=by
 unfold lY
 rw[List.range_succ,List.filter_append,List.map_append]
 simp[h]
theorem Uh {n:Nat} {vis:LP} {x k:Nat} (h:((x:Int),(k:Int))∉vis):lY n vis x (k+1)=lY n vis x k:=by
 unfold lY
 rw[List.range_succ,List.filter_append,List.map_append]
 simp[h]
theorem GL {n:Nat} {vis:LP} {x k:Nat}:(lY n vis x k).length≤k:=by
 unfold lY
 rw[List.length_map]
 exact Nat.le_trans (List.length_filter_le _ _) (by simp)
theorem Eg {n:Nat} {vis:LP} {k:Nat}:qK n vis (k+1)=qK n vis k++lY n vis k n:=by
 unfold qK
 rw[List.range_succ,List.flatMap_append];simp
theorem GM {n:Nat} {vis:LP}:∀{k:Nat},(qK n vis k).length≤k*n
 |0=>by simp[qK]
 |k+1=>by
  rw[Eg,List.length_append,Nat.succ_mul]
  exact Nat.add_le_add GM GL
theorem Qj {n k:Nat} {vis:LP}:qK n vis k=(oG k n).filter fun q=>decide (q∈vis):=by
 unfold qK oG lY
 rw[List.filter_flatMap]
 congr 1
 funext x
 rw[List.filter_map];rfl
theorem Qk {m:aA} (hm:bA m) {t:SS} {a:Nat} {l:LP} (hl:gOk m t l):qK t.sT.length (fH m t a l) m.sT.length=gN m t l a:=by
 rw[Qj]
 unfold GuardM.gN
 refine List.filter_congr fun q _=> ?_
 rw[Bool.eq_iff_iff,decide_eq_true_eq]
 rw[Qh hm hl,List.any_eq_true]
 constructor
 ·rintro⟨p,hp,e,he,k⟩
  exact⟨p,hp,List.any_eq_true.2 ⟨e,he,decide_eq_true k⟩⟩
 ·rintro⟨p,hp,g⟩
  obtain⟨e,he,k⟩:=List.any_eq_true.1 g
  exact⟨p,hp,e,he,of_decide_eq_true k⟩
theorem Dc {α:Type} [DecidableEq α] {l:List α} {q:α} (h:q∉l):pxa l q=l.length:=by
 show l.idxOf q=l.length
 first
  |exact List.idxOf_eq_length h
  |exact List.idxOf_eq_length_iff.2 h
theorem Ql {α:Type} [DecidableEq α] [Inhabited α] {l:List α} {q:α} {k:Nat} (hk:k≤l.length) (h:∀j,j<k→ix l j≠q) (hs:k=l.length∨ix l k=q):k=pxa l q:=by
 rcases hs with e|e
 ·subst e
  have hn:q∉l:=fun hq=>by
   obtain⟨j,hj,e⟩:=List.getElem_of_mem hq
   exact h j hj (by rw[aD hj];exact e)
  exact(Dc hn).symm
 ·by_cases hkl:k<l.length
  ·have hq:q∈l:=by rw[←e];exact aQ hkl
   have h1:pxa l q≤k:=QuoM.FM hkl e
   have h2:=QuoM.sJ hq
   have h2:ix l (pxa l q)=q:=h2
   rcases Nat.lt_or_ge (pxa l q) k with g|g
   ·exact absurd h2 (h _ g)
   ·omega
  ·have hn:q∉l:=fun hq=>by
    obtain⟨j,hj,e⟩:=List.getElem_of_mem hq
    exact h j O (by rw[aD hj];exact e)
   have:pxa l q=l.length:=Dc hn
   omega
theorem Ui {α:Type} [DecidableEq α] [Inhabited α] {l:List α} {q:α} (h:pxa l q=l.length):dL l q=l++ [q]:=by
 unfold dL
 rw[if_neg]
 intro hq
 have:pxa l q<l.length:=QuoM.uX hq
 omega
theorem Uj {α:Type} [DecidableEq α] [Inhabited α] {l:List α} {q:α} (h:pxa l q<l.length):dL l q=l:=by
 unfold dL
 rw[if_pos]
 refine Classical.byContradiction fun hq=> ?_
 have:pxa l q=l.length:=Dc hq
 omega
structure qM (m:aA) (t:SS) (z:SS × Bool):Prop where
 yes:z.2=true→∃l,CV m t l z.1∧l.length≤10000
 no:z.2=false→z.1=⟨[],[]⟩
theorem Uk (m:aA) (t:SS):qM m t (⟨[],[]⟩,false):=⟨fun h=>(nomatch h),fun _=>rfl⟩
theorem Qm {m:aA} {t:SS} (ht:oK t) {i:Nat} {l:List LP} {aI:List SA} (hw:HW (gA m t) (gN m t) (gOk m t) [(0,0)] t.aC.length i l aI) (hi:l.length≤i) (hi2:i≤10000):qM m t (⟨t.aC,aI⟩,true):=by
 have hd:=SY (Aw ht) hw hi t.aC
 exact⟨fun _=>⟨l,⟨hd.1,hw.okl,rfl⟩,O⟩,fun h=>(nomatch h)⟩
def iX (n:Nat) (q:List Int):List Bool:=(List.range n).map fun(x:Nat)=>decide ((x:Int)∈q)
theorem wP (n:Nat) (q:List Int):(iX n q).length=n:=by simp[iX]
theorem Je {n:Nat} {q:List Int} {y:Int} (h0:0≤y) (h1:y<(n:Int)):ix (iX n q) y.toNat=decide (y∈q):=by
 unfold iX
 rw[bS O,show((y.toNat:Nat):Int)=y by omega]
theorem AO {n:Nat} {q:List Int} {i:Nat} (h:i<(iX n q).length):(iX n q)[i]=decide ((i:Int)∈q):=by simp[iX]
theorem GP {n:Nat} {q:List Int} {y:Int} (h0:0≤y) (h1:y<(n:Int)):(iX n q).set y.toNat true=iX n (q++ [y]):=by
 apply List.ext_getElem (by simp[iX])
 intro i a1 a2
 rw[List.getElem_set,AO a2]
 by_cases e:y.toNat=i
 ·have e2:(i:Int)=y:=by omega
  rw[if_pos e,e2];simp
 ·have e2:(i:Int)≠y:=by omega
  have hi:i<(iX n q).length:=by rw[wP];rw[wP] at a2;exact a2
  rw[if_neg e,AO hi]
  simp[e2]
theorem Qn (n:Nat):List.replicate n false=iX n []:=by
 apply List.ext_getElem (by simp[iX])
 intro i a1 a2
 rw[AO a2];simp
theorem Qo {n:Nat} (h:0<n):(List.replicate n false).set 0 true=iX n [0]:=by
 rw[Qn]
 exact GP (y:=0) O O
abbrev KP:Type:= { φ:AV//One φ } × List Int
def avE:KP→List AV:=fun y=> [y.1.1,ints y.2]
instance (y:KP):OneAll (avE y):=by
 have:=y.1.2
 exact inferInstanceAs (OneAll [y.1.1,ints y.2])
def slP (l:List Int): { φ:AV//One φ }:=⟨ints l,inferInstance⟩
def oJ (v:Value) [h:One (eqv v)]: { φ:AV//One φ }:=⟨eqv v,h⟩
instance:Inhabited KP:=⟨(slP [],[])⟩
def frz (x:SA):KP:=(slP x.aP,x.next)
def ksD (s:SS) (u:Int) (k:Nat):List KP:=(s.sT.take k).map (fun x=>frz (qY u x))++(s.sT.drop k).map frz
def ksE (s:SS) (u:Int) (k:Nat) (φ: { φ:AV//One φ }):List KP:=(ksD s u k).set k (φ,(ix s.sT k).next)
theorem Dd (s:SS) (u:Int) {k:Nat} (hk:k≤s.sT.length):(ksD s u k).length=s.sT.length:=by
 unfold ksD;simp;omega
theorem Qp (s:SS) (u:Int):ksD s u 0=s.sT.map frz:=by simp[ksD]
theorem Ul (s:SS) (u:Int):(ksD s u s.sT.length).map avE=(aU u s).sT.map sE:=by
 unfold ksD aU
 rw[List.take_length,List.drop_length]
 simp only [List.map_nil,List.append_nil,List.map_map]
 rfl
theorem WL {s:SS} {u:Int} {k:Nat} (hk:k<s.sT.length):(ksD s u k)[k]?=some (frz (ix s.sT k)):=by
 unfold ksD
 rw[List.getElem?_append_right (by simp;omega),List.length_map,List.length_take,Nat.min_eq_left O,Nat.sub_self,List.getElem?_map,List.getElem?_drop,aD hk]
 simp[hk]
theorem WM {s:SS} {u:Int} {k:Nat} {φ: { φ:AV//One φ }} (hk:k<s.sT.length):(ksE s u k φ)[k]?=some (φ,(ix s.sT k).next):=by
 unfold ksE
 rw[List.getElem?_set_self (by rw[Dd s u (Nat.le_of_lt hk)];exact hk)]
theorem Jf {s:SS} {u:Int} {k:Nat} {φ ψ: { φ:AV//One φ }}:(ksE s u k φ).set k (ψ,(ix s.sT k).next)=ksE s u k ψ:=by
 unfold ksE;rw[List.set_set]
theorem Um (s:SS) (u:Int) {k:Nat} {φ: { φ:AV//One φ }} (hk:k≤s.sT.length):(ksE s u k φ).length=s.sT.length:=by
 unfold ksE;rw[List.length_set,Dd s u hk]
theorem Qq {s:SS} {u:Int} {k:Nat} (hk:k<s.sT.length):ksE s u k (slP (qY u (ix s.sT k)).aP)=ksD s u (k+1):=by
 unfold ksE ksD
 have hl:((s.sT.take k).map fun x=>frz (qY u x)).length=k:=by simp;omega
 rw[List.set_append_right _ _ O,hl,Nat.sub_self,bM hk,List.map_append,List.append_assoc]
 congr 1
 have:s.sT.drop k=ix s.sT k::s.sT.drop (k+1):=by rw[List.drop_eq_getElem_cons hk,aD hk]
 rw[this]
 rfl
end LeadM
end
section
open ref01 ref03 ref04 ref06 prog prog2 prog3 prog6 prog13 Part Rungs LeftM TrimM RoundM MergeM BisM BisM4 BisM5 WalkM StepM WitM JudgM JudgM2 refw judg wit refj sysw divr divs divd dive divg divw divv divf LevM LevM2
namespace divc
end divc
end
section
open ref01 ref03 ref04 ref06 prog prog2 prog3 prog6 prog13 Part Rungs LeftM TrimM RoundM MergeM BisM BisM4 BisM5 WalkM StepM WitM JudgM JudgM2 refw judg wit refj sysw divr divs divd dive divg divw divv LevM LevM2 QuoM FailM FitM
theorem Jg {es:List (Int × Int)} (h:∀e∈es,0≤e.1∧e.1<8):0≤dI es∧dI es<256:=by
 refine⟨oT _,Ft _ fun u hu=> ?_⟩
 obtain⟨e,he,rfl⟩:=List.mem_map.1 hu
 have:=h e he
 have h2:2^e.1.toNat≤2^7:=Nat.pow_le_pow_right O O
 omega
namespace divj
end divj
end
section
open ref01 ref03 ref04 ref06 prog prog2 prog3 prog4 prog6 prog13 Part Rungs LeftM TrimM RoundM MergeM BisM BisM4 BisM5 WalkM StepM WitM JudgM JudgM2 refw judg wit refj sysw divr divs divd dive divg divw divv divf divc LevM LevM2 ChsM QuoM FailM DivM QuoW
namespace T
theorem z173:eR Tryz.prog 173 [.slice none 0 0]:=cR kR
theorem z171:eR Tryz.prog 171 [.int .i64 0,.int .i64 0,.int .i64 0]:=cR kR
end T
namespace divq
end divq
end
section
open ref01 ref03 ref04 ref06 prog prog2 prog3 prog6 prog13 starts Part Rungs LeftM TrimM RoundM MergeM BisM BisM4 BisM5 WalkM StepM WitM JudgM JudgM2 refw judg wit refj sysw divr divs divd dive divg divw divv divf divc divj divq divp LevM LevM2 ChsM QuoM FailM DivM QuoW RefM
namespace divm
end divm
end
section
open ref01 ref03 ref04 ref06 prog prog2 prog3 prog6 prog13 starts Part Rungs LeftM TrimM RoundM MergeM BisM BisM4 BisM5 WalkM StepM WitM JudgM JudgM2 refw judg wit refj sysw divr divs divd dive divg divw divv divf divc divj divq divp divm LevM LevM2 ChsM QuoM FailM DivM QuoW RefM FitM PartM EncM
namespace diva
end diva
end
section
open ref01 ref03 ref04 ref06 prog prog2 prog3 prog6 prog13 starts Part Rungs LeftM TrimM RoundM MergeM BisM BisM4 BisM5 WalkM StepM WitM JudgM JudgM2 refw judg wit refj sysw divr divs divd dive divg divw divv divf divc divj divq divp divm diva LevM LevM2 ChsM QuoM FailM DivM QuoW RefM FitM PartM EncM TogM
def wQ:Int × Int × Int→List AV:=fun p=> [int p.1,int p.2.1,int p.2.2]
instance (p:Int × Int × Int):OneAll (wQ p):=inferInstanceAs (OneAll [int p.1,int p.2.1,int p.2.2])
theorem Un {a b c:Nat} {x y z:Int} (hx0:0≤x) (hx:x<(a:Int)) (hy0:0≤y) (hy:y<(b:Int)) (hz0:0≤z) (hz:z<(c:Int)) (h:a*b*c≤1000000000):
 (0≤x*(b:Int)∧x*(b:Int)≤1000000000)∧(0≤(x*(b:Int)+y)*(c:Int)∧(x*(b:Int)+y)*(c:Int)≤1000000000)∧0≤(x*(b:Int)+y)*(c:Int)+z∧(x*(b:Int)+y)*(c:Int)+z<((a*b*c:Nat):Int):=by
 have e1:=DK (b:=b) (c:=c) (p:=(x,y,z)) hx0 hy0 hz0
 have e2:=CS (a:=a) (b:=b) (c:=c) (p:=(x,y,z)) ⟨hx0,hx,hy0,hy,hz0,hz⟩
 have e1:(x*(b:Int)+y)*(c:Int)+z=(jM b c (x,y,z):Int):=e1
 have g1:0≤x*(b:Int):=Int.mul_nonneg hx0 O
 have g2:0≤(x*(b:Int)+y)*(c:Int):=Int.mul_nonneg O O
 have g3:(x*(b:Int)+y)*1≤(x*(b:Int)+y)*(c:Int):=Int.mul_le_mul_of_nonneg_left O O
 omega
theorem Nk (b c:Nat):jM b c (0,0,0)=0:=by simp[jM]
theorem Uo (a b c:Nat) (ha:0<a) (hb:0<b) (hc:0<c):Tab a b c [(0,0,0)] ((List.replicate (a*b*c) false).set 0 true):=by
 have:=FV (Pg a b c) (q:=(0,0,0)) ⟨by simp,by show(0:Int)<_;omega,by simp,by show(0:Int)<_;omega,by simp,by show(0:Int)<_;omega⟩
 rwa [Nk] at this
theorem Kn {t:SS} {z u:Int} (h:0≤z):xY t z u=decide (u∈acc t z.toNat):=by unfold xY;simp[h]
namespace T
theorem Rx:iQ Tryz.prog 144 [(0,1),(1,1),(2,1)] [.int .i64 0,.int .i64 0,.int .i64 0]:=HK kR kR
theorem Ko:eM Tryz.prog 145 144 3 24 [.int .i64 0,.int .i64 0,.int .i64 0]:=iV kR kR
theorem Ry:IsSlice Tryz.prog 145 144 3:=fV kR
theorem Cm:iK Tryz.prog 144 3:=iU kR
theorem WO:eR Tryz.prog 144 [.int .i64 0,.int .i64 0,.int .i64 0]:=cR kR
theorem oL:Tryz.prog.underlying 144=some (.array 3 3):=by kernel_rfl
theorem EC:Ent Tryz.prog 89:=aN kR
theorem Rz:Ent Tryz.prog 88:=aN kR
end T
namespace divt
theorem HC (m n:aA) (t:SS) (hm:bA m) (hn:bA n) (ht:oK t) (hz:m.sT.length*n.sT.length*t.sT.length≤1000000000):
 Fn0 Tryz.prog 64 [sys m,sys n,spec t] (bl (oF m n t)):=by
 refine fnI Tryz.func64 rfl rfl (fun w0 F0=> ?_)
 have f0:=hm.few0;have f1:=hn.few0;have f2:=ht.few0;have f3:=hm.few1;have f4:=hn.few1;have f5:=ht.few1;have hm8:=hm.n8;have hn8:=hn.n8
 have hmn:m.sT.length*n.sT.length≤m.sT.length*n.sT.length*t.sT.length:=Nat.le_mul_of_pos_right _ O
 have hpz:0<m.sT.length*n.sT.length*t.sT.length:=Nat.mul_pos (Nat.mul_pos O O) O
 have hcm:((m.sT.length*n.sT.length*t.sT.length:Nat):Int)=(m.sT.length:Int)*(n.sT.length:Int)*(t.sT.length:Int):=by simp
 have has:m.sT.length*(n.sT.length*t.sT.length)=m.sT.length*n.sT.length*t.sT.length:=(Nat.mul_assoc _ _ _).symm
 refine fcC (bW 0 J) (fun hS0=> ?_)
 obtain⟨hma0,hms0,hme0⟩:=bU hS0
 refine fcC (bW 1 J) (fun hS1=> ?_)
 obtain⟨hma1,hms1,hme1⟩:=bU hS1
 refine fcC (bW 2 J) (fun hS2=> ?_)
 obtain⟨hsa2,hss2,hse2⟩:=sLn hS2
 refine sq (rg (bx (key:=3) (cs:= [sl 1 rE_ m.aC,sl 1 gE m.sT]) J fun b3=>(bx (key:=4) (cs:= [sl 1 rE_ n.aC,sl 1 gE n.sT]) J fun b4=>(bx (key:=5) (cs:= [sl 1 rE_ t.aC,sl 2 sE t.sT]) J fun b5=>(ag (nl (th (sq (rg (fP J T.bO (lP J J J T.cF (fc (aV 18 J) fun hm18=>(lnF J T.dQ (fP J T.bO (lP J J J T.cF (fc (aV 21 J) fun hm21=>(lnF J T.dQ (bi J J (yN i6) (fP J T.bL (lP J J J T.bT (fc (aV 25 J) fun hm25=>(lnF J T.cO (bi J J (yN i6) (kn 27 (int ((m.sT.length*n.sT.length*t.sT.length:Nat):Int)) J (by rw[hcm];exact fun h=>h) (mk (key:=28) (m:=m.sT.length*n.sT.length*t.sT.length) (enc:=blE) (y:=false) J J T.vT (eC eZ) mL mL fun v28=>(ag (nl (th (sq (rg (bd (css:= [(0,_),(1,_),(2,_)]) T.Rx (eC (eC (eC eZ))) ⟨J,J,p1 (φ:=int 0) J,⟨J,J,p1 (φ:=int 0) J,⟨J,J,p1 (φ:=int 0) J,tV⟩⟩⟩ (bsO 30 (enc:=wQ) (xs:= [(0,0,0)]) (css:= [[int 0,int 0,int 0]]) T.Ko ⟨J,J,pA (cs:= [int 0,int 0,int 0]) J,tV⟩ J J J J fun v30=>(ag (nl (th (sq (rg (mv (iO J J J T.gV O (by simp;omega) (sO (φ:=bl true) J J J T.eT (gN (by simp;omega)) J (y':=true) J (nl (th (sq (sq (rg (ag (nl (th (bk ?_)))))))))))))))))))))))))))))))))))))))))))))))))
 have hI0_0:TW m n t 0 ([(0,0,0)]:List (Int × Int × Int))∧Tab m.sT.length n.sT.length t.sT.length ([(0,0,0)]:List (Int × Int × Int)) ((List.replicate (m.sT.length*n.sT.length*t.sT.length) false).set 0 true):=by
  exact⟨Td,Uo _ _ _ O O O⟩
 refine lp (κ:=Nat × Value × (List (Int × Int × Int)) × (List Bool)) (fun p=> [(3,ptr 3 b3 0),(4,ptr 4 b4 0),(5,ptr 5 b5 0),(7,osl 28 v28),(8,osl 30 p.2.1),(9,int (p.1:Int))]) (fun p=> [(3,cell b3 [sl 1 rE_ m.aC,sl 1 gE m.sT]),(4,cell b4 [sl 1 rE_ n.aC,sl 1 gE n.sT]),(5,cell b5 [sl 1 rE_ t.aC,sl 2 sE t.sT]),(28,own v28 4 1 blE p.2.2.2),(30,own p.2.1 144 3 wQ p.2.2.1)]) (fun p=>TW m n t p.1 p.2.2.1∧Tab m.sT.length n.sT.length t.sT.length p.2.2.1 p.2.2.2) (fun p=>m.sT.length*n.sT.length*t.sT.length- p.1) ⟨0,v30,([(0,0,0)]:List (Int × Int × Int)),(List.replicate (m.sT.length*n.sT.length*t.sT.length) false).set 0 true⟩ hI0_0 ⟨id,id,id,id,id,id,tV⟩ ⟨rI,rI,rI,rI,rI,tV⟩ ?_
 intro⟨i,v,l,inn⟩ hG0
 obtain⟨hTW,hTab⟩:TW m n t i l∧Tab m.sT.length n.sT.length t.sT.length l inn:=hG0
 show Ct _ _ _ _ [(3,ptr 3 b3 0),(4,ptr 4 b4 0),(5,ptr 5 b5 0),(7,osl 28 v28),(8,osl 30 v),(9,int (i:Int))] [(3,cell b3 [sl 1 rE_ m.aC,sl 1 gE m.sT]),(4,cell b4 [sl 1 rE_ n.aC,sl 1 gE n.sT]),(5,cell b5 [sl 1 rE_ t.aC,sl 2 sE t.sT]),(28,own v28 4 1 blE inn),(30,own v 144 3 wQ l)] _
 have hlf:=FU hm hn ht hTW.nd hTW.rch
 have hil:=hTW.il
 have hinl:=hTab.len
 refine sq (sq (rg (mv (mv (lnO J J T.Ry (bi J J aO (nl (th ?_))))))))
 refine cd J (fun hc0=> ?_) (fun hc0=> ?_)
 ·try simp at hc0
  have hbx:=jV hm hn ht (hTW.rch _ (aQ hc0))
  obtain⟨hb0,hb1,hb2,hb3,hb4,hb5⟩:=hbx
  have h8m:=FG hm (x:=(ix l i).1.toNat) O
  have h8n:=FG hn (x:=(ix l i).2.1.toNat) O
  have hom:0≤bK m (ix l i).1.toNat∧bK m (ix l i).1.toNat<256:=Jg h8m
  have hon:0≤bK n (ix l i).2.1.toNat∧bK n (ix l i).2.1.toNat<256:=Jg h8n
  have hst:=ht.st (ix l i).2.2.toNat O
  have htl:=hst.len
  refine sk (th (sq (bk (sq (rg (mv (mv (iO J J J T.Ry O O (lOA J J gB T.Cm (by decide) (al (key:=10) T.WO (eC (eC (eC eZ))) fun b10=>(sPA (cs':= [int ((ix l i).1),int ((ix l i).2.1),int ((ix l i).2.2)]) J J J T.Cm J J (nl (th (sq (sq (dr (nh:=14) [0,0,2,0,0,16,56,0,0,256,1016,2040,4095,8191] T.mixed kR ?_))))))))))))))))
  refine st_ J (fun _ _ _ gq kq=>lPA (gq.1.trans J) J T.bF J kq) ?_
  refine st_ J (fun _ _ _ gq kq=>iPA (gq.1.trans J) J T.oL T.aF J kq) ?_
  refine st_ J (fun _ _ _ gq kq=>lP (gq.1.trans J) J J T.aF kq) ?_
  refine st_ J (fun _ _ _ gq kq=>lPA (gq.1.trans J) J T.bE J kq) ?_
  refine st_ J (fun _ _ _ gq kq=>iPA (gq.1.trans J) J T.oL T.aF J kq) ?_
  refine st_ J (fun _ _ _ gq kq=>lP (gq.1.trans J) J J T.aF kq) ?_
  refine st_ J (fun _ _ _ gq kq=>bB (φs:= [agg [sl 1 rE_ m.aC,sl 1 gE m.sT],int ((ix l i).1)]) (φ:=int (bK m ((ix l i).1).toNat)) ⟨(gq.1.trans J),(gq.2.1.trans J),tV⟩ (divs.wC m ((ix l i).1) aS O O) T.EC kq) ?_
  refine st_ J (fun _ _ _ gq kq=>lPA (gq.1.trans J) J T.bE J kq) ?_
  refine st_ J (fun _ _ _ gq kq=>iPA (gq.1.trans J) J T.oL T.aF J kq) ?_
  refine st_ J (fun _ _ _ gq kq=>lP (gq.1.trans J) J J T.aF kq) ?_
  refine st_ J (fun _ _ _ gq kq=>bB (φs:= [agg [sl 1 rE_ n.aC,sl 1 gE n.sT],int ((ix l i).2.1)]) (φ:=int (bK n ((ix l i).2.1).toNat)) ⟨(gq.1.trans J),(gq.2.1.trans J),tV⟩ (divs.wC n ((ix l i).2.1) aS O O) T.EC kq) ?_
  refine st_ J (fun _ _ _ gq kq=>bi (gq.1.trans J) (gq.2.1.trans J) (rN O O O O) kq) ?_
  refine st_ J (fun _ _ _ gq kq=>bB (φs:= [agg [sl 1 rE_ t.aC,sl 2 sE t.sT],int ((ix l i).2.2),int (((bK m ((ix l i).1).toNat).toNat&&&(bK n ((ix l i).2.1).toNat).toNat:Nat):Int)]) (φ:=bl (xY t ((ix l i).2.2) (((bK m ((ix l i).1).toNat).toNat&&&(bK n ((ix l i).2.1).toNat).toNat:Nat):Int))) ⟨(gq.1.trans J),(gq.2.1.trans J),(gq.2.2.1.trans J),tV⟩ (divs.nY t ((ix l i).2.2) (((bK m ((ix l i).1).toNat).toNat&&&(bK n ((ix l i).2.1).toNat).toNat:Nat):Int) O) T.Rz kq) ?_
  refine st_ J (fun _ _ _ gq kq=>no (gq.1.trans J) kq) ?_
  refine pn (nl (th ?_))
  refine cd J (fun hc1=> ?_) (fun hc1=> ?_)
  ·skip
   have hbd:sK m n t (ix l i):=by
    unfold sK bQ
    rw[Kn hb4] at hc1
    simpa using hc1
   refine sq (rg (ag (nl (th (rt (rt_ (rb (rt_ (rt_ (rb (rt_ ?_)))))))))))
   have hr0:false=(oF m n t):=by
    have h:=Xv hTW hc0 hbd
    rw[Bool.eq_false_iff.2 (fun g=>h (Ao.1 g))]
   exact rE () [.tmp 6] J [bl false] ⟨.tmp J,tV⟩ (cA1 (fun x0=>rV [bl x0]) hr0) trivial eX
  ·skip
   have hnb:¬sK m n t (ix l i):=by
    unfold sK bQ
    rw[Kn hb4] at hc1
    simpa using hc1
   refine sk (th (sq (rg (fP J T.bO (lP J J J T.cF (iPA J J T.oL T.aF J (lP J J J T.aF (iF J J T.dQ O gB (lF J J T.gF (fc (aV 62 J) fun hm62=>(lnF J T.cQ (mv (nl (th (bk ?_)))))))))))))))
   have hI1_0:0≤(ix m.sT ((ix l i).1).toNat).length:=by
    first|omega|simp
   have hI1_1:TN m n t i l 0 0 l∧Tab m.sT.length n.sT.length t.sT.length l inn:=by
    exact⟨Te hTW,hTab⟩
   refine lp (κ:=Nat × Value × (List (Int × Int × Int)) × (List Bool)) (fun p=> [(3,ptr 3 b3 0),(4,ptr 4 b4 0),(5,ptr 5 b5 0),(7,osl 28 v28),(8,osl 30 p.2.1),(9,int (i:Int)),(10,ptr 10 b10 0),(62,sl 2 pE (ix m.sT ((ix l i).1).toNat)),(63,int ((ix m.sT ((ix l i).1).toNat).length:Int)),(64,int (p.1:Int))]) (fun p=> [(3,cell b3 [sl 1 rE_ m.aC,sl 1 gE m.sT]),(4,cell b4 [sl 1 rE_ n.aC,sl 1 gE n.sT]),(5,cell b5 [sl 1 rE_ t.aC,sl 2 sE t.sT]),(10,cell b10 [int ((ix l i).1),int ((ix l i).2.1),int ((ix l i).2.2)]),(28,own v28 4 1 blE p.2.2.2),(30,own p.2.1 144 3 wQ p.2.2.1)]) (fun p=>(p.1≤(ix m.sT ((ix l i).1).toNat).length)∧(TN m n t i l p.1 0 p.2.2.1∧Tab m.sT.length n.sT.length t.sT.length p.2.2.1 p.2.2.2)) (fun p=>(ix m.sT ((ix l i).1).toNat).length- p.1) ⟨0,v,l,inn⟩ ⟨hI1_0,hI1_1⟩ ⟨id,id,id,id,id,id,id,id,id,id,tV⟩ ⟨rI,rI,rI,rI,rI,rI,tV⟩ ?_
   intro⟨k1,v1,l1,inn1⟩ hG1
   obtain⟨hk1,⟨hTN1,hTab1⟩⟩:(k1≤(ix m.sT ((ix l i).1).toNat).length)∧(TN m n t i l k1 0 l1∧Tab m.sT.length n.sT.length t.sT.length l1 inn1):=hG1
   show Ct _ _ _ _ [(3,ptr 3 b3 0),(4,ptr 4 b4 0),(5,ptr 5 b5 0),(7,osl 28 v28),(8,osl 30 v1),(9,int (i:Int)),(10,ptr 10 b10 0),(62,sl 2 pE (ix m.sT ((ix l i).1).toNat)),(63,int ((ix m.sT ((ix l i).1).toNat).length:Int)),(64,int (k1:Int))] [(3,cell b3 [sl 1 rE_ m.aC,sl 1 gE m.sT]),(4,cell b4 [sl 1 rE_ n.aC,sl 1 gE n.sT]),(5,cell b5 [sl 1 rE_ t.aC,sl 2 sE t.sT]),(10,cell b10 [int ((ix l i).1),int ((ix l i).2.1),int ((ix l i).2.2)]),(28,own v28 4 1 blE inn1),(30,own v1 144 3 wQ l1)] _
   have hlf1:=FU hm hn ht hTN1.nd hTN1.rch
   have hinl1:=hTab1.len
   refine sq (rg (bi J J aO (nl (th (sq ?_)))))
   refine cd J (fun hc2=> ?_) (fun hc2=> ?_)
   ·try simp at hc2
    refine sk (th (sq (bk (sq (rg (iF J J T.cQ O gB (lFA J T.cJ (Nat.le_of_ble_eq_true J) (al (key:=12) T.z94 (eC (eC eZ)) fun b12=>(sPA (cs':= [int ((ix (ix m.sT ((ix l i).1).toNat) k1).1),int ((ix (ix m.sT ((ix l i).1).toNat) k1).2)]) J J J T.cJ J J (nl (th (sq (rg (fP J T.bO (lP J J J T.cF (iPA J J T.oL T.aF J (lP J J J T.aF (iF J J T.dQ O gB (lF J J T.gF (fc (aV 73 J) fun hm73=>(lnF J T.cQ (mv (nl (th (bk ?_)))))))))))))))))))))))))
    have hI2_0:0≤(ix n.sT ((ix l i).2.1).toNat).length:=by
     first|omega|simp
    have hI2_1:TN m n t i l k1 0 l1∧Tab m.sT.length n.sT.length t.sT.length l1 inn1:=by
     exact⟨hTN1,hTab1⟩
    refine lp (κ:=Nat × Value × (List (Int × Int × Int)) × (List Bool)) (fun p=> [(3,ptr 3 b3 0),(4,ptr 4 b4 0),(5,ptr 5 b5 0),(7,osl 28 v28),(8,osl 30 p.2.1),(9,int (i:Int)),(10,ptr 10 b10 0),(12,ptr 12 b12 0),(62,sl 2 pE (ix m.sT ((ix l i).1).toNat)),(63,int ((ix m.sT ((ix l i).1).toNat).length:Int)),(64,int (k1:Int)),(73,sl 2 pE (ix n.sT ((ix l i).2.1).toNat)),(74,int ((ix n.sT ((ix l i).2.1).toNat).length:Int)),(75,int (p.1:Int))]) (fun p=> [(3,cell b3 [sl 1 rE_ m.aC,sl 1 gE m.sT]),(4,cell b4 [sl 1 rE_ n.aC,sl 1 gE n.sT]),(5,cell b5 [sl 1 rE_ t.aC,sl 2 sE t.sT]),(10,cell b10 [int ((ix l i).1),int ((ix l i).2.1),int ((ix l i).2.2)]),(12,cell b12 [int ((ix (ix m.sT ((ix l i).1).toNat) k1).1),int ((ix (ix m.sT ((ix l i).1).toNat) k1).2)]),(28,own v28 4 1 blE p.2.2.2),(30,own p.2.1 144 3 wQ p.2.2.1)]) (fun p=>(p.1≤(ix n.sT ((ix l i).2.1).toNat).length)∧(TN m n t i l k1 p.1 p.2.2.1∧Tab m.sT.length n.sT.length t.sT.length p.2.2.1 p.2.2.2)) (fun p=>(ix n.sT ((ix l i).2.1).toNat).length- p.1) ⟨0,v1,l1,inn1⟩ ⟨hI2_0,hI2_1⟩ ⟨id,id,id,id,id,id,id,id,id,id,id,id,id,id,tV⟩ ⟨rI,rI,rI,rI,rI,rI,rI,tV⟩ ?_
    intro⟨k2,v2,l2,inn2⟩ hG2
    obtain⟨hk2,⟨hTN2,hTab2⟩⟩:(k2≤(ix n.sT ((ix l i).2.1).toNat).length)∧(TN m n t i l k1 k2 l2∧Tab m.sT.length n.sT.length t.sT.length l2 inn2):=hG2
    show Ct _ _ _ _ [(3,ptr 3 b3 0),(4,ptr 4 b4 0),(5,ptr 5 b5 0),(7,osl 28 v28),(8,osl 30 v2),(9,int (i:Int)),(10,ptr 10 b10 0),(12,ptr 12 b12 0),(62,sl 2 pE (ix m.sT ((ix l i).1).toNat)),(63,int ((ix m.sT ((ix l i).1).toNat).length:Int)),(64,int (k1:Int)),(73,sl 2 pE (ix n.sT ((ix l i).2.1).toNat)),(74,int ((ix n.sT ((ix l i).2.1).toNat).length:Int)),(75,int (k2:Int))] [(3,cell b3 [sl 1 rE_ m.aC,sl 1 gE m.sT]),(4,cell b4 [sl 1 rE_ n.aC,sl 1 gE n.sT]),(5,cell b5 [sl 1 rE_ t.aC,sl 2 sE t.sT]),(10,cell b10 [int ((ix l i).1),int ((ix l i).2.1),int ((ix l i).2.2)]),(12,cell b12 [int ((ix (ix m.sT ((ix l i).1).toNat) k1).1),int ((ix (ix m.sT ((ix l i).1).toNat) k1).2)]),(28,own v28 4 1 blE inn2),(30,own v2 144 3 wQ l2)] _
    have hlf2:=FU hm hn ht hTN2.nd hTN2.rch
    have hinl2:=hTab2.len
    refine sq (rg (bi J J aO (nl (th (sq ?_)))))
    refine cd J (fun hc3=> ?_) (fun hc3=> ?_)
    ·try simp at hc3
     have hdm:(ix (ix m.sT (ix l i).1.toNat) k1)∈edg m (ix l i).1.toNat:=aQ hc2
     have hen:(ix (ix n.sT (ix l i).2.1.toNat) k2)∈edg n (ix l i).2.1.toNat:=aQ hc3
     have hed:0≤(ix (ix m.sT (ix l i).1.toNat) k1).1∧(ix (ix m.sT (ix l i).1.toNat) k1).1<(m.aC.length:Int):=⟨(hm.ed _ O _ hdm).1,(hm.ed _ O _ hdm).2.1⟩
     refine sk (th (sq (bk (sq (rg (iF J J T.cQ O gB (lFA J T.cJ (Nat.le_of_ble_eq_true J) (al (key:=14) T.z94 (eC (eC eZ)) fun b14=>(sPA (cs':= [int ((ix (ix n.sT ((ix l i).2.1).toNat) k2).1),int ((ix (ix n.sT ((ix l i).2.1).toNat) k2).2)]) J J J T.cJ J J (nl (th (sq (sq (rg (fP J T.cT (lP J J J T.aF (fP J T.cT (lP J J J T.aF (bi J J fI (nl (th ?_)))))))))))))))))))))
     refine cd J (fun hc4=> ?_) (fun hc4=> ?_)
     ·try simp at hc4
      refine ex (xt_ (xb (th (rg (bi J J (aG i6) (mv (nl ?_)))))))
      have hN0:(k2+1)≤(ix n.sT ((ix l i).2.1).toNat).length:=by
       first|omega|simp_all
      have hN1:TN m n t i l k1 (k2+1) l2∧Tab m.sT.length n.sT.length t.sT.length l2 inn2:=by
       exact⟨IA hTN2 hc3 (fun h=>absurd h hc4),hTab2⟩
      exact ln (⟨k2+1,v2,l2,inn2⟩:Nat × Value × (List (Int × Int × Int)) × (List Bool)) ⟨hN0,hN1⟩ dO ⟨id,id,id,id,id,id,id,id,id,id,id,id,id,id,tV⟩ ⟨rI,rI,rI,rI,rI,rI,rI,tV⟩
     ·try simp at hc4
      have hgt:0≤(ix (ix m.sT (ix l i).1.toNat) k1).2∧(ix (ix m.sT (ix l i).1.toNat) k1).2<(m.sT.length:Int)∧0≤(ix (ix n.sT (ix l i).2.1.toNat) k2).2∧(ix (ix n.sT (ix l i).2.1.toNat) k2).2<(n.sT.length:Int)∧0≤(ix (ix t.sT (ix l i).2.2.toNat).next (ix (ix m.sT (ix l i).1.toNat) k1).1.toNat)∧(ix (ix t.sT (ix l i).2.2.toNat).next (ix (ix m.sT (ix l i).1.toNat) k1).1.toNat)<(t.sT.length:Int)∧(ix (ix m.sT (ix l i).1.toNat) k1).1.toNat<t.aC.length:=goT hm hn ht ⟨hb0,hb1,hb2,hb3,hb4,hb5⟩ hnb hdm hen O
      obtain⟨q0,q1,q2,q3,q4,q5,q6⟩:=hgt
      have hcb:=Un q0 q1 q2 q3 q4 q5 hz
      have hbq:CQ m.sT.length n.sT.length t.sT.length ((ix (ix m.sT (ix l i).1.toNat) k1).2,(ix (ix n.sT (ix l i).2.1.toNat) k2).2,(ix (ix t.sT (ix l i).2.2.toNat).next (ix (ix m.sT (ix l i).1.toNat) k1).1.toNat)):=⟨q0,q1,q2,q3,q4,q5⟩
      have hcd:(((ix (ix m.sT (ix l i).1.toNat) k1).2*(n.sT.length:Int)+(ix (ix n.sT (ix l i).2.1.toNat) k2).2)*(t.sT.length:Int)+(ix (ix t.sT (ix l i).2.2.toNat).next (ix (ix m.sT (ix l i).1.toNat) k1).1.toNat)).toNat=jM n.sT.length t.sT.length ((ix (ix m.sT (ix l i).1.toNat) k1).2,(ix (ix n.sT (ix l i).2.1.toNat) k2).2,(ix (ix t.sT (ix l i).2.2.toNat).next (ix (ix m.sT (ix l i).1.toNat) k1).1.toNat)):=by
       have h:=DK (b:=n.sT.length) (c:=t.sT.length) (p:=((ix (ix m.sT (ix l i).1.toNat) k1).2,(ix (ix n.sT (ix l i).2.1.toNat) k2).2,(ix (ix t.sT (ix l i).2.2.toNat).next (ix (ix m.sT (ix l i).1.toNat) k1).1.toNat))) q0 q2 q4
       have h:(((ix (ix m.sT (ix l i).1.toNat) k1).2*(n.sT.length:Int)+(ix (ix n.sT (ix l i).2.1.toNat) k2).2)*(t.sT.length:Int)+(ix (ix t.sT (ix l i).2.2.toNat).next (ix (ix m.sT (ix l i).1.toNat) k1).1.toNat))=(jM n.sT.length t.sT.length ((ix (ix m.sT (ix l i).1.toNat) k1).2,(ix (ix n.sT (ix l i).2.1.toNat) k2).2,(ix (ix t.sT (ix l i).2.2.toNat).next (ix (ix m.sT (ix l i).1.toNat) k1).1.toNat)):Int):=h
       rw[h,Int.toNat_natCast]
      refine sk (th (sq ?_))
      refine drH (nh:=18) [0,1,0,4,0,16,0,64,240,496,1008,0,2048,8176,16368,32767,0,131071] [(none,[]),(none,[12]),(none,[]),(none,[14]),(none,[]),(none,[5]),(none,[]),(none,[10]),(none,[]),(none,[]),(none,[]),(none,[]),(none,[12]),(none,[]),(none,[]),(none,[]),(some 15,[]),(some 15,[15])] T.mixed kR kR ?_
      refine stv (d:=84) (fun β0=>ptr 12 b12 1) [] J bH (fun β0 _ _ _ _ gq gh kq=>fP (gq.1.trans J) T.cX kq) ?_
      refine stv (d:=85) (fun β0=>int ((ix (ix m.sT ((ix l i).1).toNat) k1).2)) [12] J bH (fun β0 _ _ _ _ gq gh kq=>lP (gq.1.trans J) (gh.1.trans J) J T.aF kq) ?_
      refine stv (d:=86) (fun β0=>ptr 14 b14 1) [] J bH (fun β0 _ _ _ _ gq gh kq=>fP (gq.1.trans J) T.cX kq) ?_
      refine stv (d:=87) (fun β0=>int ((ix (ix n.sT ((ix l i).2.1).toNat) k2).2)) [14] J bH (fun β0 _ _ _ _ gq gh kq=>lP (gq.1.trans J) (gh.1.trans J) J T.aF kq) ?_
      refine stv (d:=88) (fun β0=>ptr 5 b5 1) [] J bH (fun β0 _ _ _ _ gq gh kq=>fP (gq.1.trans J) T.bL kq) ?_
      refine stv (d:=89) (fun β0=>sl 2 sE t.sT) [5] J bH (fun β0 _ _ _ _ gq gh kq=>lP (gq.1.trans J) (gh.1.trans J) J T.bT kq) ?_
      refine stv (d:=90) (fun β0=>ptr 10 b10 2) [] J bH (fun β0 _ _ _ _ gq gh kq=>iPA (gq.1.trans J) J T.oL T.aF J kq) ?_
      refine stv (d:=91) (fun β0=>int ((ix l i).2.2)) [10] J bH (fun β0 _ _ _ _ gq gh kq=>lP (gq.1.trans J) (gh.1.trans J) J T.aF kq) ?_
      refine stv (d:=92) (fun β0=>fp [sl 1 nE (ix t.sT ((ix l i).2.2).toNat).aP,sl 1 nE (ix t.sT ((ix l i).2.2).toNat).next]) [] J bH (fun β0 _ _ _ _ gq gh kq=>iF (gq.1.trans J) (gq.2.1.trans J) T.cO O gB kq) ?_
      refine stv (d:=93) (fun β0=>fp [sl 1 nE (ix t.sT ((ix l i).2.2).toNat).next]) [] J bH (fun β0 _ _ _ _ gq gh kq=>fF (gq.1.trans J) T.cS kq) ?_
      refine stv (d:=94) (fun β0=>sl 1 nE (ix t.sT ((ix l i).2.2).toNat).next) [] J bH (fun β0 _ _ _ _ gq gh kq=>lF (gq.1.trans J) J T.bD kq) ?_
      refine stv (d:=95) (fun β0=>ptr 12 b12 0) [] J bH (fun β0 _ _ _ _ gq gh kq=>fP (gq.1.trans J) T.cT kq) ?_
      refine stv (d:=96) (fun β0=>int ((ix (ix m.sT ((ix l i).1).toNat) k1).1)) [12] J bH (fun β0 _ _ _ _ gq gh kq=>lP (gq.1.trans J) (gh.1.trans J) J T.aF kq) ?_
      refine stv (d:=97) (fun β0=>fp [int (ix (ix t.sT ((ix l i).2.2).toNat).next ((ix (ix m.sT ((ix l i).1).toNat) k1).1).toNat)]) [] J bH (fun β0 _ _ _ _ gq gh kq=>iF (gq.1.trans J) (gq.2.1.trans J) T.aX O gB kq) ?_
      refine stv (d:=98) (fun β0=>int (ix (ix t.sT ((ix l i).2.2).toNat).next ((ix (ix m.sT ((ix l i).1).toNat) k1).1).toNat)) [] J bH (fun β0 _ _ _ _ gq gh kq=>lF (gq.1.trans J) J T.aF kq) ?_
      refine stv (d:=99) (fun β0=>agg [int ((ix (ix m.sT ((ix l i).1).toNat) k1).2),int ((ix (ix n.sT ((ix l i).2.1).toNat) k2).2),int (ix (ix t.sT ((ix l i).2.2).toNat).next ((ix (ix m.sT ((ix l i).1).toNat) k1).1).toNat)]) [] J bH (fun β0 _ _ _ _ gq gh kq=>bd (css:= [(0,_),(1,_),(2,_)]) T.Rx (eC (eC (eC eZ))) ⟨J,J,p1 (φ:=int ((ix (ix m.sT ((ix l i).1).toNat) k1).2)) (by exact(gq.1.trans J)),⟨J,J,p1 (φ:=int ((ix (ix n.sT ((ix l i).2.1).toNat) k2).2)) (by exact(gq.2.1.trans J)),⟨J,J,p1 (φ:=int (ix (ix t.sT ((ix l i).2.2).toNat).next ((ix (ix m.sT ((ix l i).1).toNat) k1).1).toNat)) (by exact(gq.2.2.1.trans J)),tV⟩⟩⟩ kq) ?_
      refine sta 15 T.WO (eC (eC (eC eZ))) ?_
      refine stw 15 (fun β0=>cell (gbk (β0 16)) [int ((ix (ix m.sT ((ix l i).1).toNat) k1).2),int ((ix (ix n.sT ((ix l i).2.1).toNat) k2).2),int (ix (ix t.sT ((ix l i).2.2).toNat).next ((ix (ix m.sT ((ix l i).1).toNat) k1).1).toNat)]) [15] J (fun β β' hb=>by first|rw[hb 16 J]|(dsimp only;rw[hb 16 J])) (fun β0 _ _ _ _ gq gh kq=>sPA (cs':= [int ((ix (ix m.sT ((ix l i).1).toNat) k1).2),int ((ix (ix n.sT ((ix l i).2.1).toNat) k2).2),int (ix (ix t.sT ((ix l i).2.2).toNat).next ((ix (ix m.sT ((ix l i).1).toNat) k1).1).toNat)]) (gq.1.trans J) (gh.1.trans J) (gq.2.1.trans J) T.Cm J J kq) ?_
      refine pnH fun β0=>(nl (th (sq (rg (iPA J J T.oL T.aF J (lP J J J T.aF (fP J T.bO (lP J J J T.cF (lnF J T.dQ (bi J J (yN i6) (iPA J J T.oL T.aF J (lP J J J T.aF (bi J J (aG i6) (fP J T.bL (lP J J J T.bT (lnF J T.cO (bi J J (yN i6) (iPA J J T.oL T.aF J (lP J J J T.aF (bi J J (aG i6) (ag (nl (th (sq (rg (mv (mv (iO J J J T.gV O O (lO J J gB J T.eT (no J (nl (th ?_))))))))))))))))))))))))))))))))
      refine cd J (fun hc5=> ?_) (fun hc5=> ?_)
      ·skip
       have hnq:((ix (ix m.sT (ix l i).1.toNat) k1).2,(ix (ix n.sT (ix l i).2.1.toNat) k2).2,(ix (ix t.sT (ix l i).2.2.toNat).next (ix (ix m.sT (ix l i).1.toNat) k1).1.toNat))∉l2:=by
        rw[hcd,hTab2.at_ _ hbq] at hc5
        simpa using hc5
       refine sq (rg (mv (mv (iO J J J T.gV O O (sO (φ:=bl true) J J J T.eT gB J (y':=true) J (nl (th (rg (mv (lPA J J T.Cm J (bsE (enc:=wQ) (xs:= [((ix (ix m.sT ((ix l i).1).toNat) k1).2,(ix (ix n.sT ((ix l i).2.1).toNat) k2).2,ix (ix t.sT ((ix l i).2.2).toNat).next ((ix (ix m.sT ((ix l i).1).toNat) k1).1).toNat)]) (css:= [[int ((ix (ix m.sT ((ix l i).1).toNat) k1).2),int ((ix (ix n.sT ((ix l i).2.1).toNat) k2).2),int (ix (ix t.sT ((ix l i).2.2).toNat).next ((ix (ix m.sT ((ix l i).1).toNat) k1).1).toNat)]]) T.Ko ⟨J,J,pA (cs:= [int ((ix (ix m.sT ((ix l i).1).toNat) k1).2),int ((ix (ix n.sT ((ix l i).2.1).toNat) k2).2),int (ix (ix t.sT ((ix l i).2.2).toNat).next ((ix (ix m.sT ((ix l i).1).toNat) k1).1).toNat)]) J,tV⟩ J J J J (ap (key:=30) (zs:= [((ix (ix m.sT ((ix l i).1).toNat) k1).2,(ix (ix n.sT ((ix l i).2.1).toNat) k2).2,ix (ix t.sT ((ix l i).2.2).toNat).next ((ix (ix m.sT ((ix l i).1).toNat) k1).1).toNat)]) bX J J J T.Ko (by unfold aT at*;simp;omega) (by unfold aT at*;simp;omega) fun v127=>(ag (nl (eb (th (rg (bi J J (aG i6) (mv (nl ?_))))))))))))))))))))
       have hN0:(k2+1)≤(ix n.sT ((ix l i).2.1).toNat).length:=by
        first|omega|simp_all
       have hN1:TN m n t i l k1 (k2+1) (l2++ [((ix (ix m.sT ((ix l i).1).toNat) k1).2,(ix (ix n.sT ((ix l i).2.1).toNat) k2).2,ix (ix t.sT ((ix l i).2.2).toNat).next ((ix (ix m.sT ((ix l i).1).toNat) k1).1).toNat)])∧Tab m.sT.length n.sT.length t.sT.length (l2++ [((ix (ix m.sT ((ix l i).1).toNat) k1).2,(ix (ix n.sT ((ix l i).2.1).toNat) k2).2,ix (ix t.sT ((ix l i).2.2).toNat).next ((ix (ix m.sT ((ix l i).1).toNat) k1).1).toNat)]) (inn2.set ((((((ix (ix m.sT ((ix l i).1).toNat) k1).2)*(n.sT.length:Int))+((ix (ix n.sT ((ix l i).2.1).toNat) k2).2))*(t.sT.length:Int))+(ix (ix t.sT ((ix l i).2.2).toNat).next ((ix (ix m.sT ((ix l i).1).toNat) k1).1).toNat)).toNat true):=by
        refine⟨Tf hTW hTN2 hc0 hnb hc2 hc3 O hnq,?_⟩
        rw[hcd]
        exact FV hTab2 hbq
       exact ln (⟨k2+1,v127,l2++ [((ix (ix m.sT ((ix l i).1).toNat) k1).2,(ix (ix n.sT ((ix l i).2.1).toNat) k2).2,ix (ix t.sT ((ix l i).2.2).toNat).next ((ix (ix m.sT ((ix l i).1).toNat) k1).1).toNat)],inn2.set ((((((ix (ix m.sT ((ix l i).1).toNat) k1).2)*(n.sT.length:Int))+((ix (ix n.sT ((ix l i).2.1).toNat) k2).2))*(t.sT.length:Int))+(ix (ix t.sT ((ix l i).2.2).toNat).next ((ix (ix m.sT ((ix l i).1).toNat) k1).1).toNat)).toNat true⟩:Nat × Value × (List (Int × Int × Int)) × (List Bool)) ⟨hN0,hN1⟩ dO ⟨id,id,id,id,id,id,id,id,id,id,id,id,id,id,tV⟩ ⟨rI,rI,rI,rI,rI,rI,rI,tV⟩
      ·skip
       have hyq:((ix (ix m.sT (ix l i).1.toNat) k1).2,(ix (ix n.sT (ix l i).2.1.toNat) k2).2,(ix (ix t.sT (ix l i).2.2.toNat).next (ix (ix m.sT (ix l i).1.toNat) k1).1.toNat))∈l2:=by
        rw[hcd,hTab2.at_ _ hbq] at hc5
        simpa using hc5
       refine sk (eb (th (rg (bi J J (aG i6) (mv (nl ?_))))))
       have hN0:(k2+1)≤(ix n.sT ((ix l i).2.1).toNat).length:=by
        first|omega|simp_all
       have hN1:TN m n t i l k1 (k2+1) l2∧Tab m.sT.length n.sT.length t.sT.length l2 inn2:=by
        exact⟨IA hTN2 hc3 (fun _=>hyq),hTab2⟩
       exact ln (⟨k2+1,v2,l2,inn2⟩:Nat × Value × (List (Int × Int × Int)) × (List Bool)) ⟨hN0,hN1⟩ dO ⟨id,id,id,id,id,id,id,id,id,id,id,id,id,id,tV⟩ ⟨rI,rI,rI,rI,rI,rI,rI,tV⟩
    ·try simp at hc3
     refine ex (xt_ (xt_ (xb (eb (th (rg (bi J J (aG i6) (mv (nl ?_)))))))))
     have hN0:(k1+1)≤(ix m.sT ((ix l i).1).toNat).length:=by
      first|omega|simp_all
     have hN1:TN m n t i l (k1+1) 0 l2∧Tab m.sT.length n.sT.length t.sT.length l2 inn2:=by
      exact⟨VX hTN2 hc2 (by show(ix n.sT (ix l i).2.1.toNat).length≤k2;omega),hTab2⟩
     exact ln (⟨k1+1,v2,l2,inn2⟩:Nat × Value × (List (Int × Int × Int)) × (List Bool)) ⟨hN0,hN1⟩ dO ⟨id,id,id,id,id,id,id,id,id,id,tV⟩ ⟨rI,rI,rI,rI,rI,rI,tV⟩
   ·try simp at hc2
    refine ex (xt_ (xt_ (xb (eb (th (rg (mv (bi J J (aG i6) (ag (nl ?_))))))))))
    have hN0:TW m n t (i+1) l1∧Tab m.sT.length n.sT.length t.sT.length l1 inn1:=by
     exact⟨VY hTW hTN1 hc0 hnb (by show(ix m.sT (ix l i).1.toNat).length≤k1;omega),hTab1⟩
    exact ln (⟨i+1,v1,l1,inn1⟩:Nat × Value × (List (Int × Int × Int)) × (List Bool)) hN0 dO ⟨id,id,id,id,id,id,tV⟩ ⟨rI,rI,rI,rI,rI,tV⟩
 ·try simp at hc0
  refine ex (xt_ (xt_ (xb (th (sq (rg (ag (nl (th (rt ?_))))))))))
  have hr0:true=(oF m n t):=by
   rw[Ao.2 (VW hTW O)]
  exact rE () [.tmp 6] J [bl true] ⟨.tmp J,tV⟩ (cA1 (fun x0=>rV [bl x0]) hr0) trivial eX
end divt
end
end Go.Proofs.YtnlfjojfgghchaaGreatDoor
