/- The walks of the functions and the plain laws. Own texts of this claim, packed: Mkmkr, MkLeadM, Mkdivc, Mkdivj, Mkdivq, Mkdivm, Mkdiva, Mkdivt. -/
import Derived.Test.YtnlfjojfgghchaaGreatDoorX28
import Derived.Test.YtnlfjojfgghchaaGreatDoorX22
import Derived.Test.YtnlfjojfgghchaaGreatDoorX16
import Derived.Test.YtnlfjojfgghchaaGreatDoorX14
import Derived.Test.YtnlfjojfgghchaaGreatDoorX15
import Derived.Test.YtnlfjojfgghchaaGreatDoorX06
import Derived.Test.YtnlfjojfgghchaaGreatDoorX19
set_option linter.all false
namespace Go.Proofs.YtnlfjojfgghchaaGreatDoor
open AL Go
set_option maxRecDepth 100000
section
open ref01 ref03 ref04 ref06 prog prog2 prog3 prog4 prog5 prog6 prog7 prog8 prog9 prog15 Part Rungs LeftM TrimM RoundM MergeM BisM BisM4 BisM5 Itoa Keys WalkM StepM WitM JudgM JudgM2 search refw judg wit refj sysw satj divr divs divd dive divv TrimI QuoM FailM DivM FitM TogM ProdM prodw GenW CompM CrossM KeepK GuardM MakeM LsysM LsysM2 MakeM2 KeepB AtM ClsM LstM MakeM3 GuaW ValidM mkk mkp mkl mkc mkq mkg
theorem GD {f:FuncId} {w:World} {F:Fz} {v:Value} (h:(agg [eqv (.func (.func f) #[] #[])]).p w F v):(agg [clo f []]).p w F v:=iV (cs:= [eqv (.func (.func f) #[] #[])]) (ds:= [clo f []]) ⟨fun h=>Vq h,tV⟩ h
theorem GF {l:List Int} {m:Nat} {a:Int} (nx:List Int) (h:l[m]?=some a):(l.take (m+1)).map (fun(a:Int)=>((a,ix nx a.toNat):Int × Int))=(l.take m).map (fun(a:Int)=>((a,ix nx a.toNat):Int × Int))++ [(a,ix nx a.toNat)]:=by
 rw[List.take_succ,h,List.map_append];rfl
theorem Ec {s:SS} {u:Int}:cV s false u=(⟨[],[]⟩,2):=by unfold cV;simp
theorem GG {s:SS} {u:Int} (h:ix (hOl (tR (bB u s)).1) 0=true):cV s true u=(⟨[],[]⟩,3):=by unfold cV;simp[h]
theorem IV {s:SS} {u:Int} (h:ix (hOl (tR (bB u s)).1) 0=false):cV s true u=(dB lgC (tR (bB u s)).1,0):=by unfold cV;simp[h]
theorem WX {m n k:aA} {q:List (Int × Int)} (hm:bI m=true) (hn:bI n=true) (h:mS m n k q) (hz:m.sT.length*n.sT.length<5000) (hz2:bX m.sT*bX n.sT≤400000):bI k=true:=
 JX hm hn h (by have:=Pd h;omega) (Nat.le_trans (Pe h) (Nat.le_trans (Io h.nd h.box _) hz2))
noncomputable def bL (m:aA) (t:SS) (u:Int):aA × Int:=
 if dM m t=0 then(if fK (t.aC.length:Int) u=true then cV (bF m t).1 (bF m t).2 u else(⟨[],[]⟩,1)) else(⟨[],[]⟩,dM m t)
noncomputable def iN (x m:aA) (t:SS) (u:Int):Int:=
 if bI x=true∧bI m=true then(if bU t=true then(if x.aC=m.aC∧x.aC=t.aC then(if fK (t.aC.length:Int) u=true then 0 else 1) else 10) else 30) else 20
noncomputable def mK (x m:aA) (t:SS) (u:Int):Bool:=decide (iN x m t u=0)&&(@decide (wE m x t) (Classical.propDecidable _)&&jS x u)
theorem MY {m x k:aA} {t:SS} {u:Int} {q:List (Int × Int)} {v:VJ} (hm:aY m) (hx:aY x) (ht:oK t) (h:mS m x k q) (hk:aY k) (hv:zD k t v) (hd:iN x m t u=0):mK x m t u=(v.holds&&jS x u):=by
 unfold mK
 rw[hd,decide_eq_true rfl,Bool.true_and]
 congr 1
 rw[Bool.eq_iff_iff,LR hv,Pb hm hx ht h];simp
theorem Cm {x m:aA} {t:SS} {u:Int} (h:iN x m t u≠0):mK x m t u=false:=by unfold mK;rw[decide_eq_false h,Bool.false_and]
theorem TB {m x:aA} (hm:bI m=true) (hx:bI x=true) (h:m.aC=x.aC):iT m x=0:=by unfold iT;rw[if_pos hm,if_pos hx,if_pos h]
namespace T
theorem z87:eY Tryz.prog 87 [.slice none 0 0]:=cX kR
theorem GH:fC Tryz.prog 104 0 0:=eK kR
theorem MZ:eE Tryz.prog 102:=gC kR
theorem VZ:Ent Tryz.prog 111:=aO kR
theorem Na:Ent Tryz.prog 121:=aO kR
theorem WY:Ent Tryz.prog 74:=aO kR
theorem WZ:Ent Tryz.prog 72:=aO kR
theorem Re:jL Tryz.prog 104 [(0,1)] [.nilFunc]:=jN kR kR
theorem Rf:Ent Tryz.prog 75:=aO kR
theorem Rh:Ent Tryz.prog 61:=aO kR
theorem Xa:Ent Tryz.prog 62:=aO kR
theorem Xb:Ent Tryz.prog 69:=aO kR
theorem Xc:Ent Tryz.prog 70:=aO kR
theorem TC:Fs Tryz.prog 68 0 0 4:=HO kR
theorem Xd:Ent Tryz.prog 71:=aO kR
end T
namespace mkr
theorem PU (s:SS) (hs:oK s) (hf:s.sT.length≤500) (hne:∀y,y<s.sT.length→acc s y≠[]):
 AL.Fn Tryz.prog 75 [agg [clo 111 []],kS (spec s)] [] (ι:=Unit) (fun N _=>agg [fre N (strs s.aC),fre N (sl 1 gE (dB lgC s).sT)]) (fun _=> []):=by
 refine fnI Tryz.func75 rfl rfl (fun w0 F0=> ?_)
 have f1:=hs.few1;have hn8:=hs.n8;have hc:=MR hne;have hmv:=DY hs hc hf
 refine tbI 1 9999 rfl ?_
 refine xQ (ψ:=tab) 9999 997 rfl ?_
 refine fcC (cE 1 J) (fun hS1=> ?_)
 obtain⟨hsa1,hss1,hse1⟩:=sLn hS1
 refine sq (rg (bx (key:=2) (cs:= [clo 111 []]) J fun b2=>(bx (key:=3) (cs:= [sl 1 rE_ s.aC,sl 2 sE s.sT]) J fun b3=>(al (key:=4) T.z25 (eC (eC eZ)) fun b4=>(nl (th (sq (rg (fP J T.eR (lP J J J T.dE (kC (φs:= [sl 1 rE_ s.aC]) (φ:=sl 1 rE_ s.aC) ⟨J,tV⟩ (prog.fL _ O) T.rD (fun N hN=>fun h=>jG h) (bd (css:= [(0,_)]) T.lY (eC (eC eZ)) ⟨J,J,p1 (φ:=sl 1 rE_ s.aC) J,tV⟩ (al (key:=5) T.z25 (eC (eC eZ)) fun b5=>(sPA (cs':= [sl 1 rE_ s.aC,eqv (.slice none 0 0)]) J J J T.aZ J J (nl (th (sq (sq (rg (fP J T.bP (lP J J J T.cO (fc (aW 15 J) fun hm15=>(lnF J T.dI (mv (nl (th (bk ?_)))))))))))))))))))))))))))
 refine nwC 50 87 1 gE (nB 5 1 (osl 50 (.slice none 0 0)) rfl rfl dH ?_)
 have hI0_0:0≤s.sT.length:=by
  first|omega|simp
 have hI0_1:([]:List (List (Int × Int)))=mkO (lgC s) s 0:=by
  rfl
 refine lp (κ:=Nat × Value × (List (List (Int × Int)))) (fun p=> [(2,ptr 2 b2 0),(4,ptr 4 b4 0),(5,ptr 5 b5 0),(15,sl 2 sE s.sT),(16,int (s.sT.length:Int)),(17,int (p.1:Int)),(9999,tab)]) (fun p=> [(2,cell b2 [clo 111 []]),(3,cell b3 [sl 1 rE_ s.aC,sl 2 sE s.sT]),(4,cell b4 [eqv (.slice none 0 0),eqv (.slice none 0 0)]),(5,cell b5 [sl 1 rE_ s.aC,osl 50 p.2.1]),(50,own p.2.1 87 1 gE p.2.2),(997,dJ tab)]) (fun p=>(p.1≤s.sT.length)∧(p.2.2=mkO (lgC s) s p.1)) (fun p=>s.sT.length- p.1) ⟨0,(.slice none 0 0),([]:List (List (Int × Int)))⟩ ⟨hI0_0,hI0_1⟩ ⟨id,id,id,id,id,id,id,tV⟩ ⟨rI,rI,rI,rI,rI,rI,tV⟩ ?_
 intro⟨k,uo,aL⟩ hG0
 obtain⟨hk0,houts⟩:(k≤s.sT.length)∧(aL=mkO (lgC s) s k):=hG0
 show Ct _ _ _ _ [(2,ptr 2 b2 0),(4,ptr 4 b4 0),(5,ptr 5 b5 0),(15,sl 2 sE s.sT),(16,int (s.sT.length:Int)),(17,int (k:Int)),(9999,tab)] [(2,cell b2 [clo 111 []]),(3,cell b3 [sl 1 rE_ s.aC,sl 2 sE s.sT]),(4,cell b4 [eqv (.slice none 0 0),eqv (.slice none 0 0)]),(5,cell b5 [sl 1 rE_ s.aC,osl 50 uo]),(50,own uo 87 1 gE aL),(997,dJ tab)] _
 have hol:aL.length≤500:=by rw[houts,IK];omega
 refine sq (rg (bi J J aN (nl (th (sq ?_)))))
 refine cd J (fun hc0=> ?_) (fun hc0=> ?_)
 ·try simp at hc0
  have hst:=hs.st k O
  have hsl:=hst.len
  have hac:=hst.ac
  have hcin:(iA (ix s.sT k).aP)∈acc s k:=hc k O
  have hal:0<(ix s.sT k).aP.length:=List.length_pos_iff.2 (hne k O)
  have hcb:0≤(iA (ix s.sT k).aP)∧(iA (ix s.sT k).aP)<256:=CompM.uU hs O _ hcin
  have hcut:aI 63 (iA (ix s.sT k).aP)=aI s.aC.length (iA (ix s.sT k).aP):=IM hs O hcin
  refine sk (th (sq (bk (sq (rg (iF J J T.dI O gB (lFA J T.dY (Nat.le_of_ble_eq_true J) (al (key:=7) T.z79 (eC (eC eZ)) fun b7=>(sPA (cs':= [sl 1 nE (ix s.sT k).aP,sl 1 nE (ix s.sT k).next]) J J J T.dY J J (nl (th (sq (rg (al (key:=8) T.z87 (eC eZ) fun b8=>(nl (th (sq (sq (rg (fP J T.GH (lP J J J T.MZ (fP J T.dG (lP J J J T.bG (Qz (φs:= [sl 1 nE (ix s.sT k).aP]) (φ:=int (iA (ix s.sT k).aP)) J ⟨J,tV⟩ (Kd (ix s.sT k).aP hal hac) T.VZ (bE (φs:= [int (iA (ix s.sT k).aP)]) (φ:=clo 137 [fp [int (iA (ix s.sT k).aP)]]) ⟨J,tV⟩ (prog3.rC (iA (ix s.sT k).aP)) T.vQ (nl (th (bk (nwC 80 94 2 pE (nB 8 0 (osl 80 (.slice none 0 0)) J J dH ?_))))))))))))))))))))))))))))))
  have hR0:([]:List (Int × Int))=((aI 63 (iA (ix s.sT k).aP)).take 0).map (fun(a:Int)=>((a,ix (ix s.sT k).next a.toNat):Int × Int)):=by
   rfl
  refine rf (κ:=Value × (List (Int × Int))) 900 (fun p=> [(2,cell b2 [clo 111 []]),(3,cell b3 [sl 1 rE_ s.aC,sl 2 sE s.sT]),(4,cell b4 [eqv (.slice none 0 0),eqv (.slice none 0 0)]),(5,cell b5 [sl 1 rE_ s.aC,osl 50 uo]),(7,cell b7 [sl 1 nE (ix s.sT k).aP,sl 1 nE (ix s.sT k).next]),(8,cell b8 [osl 80 p.1]),(50,own uo 87 1 gE aL),(80,own p.1 94 2 pE p.2),(997,dJ tab)]) (fun iR p=>p.2=((aI 63 (iA (ix s.sT k).aP)).take iR).map (fun(a:Int)=>((a,ix (ix s.sT k).next a.toNat):Int × Int))) (fun c p=>False) J (Ah (iA (ix s.sT k).aP) O O) T.sB J (fun _=>J) (fun _=>J) ⟨(.slice none 0 0),([]:List (Int × Int))⟩ hR0 ⟨rI,rI,rI,rI,rI,rI,rI,rI,rI,tV⟩ ?_ ?_ (fun k h=>h.elim) (fun id k h=>h.elim) (fun c k h=>h.elim)
  ·intro m0 ⟨u8x,l1⟩ x0 hG0 hx0 l R w1 M1 F1 hRd
   have hR0:l1=((aI 63 (iA (ix s.sT k).aP)).take m0).map (fun(a:Int)=>((a,ix (ix s.sT k).next a.toNat):Int × Int)):=hG0
   show Ct _ _ _ _ _ ((900,obj l (.loop R)):: [(2,cell b2 [clo 111 []]),(3,cell b3 [sl 1 rE_ s.aC,sl 2 sE s.sT]),(4,cell b4 [eqv (.slice none 0 0),eqv (.slice none 0 0)]),(5,cell b5 [sl 1 rE_ s.aC,osl 50 uo]),(7,cell b7 [sl 1 nE (ix s.sT k).aP,sl 1 nE (ix s.sT k).next]),(8,cell b8 [osl 80 u8x]),(50,own uo 87 1 gE aL),(80,own u8x 94 2 pE l1),(997,dJ tab)]) _
   have hm63:m0<63:=by
    have h1:=(List.getElem?_eq_some_iff.1 hx0).1
    have h2:=AE (iA (ix s.sT k).aP)
    omega
   have hl1l:l1.length≤63:=by rw[hR0,List.length_map,List.length_take];omega
   obtain⟨a,rfl,ha63,hha⟩:=mE hx0
   have hgo:=rH hs (x:=k) O ((cY _ _).2 ⟨_,hcin,hha⟩)
   have hgo2:0≤ix (ix s.sT k).next a∧ix (ix s.sT k).next a<(s.sT.length:Int):=hgo.2
   refine rg (ag (nl (aq hRd J (bk (dr (nh:=9) [0,0,0,4,0,28,60,126,254,511,1023] T.mixed kR ?_)))))
   refine st_ J (fun _ _ _ gq kq=>lP (gq.1.trans J) J J T.fB kq) ?_
   refine st_ J (fun _ _ _ gq kq=>mv' (gq.1.trans J) kq) ?_
   refine st_ J (fun _ _ _ gq kq=>fP (gq.1.trans J) T.eG kq) ?_
   refine st_ J (fun _ _ _ gq kq=>lP (gq.1.trans J) J J T.bG kq) ?_
   refine st_ J (fun _ _ _ gq kq=>mv' (gq.1.trans J) kq) ?_
   refine st_ J (fun _ _ _ gq kq=>iF (gq.1.trans J) (gq.2.1.trans J) T.aU O gB kq) ?_
   refine st_ J (fun _ _ _ gq kq=>lF (gq.1.trans J) J T.aD kq) ?_
   refine st_ J (fun _ _ _ gq kq=>bd (css:= [(0,_),(1,_)]) T.wJ (eC (eC eZ)) ⟨J,J,p1 (φ:=int (a:Int)) (by exact(gq.1.trans J)),⟨J,J,p1 (φ:=int (ix (ix s.sT k).next a)) (by exact(gq.2.1.trans J)),tV⟩⟩ kq) ?_
   refine st_ J (fun _ _ _ gq kq=>bsE (enc:=pE) (xs:= [((a:Int),ix (ix s.sT k).next a)]) (css:= [[int (a:Int),int (ix (ix s.sT k).next a)]]) T.lG ⟨J,J,pA (cs:= [int (a:Int),int (ix (ix s.sT k).next a)]) (by exact(gq.1.trans J)),tV⟩ J J J J kq) ?_
   refine pn (ap (key:=80) (zs:= [((a:Int),ix (ix s.sT k).next a)]) cD J J J T.lG (by unfold aT at*;simp;omega) (by unfold aT at*;simp;omega) fun v37=>(cU J J J J T.fB J (nl (eb ?_))))
   have hN0:(l1++ [((a:Int),ix (ix s.sT k).next a)])=((aI 63 (iA (ix s.sT k).aP)).take (m0+1)).map (fun(a:Int)=>((a,ix (ix s.sT k).next a.toNat):Int × Int)):=by
    rw[GF _ hx0,←hR0,Int.toNat_natCast]
   exact rqN ⟨v37,l1++ [((a:Int),ix (ix s.sT k).next a)]⟩ hN0 ⟨rI,rI,rI,rI,rI,rI,rI,rI,rI,rI,tV⟩
  ·intro⟨u8x,l1⟩ hG0
   have hR0:l1=((aI 63 (iA (ix s.sT k).aP)).take (aI 63 (iA (ix s.sT k).aP)).length).map (fun(a:Int)=>((a,ix (ix s.sT k).next a.toNat):Int × Int)):=hG0
   show At _ _ _ _ [(2,cell b2 [clo 111 []]),(3,cell b3 [sl 1 rE_ s.aC,sl 2 sE s.sT]),(4,cell b4 [eqv (.slice none 0 0),eqv (.slice none 0 0)]),(5,cell b5 [sl 1 rE_ s.aC,osl 50 uo]),(7,cell b7 [sl 1 nE (ix s.sT k).aP,sl 1 nE (ix s.sT k).next]),(8,cell b8 [osl 80 u8x]),(50,own uo 87 1 gE aL),(80,own u8x 94 2 pE l1),(997,dJ tab)]
   refine eb (th (rg (fP rfl T.bN (lP rfl rfl rfl T.cH (lP rfl rfl rfl T.fB (fz 80 40 rfl rfl (bsE (enc:=gE) (xs:= [l1]) (css:= [[sl 2 pE l1]]) T.pP ⟨rfl,rfl,p1 (φ:=sl 2 pE l1) rfl,tV⟩ rfl rfl rfl rfl (ap (key:=50) (zs:= [l1]) cD rfl rfl rfl T.pP (by unfold aT at*;simp;omega) (by unfold aT at*;simp;omega) fun v42=>(fP rfl T.bN (cU rfl rfl rfl rfl T.cH rfl (nl (eb (th (rg (bi rfl rfl (aK i6) (mv (nl ?_)))))))))))))))))
   have hN0:(k+1)≤s.sT.length:=by
    first|omega|simp_all
   have hN1:(aL++ [l1])=mkO (lgC s) s (k+1):=by
    rw[Gt,houts,hR0,List.take_length,hcut];rfl
   exact ln (⟨k+1,v42,aL++ [l1]⟩:Nat × Value × (List (List (Int × Int)))) ⟨hN0,hN1⟩ dO ⟨id,id,id,id,id,id,id,tV⟩ ⟨rI,rI,rI,rI,rI,rI,tV⟩
 ·try simp at hc0
  refine ex (xt_ (xt_ (xb (th (sq (rg (fzc 5 50 1 J J J J (lPA J J T.aZ J (kn 46 (sys (mkM (lgC s) s)) J (by rw[show aL=(mkM (lgC s) s).sT by rw[houts,show k=s.sT.length by omega];exact IL _ _];exact fun h=>h) (tbU (ψ:=tab) 46 9999 J J (NG (φs:= [both (agg [sl 1 rE_ (mkM (lgC s) s).aC,sl 1 gE (mkM (lgC s) s).sT]) tab]) ⟨J,tV⟩ (mkq.Gr (mkM (lgC s) s) aS) T.Na trivial fun N47 i47 hN47=>(kd (φ':=tup [agg [fre w0.heap.size (sl 1 rE_ (cI (mkM (lgC s) s)).aC),fre w0.heap.size (sl 1 gE (cI (mkM (lgC s) s)).sT)],sl 1 nE i47,int 0]) (fun h=>oI (cs:= [agg [fre N47 (sl 1 rE_ (cI (mkM (lgC s) s)).aC),fre N47 (sl 1 gE (cI (mkM (lgC s) s)).sT)],sl 1 nE i47,int 0]) (ds:= [agg [fre w0.heap.size (sl 1 rE_ (cI (mkM (lgC s) s)).aC),fre w0.heap.size (sl 1 gE (cI (mkM (lgC s) s)).sT)],sl 1 nE i47,int 0]) ⟨fun h=>iV (cs:= [fre N47 (sl 1 rE_ (cI (mkM (lgC s) s)).aC),fre N47 (sl 1 gE (cI (mkM (lgC s) s)).sT)]) (ds:= [fre w0.heap.size (sl 1 rE_ (cI (mkM (lgC s) s)).aC),fre w0.heap.size (sl 1 gE (cI (mkM (lgC s) s)).sT)]) ⟨fun h=>iC hN47 h,fun h=>iC hN47 h,tV⟩ h,fun h=>h,fun h=>h,tV⟩ h) (mv (xt J J (xt J J (xt J J (sPA (cs':= [fre w0.heap.size (sl 1 rE_ (cI (mkM (lgC s) s)).aC),fre w0.heap.size (sl 1 gE (cI (mkM (lgC s) s)).sT)]) J J J T.aZ J J (nl (th (sq (rg (lPA J J T.aZ J (sPA (cs':= [fre w0.heap.size (sl 1 rE_ (cI (mkM (lgC s) s)).aC),fre w0.heap.size (sl 1 gE (cI (mkM (lgC s) s)).sT)]) J J J T.aZ J J (nl (th (rt ?_))))))))))))))))))))))))))
  have hr0:(cI (mkM (lgC s) s)).aC=s.aC:=by
   first|rfl|simp_all|omega
  have hr1:(cI (mkM (lgC s) s)).sT=(dB lgC s).sT:=by
   first|rfl|simp_all|omega
  exact rE () [.cell 4 25] J [agg [fre w0.heap.size (sl 1 rE_ (cI (mkM (lgC s) s)).aC),fre w0.heap.size (sl 1 gE (cI (mkM (lgC s) s)).sT)]] ⟨.agg J J T.aZ J J,tV⟩ (cA2 (fun x0 x1=>rV [agg [fre w0.heap.size (sl 1 rE_ x0),fre w0.heap.size (sl 1 gE x1)]]) hr0 hr1) trivial eX
theorem PV (s:SS) (hs:oK s) (hf:s.sT.length≤500) (hne:∀y,y<s.sT.length→acc s y≠[]):
 AL.Fn Tryz.prog 75 [agg [clo 74 []],kS (spec s)] [] (ι:=Unit) (fun N _=>agg [fre N (strs s.aC),fre N (sl 1 gE (dB bV s).sT)]) (fun _=> []):=by
 refine fnI Tryz.func75 rfl rfl (fun w0 F0=> ?_)
 have f1:=hs.few1;have hn8:=hs.n8;have hc:=yI hne;have hmv:=DY hs hc hf
 refine tbI 1 9999 rfl ?_
 refine xQ (ψ:=tab) 9999 997 rfl ?_
 refine fcC (cE 1 J) (fun hS1=> ?_)
 obtain⟨hsa1,hss1,hse1⟩:=sLn hS1
 refine sq (rg (bx (key:=2) (cs:= [clo 74 []]) J fun b2=>(bx (key:=3) (cs:= [sl 1 rE_ s.aC,sl 2 sE s.sT]) J fun b3=>(al (key:=4) T.z25 (eC (eC eZ)) fun b4=>(nl (th (sq (rg (fP J T.eR (lP J J J T.dE (kC (φs:= [sl 1 rE_ s.aC]) (φ:=sl 1 rE_ s.aC) ⟨J,tV⟩ (prog.fL _ O) T.rD (fun N hN=>fun h=>jG h) (bd (css:= [(0,_)]) T.lY (eC (eC eZ)) ⟨J,J,p1 (φ:=sl 1 rE_ s.aC) J,tV⟩ (al (key:=5) T.z25 (eC (eC eZ)) fun b5=>(sPA (cs':= [sl 1 rE_ s.aC,eqv (.slice none 0 0)]) J J J T.aZ J J (nl (th (sq (sq (rg (fP J T.bP (lP J J J T.cO (fc (aW 15 J) fun hm15=>(lnF J T.dI (mv (nl (th (bk ?_)))))))))))))))))))))))))))
 refine nwC 50 87 1 gE (nB 5 1 (osl 50 (.slice none 0 0)) rfl rfl dH ?_)
 have hI0_0:0≤s.sT.length:=by
  first|omega|simp
 have hI0_1:([]:List (List (Int × Int)))=mkO (bV s) s 0:=by
  rfl
 refine lp (κ:=Nat × Value × (List (List (Int × Int)))) (fun p=> [(2,ptr 2 b2 0),(4,ptr 4 b4 0),(5,ptr 5 b5 0),(15,sl 2 sE s.sT),(16,int (s.sT.length:Int)),(17,int (p.1:Int)),(9999,tab)]) (fun p=> [(2,cell b2 [clo 74 []]),(3,cell b3 [sl 1 rE_ s.aC,sl 2 sE s.sT]),(4,cell b4 [eqv (.slice none 0 0),eqv (.slice none 0 0)]),(5,cell b5 [sl 1 rE_ s.aC,osl 50 p.2.1]),(50,own p.2.1 87 1 gE p.2.2),(997,dJ tab)]) (fun p=>(p.1≤s.sT.length)∧(p.2.2=mkO (bV s) s p.1)) (fun p=>s.sT.length- p.1) ⟨0,(.slice none 0 0),([]:List (List (Int × Int)))⟩ ⟨hI0_0,hI0_1⟩ ⟨id,id,id,id,id,id,id,tV⟩ ⟨rI,rI,rI,rI,rI,rI,tV⟩ ?_
 intro⟨k,uo,aL⟩ hG0
 obtain⟨hk0,houts⟩:(k≤s.sT.length)∧(aL=mkO (bV s) s k):=hG0
 show Ct _ _ _ _ [(2,ptr 2 b2 0),(4,ptr 4 b4 0),(5,ptr 5 b5 0),(15,sl 2 sE s.sT),(16,int (s.sT.length:Int)),(17,int (k:Int)),(9999,tab)] [(2,cell b2 [clo 74 []]),(3,cell b3 [sl 1 rE_ s.aC,sl 2 sE s.sT]),(4,cell b4 [eqv (.slice none 0 0),eqv (.slice none 0 0)]),(5,cell b5 [sl 1 rE_ s.aC,osl 50 uo]),(50,own uo 87 1 gE aL),(997,dJ tab)] _
 have hol:aL.length≤500:=by rw[houts,IK];omega
 refine sq (rg (bi J J aN (nl (th (sq ?_)))))
 refine cd J (fun hc0=> ?_) (fun hc0=> ?_)
 ·try simp at hc0
  have hst:=hs.st k O
  have hsl:=hst.len
  have hac:=hst.ac
  have hcin:(ix (ix s.sT k).aP 0)∈acc s k:=hc k O
  have hal:0<(ix s.sT k).aP.length:=List.length_pos_iff.2 (hne k O)
  have hcb:0≤(ix (ix s.sT k).aP 0)∧(ix (ix s.sT k).aP 0)<256:=CompM.uU hs O _ hcin
  have hcut:aI 63 (ix (ix s.sT k).aP 0)=aI s.aC.length (ix (ix s.sT k).aP 0):=IM hs O hcin
  refine sk (th (sq (bk (sq (rg (iF J J T.dI O gB (lFA J T.dY (Nat.le_of_ble_eq_true J) (al (key:=7) T.z79 (eC (eC eZ)) fun b7=>(sPA (cs':= [sl 1 nE (ix s.sT k).aP,sl 1 nE (ix s.sT k).next]) J J J T.dY J J (nl (th (sq (rg (al (key:=8) T.z87 (eC eZ) fun b8=>(nl (th (sq (sq (rg (fP J T.GH (lP J J J T.MZ (fP J T.dG (lP J J J T.bG (Qz (φs:= [sl 1 nE (ix s.sT k).aP]) (φ:=int (ix (ix s.sT k).aP 0)) J ⟨J,tV⟩ (Hq (ix s.sT k).aP hal) T.WY (bE (φs:= [int (ix (ix s.sT k).aP 0)]) (φ:=clo 137 [fp [int (ix (ix s.sT k).aP 0)]]) ⟨J,tV⟩ (prog3.rC (ix (ix s.sT k).aP 0)) T.vQ (nl (th (bk (nwC 80 94 2 pE (nB 8 0 (osl 80 (.slice none 0 0)) J J dH ?_))))))))))))))))))))))))))))))
  have hR0:([]:List (Int × Int))=((aI 63 (ix (ix s.sT k).aP 0)).take 0).map (fun(a:Int)=>((a,ix (ix s.sT k).next a.toNat):Int × Int)):=by
   rfl
  refine rf (κ:=Value × (List (Int × Int))) 900 (fun p=> [(2,cell b2 [clo 74 []]),(3,cell b3 [sl 1 rE_ s.aC,sl 2 sE s.sT]),(4,cell b4 [eqv (.slice none 0 0),eqv (.slice none 0 0)]),(5,cell b5 [sl 1 rE_ s.aC,osl 50 uo]),(7,cell b7 [sl 1 nE (ix s.sT k).aP,sl 1 nE (ix s.sT k).next]),(8,cell b8 [osl 80 p.1]),(50,own uo 87 1 gE aL),(80,own p.1 94 2 pE p.2),(997,dJ tab)]) (fun iR p=>p.2=((aI 63 (ix (ix s.sT k).aP 0)).take iR).map (fun(a:Int)=>((a,ix (ix s.sT k).next a.toNat):Int × Int))) (fun c p=>False) J (Ah (ix (ix s.sT k).aP 0) O O) T.sB J (fun _=>J) (fun _=>J) ⟨(.slice none 0 0),([]:List (Int × Int))⟩ hR0 ⟨rI,rI,rI,rI,rI,rI,rI,rI,rI,tV⟩ ?_ ?_ (fun k h=>h.elim) (fun id k h=>h.elim) (fun c k h=>h.elim)
  ·intro m0 ⟨u8x,l1⟩ x0 hG0 hx0 l R w1 M1 F1 hRd
   have hR0:l1=((aI 63 (ix (ix s.sT k).aP 0)).take m0).map (fun(a:Int)=>((a,ix (ix s.sT k).next a.toNat):Int × Int)):=hG0
   show Ct _ _ _ _ _ ((900,obj l (.loop R)):: [(2,cell b2 [clo 74 []]),(3,cell b3 [sl 1 rE_ s.aC,sl 2 sE s.sT]),(4,cell b4 [eqv (.slice none 0 0),eqv (.slice none 0 0)]),(5,cell b5 [sl 1 rE_ s.aC,osl 50 uo]),(7,cell b7 [sl 1 nE (ix s.sT k).aP,sl 1 nE (ix s.sT k).next]),(8,cell b8 [osl 80 u8x]),(50,own uo 87 1 gE aL),(80,own u8x 94 2 pE l1),(997,dJ tab)]) _
   have hm63:m0<63:=by
    have h1:=(List.getElem?_eq_some_iff.1 hx0).1
    have h2:=AE (ix (ix s.sT k).aP 0)
    omega
   have hl1l:l1.length≤63:=by rw[hR0,List.length_map,List.length_take];omega
   obtain⟨a,rfl,ha63,hha⟩:=mE hx0
   have hgo:=rH hs (x:=k) O ((cY _ _).2 ⟨_,hcin,hha⟩)
   have hgo2:0≤ix (ix s.sT k).next a∧ix (ix s.sT k).next a<(s.sT.length:Int):=hgo.2
   refine rg (ag (nl (aq hRd J (bk (dr (nh:=9) [0,0,0,4,0,28,60,126,254,511,1023] T.mixed kR ?_)))))
   refine st_ J (fun _ _ _ gq kq=>lP (gq.1.trans J) J J T.fB kq) ?_
   refine st_ J (fun _ _ _ gq kq=>mv' (gq.1.trans J) kq) ?_
   refine st_ J (fun _ _ _ gq kq=>fP (gq.1.trans J) T.eG kq) ?_
   refine st_ J (fun _ _ _ gq kq=>lP (gq.1.trans J) J J T.bG kq) ?_
   refine st_ J (fun _ _ _ gq kq=>mv' (gq.1.trans J) kq) ?_
   refine st_ J (fun _ _ _ gq kq=>iF (gq.1.trans J) (gq.2.1.trans J) T.aU O gB kq) ?_
   refine st_ J (fun _ _ _ gq kq=>lF (gq.1.trans J) J T.aD kq) ?_
   refine st_ J (fun _ _ _ gq kq=>bd (css:= [(0,_),(1,_)]) T.wJ (eC (eC eZ)) ⟨J,J,p1 (φ:=int (a:Int)) (by exact(gq.1.trans J)),⟨J,J,p1 (φ:=int (ix (ix s.sT k).next a)) (by exact(gq.2.1.trans J)),tV⟩⟩ kq) ?_
   refine st_ J (fun _ _ _ gq kq=>bsE (enc:=pE) (xs:= [((a:Int),ix (ix s.sT k).next a)]) (css:= [[int (a:Int),int (ix (ix s.sT k).next a)]]) T.lG ⟨J,J,pA (cs:= [int (a:Int),int (ix (ix s.sT k).next a)]) (by exact(gq.1.trans J)),tV⟩ J J J J kq) ?_
   refine pn (ap (key:=80) (zs:= [((a:Int),ix (ix s.sT k).next a)]) cD J J J T.lG (by unfold aT at*;simp;omega) (by unfold aT at*;simp;omega) fun v37=>(cU J J J J T.fB J (nl (eb ?_))))
   have hN0:(l1++ [((a:Int),ix (ix s.sT k).next a)])=((aI 63 (ix (ix s.sT k).aP 0)).take (m0+1)).map (fun(a:Int)=>((a,ix (ix s.sT k).next a.toNat):Int × Int)):=by
    rw[GF _ hx0,←hR0,Int.toNat_natCast]
   exact rqN ⟨v37,l1++ [((a:Int),ix (ix s.sT k).next a)]⟩ hN0 ⟨rI,rI,rI,rI,rI,rI,rI,rI,rI,rI,tV⟩
  ·intro⟨u8x,l1⟩ hG0
   have hR0:l1=((aI 63 (ix (ix s.sT k).aP 0)).take (aI 63 (ix (ix s.sT k).aP 0)).length).map (fun(a:Int)=>((a,ix (ix s.sT k).next a.toNat):Int × Int)):=hG0
   show At _ _ _ _ [(2,cell b2 [clo 74 []]),(3,cell b3 [sl 1 rE_ s.aC,sl 2 sE s.sT]),(4,cell b4 [eqv (.slice none 0 0),eqv (.slice none 0 0)]),(5,cell b5 [sl 1 rE_ s.aC,osl 50 uo]),(7,cell b7 [sl 1 nE (ix s.sT k).aP,sl 1 nE (ix s.sT k).next]),(8,cell b8 [osl 80 u8x]),(50,own uo 87 1 gE aL),(80,own u8x 94 2 pE l1),(997,dJ tab)]
   refine eb (th (rg (fP rfl T.bN (lP rfl rfl rfl T.cH (lP rfl rfl rfl T.fB (fz 80 40 rfl rfl (bsE (enc:=gE) (xs:= [l1]) (css:= [[sl 2 pE l1]]) T.pP ⟨rfl,rfl,p1 (φ:=sl 2 pE l1) rfl,tV⟩ rfl rfl rfl rfl (ap (key:=50) (zs:= [l1]) cD rfl rfl rfl T.pP (by unfold aT at*;simp;omega) (by unfold aT at*;simp;omega) fun v42=>(fP rfl T.bN (cU rfl rfl rfl rfl T.cH rfl (nl (eb (th (rg (bi rfl rfl (aK i6) (mv (nl ?_)))))))))))))))))
   have hN0:(k+1)≤s.sT.length:=by
    first|omega|simp_all
   have hN1:(aL++ [l1])=mkO (bV s) s (k+1):=by
    rw[Gt,houts,hR0,List.take_length,hcut];rfl
   exact ln (⟨k+1,v42,aL++ [l1]⟩:Nat × Value × (List (List (Int × Int)))) ⟨hN0,hN1⟩ dO ⟨id,id,id,id,id,id,id,tV⟩ ⟨rI,rI,rI,rI,rI,rI,tV⟩
 ·try simp at hc0
  refine ex (xt_ (xt_ (xb (th (sq (rg (fzc 5 50 1 J J J J (lPA J J T.aZ J (kn 46 (sys (mkM (bV s) s)) J (by rw[show aL=(mkM (bV s) s).sT by rw[houts,show k=s.sT.length by omega];exact IL _ _];exact fun h=>h) (tbU (ψ:=tab) 46 9999 J J (NG (φs:= [both (agg [sl 1 rE_ (mkM (bV s) s).aC,sl 1 gE (mkM (bV s) s).sT]) tab]) ⟨J,tV⟩ (mkq.Gr (mkM (bV s) s) aS) T.Na trivial fun N47 i47 hN47=>(kd (φ':=tup [agg [fre w0.heap.size (sl 1 rE_ (cI (mkM (bV s) s)).aC),fre w0.heap.size (sl 1 gE (cI (mkM (bV s) s)).sT)],sl 1 nE i47,int 0]) (fun h=>oI (cs:= [agg [fre N47 (sl 1 rE_ (cI (mkM (bV s) s)).aC),fre N47 (sl 1 gE (cI (mkM (bV s) s)).sT)],sl 1 nE i47,int 0]) (ds:= [agg [fre w0.heap.size (sl 1 rE_ (cI (mkM (bV s) s)).aC),fre w0.heap.size (sl 1 gE (cI (mkM (bV s) s)).sT)],sl 1 nE i47,int 0]) ⟨fun h=>iV (cs:= [fre N47 (sl 1 rE_ (cI (mkM (bV s) s)).aC),fre N47 (sl 1 gE (cI (mkM (bV s) s)).sT)]) (ds:= [fre w0.heap.size (sl 1 rE_ (cI (mkM (bV s) s)).aC),fre w0.heap.size (sl 1 gE (cI (mkM (bV s) s)).sT)]) ⟨fun h=>iC hN47 h,fun h=>iC hN47 h,tV⟩ h,fun h=>h,fun h=>h,tV⟩ h) (mv (xt J J (xt J J (xt J J (sPA (cs':= [fre w0.heap.size (sl 1 rE_ (cI (mkM (bV s) s)).aC),fre w0.heap.size (sl 1 gE (cI (mkM (bV s) s)).sT)]) J J J T.aZ J J (nl (th (sq (rg (lPA J J T.aZ J (sPA (cs':= [fre w0.heap.size (sl 1 rE_ (cI (mkM (bV s) s)).aC),fre w0.heap.size (sl 1 gE (cI (mkM (bV s) s)).sT)]) J J J T.aZ J J (nl (th (rt ?_))))))))))))))))))))))))))
  have hr0:(cI (mkM (bV s) s)).aC=s.aC:=by
   first|rfl|simp_all|omega
  have hr1:(cI (mkM (bV s) s)).sT=(dB bV s).sT:=by
   first|rfl|simp_all|omega
  exact rE () [.cell 4 25] J [agg [fre w0.heap.size (sl 1 rE_ (cI (mkM (bV s) s)).aC),fre w0.heap.size (sl 1 gE (cI (mkM (bV s) s)).sT)]] ⟨.agg J J T.aZ J J,tV⟩ (cA2 (fun x0 x1=>rV [agg [fre w0.heap.size (sl 1 rE_ x0),fre w0.heap.size (sl 1 gE x1)]]) hr0 hr1) trivial eX
theorem TD (s:SS) (ok:Bool) (hs:ok=true→oK s∧s.sT.length≤500) (u:Int) (h0:0≤u) (h1:u<256):
 AL.Fn Tryz.prog 62 [kS (spec s),bl ok,int u] [] (ι:=Unit) (fun N _=>tup [agg [fre N (strs (cV s ok u).1.aC),fre N (sl 1 gE (cV s ok u).1.sT)],int (cV s ok u).2]) (fun _=> []):=by
 refine fnI Tryz.func62 rfl rfl (fun w0 F0=> ?_)
 refine tbI 0 9999 rfl ?_
 refine xQ (ψ:=tab) 9999 997 rfl ?_
 refine fcC (cE 0 J) (fun hS0=> ?_)
 obtain⟨hsa0,hss0,hse0⟩:=sLn hS0
 refine sq (rg (bx (key:=3) (cs:= [sl 1 rE_ s.aC,sl 2 sE s.sT]) J fun b3=>(al (key:=6) T.z25 (eC (eC eZ)) fun b6=>(ag (nl (th (sq (sq (rg (mv (no J (nl (th ?_)))))))))))))
 refine cd J (fun hc0=> ?_) (fun hc0=> ?_)
 ·try simp at hc0
  have hok:ok=false:=by simpa using hc0
  have hd:cV s ok u=(⟨[],[]⟩,2):=by rw[hok];exact Ec
  refine sq (rg (bd (css:= []) T.lY (eC (eC eZ)) trivial (sPA (cs':= [eqv (.slice none 0 0),eqv (.slice none 0 0)]) J J J T.aZ J J (ag (nl (th (rt (rt_ ?_))))))))
  refine fW 6 0 (fre w0.heap.size (sl 1 rE_ [])) rfl rfl jO ?_
  refine fW 6 1 (fre w0.heap.size (sl 1 gE [])) rfl rfl jO ?_
  have hr0: []=((cV s ok u).1.aC):=by
   rw[hd]
  have hr1: []=((cV s ok u).1.sT):=by
   rw[hd]
  have hr2:(2:Int)=((cV s ok u).2):=by
   rw[hd]
  exact rE () [.cell 6 25,.tmp 7] J [agg [fre w0.heap.size (sl 1 rE_ []),fre w0.heap.size (sl 1 gE [])],int 2] ⟨.agg J J T.aZ J J,.tmp J,tV⟩ (cA3 (fun x0 x1 x2=>rV [agg [fre w0.heap.size (sl 1 rE_ x0),fre w0.heap.size (sl 1 gE x1)],int x2]) hr0 hr1 hr2) trivial eX
 ·try simp at hc0
  have hok:ok=true:=by simpa using hc0
  obtain⟨hsk,hsf⟩:=hs hok
  have hT:=DZ hsk hsf u
  obtain⟨hTk,hTf⟩:=hT
  have hT0:=hTk.few0
  refine sk (th (sq (rg (lPA J J T.bK J (mv (bE (φs:= [agg [sl 1 rE_ s.aC,sl 2 sE s.sT],int u]) (φ:=agg [sl 1 rE_ ((tR (bB u s)).1).aC,sl 2 sE ((tR (bB u s)).1).sT]) ⟨J,J,tV⟩ (mkk.Ka s aS u O O) T.WZ (sPA (cs':= [sl 1 rE_ ((tR (bB u s)).1).aC,sl 2 sE ((tR (bB u s)).1).sT]) J J J T.bK J J (nl (th (sq (sq (rg (lPA J J T.bK J (bE (φs:= [agg [sl 1 rE_ ((tR (bB u s)).1).aC,sl 2 sE ((tR (bB u s)).1).sT]]) (φ:=sl 1 blE (hOl ((tR (bB u s)).1))) ⟨J,tV⟩ (prog7.BA ((tR (bB u s)).1) aS) T.Ll (iF J J T.fQ O (gK (k:=0) (by rw[oJ];omega)) (lF J J T.eH (nl (th ?_))))))))))))))))))
  refine cd J (fun hc1=> ?_) (fun hc1=> ?_)
  ·try simp at hc1
   have hd:cV s ok u=(⟨[],[]⟩,3):=by rw[hok];exact GG hc1
   refine sq (rg (bd (css:= []) T.lY (eC (eC eZ)) trivial (sPA (cs':= [eqv (.slice none 0 0),eqv (.slice none 0 0)]) J J J T.aZ J J (ag (nl (th (rt (rt_ ?_))))))))
   refine fW 6 0 (fre w0.heap.size (sl 1 rE_ [])) rfl rfl jO ?_
   refine fW 6 1 (fre w0.heap.size (sl 1 gE [])) rfl rfl jO ?_
   have hr0: []=((cV s ok u).1.aC):=by
    rw[hd]
   have hr1: []=((cV s ok u).1.sT):=by
    rw[hd]
   have hr2:(3:Int)=((cV s ok u).2):=by
    rw[hd]
   exact rE () [.cell 6 25,.tmp 7] J [agg [fre w0.heap.size (sl 1 rE_ []),fre w0.heap.size (sl 1 gE [])],int 3] ⟨.agg J J T.aZ J J,.tmp J,tV⟩ (cA3 (fun x0 x1 x2=>rV [agg [fre w0.heap.size (sl 1 rE_ x0),fre w0.heap.size (sl 1 gE x1)],int x2]) hr0 hr1 hr2) trivial eX
  ·try simp at hc1
   have hd:cV s ok u=(dB lgC (tR (bB u s)).1,0):=by rw[hok];exact IV hc1
   have hfree:=Ck hsk hsf hc1
   refine sk (th (sq (rg (bd (css:= [(0,_)]) T.Re (eC eZ) ⟨J,J,p1 (φ:=eqv (.func (.func 111) #[] #[])) J,tV⟩ (kn 19 (agg [clo 111 []]) J GD (lPA J J T.bK J (tbU (ψ:=tab) 20 9999 J J (kC (φs:= [agg [clo 111 []],both (agg [sl 1 rE_ ((tR (bB u s)).1).aC,sl 2 sE ((tR (bB u s)).1).sT]) tab]) (φ:=agg [fre w0.heap.size (sl 1 rE_ (dB lgC ((tR (bB u s)).1)).aC),fre w0.heap.size (sl 1 gE (dB lgC ((tR (bB u s)).1)).sT)]) ⟨J,J,tV⟩ (mkr.PU ((tR (bB u s)).1) aS aS aS) T.Rf (fun N hN=>fun h=>iV (cs:= [fre N (sl 1 rE_ (dB lgC ((tR (bB u s)).1)).aC),fre N (sl 1 gE (dB lgC ((tR (bB u s)).1)).sT)]) (ds:= [fre w0.heap.size (sl 1 rE_ (dB lgC ((tR (bB u s)).1)).aC),fre w0.heap.size (sl 1 gE (dB lgC ((tR (bB u s)).1)).sT)]) ⟨fun h=>iC hN h,fun h=>iC hN h,tV⟩ h) (sPA (cs':= [fre w0.heap.size (sl 1 rE_ (dB lgC ((tR (bB u s)).1)).aC),fre w0.heap.size (sl 1 gE (dB lgC ((tR (bB u s)).1)).sT)]) J J J T.aZ J J (ag (nl (th (rt ?_)))))))))))))
   have hr0:(dB lgC ((tR (bB u s)).1)).aC=((cV s ok u).1.aC):=by
    rw[hd]
   have hr1:(dB lgC ((tR (bB u s)).1)).sT=((cV s ok u).1.sT):=by
    rw[hd]
   have hr2:(0:Int)=((cV s ok u).2):=by
    rw[hd]
   exact rE () [.cell 6 25,.tmp 7] J [agg [fre w0.heap.size (sl 1 rE_ (dB lgC ((tR (bB u s)).1)).aC),fre w0.heap.size (sl 1 gE (dB lgC ((tR (bB u s)).1)).sT)],int 0] ⟨.agg J J T.aZ J J,.tmp J,tV⟩ (cA3 (fun x0 x1 x2=>rV [agg [fre w0.heap.size (sl 1 rE_ x0),fre w0.heap.size (sl 1 gE x1)],int x2]) hr0 hr1 hr2) trivial eX
theorem PW (s:SS) (hsm:iZ s):
 AL.Fn Tryz.prog 33 [kS (spec s)] [] (ι:=Unit) (fun N _=>tup [agg [fre N (strs (bT s).1.aC),fre N (sl 1 gE (bT s).1.sT)],int (bT s).2]) (fun _=> []):=by
 refine fnI Tryz.func33 rfl rfl (fun w0 F0=> ?_)
 refine tbI 0 9999 rfl ?_
 refine xQ (ψ:=tab) 9999 997 rfl ?_
 refine fcC (cE 0 J) (fun hS0=> ?_)
 obtain⟨hsa0,hss0,hse0⟩:=sLn hS0
 refine sq (rg (bx (key:=1) (cs:= [sl 1 rE_ s.aC,sl 2 sE s.sT]) J fun b1=>(al (key:=2) T.z25 (eC (eC eZ)) fun b2=>(ag (nl (th (sq (sq (rg (lPA J J T.bK J (bE (φs:= [agg [sl 1 rE_ s.aC,sl 2 sE s.sT]]) (φ:=bl (bU s)) ⟨J,tV⟩ (prog2.jW s aS) T.JS (no J (nl (th ?_))))))))))))))
 refine cd J (fun hc0=> ?_) (fun hc0=> ?_)
 ·try simp at hc0
  have hd:bT s=(⟨[],[]⟩,30):=by unfold bT;rw[if_neg (by simpa using hc0)]
  refine sq (rg (bd (css:= []) T.lY (eC (eC eZ)) trivial (sPA (cs':= [eqv (.slice none 0 0),eqv (.slice none 0 0)]) J J J T.aZ J J (ag (nl (th (rt (rt_ ?_))))))))
  refine fW 2 0 (fre w0.heap.size (sl 1 rE_ [])) rfl rfl jO ?_
  refine fW 2 1 (fre w0.heap.size (sl 1 gE [])) rfl rfl jO ?_
  have hr0: []=((bT s).1.aC):=by
   rw[hd]
  have hr1: []=((bT s).1.sT):=by
   rw[hd]
  have hr2:(30:Int)=((bT s).2):=by
   rw[hd]
  exact rE () [.cell 2 25,.tmp 3] J [agg [fre w0.heap.size (sl 1 rE_ []),fre w0.heap.size (sl 1 gE [])],int 30] ⟨.agg J J T.aZ J J,.tmp J,tV⟩ (cA3 (fun x0 x1 x2=>rV [agg [fre w0.heap.size (sl 1 rE_ x0),fre w0.heap.size (sl 1 gE x1)],int x2]) hr0 hr1 hr2) trivial eX
 ·try simp at hc0
  have hsv:bU s=true:=by simpa using hc0
  have hs:=iY hsv
  have hs5:=wB hsv
  have hTk:=nX hs
  have hTl:=wC hs
  have hTf:(tR s).1.sT.length≤500:=by omega
  refine sk (th (sq (rg (lPA J J T.bK J (kC (φs:= [agg [sl 1 rE_ s.aC,sl 2 sE s.sT]]) (φ:=tup [agg [sl 1 rE_ ((tR s).1.aC),sl 2 sE ((tR s).1.sT)],sl 1 nE ((tR s).2)]) ⟨J,tV⟩ (prog9.vR s aS) T.JZ (fun N hN=>fun h=>oI (cs:= [agg [fre N (sl 1 rE_ ((tR s).1.aC)),frb (ix (hOl s) 0) N (sl 2 sE ((tR s).1.sT))],sl 1 nE ((tR s).2)]) (ds:= [agg [sl 1 rE_ ((tR s).1.aC),sl 2 sE ((tR s).1.sT)],sl 1 nE ((tR s).2)]) ⟨fun h=>iV (cs:= [fre N (sl 1 rE_ ((tR s).1.aC)),frb (ix (hOl s) 0) N (sl 2 sE ((tR s).1.sT))]) (ds:= [sl 1 rE_ ((tR s).1.aC),sl 2 sE ((tR s).1.sT)]) ⟨fun h=>jG h,fun h=>Bn h,tV⟩ h,fun h=>h,tV⟩ h) (mv (xt J J (xt J J (al (key:=4) T.z28 (eC (eC eZ)) fun b4=>(sPA (cs':= [sl 1 rE_ ((tR s).1.aC),sl 2 sE ((tR s).1.sT)]) J J J T.bK J J (ag (nl (th (sq (sq (rg (mv (fc (aW 15 J) fun hm15=>(lnF J T.aU (bi J J fJ (nl (th ?_))))))))))))))))))))))
  refine cd J (fun hc1=> ?_) (fun hc1=> ?_)
  ·try simp at hc1
   have h0:(tR s).2.length=0:=by first|omega|simp[hc1]
   have hd:bT s=(⟨[],[]⟩,3):=by unfold bT;rw[if_pos hsv,if_pos h0]
   refine sq (rg (bd (css:= []) T.lY (eC (eC eZ)) trivial (sPA (cs':= [eqv (.slice none 0 0),eqv (.slice none 0 0)]) J J J T.aZ J J (ag (nl (th (rt (rt_ ?_))))))))
   refine fW 2 0 (fre w0.heap.size (sl 1 rE_ [])) rfl rfl jO ?_
   refine fW 2 1 (fre w0.heap.size (sl 1 gE [])) rfl rfl jO ?_
   have hr0: []=((bT s).1.aC):=by
    rw[hd]
   have hr1: []=((bT s).1.sT):=by
    rw[hd]
   have hr2:(3:Int)=((bT s).2):=by
    rw[hd]
   exact rE () [.cell 2 25,.tmp 3] J [agg [fre w0.heap.size (sl 1 rE_ []),fre w0.heap.size (sl 1 gE [])],int 3] ⟨.agg J J T.aZ J J,.tmp J,tV⟩ (cA3 (fun x0 x1 x2=>rV [agg [fre w0.heap.size (sl 1 rE_ x0),fre w0.heap.size (sl 1 gE x1)],int x2]) hr0 hr1 hr2) trivial eX
  ·try simp at hc1
   have h0:(tR s).2.length≠0:=by first|omega|exact fun h=>hc1 (List.eq_nil_of_length_eq_zero h)
   have hd:bT s=(dB bV (tR s).1,0):=by unfold bT;rw[if_pos hsv,if_neg h0]
   have hh:ix (hOl s) 0=false:=by
    cases e:ix (hOl s) 0 with
    |false=>rfl
    |true=>exact absurd (zM.2 e) h0
   have hfree:=OrdM.tZ hs hh
   refine sk (th (sq (rg (bd (css:= [(0,_)]) T.Re (eC eZ) ⟨J,J,p1 (φ:=eqv (.func (.func 74) #[] #[])) J,tV⟩ (kn 19 (agg [clo 74 []]) J GD (lPA J J T.bK J (tbU (ψ:=tab) 20 9999 J J (kC (φs:= [agg [clo 74 []],both (agg [sl 1 rE_ ((tR s).1.aC),sl 2 sE ((tR s).1.sT)]) tab]) (φ:=agg [fre w0.heap.size (sl 1 rE_ (dB bV ((tR s).1)).aC),fre w0.heap.size (sl 1 gE (dB bV ((tR s).1)).sT)]) ⟨J,J,tV⟩ (mkr.PV ((tR s).1) aS aS aS) T.Rf (fun N hN=>fun h=>iV (cs:= [fre N (sl 1 rE_ (dB bV ((tR s).1)).aC),fre N (sl 1 gE (dB bV ((tR s).1)).sT)]) (ds:= [fre w0.heap.size (sl 1 rE_ (dB bV ((tR s).1)).aC),fre w0.heap.size (sl 1 gE (dB bV ((tR s).1)).sT)]) ⟨fun h=>iC hN h,fun h=>iC hN h,tV⟩ h) (sPA (cs':= [fre w0.heap.size (sl 1 rE_ (dB bV ((tR s).1)).aC),fre w0.heap.size (sl 1 gE (dB bV ((tR s).1)).sT)]) J J J T.aZ J J (ag (nl (th (rt ?_)))))))))))))
   have hr0:(dB bV ((tR s).1)).aC=((bT s).1.aC):=by
    rw[hd]
   have hr1:(dB bV ((tR s).1)).sT=((bT s).1.sT):=by
    rw[hd]
   have hr2:(0:Int)=((bT s).2):=by
    rw[hd]
   exact rE () [.cell 2 25,.tmp 3] J [agg [fre w0.heap.size (sl 1 rE_ (dB bV ((tR s).1)).aC),fre w0.heap.size (sl 1 gE (dB bV ((tR s).1)).sT)],int 0] ⟨.agg J J T.aZ J J,.tmp J,tV⟩ (cA3 (fun x0 x1 x2=>rV [agg [fre w0.heap.size (sl 1 rE_ x0),fre w0.heap.size (sl 1 gE x1)],int x2]) hr0 hr1 hr2) trivial eX
theorem Cn (m:aA) (t:SS) (hts:iZ t) (u:Int):
 AL.Fn Tryz.prog 25 [kS (sys m),spec t,int u] [] (ι:=Unit) (fun N _=>tup [agg [fre N (strs (bL m t u).1.aC),fre N (sl 1 gE (bL m t u).1.sT)],int (bL m t u).2]) (fun _=> []):=by
 refine fnI Tryz.func25 rfl rfl (fun w0 F0=> ?_)
 refine tbI 0 9999 rfl ?_
 refine xQ (ψ:=tab) 9999 997 rfl ?_
 refine fcC (cE 0 J) (fun hS0=> ?_)
 obtain⟨hma0,hms0,hme0⟩:=cG hS0
 refine fcC (cE 1 J) (fun hS1=> ?_)
 obtain⟨hsa1,hss1,hse1⟩:=sLn hS1
 refine sq (rg (bx (key:=3) (cs:= [sl 1 rE_ m.aC,sl 1 gE m.sT]) J fun b3=>(bx (key:=4) (cs:= [sl 1 rE_ t.aC,sl 2 sE t.sT]) J fun b4=>(al (key:=6) T.z25 (eC (eC eZ)) fun b6=>(ag (nl (th (sq (sq (rg (lPA J J T.aZ J (lPA J J T.bK J (bE (φs:= [agg [sl 1 rE_ m.aC,sl 1 gE m.sT],agg [sl 1 rE_ t.aC,sl 2 sE t.sT]]) (φ:=int (dM m t)) ⟨J,J,tV⟩ (satj.Il m t aS) T.Ra (ag (nl (th (sq (rg (mv (bi J J gG (nl (th ?_))))))))))))))))))))))
 refine cd J (fun hc0=> ?_) (fun hc0=> ?_)
 ·try simp at hc0
  have hd:bL m t u=(⟨[],[]⟩,dM m t):=by unfold bL;rw[if_neg hc0]
  refine sq (rg (bd (css:= []) T.lY (eC (eC eZ)) trivial (mv (sPA (cs':= [eqv (.slice none 0 0),eqv (.slice none 0 0)]) J J J T.aZ J J (ag (nl (th (rt (rt_ ?_)))))))))
  refine fW 6 0 (fre w0.heap.size (sl 1 rE_ [])) rfl rfl jO ?_
  refine fW 6 1 (fre w0.heap.size (sl 1 gE [])) rfl rfl jO ?_
  have hr0: []=((bL m t u).1.aC):=by
   rw[hd]
  have hr1: []=((bL m t u).1.sT):=by
   rw[hd]
  have hr2:((dM m t):Int)=((bL m t u).2):=by
   rw[hd]
  exact rE () [.cell 6 25,.tmp 7] J [agg [fre w0.heap.size (sl 1 rE_ []),fre w0.heap.size (sl 1 gE [])],int (dM m t)] ⟨.agg J J T.aZ J J,.tmp J,tV⟩ (cA3 (fun x0 x1 x2=>rV [agg [fre w0.heap.size (sl 1 rE_ x0),fre w0.heap.size (sl 1 gE x1)],int x2]) hr0 hr1 hr2) trivial eX
 ·try simp at hc0
  obtain⟨hmv,htv,hmt⟩:=xY hc0
  have hm:=fR hmv
  have ht:=iY htv
  have hn8:=ht.n8
  refine sk (th (sq (sq (rg (fP J T.eR (lP J J J T.dE (fc (aW 19 J) fun hm19=>(lnF J T.eS (mv (bE (φs:= [int (t.aC.length:Int),int u]) (φ:=bl (fK (t.aC.length:Int) u)) ⟨J,J,tV⟩ (mkk.Mk (t.aC.length:Int) u O O) T.Rh (no J (nl (th ?_)))))))))))))
  refine cd J (fun hc1=> ?_) (fun hc1=> ?_)
  ·try simp at hc1
   have hd:bL m t u=(⟨[],[]⟩,1):=by unfold bL;rw[if_pos hc0,if_neg (by simpa using hc1)]
   refine sq (rg (bd (css:= []) T.lY (eC (eC eZ)) trivial (sPA (cs':= [eqv (.slice none 0 0),eqv (.slice none 0 0)]) J J J T.aZ J J (ag (nl (th (rt (rt_ ?_))))))))
   refine fW 6 0 (fre w0.heap.size (sl 1 rE_ [])) rfl rfl jO ?_
   refine fW 6 1 (fre w0.heap.size (sl 1 gE [])) rfl rfl jO ?_
   have hr0: []=((bL m t u).1.aC):=by
    rw[hd]
   have hr1: []=((bL m t u).1.sT):=by
    rw[hd]
   have hr2:(1:Int)=((bL m t u).2):=by
    rw[hd]
   exact rE () [.cell 6 25,.tmp 7] J [agg [fre w0.heap.size (sl 1 rE_ []),fre w0.heap.size (sl 1 gE [])],int 1] ⟨.agg J J T.aZ J J,.tmp J,tV⟩ (cA3 (fun x0 x1 x2=>rV [agg [fre w0.heap.size (sl 1 rE_ x0),fre w0.heap.size (sl 1 gE x1)],int x2]) hr0 hr1 hr2) trivial eX
  ·try simp at hc1
   have hse:fK (t.aC.length:Int) u=true:=by simpa using hc1
   obtain⟨hu0,hu1⟩:=FR ht.n8 hse
   have hd:bL m t u=cV (bF m t).1 (bF m t).2 u:=by unfold bL;rw[if_pos hc0,if_pos hse]
   have hgk:(bF m t).2=true→oK (bF m t).1∧(bF m t).1.sT.length≤500:=fun h=>⟨(vG hm ht h).1,(vG hm ht h).2.1⟩
   refine sk (th (sq (rg (lPA J J T.aZ J (lPA J J T.bK J (tbU (ψ:=tab) 26 9999 J J (bE (φs:= [both (agg [sl 1 rE_ m.aC,sl 1 gE m.sT]) tab,agg [sl 1 rE_ t.aC,sl 2 sE t.sT]]) (φ:=tup [agg [sl 1 rE_ ((bF m t).1).aC,sl 2 sE ((bF m t).1).sT],bl ((bF m t).2)]) ⟨J,J,tV⟩ (mkg.Gz m aS t aS aS) T.Rc (mv (xt J J (xt J J (al (key:=9) T.z28 (eC (eC eZ)) fun b9=>(sPA (cs':= [sl 1 rE_ ((bF m t).1).aC,sl 2 sE ((bF m t).1).sT]) J J J T.bK J J (ag (nl (th (sq (rg (lPA J J T.bK J (mv (mv (tbU (ψ:=tab) 31 9999 J J (kC (φs:= [both (agg [sl 1 rE_ ((bF m t).1).aC,sl 2 sE ((bF m t).1).sT]) tab,bl ((bF m t).2),int u]) (φ:=tup [agg [fre w0.heap.size (sl 1 rE_ ((cV ((bF m t).1) ((bF m t).2) u).1).aC),fre w0.heap.size (sl 1 gE ((cV ((bF m t).1) ((bF m t).2) u).1).sT)],int ((cV ((bF m t).1) ((bF m t).2) u).2)]) ⟨J,J,J,tV⟩ (mkr.TD ((bF m t).1) ((bF m t).2) aS u O O) T.Xa (fun N hN=>fun h=>oI (cs:= [agg [fre N (sl 1 rE_ ((cV ((bF m t).1) ((bF m t).2) u).1).aC),fre N (sl 1 gE ((cV ((bF m t).1) ((bF m t).2) u).1).sT)],int ((cV ((bF m t).1) ((bF m t).2) u).2)]) (ds:= [agg [fre w0.heap.size (sl 1 rE_ ((cV ((bF m t).1) ((bF m t).2) u).1).aC),fre w0.heap.size (sl 1 gE ((cV ((bF m t).1) ((bF m t).2) u).1).sT)],int ((cV ((bF m t).1) ((bF m t).2) u).2)]) ⟨fun h=>iV (cs:= [fre N (sl 1 rE_ ((cV ((bF m t).1) ((bF m t).2) u).1).aC),fre N (sl 1 gE ((cV ((bF m t).1) ((bF m t).2) u).1).sT)]) (ds:= [fre w0.heap.size (sl 1 rE_ ((cV ((bF m t).1) ((bF m t).2) u).1).aC),fre w0.heap.size (sl 1 gE ((cV ((bF m t).1) ((bF m t).2) u).1).sT)]) ⟨fun h=>iC hN h,fun h=>iC hN h,tV⟩ h,fun h=>h,tV⟩ h) (xt J J (xt J J (sPA (cs':= [fre w0.heap.size (sl 1 rE_ ((cV ((bF m t).1) ((bF m t).2) u).1).aC),fre w0.heap.size (sl 1 gE ((cV ((bF m t).1) ((bF m t).2) u).1).sT)]) J J J T.aZ J J (ag (nl (th (rt ?_)))))))))))))))))))))))))))))
   have hr0:((cV ((bF m t).1) ((bF m t).2) u).1).aC=((bL m t u).1.aC):=by
    rw[hd]
   have hr1:((cV ((bF m t).1) ((bF m t).2) u).1).sT=((bL m t u).1.sT):=by
    rw[hd]
   have hr2:(((cV ((bF m t).1) ((bF m t).2) u).2):Int)=((bL m t u).2):=by
    rw[hd]
   exact rE () [.cell 6 25,.tmp 7] J [agg [fre w0.heap.size (sl 1 rE_ ((cV ((bF m t).1) ((bF m t).2) u).1).aC),fre w0.heap.size (sl 1 gE ((cV ((bF m t).1) ((bF m t).2) u).1).sT)],int ((cV ((bF m t).1) ((bF m t).2) u).2)] ⟨.agg J J T.aZ J J,.tmp J,tV⟩ (cA3 (fun x0 x1 x2=>rV [agg [fre w0.heap.size (sl 1 rE_ x0),fre w0.heap.size (sl 1 gE x1)],int x2]) hr0 hr1 hr2) trivial eX
theorem PX (x m:aA) (t:SS) (hts:iZ t) (u:Int) (hz:m.sT.length*x.sT.length<5000) (hz2:bX m.sT*bX x.sT≤400000):
 Fn0 Tryz.prog 30 [sys x,sys m,spec t,int u] (tup [bl (mK x m t u),int (iN x m t u)]):=by
 refine fnI Tryz.func30 rfl rfl (fun w0 F0=> ?_)
 refine fcC (cE 0 J) (fun hS0=> ?_)
 obtain⟨hma0,hms0,hme0⟩:=cG hS0
 refine fcC (cE 1 J) (fun hS1=> ?_)
 obtain⟨hma1,hms1,hme1⟩:=cG hS1
 refine fcC (cE 2 J) (fun hS2=> ?_)
 obtain⟨hsa2,hss2,hse2⟩:=sLn hS2
 refine sq (rg (bx (key:=4) (cs:= [sl 1 rE_ x.aC,sl 1 gE x.sT]) J fun b4=>(bx (key:=5) (cs:= [sl 1 rE_ m.aC,sl 1 gE m.sT]) J fun b5=>(bx (key:=6) (cs:= [sl 1 rE_ t.aC,sl 2 sE t.sT]) J fun b6=>(ag (ag (nl (th (sq (bk (sq (rg (lPA J J T.aZ J (bE (φs:= [agg [sl 1 rE_ x.aC,sl 1 gE x.sT]]) (φ:=bl (bI x)) ⟨J,tV⟩ (sysw.jW x) T.zE (no J (mv ?_))))))))))))))))
 apply gOr (t:=17) (pd:=21) rfl
 rotate_left
 ·intro hg0 fin
  have hg0':=hg0
  try simp at hg0'
  exact gy J J J hg0 (lPA J J T.aZ J (gy J J J hg0 (bE (φs:= [agg [sl 1 rE_ m.aC,sl 1 gE m.sT]]) (φ:=bl (bI m)) ⟨J,tV⟩ (sysw.jW m) T.zE (gy J J J hg0 (no J (pkF J hg0 J (drp (X:= [(20,_),(19,_),(18,_)]) ⟨J,J,J,tV⟩ fin)))))))
 ·intro hg0 fin
  exact gn J J J hg0 J J (gn J J J hg0 J J (gn J J J hg0 J J (pkT J hg0 J (drp (X:= [(20,_),(19,_),(18,_)]) ⟨J,J,J,tV⟩ fin))))
 refine ag (nl (th ?_))
 refine cd J (fun hc0=> ?_) (fun hc0=> ?_)
 ·skip
  have hxm:¬(bI x=true∧bI m=true):=fun g=>by rw[g.1,g.2] at hc0;cases hc0
  have hd:iN x m t u=20:=by unfold iN;rw[if_neg hxm]
  refine sq (rg (ag (ag (nl (th (rt (rb (rt_ ?_))))))))
  have hr0:false=(mK x m t u):=by
   rw[Cm (by rw[hd];decide)]
  have hr1:(20:Int)=(iN x m t u):=by
   rw[hd]
  exact rE () [.tmp 8,.tmp 9] J [bl false,int 20] ⟨.tmp J,.tmp J,tV⟩ (cA2 (fun x0 x1=>rV [bl x0,int x1]) hr0 hr1) trivial eX
 ·skip
  obtain⟨hxv,hmv⟩:bI x=true∧bI m=true:=by
   rw[Bool.or_eq_false_iff,Bool.not_eq_false',Bool.not_eq_false'] at hc0;exact hc0
  have hx:=fR hxv
  have hm:=fR hmv
  refine sq (rg (lPA J J T.bK J (bE (φs:= [agg [sl 1 rE_ t.aC,sl 2 sE t.sT]]) (φ:=bl (bU t)) ⟨J,tV⟩ (prog2.jW t aS) T.JS (no J (ag (nl (th ?_)))))))
  refine cd J (fun hc1=> ?_) (fun hc1=> ?_)
  ·try simp at hc1
   have hd:iN x m t u=30:=by unfold iN;rw[if_pos ⟨hxv,hmv⟩,if_neg (by simpa using hc1)]
   refine sq (rg (ag (ag (nl (th (rt (rb (rt_ ?_))))))))
   have hr0:false=(mK x m t u):=by
    rw[Cm (by rw[hd];decide)]
   have hr1:(30:Int)=(iN x m t u):=by
    rw[hd]
   exact rE () [.tmp 8,.tmp 9] J [bl false,int 30] ⟨.tmp J,.tmp J,tV⟩ (cA2 (fun x0 x1=>rV [bl x0,int x1]) hr0 hr1) trivial eX
  ·try simp at hc1
   have htv:bU t=true:=by simpa using hc1
   have ht:=iY htv
   have hn8:=ht.n8
   refine sq (rg (fP J T.gS (lP J J J T.dE (fP J T.gS (lP J J J T.dE (bE (φs:= [sl 1 rE_ x.aC,sl 1 rE_ m.aC]) (φ:=bl (decide (x.aC=m.aC))) ⟨J,J,tV⟩ (prog.mU _ _) T.Ex (no J (mv ?_))))))))
   apply gOr (t:=33) (pd:=40) rfl
   rotate_left
   ·intro hg1 fin
    have hg1':=hg1
    try simp at hg1'
    exact gy J J J hg1 (fP J T.gS (gy J J J hg1 (lP J J J T.dE (gy J J J hg1 (fP J T.eR (gy J J J hg1 (lP J J J T.dE (gy J J J hg1 (bE (φs:= [sl 1 rE_ x.aC,sl 1 rE_ t.aC]) (φ:=bl (decide (x.aC=t.aC))) ⟨J,J,tV⟩ (prog.mU _ _) T.Ex (gy J J J hg1 (no J (pkF J hg1 J (drp (X:= [(39,_),(38,_),(37,_),(36,_),(35,_),(34,_)]) ⟨J,J,J,J,J,J,tV⟩ fin)))))))))))))
   ·intro hg1 fin
    exact gn J J J hg1 J J (gn J J J hg1 J J (gn J J J hg1 J J (gn J J J hg1 J J (gn J J J hg1 J J (gn J J J hg1 J J (pkT J hg1 J (drp (X:= [(39,_),(38,_),(37,_),(36,_),(35,_),(34,_)]) ⟨J,J,J,J,J,J,tV⟩ fin)))))))
   refine ag (nl (th ?_))
   refine cd J (fun hc2=> ?_) (fun hc2=> ?_)
   ·skip
    have hne:¬(x.aC=m.aC∧x.aC=t.aC):=fun g=>by rw[decide_eq_true g.1,decide_eq_true g.2] at hc2;cases hc2
    have hd:iN x m t u=10:=by unfold iN;rw[if_pos ⟨hxv,hmv⟩,if_pos htv,if_neg hne]
    refine sq (rg (ag (ag (nl (th (rt (rb (rt_ ?_))))))))
    have hr0:false=(mK x m t u):=by
     rw[Cm (by rw[hd];decide)]
    have hr1:(10:Int)=(iN x m t u):=by
     rw[hd]
    exact rE () [.tmp 8,.tmp 9] J [bl false,int 10] ⟨.tmp J,.tmp J,tV⟩ (cA2 (fun x0 x1=>rV [bl x0,int x1]) hr0 hr1) trivial eX
   ·skip
    obtain⟨hxm,hxt⟩:x.aC=m.aC∧x.aC=t.aC:=by
     rw[Bool.or_eq_false_iff,Bool.not_eq_false',Bool.not_eq_false'] at hc2;exact⟨of_decide_eq_true hc2.1,of_decide_eq_true hc2.2⟩
    have hbo:=TB hmv hxv hxm.symm
    refine sq (rg (fP J T.eR (lP J J J T.dE (fc (aW 43 J) fun hm43=>(lnF J T.eS (mv (bE (φs:= [int (t.aC.length:Int),int u]) (φ:=bl (fK (t.aC.length:Int) u)) ⟨J,J,tV⟩ (mkk.Mk (t.aC.length:Int) u O O) T.Rh (no J (ag (nl (th ?_)))))))))))
    refine cd J (fun hc3=> ?_) (fun hc3=> ?_)
    ·skip
     have hns:¬fK (t.aC.length:Int) u=true:=fun g=>by rw[g] at hc3;cases hc3
     have hd:iN x m t u=1:=by unfold iN;rw[if_pos ⟨hxv,hmv⟩,if_pos htv,if_pos ⟨hxm,hxt⟩,if_neg hns]
     refine sq (rg (ag (ag (nl (th (rt (rb (rt_ ?_))))))))
     have hr0:false=(mK x m t u):=by
      rw[Cm (by rw[hd];decide)]
     have hr1:(1:Int)=(iN x m t u):=by
      rw[hd]
     exact rE () [.tmp 8,.tmp 9] J [bl false,int 1] ⟨.tmp J,.tmp J,tV⟩ (cA2 (fun x0 x1=>rV [bl x0,int x1]) hr0 hr1) trivial eX
    ·skip
     have hse:fK (t.aC.length:Int) u=true:=by simpa using hc3
     obtain⟨hu0,hu1⟩:=FR ht.n8 hse
     have hd:iN x m t u=0:=by unfold iN;rw[if_pos ⟨hxv,hmv⟩,if_pos htv,if_pos ⟨hxm,hxt⟩,if_pos hse]
     refine sk (eb (th (sq (rg (lPA J J T.aZ J (lPA J J T.aZ J (cl (prodw.Kj m x aS aS) T.Xb trivial fun N51 i51=>(mv (xt J J (xt J J (xt J J (al (key:=10) T.z25 (eC (eC eZ)) fun b10=>(sPA (cs':= [sl 1 rE_ i51.1.1.aC,sl 1 gE i51.1.1.sT]) J J J T.aZ J J (ag (ag (nl (th (sq (sq (rg (mv (bi J J gG (nl (th ?_))))))))))))))))))))))))
     refine cd J (fun hc4=> ?_) (fun hc4=> ?_)
     ·try simp at hc4
      exact absurd hbo (by simpa using hc4)
     ·try simp at hc4
      have hPk:=i51.2.2 hbo
      have hkv:=WX hmv hxv hPk hz hz2
      have hkk:=fR hkv
      refine sk (th (sq (rg (lPA J J T.aZ J (lPA J J T.bK J (cl (satj.OX i51.1.1 aS t aS) T.Xc trivial fun N60 i60=>(UN J T.TC T.eH J (mv ?_))))))))
      apply dX (t:=62) (pd:=66) rfl
      rotate_left
      ·intro hg2 fin
       have hg2':=hg2
       try simp at hg2'
       exact gy J J J hg2 (lPA J J T.aZ J (gy J J J hg2 (mv (gy J J J hg2 (bE (φs:= [agg [sl 1 rE_ x.aC,sl 1 gE x.sT],int u]) (φ:=bl (jS x u)) ⟨J,J,tV⟩ (mkp.Pj x aS u O O) T.Xd (pkT J hg2 J (drp (X:= [(65,_),(64,_),(63,_)]) ⟨J,J,J,tV⟩ fin)))))))
      ·intro hg2 fin
       exact gn J J J hg2 J J (gn J J J hg2 J J (gn J J J hg2 J J (pkF J hg2 J (drp (X:= [(65,_),(64,_),(63,_)]) ⟨J,J,J,tV⟩ fin))))
      refine ag (ag (nl (th (rt ?_))))
      have hr0:(i60.1.holds&&(jS x u))=(mK x m t u):=by
       rw[MY hm hx ht hPk hkk i60.2 hd]
      have hr1:(0:Int)=(iN x m t u):=by
       rw[hd]
      exact rE () [.tmp 8,.tmp 9] J [bl (i60.1.holds&&(jS x u)),int 0] ⟨.tmp J,.tmp J,tV⟩ (cA2 (fun x0 x1=>rV [bl x0,int x1]) hr0 hr1) trivial eX
end mkr
end
section
namespace LeadM
open ref01 ref03 ref04 ref06 Part Rungs LeftM TrimM RoundM MergeM BisM BisM3 BisM4 BisM5 BisM6 Keys WalkM WitM JudgM JudgM2 LevM divr divs divd dive divf divv judg sysw satj ChsM BisS TrimI QuoM FailM DivM RefM GenW CompM CompP CrossM FitM TogM KeepK GuardM MakeM LsysM LsysM2 GuaW
structure Yh (m:aA) (t:SS) (z:SS × Bool):Prop where
 yes:z.2=true→∃l,Kc m t l z.1∧l.length≤10000
 no:z.2=false→z.1=⟨[],[]⟩
def jE (n:Nat) (q:List Int):List Bool:=(List.range n).map fun(x:Nat)=>decide ((x:Int)∈q)
theorem wM (n:Nat) (q:List Int):(jE n q).length=n:=by simp[jE]
theorem IW {n:Nat} {q:List Int} {y:Int} (h0:0≤y) (h1:y<(n:Int)):ix (jE n q) y.toNat=decide (y∈q):=by
 unfold jE
 rw[bS O,show((y.toNat:Nat):Int)=y by omega]
theorem AR {n:Nat} {q:List Int} {i:Nat} (h:i<(jE n q).length):(jE n q)[i]=decide ((i:Int)∈q):=by simp[jE]
theorem GI {n:Nat} {q:List Int} {y:Int} (h0:0≤y) (h1:y<(n:Int)):(jE n q).set y.toNat true=jE n (q++ [y]):=by
 apply List.ext_getElem (by simp[jE])
 intro i a1 a2
 rw[List.getElem_set,AR a2]
 by_cases e:y.toNat=i
 ·have e2:(i:Int)=y:=by omega
  rw[if_pos e,e2];simp
 ·have e2:(i:Int)≠y:=by omega
  have hi:i<(jE n q).length:=by rw[wM];rw[wM] at a2;exact a2
  rw[if_neg e,AR hi]
  simp[e2]
theorem PY (n:Nat):List.replicate n false=jE n []:=by
 apply List.ext_getElem (by simp[jE])
 intro i a1 a2
 rw[AR a2];simp
theorem PZ {n:Nat} (h:0<n):(List.replicate n false).set 0 true=jE n [0]:=by
 rw[PY]
 exact GI (y:=0) O O
end LeadM
end
section
open ref01 ref03 ref04 ref06 prog prog2 prog3 prog6 prog13 Part Rungs LeftM TrimM RoundM MergeM BisM BisM4 BisM5 WalkM StepM WitM JudgM JudgM2 refw judg wit refj sysw divr divs divd dive divg divw divv divf LevM LevM2
namespace divc
end divc
end
section
open ref01 ref03 ref04 ref06 prog prog2 prog3 prog6 prog13 Part Rungs LeftM TrimM RoundM MergeM BisM BisM4 BisM5 WalkM StepM WitM JudgM JudgM2 refw judg wit refj sysw divr divs divd dive divg divw divv LevM LevM2 QuoM FailM FitM
namespace divj
end divj
end
section
open ref01 ref03 ref04 ref06 prog prog2 prog3 prog4 prog6 prog13 Part Rungs LeftM TrimM RoundM MergeM BisM BisM4 BisM5 WalkM StepM WitM JudgM JudgM2 refw judg wit refj sysw divr divs divd dive divg divw divv divf divc LevM LevM2 ChsM QuoM FailM DivM QuoW
namespace T
theorem z173:eY Tryz.prog 173 [.slice none 0 0]:=cX kR
theorem z171:eY Tryz.prog 171 [.int .i64 0,.int .i64 0,.int .i64 0]:=cX kR
end T
namespace divq
end divq
end
section
open ref01 ref03 ref04 ref06 prog prog2 prog3 prog6 prog13 starts Part Rungs LeftM TrimM RoundM MergeM BisM BisM4 BisM5 WalkM StepM WitM JudgM JudgM2 refw judg wit refj sysw divr divs divd dive divg divw divv divf divc divj divq divp LevM LevM2 ChsM QuoM FailM DivM QuoW RefM
namespace divm
end divm
end
section
open ref01 ref03 ref04 ref06 prog prog2 prog3 prog6 prog13 starts Part Rungs LeftM TrimM RoundM MergeM BisM BisM4 BisM5 WalkM StepM WitM JudgM JudgM2 refw judg wit refj sysw divr divs divd dive divg divw divv divf divc divj divq divp divm LevM LevM2 ChsM QuoM FailM DivM QuoW RefM FitM PartM EncM
namespace diva
end diva
end
section
open ref01 ref03 ref04 ref06 prog prog2 prog3 prog6 prog13 starts Part Rungs LeftM TrimM RoundM MergeM BisM BisM4 BisM5 WalkM StepM WitM JudgM JudgM2 refw judg wit refj sysw divr divs divd dive divg divw divv divf divc divj divq divp divm diva LevM LevM2 ChsM QuoM FailM DivM QuoW RefM FitM PartM EncM TogM
namespace divt
end divt
end
end Go.Proofs.YtnlfjojfgghchaaGreatDoor
