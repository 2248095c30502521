/- The walks of the functions and the plain laws. Own texts of this claim, packed: Mkmkr, MkLeadM, Mkdivc, Mkdivj, Mkdivq, Mkdivm, Mkdiva, Mkdivt. -/
import Derived.Test.YtnlfjojfgghchaaGreatDoorX28
import Derived.Test.YtnlfjojfgghchaaGreatDoorX22
import Derived.Test.YtnlfjojfgghchaaGreatDoorX16
import Derived.Test.YtnlfjojfgghchaaGreatDoorX14
import Derived.Test.YtnlfjojfgghchaaGreatDoorX15
import Derived.Test.YtnlfjojfgghchaaGreatDoorX06
import Derived.Test.YtnlfjojfgghchaaGreatDoorX19
set_option linter.all false
namespace Go.Proofs.YtnlfjojfgghchaaGreatDoor
open AL Go
set_option maxRecDepth 100000
section
open ref01 ref03 ref04 ref06 prog prog2 prog3 prog4 prog5 prog6 prog7 prog8 prog9 prog15 Part Rungs LeftM TrimM RoundM MergeM BisM BisM4 BisM5 Itoa Keys WalkM StepM WitM JudgM JudgM2 search refw judg wit refj sysw satj divr divs divd dive divv TrimI QuoM FailM DivM FitM TogM ProdM prodw GenW CompM CrossM KeepK GuardM MakeM LsysM LsysM2 MakeM2 KeepB AtM ClsM LstM MakeM3 GuaW ValidM mkk mkp mkl mkc mkq mkg
theorem QS {f:FuncId} {w:World} {F:Fz} {v:Value} (h:(agg [eqv (.func (.func f) #[] #[])]).p w F v):(agg [clo f []]).p w F v:=cV (cs:= [eqv (.func (.func f) #[] #[])]) (ds:= [clo f []]) ⟨fun h=>We h,tV⟩ h
theorem QT {l:List Int} {m:Nat} {a:Int} (nx:List Int) (h:l[m]?=some a):(l.take (m+1)).map (fun(a:Int)=>((a,ix nx a.toNat):Int × Int))=(l.take m).map (fun(a:Int)=>((a,ix nx a.toNat):Int × Int))++ [(a,ix nx a.toNat)]:=by
 rw[List.take_succ,h,List.map_append];rfl
theorem EO {s:SS} {u:Int}:cT s false u=(⟨[],[]⟩,2):=by unfold cT;simp
theorem HJ {s:SS} {u:Int} (h:ix (hOl (tR (aW u s)).1) 0=true):cT s true u=(⟨[],[]⟩,3):=by unfold cT;simp[h]
theorem JR {s:SS} {u:Int} (h:ix (hOl (tR (aW u s)).1) 0=false):cT s true u=(iN lgC (tR (aW u s)).1,0):=by unfold cT;simp[h]
theorem RS {m n k:aA} {q:List (Int × Int)} (hm:bM m=true) (hn:bM n=true) (h:jC m n k q) (hz:m.sT.length*n.sT.length<5000) (hz2:bP m.sT*bP n.sT≤400000):bM k=true:=
 KW hm hn h (by have:=Qj h;omega) (Nat.le_trans (Qk h) (Nat.le_trans (Jz h.nd h.box _) hz2))
noncomputable def bE (m:aA) (t:SS) (u:Int):aA × Int:=
 if bK m t=0 then(if fR (t.aC.length:Int) u=true then cT (aY m t).1 (aY m t).2 u else(⟨[],[]⟩,1)) else(⟨[],[]⟩,bK m t)
noncomputable def eU (x m:aA) (t:SS) (u:Int):Int:=
 if bM x=true∧bM m=true then(if cC t=true then(if x.aC=m.aC∧x.aC=t.aC then(if fR (t.aC.length:Int) u=true then 0 else 1) else 10) else 30) else 20
noncomputable def iV (x m:aA) (t:SS) (u:Int):Bool:=decide (eU x m t u=0)&&(@decide (oG m x t) (Classical.propDecidable _)&&jD x u)
theorem Oh {m x k:aA} {t:SS} {u:Int} {q:List (Int × Int)} {v:VJ} (hm:bC m) (hx:bC x) (ht:oK t) (h:jC m x k q) (hk:bC k) (hv:zP k t v) (hd:eU x m t u=0):iV x m t u=(v.holds&&jD x u):=by
 unfold iV
 rw[hd,decide_eq_true rfl,Bool.true_and]
 congr 1
 rw[Bool.eq_iff_iff,Ew hv,GL hm hx ht h];simp
theorem CS {x m:aA} {t:SS} {u:Int} (h:eU x m t u≠0):iV x m t u=false:=by unfold iV;rw[decide_eq_false h,Bool.false_and]
theorem Ux {m x:aA} (hm:bM m=true) (hx:bM x=true) (h:m.aC=x.aC):dK m x=0:=by unfold dK;rw[if_pos hm,if_pos hx,if_pos h]
namespace T
theorem QU:cS Tryz.prog 104 0 0:=bZ kR
theorem WS:dI Tryz.prog 102:=eH kR
theorem WT:Ent Tryz.prog 111:=aR kR
theorem WU:Ent Tryz.prog 121:=aR kR
theorem XG:Ent Tryz.prog 72:=aR kR
theorem XH:fY Tryz.prog 104 [(0,1)] [.nilFunc]:=fG kR kR
theorem XI:Ent Tryz.prog 75:=aR kR
theorem RU:Ent Tryz.prog 61:=aR kR
theorem XJ:Ent Tryz.prog 62:=aR kR
theorem RV:Ent Tryz.prog 69:=aR kR
theorem Uy:Gj Tryz.prog 68 0 0 4:=Je kR
theorem XK:Ent Tryz.prog 71:=aR kR
end T
namespace mkr
theorem QV (s:SS) (hs:oK s) (hf:s.sT.length≤500) (hne:∀y,y<s.sT.length→acc s y≠[]):
 AL.Fn Tryz.prog 75 [agg [clo 111 []],mE (spec s)] [] (ι:=Unit) (fun N _=>agg [fre N (strs s.aC),fre N (sl 1 gE (iN lgC s).sT)]) (fun _=> []):=by
 refine fnI Tryz.func75 rfl rfl (fun w0 F0=> ?_)
 have f1:=hs.few1;have hn8:=hs.n8;have hc:=Oa hne;have hmv:=NZ hs hc hf
 refine tbI 1 9999 rfl ?_
 refine Dm (ψ:=tab) 9999 997 rfl ?_
 refine fcC (bW 1 J) (fun hS1=> ?_)
 obtain⟨hsa1,hss1,hse1⟩:=sLn hS1
 refine sq (rg (bx (key:=2) (cs:= [clo 111 []]) J fun b2=>(bx (key:=3) (cs:= [sl 1 rE_ s.aC,sl 2 sE s.sT]) J fun b3=>(al (key:=4) T.z25 (eC (eC eZ)) fun b4=>(nl (th (sq (rg (fP J T.eD (lP J J J T.dE (eI (φs:= [sl 1 rE_ s.aC]) (φ:=sl 1 rE_ s.aC) ⟨J,tV⟩ (prog.fI _ O) T.rA (fun N hN=>fun h=>bV h) (bd (css:= [(0,_)]) T.mW (eC (eC eZ)) ⟨J,J,p1 (φ:=sl 1 rE_ s.aC) J,tV⟩ (al (key:=5) T.z25 (eC (eC eZ)) fun b5=>(sPA (cs':= [sl 1 rE_ s.aC,eqv (.slice none 0 0)]) J J J T.aU J J (nl (th (sq (sq (rg (fP J T.bO (lP J J J T.cM (fc (bL 15 J) fun hm15=>(lnF J T.dB (mv (nl (th (bk ?_)))))))))))))))))))))))))))
 refine nwC 50 87 1 gE (nS 5 1 (osl 50 (.slice none 0 0)) rfl rfl dR ?_)
 have hI0_0:0≤s.sT.length:=by
  first|omega|simp
 have hI0_1:([]:List (List (Int × Int)))=mkO (lgC s) s 0:=by
  rfl
 refine lp (κ:=Nat × Value × (List (List (Int × Int)))) (fun p=> [(2,ptr 2 b2 0),(4,ptr 4 b4 0),(5,ptr 5 b5 0),(15,sl 2 sE s.sT),(16,int (s.sT.length:Int)),(17,int (p.1:Int)),(9999,tab)]) (fun p=> [(2,cell b2 [clo 111 []]),(3,cell b3 [sl 1 rE_ s.aC,sl 2 sE s.sT]),(4,cell b4 [eqv (.slice none 0 0),eqv (.slice none 0 0)]),(5,cell b5 [sl 1 rE_ s.aC,osl 50 p.2.1]),(50,own p.2.1 87 1 gE p.2.2),(997,dS tab)]) (fun p=>(p.1≤s.sT.length)∧(p.2.2=mkO (lgC s) s p.1)) (fun p=>s.sT.length- p.1) ⟨0,(.slice none 0 0),([]:List (List (Int × Int)))⟩ ⟨hI0_0,hI0_1⟩ ⟨id,id,id,id,id,id,id,tV⟩ ⟨rI,rI,rI,rI,rI,rI,tV⟩ ?_
 intro⟨k,uo,aD⟩ hG0
 obtain⟨hk0,houts⟩:(k≤s.sT.length)∧(aD=mkO (lgC s) s k):=hG0
 show Ct _ _ _ _ [(2,ptr 2 b2 0),(4,ptr 4 b4 0),(5,ptr 5 b5 0),(15,sl 2 sE s.sT),(16,int (s.sT.length:Int)),(17,int (k:Int)),(9999,tab)] [(2,cell b2 [clo 111 []]),(3,cell b3 [sl 1 rE_ s.aC,sl 2 sE s.sT]),(4,cell b4 [eqv (.slice none 0 0),eqv (.slice none 0 0)]),(5,cell b5 [sl 1 rE_ s.aC,osl 50 uo]),(50,own uo 87 1 gE aD),(997,dS tab)] _
 have hol:aD.length≤500:=by rw[houts,Uj];omega
 refine sq (rg (bi J J aZ (nl (th (sq ?_)))))
 refine cd J (fun hc0=> ?_) (fun hc0=> ?_)
 ·try simp at hc0
  have hst:=hs.st k O
  have hsl:=hst.len
  have hac:=hst.ac
  have hcin:(gJ (ix s.sT k).aP)∈acc s k:=hc k O
  have hal:0<(ix s.sT k).aP.length:=List.length_pos_iff.2 (hne k O)
  have hcb:0≤(gJ (ix s.sT k).aP)∧(gJ (ix s.sT k).aP)<256:=CompM.qC hs O _ hcin
  have hcut:aL 63 (gJ (ix s.sT k).aP)=aL s.aC.length (gJ (ix s.sT k).aP):=Ul hs O hcin
  refine sk (th (sq (bk (sq (rg (iF J J T.dB O gB (lFA J T.eO (Nat.le_of_ble_eq_true J) (al (key:=7) T.z79 (eC (eC eZ)) fun b7=>(sPA (cs':= [sl 1 nE (ix s.sT k).aP,sl 1 nE (ix s.sT k).next]) J J J T.eO J J (nl (th (sq (rg (al (key:=8) T.z87 (eC eZ) fun b8=>(nl (th (sq (sq (rg (fP J T.QU (lP J J J T.WS (fP J T.cY (lP J J J T.bF (Xk (φs:= [sl 1 nE (ix s.sT k).aP]) (φ:=int (gJ (ix s.sT k).aP)) J ⟨J,tV⟩ (Ld (ix s.sT k).aP hal hac) T.WT (bI (φs:= [int (gJ (ix s.sT k).aP)]) (φ:=clo 137 [fp [int (gJ (ix s.sT k).aP)]]) ⟨J,tV⟩ (prog3.vY (gJ (ix s.sT k).aP)) T.wA (nl (th (bk (nwC 80 94 2 pE (nS 8 0 (osl 80 (.slice none 0 0)) J J dR ?_))))))))))))))))))))))))))))))
  have hR0:([]:List (Int × Int))=((aL 63 (gJ (ix s.sT k).aP)).take 0).map (fun(a:Int)=>((a,ix (ix s.sT k).next a.toNat):Int × Int)):=by
   rfl
  refine rf (κ:=Value × (List (Int × Int))) 900 (fun p=> [(2,cell b2 [clo 111 []]),(3,cell b3 [sl 1 rE_ s.aC,sl 2 sE s.sT]),(4,cell b4 [eqv (.slice none 0 0),eqv (.slice none 0 0)]),(5,cell b5 [sl 1 rE_ s.aC,osl 50 uo]),(7,cell b7 [sl 1 nE (ix s.sT k).aP,sl 1 nE (ix s.sT k).next]),(8,cell b8 [osl 80 p.1]),(50,own uo 87 1 gE aD),(80,own p.1 94 2 pE p.2),(997,dS tab)]) (fun iR p=>p.2=((aL 63 (gJ (ix s.sT k).aP)).take iR).map (fun(a:Int)=>((a,ix (ix s.sT k).next a.toNat):Int × Int))) (fun c p=>False) J (Au (gJ (ix s.sT k).aP) O O) T.rW J (fun _=>J) (fun _=>J) ⟨(.slice none 0 0),([]:List (Int × Int))⟩ hR0 ⟨rI,rI,rI,rI,rI,rI,rI,rI,rI,tV⟩ ?_ ?_ (fun k h=>h.elim) (fun id k h=>h.elim) (fun c k h=>h.elim)
  ·intro m0 ⟨u8x,l1⟩ x0 hG0 hx0 l R w1 M1 F1 hRd
   have hR0:l1=((aL 63 (gJ (ix s.sT k).aP)).take m0).map (fun(a:Int)=>((a,ix (ix s.sT k).next a.toNat):Int × Int)):=hG0
   show Ct _ _ _ _ _ ((900,obj l (.loop R)):: [(2,cell b2 [clo 111 []]),(3,cell b3 [sl 1 rE_ s.aC,sl 2 sE s.sT]),(4,cell b4 [eqv (.slice none 0 0),eqv (.slice none 0 0)]),(5,cell b5 [sl 1 rE_ s.aC,osl 50 uo]),(7,cell b7 [sl 1 nE (ix s.sT k).aP,sl 1 nE (ix s.sT k).next]),(8,cell b8 [osl 80 u8x]),(50,own uo 87 1 gE aD),(80,own u8x 94 2 pE l1),(997,dS tab)]) _
   have hm63:m0<63:=by
    have h1:=(List.getElem?_eq_some_iff.1 hx0).1
    have h2:=Hm (gJ (ix s.sT k).aP)
    omega
   have hl1l:l1.length≤63:=by rw[hR0,List.length_map,List.length_take];omega
   obtain⟨a,rfl,ha63,hha⟩:=lL hx0
   have hgo:=oD hs (x:=k) O ((cO _ _).2 ⟨_,hcin,hha⟩)
   have hgo2:0≤ix (ix s.sT k).next a∧ix (ix s.sT k).next a<(s.sT.length:Int):=hgo.2
   refine rg (ag (nl (aq hRd J (bk (dr (nh:=9) [0,0,0,4,0,28,60,126,254,511,1023] T.mixed kR ?_)))))
   refine st_ J (fun _ _ _ gq kq=>lP (gq.1.trans J) J J T.fK kq) ?_
   refine st_ J (fun _ _ _ gq kq=>mv' (gq.1.trans J) kq) ?_
   refine st_ J (fun _ _ _ gq kq=>fP (gq.1.trans J) T.eM kq) ?_
   refine st_ J (fun _ _ _ gq kq=>lP (gq.1.trans J) J J T.bF kq) ?_
   refine st_ J (fun _ _ _ gq kq=>mv' (gq.1.trans J) kq) ?_
   refine st_ J (fun _ _ _ gq kq=>iF (gq.1.trans J) (gq.2.1.trans J) T.aT O gB kq) ?_
   refine st_ J (fun _ _ _ gq kq=>lF (gq.1.trans J) J T.aH kq) ?_
   refine st_ J (fun _ _ _ gq kq=>bd (css:= [(0,_),(1,_)]) T.wN (eC (eC eZ)) ⟨J,J,p1 (φ:=int (a:Int)) (by exact(gq.1.trans J)),⟨J,J,p1 (φ:=int (ix (ix s.sT k).next a)) (by exact(gq.2.1.trans J)),tV⟩⟩ kq) ?_
   refine st_ J (fun _ _ _ gq kq=>bsE (enc:=pE) (xs:= [((a:Int),ix (ix s.sT k).next a)]) (css:= [[int (a:Int),int (ix (ix s.sT k).next a)]]) T.kW ⟨J,J,pA (cs:= [int (a:Int),int (ix (ix s.sT k).next a)]) (by exact(gq.1.trans J)),tV⟩ J J J J kq) ?_
   refine pn (ap (key:=80) (zs:= [((a:Int),ix (ix s.sT k).next a)]) cB J J J T.kW (by unfold aN at*;simp;omega) (by unfold aN at*;simp;omega) fun v37=>(cK J J J J T.fK J (nl (eb ?_))))
   have hN0:(l1++ [((a:Int),ix (ix s.sT k).next a)])=((aL 63 (gJ (ix s.sT k).aP)).take (m0+1)).map (fun(a:Int)=>((a,ix (ix s.sT k).next a.toNat):Int × Int)):=by
    rw[QT _ hx0,←hR0,Int.toNat_natCast]
   exact rqN ⟨v37,l1++ [((a:Int),ix (ix s.sT k).next a)]⟩ hN0 ⟨rI,rI,rI,rI,rI,rI,rI,rI,rI,rI,tV⟩
  ·intro⟨u8x,l1⟩ hG0
   have hR0:l1=((aL 63 (gJ (ix s.sT k).aP)).take (aL 63 (gJ (ix s.sT k).aP)).length).map (fun(a:Int)=>((a,ix (ix s.sT k).next a.toNat):Int × Int)):=hG0
   show At _ _ _ _ [(2,cell b2 [clo 111 []]),(3,cell b3 [sl 1 rE_ s.aC,sl 2 sE s.sT]),(4,cell b4 [eqv (.slice none 0 0),eqv (.slice none 0 0)]),(5,cell b5 [sl 1 rE_ s.aC,osl 50 uo]),(7,cell b7 [sl 1 nE (ix s.sT k).aP,sl 1 nE (ix s.sT k).next]),(8,cell b8 [osl 80 u8x]),(50,own uo 87 1 gE aD),(80,own u8x 94 2 pE l1),(997,dS tab)]
   refine eb (th (rg (fP rfl T.bY (lP rfl rfl rfl T.dA (lP rfl rfl rfl T.fK (fz 80 40 rfl rfl (bsE (enc:=gE) (xs:= [l1]) (css:= [[sl 2 pE l1]]) T.pF ⟨rfl,rfl,p1 (φ:=sl 2 pE l1) rfl,tV⟩ rfl rfl rfl rfl (ap (key:=50) (zs:= [l1]) cB rfl rfl rfl T.pF (by unfold aN at*;simp;omega) (by unfold aN at*;simp;omega) fun v42=>(fP rfl T.bY (cK rfl rfl rfl rfl T.dA rfl (nl (eb (th (rg (bi rfl rfl (aM i6) (mv (nl ?_)))))))))))))))))
   have hN0:(k+1)≤s.sT.length:=by
    first|omega|simp_all
   have hN1:(aD++ [l1])=mkO (lgC s) s (k+1):=by
    rw[QH,houts,hR0,List.take_length,hcut];rfl
   exact ln (⟨k+1,v42,aD++ [l1]⟩:Nat × Value × (List (List (Int × Int)))) ⟨hN0,hN1⟩ dO ⟨id,id,id,id,id,id,id,tV⟩ ⟨rI,rI,rI,rI,rI,rI,tV⟩
 ·try simp at hc0
  refine ex (xt_ (xt_ (xb (th (sq (rg (fzc 5 50 1 J J J J (lPA J J T.aU J (kn 46 (sys (mkM (lgC s) s)) J (by rw[show aD=(mkM (lgC s) s).sT by rw[houts,show k=s.sT.length by omega];exact Uk _ _];exact fun h=>h) (tbU (ψ:=tab) 46 9999 J J (UZ (φs:= [both (agg [sl 1 rE_ (mkM (lgC s) s).aC,sl 1 gE (mkM (lgC s) s).sT]) tab]) ⟨J,tV⟩ (mkq.QD (mkM (lgC s) s) aS) T.WU trivial fun N47 i47 hN47=>(kd (φ':=tup [agg [fre w0.heap.size (sl 1 rE_ (fD (mkM (lgC s) s)).aC),fre w0.heap.size (sl 1 gE (fD (mkM (lgC s) s)).sT)],sl 1 nE i47,int 0]) (fun h=>pZ (cs:= [agg [fre N47 (sl 1 rE_ (fD (mkM (lgC s) s)).aC),fre N47 (sl 1 gE (fD (mkM (lgC s) s)).sT)],sl 1 nE i47,int 0]) (ds:= [agg [fre w0.heap.size (sl 1 rE_ (fD (mkM (lgC s) s)).aC),fre w0.heap.size (sl 1 gE (fD (mkM (lgC s) s)).sT)],sl 1 nE i47,int 0]) ⟨fun h=>cV (cs:= [fre N47 (sl 1 rE_ (fD (mkM (lgC s) s)).aC),fre N47 (sl 1 gE (fD (mkM (lgC s) s)).sT)]) (ds:= [fre w0.heap.size (sl 1 rE_ (fD (mkM (lgC s) s)).aC),fre w0.heap.size (sl 1 gE (fD (mkM (lgC s) s)).sT)]) ⟨fun h=>iW hN47 h,fun h=>iW hN47 h,tV⟩ h,fun h=>h,fun h=>h,tV⟩ h) (mv (xt J J (xt J J (xt J J (sPA (cs':= [fre w0.heap.size (sl 1 rE_ (fD (mkM (lgC s) s)).aC),fre w0.heap.size (sl 1 gE (fD (mkM (lgC s) s)).sT)]) J J J T.aU J J (nl (th (sq (rg (lPA J J T.aU J (sPA (cs':= [fre w0.heap.size (sl 1 rE_ (fD (mkM (lgC s) s)).aC),fre w0.heap.size (sl 1 gE (fD (mkM (lgC s) s)).sT)]) J J J T.aU J J (nl (th (rt ?_))))))))))))))))))))))))))
  have hr0:(fD (mkM (lgC s) s)).aC=s.aC:=by
   first|rfl|simp_all|omega
  have hr1:(fD (mkM (lgC s) s)).sT=(iN lgC s).sT:=by
   first|rfl|simp_all|omega
  exact rE () [.cell 4 25] J [agg [fre w0.heap.size (sl 1 rE_ (fD (mkM (lgC s) s)).aC),fre w0.heap.size (sl 1 gE (fD (mkM (lgC s) s)).sT)]] ⟨.agg J J T.aU J J,tV⟩ (cA2 (fun x0 x1=>rV [agg [fre w0.heap.size (sl 1 rE_ x0),fre w0.heap.size (sl 1 gE x1)]]) hr0 hr1) trivial eX
theorem Uz (s:SS) (ok:Bool) (hs:ok=true→oK s∧s.sT.length≤500) (u:Int) (h0:0≤u) (h1:u<256):
 AL.Fn Tryz.prog 62 [mE (spec s),bl ok,int u] [] (ι:=Unit) (fun N _=>tup [agg [fre N (strs (cT s ok u).1.aC),fre N (sl 1 gE (cT s ok u).1.sT)],int (cT s ok u).2]) (fun _=> []):=by
 refine fnI Tryz.func62 rfl rfl (fun w0 F0=> ?_)
 refine tbI 0 9999 rfl ?_
 refine Dm (ψ:=tab) 9999 997 rfl ?_
 refine fcC (bW 0 J) (fun hS0=> ?_)
 obtain⟨hsa0,hss0,hse0⟩:=sLn hS0
 refine sq (rg (bx (key:=3) (cs:= [sl 1 rE_ s.aC,sl 2 sE s.sT]) J fun b3=>(al (key:=6) T.z25 (eC (eC eZ)) fun b6=>(ag (nl (th (sq (sq (rg (mv (no J (nl (th ?_)))))))))))))
 refine cd J (fun hc0=> ?_) (fun hc0=> ?_)
 ·try simp at hc0
  have hok:ok=false:=by simpa using hc0
  have hd:cT s ok u=(⟨[],[]⟩,2):=by rw[hok];exact EO
  refine sq (rg (bd (css:= []) T.mW (eC (eC eZ)) trivial (sPA (cs':= [eqv (.slice none 0 0),eqv (.slice none 0 0)]) J J J T.aU J J (ag (nl (th (rt (rt_ ?_))))))))
  refine eB 6 0 (fre w0.heap.size (sl 1 rE_ [])) rfl rfl mA ?_
  refine eB 6 1 (fre w0.heap.size (sl 1 gE [])) rfl rfl mA ?_
  have hr0: []=((cT s ok u).1.aC):=by
   rw[hd]
  have hr1: []=((cT s ok u).1.sT):=by
   rw[hd]
  have hr2:(2:Int)=((cT s ok u).2):=by
   rw[hd]
  exact rE () [.cell 6 25,.tmp 7] J [agg [fre w0.heap.size (sl 1 rE_ []),fre w0.heap.size (sl 1 gE [])],int 2] ⟨.agg J J T.aU J J,.tmp J,tV⟩ (cA3 (fun x0 x1 x2=>rV [agg [fre w0.heap.size (sl 1 rE_ x0),fre w0.heap.size (sl 1 gE x1)],int x2]) hr0 hr1 hr2) trivial eX
 ·try simp at hc0
  have hok:ok=true:=by simpa using hc0
  obtain⟨hsk,hsf⟩:=hs hok
  have hT:=EM hsk hsf u
  obtain⟨hTk,hTf⟩:=hT
  have hT0:=hTk.few0
  refine sk (th (sq (rg (lPA J J T.bA J (mv (bI (φs:= [agg [sl 1 rE_ s.aC,sl 2 sE s.sT],int u]) (φ:=agg [sl 1 rE_ ((tR (aW u s)).1).aC,sl 2 sE ((tR (aW u s)).1).sT]) ⟨J,J,tV⟩ (mkk.La s aS u O O) T.XG (sPA (cs':= [sl 1 rE_ ((tR (aW u s)).1).aC,sl 2 sE ((tR (aW u s)).1).sT]) J J J T.bA J J (nl (th (sq (sq (rg (lPA J J T.bA J (bI (φs:= [agg [sl 1 rE_ ((tR (aW u s)).1).aC,sl 2 sE ((tR (aW u s)).1).sT]]) (φ:=sl 1 blE (hOl ((tR (aW u s)).1))) ⟨J,tV⟩ (prog7.Cb ((tR (aW u s)).1) aS) T.Mh (iF J J T.rS O (gK (k:=0) (by rw[vW];omega)) (lF J J T.iG (nl (th ?_))))))))))))))))))
  refine cd J (fun hc1=> ?_) (fun hc1=> ?_)
  ·try simp at hc1
   have hd:cT s ok u=(⟨[],[]⟩,3):=by rw[hok];exact HJ hc1
   refine sq (rg (bd (css:= []) T.mW (eC (eC eZ)) trivial (sPA (cs':= [eqv (.slice none 0 0),eqv (.slice none 0 0)]) J J J T.aU J J (ag (nl (th (rt (rt_ ?_))))))))
   refine eB 6 0 (fre w0.heap.size (sl 1 rE_ [])) rfl rfl mA ?_
   refine eB 6 1 (fre w0.heap.size (sl 1 gE [])) rfl rfl mA ?_
   have hr0: []=((cT s ok u).1.aC):=by
    rw[hd]
   have hr1: []=((cT s ok u).1.sT):=by
    rw[hd]
   have hr2:(3:Int)=((cT s ok u).2):=by
    rw[hd]
   exact rE () [.cell 6 25,.tmp 7] J [agg [fre w0.heap.size (sl 1 rE_ []),fre w0.heap.size (sl 1 gE [])],int 3] ⟨.agg J J T.aU J J,.tmp J,tV⟩ (cA3 (fun x0 x1 x2=>rV [agg [fre w0.heap.size (sl 1 rE_ x0),fre w0.heap.size (sl 1 gE x1)],int x2]) hr0 hr1 hr2) trivial eX
  ·try simp at hc1
   have hd:cT s ok u=(iN lgC (tR (aW u s)).1,0):=by rw[hok];exact JR hc1
   have hfree:=CO hsk hsf hc1
   refine sk (th (sq (rg (bd (css:= [(0,_)]) T.XH (eC eZ) ⟨J,J,p1 (φ:=eqv (.func (.func 111) #[] #[])) J,tV⟩ (kn 19 (agg [clo 111 []]) J QS (lPA J J T.bA J (tbU (ψ:=tab) 20 9999 J J (eI (φs:= [agg [clo 111 []],both (agg [sl 1 rE_ ((tR (aW u s)).1).aC,sl 2 sE ((tR (aW u s)).1).sT]) tab]) (φ:=agg [fre w0.heap.size (sl 1 rE_ (iN lgC ((tR (aW u s)).1)).aC),fre w0.heap.size (sl 1 gE (iN lgC ((tR (aW u s)).1)).sT)]) ⟨J,J,tV⟩ (mkr.QV ((tR (aW u s)).1) aS aS aS) T.XI (fun N hN=>fun h=>cV (cs:= [fre N (sl 1 rE_ (iN lgC ((tR (aW u s)).1)).aC),fre N (sl 1 gE (iN lgC ((tR (aW u s)).1)).sT)]) (ds:= [fre w0.heap.size (sl 1 rE_ (iN lgC ((tR (aW u s)).1)).aC),fre w0.heap.size (sl 1 gE (iN lgC ((tR (aW u s)).1)).sT)]) ⟨fun h=>iW hN h,fun h=>iW hN h,tV⟩ h) (sPA (cs':= [fre w0.heap.size (sl 1 rE_ (iN lgC ((tR (aW u s)).1)).aC),fre w0.heap.size (sl 1 gE (iN lgC ((tR (aW u s)).1)).sT)]) J J J T.aU J J (ag (nl (th (rt ?_)))))))))))))
   have hr0:(iN lgC ((tR (aW u s)).1)).aC=((cT s ok u).1.aC):=by
    rw[hd]
   have hr1:(iN lgC ((tR (aW u s)).1)).sT=((cT s ok u).1.sT):=by
    rw[hd]
   have hr2:(0:Int)=((cT s ok u).2):=by
    rw[hd]
   exact rE () [.cell 6 25,.tmp 7] J [agg [fre w0.heap.size (sl 1 rE_ (iN lgC ((tR (aW u s)).1)).aC),fre w0.heap.size (sl 1 gE (iN lgC ((tR (aW u s)).1)).sT)],int 0] ⟨.agg J J T.aU J J,.tmp J,tV⟩ (cA3 (fun x0 x1 x2=>rV [agg [fre w0.heap.size (sl 1 rE_ x0),fre w0.heap.size (sl 1 gE x1)],int x2]) hr0 hr1 hr2) trivial eX
theorem xC (m:aA) (t:SS) (hts:dH t) (u:Int):
 AL.Fn Tryz.prog 25 [mE (sys m),spec t,int u] [] (ι:=Unit) (fun N _=>tup [agg [fre N (strs (bE m t u).1.aC),fre N (sl 1 gE (bE m t u).1.sT)],int (bE m t u).2]) (fun _=> []):=by
 refine fnI Tryz.func25 rfl rfl (fun w0 F0=> ?_)
 refine tbI 0 9999 rfl ?_
 refine Dm (ψ:=tab) 9999 997 rfl ?_
 refine fcC (bW 0 J) (fun hS0=> ?_)
 obtain⟨hma0,hms0,hme0⟩:=cJ hS0
 refine fcC (bW 1 J) (fun hS1=> ?_)
 obtain⟨hsa1,hss1,hse1⟩:=sLn hS1
 refine sq (rg (bx (key:=3) (cs:= [sl 1 rE_ m.aC,sl 1 gE m.sT]) J fun b3=>(bx (key:=4) (cs:= [sl 1 rE_ t.aC,sl 2 sE t.sT]) J fun b4=>(al (key:=6) T.z25 (eC (eC eZ)) fun b6=>(ag (nl (th (sq (sq (rg (lPA J J T.aU J (lPA J J T.bA J (bI (φs:= [agg [sl 1 rE_ m.aC,sl 1 gE m.sT],agg [sl 1 rE_ t.aC,sl 2 sE t.sT]]) (φ:=int (bK m t)) ⟨J,J,tV⟩ (satj.vA m t aS) T.KU (ag (nl (th (sq (rg (mv (bi J J fV (nl (th ?_))))))))))))))))))))))
 refine cd J (fun hc0=> ?_) (fun hc0=> ?_)
 ·try simp at hc0
  have hd:bE m t u=(⟨[],[]⟩,bK m t):=by unfold bE;rw[if_neg hc0]
  refine sq (rg (bd (css:= []) T.mW (eC (eC eZ)) trivial (mv (sPA (cs':= [eqv (.slice none 0 0),eqv (.slice none 0 0)]) J J J T.aU J J (ag (nl (th (rt (rt_ ?_)))))))))
  refine eB 6 0 (fre w0.heap.size (sl 1 rE_ [])) rfl rfl mA ?_
  refine eB 6 1 (fre w0.heap.size (sl 1 gE [])) rfl rfl mA ?_
  have hr0: []=((bE m t u).1.aC):=by
   rw[hd]
  have hr1: []=((bE m t u).1.sT):=by
   rw[hd]
  have hr2:((bK m t):Int)=((bE m t u).2):=by
   rw[hd]
  exact rE () [.cell 6 25,.tmp 7] J [agg [fre w0.heap.size (sl 1 rE_ []),fre w0.heap.size (sl 1 gE [])],int (bK m t)] ⟨.agg J J T.aU J J,.tmp J,tV⟩ (cA3 (fun x0 x1 x2=>rV [agg [fre w0.heap.size (sl 1 rE_ x0),fre w0.heap.size (sl 1 gE x1)],int x2]) hr0 hr1 hr2) trivial eX
 ·try simp at hc0
  obtain⟨hmv,htv,hmt⟩:=lB hc0
  have hm:=cU hmv
  have ht:=eJ htv
  have hn8:=ht.n8
  refine sk (th (sq (sq (rg (fP J T.eD (lP J J J T.dE (fc (bL 19 J) fun hm19=>(lnF J T.iL (mv (bI (φs:= [int (t.aC.length:Int),int u]) (φ:=bl (fR (t.aC.length:Int) u)) ⟨J,J,tV⟩ (mkk.Nq (t.aC.length:Int) u O O) T.RU (no J (nl (th ?_)))))))))))))
  refine cd J (fun hc1=> ?_) (fun hc1=> ?_)
  ·try simp at hc1
   have hd:bE m t u=(⟨[],[]⟩,1):=by unfold bE;rw[if_pos hc0,if_neg (by simpa using hc1)]
   refine sq (rg (bd (css:= []) T.mW (eC (eC eZ)) trivial (sPA (cs':= [eqv (.slice none 0 0),eqv (.slice none 0 0)]) J J J T.aU J J (ag (nl (th (rt (rt_ ?_))))))))
   refine eB 6 0 (fre w0.heap.size (sl 1 rE_ [])) rfl rfl mA ?_
   refine eB 6 1 (fre w0.heap.size (sl 1 gE [])) rfl rfl mA ?_
   have hr0: []=((bE m t u).1.aC):=by
    rw[hd]
   have hr1: []=((bE m t u).1.sT):=by
    rw[hd]
   have hr2:(1:Int)=((bE m t u).2):=by
    rw[hd]
   exact rE () [.cell 6 25,.tmp 7] J [agg [fre w0.heap.size (sl 1 rE_ []),fre w0.heap.size (sl 1 gE [])],int 1] ⟨.agg J J T.aU J J,.tmp J,tV⟩ (cA3 (fun x0 x1 x2=>rV [agg [fre w0.heap.size (sl 1 rE_ x0),fre w0.heap.size (sl 1 gE x1)],int x2]) hr0 hr1 hr2) trivial eX
  ·try simp at hc1
   have hse:fR (t.aC.length:Int) u=true:=by simpa using hc1
   obtain⟨hu0,hu1⟩:=GQ ht.n8 hse
   have hd:bE m t u=cT (aY m t).1 (aY m t).2 u:=by unfold bE;rw[if_pos hc0,if_pos hse]
   have hgk:(aY m t).2=true→oK (aY m t).1∧(aY m t).1.sT.length≤500:=fun h=>⟨(oM hm ht h).1,(oM hm ht h).2.1⟩
   refine sk (th (sq (rg (lPA J J T.aU J (lPA J J T.bA J (tbU (ψ:=tab) 26 9999 J J (bI (φs:= [both (agg [sl 1 rE_ m.aC,sl 1 gE m.sT]) tab,agg [sl 1 rE_ t.aC,sl 2 sE t.sT]]) (φ:=tup [agg [sl 1 rE_ ((aY m t).1).aC,sl 2 sE ((aY m t).1).sT],bl ((aY m t).2)]) ⟨J,J,tV⟩ (mkg.HG m aS t aS aS) T.RR (mv (xt J J (xt J J (al (key:=9) T.z28 (eC (eC eZ)) fun b9=>(sPA (cs':= [sl 1 rE_ ((aY m t).1).aC,sl 2 sE ((aY m t).1).sT]) J J J T.bA J J (ag (nl (th (sq (rg (lPA J J T.bA J (mv (mv (tbU (ψ:=tab) 31 9999 J J (eI (φs:= [both (agg [sl 1 rE_ ((aY m t).1).aC,sl 2 sE ((aY m t).1).sT]) tab,bl ((aY m t).2),int u]) (φ:=tup [agg [fre w0.heap.size (sl 1 rE_ ((cT ((aY m t).1) ((aY m t).2) u).1).aC),fre w0.heap.size (sl 1 gE ((cT ((aY m t).1) ((aY m t).2) u).1).sT)],int ((cT ((aY m t).1) ((aY m t).2) u).2)]) ⟨J,J,J,tV⟩ (mkr.Uz ((aY m t).1) ((aY m t).2) aS u O O) T.XJ (fun N hN=>fun h=>pZ (cs:= [agg [fre N (sl 1 rE_ ((cT ((aY m t).1) ((aY m t).2) u).1).aC),fre N (sl 1 gE ((cT ((aY m t).1) ((aY m t).2) u).1).sT)],int ((cT ((aY m t).1) ((aY m t).2) u).2)]) (ds:= [agg [fre w0.heap.size (sl 1 rE_ ((cT ((aY m t).1) ((aY m t).2) u).1).aC),fre w0.heap.size (sl 1 gE ((cT ((aY m t).1) ((aY m t).2) u).1).sT)],int ((cT ((aY m t).1) ((aY m t).2) u).2)]) ⟨fun h=>cV (cs:= [fre N (sl 1 rE_ ((cT ((aY m t).1) ((aY m t).2) u).1).aC),fre N (sl 1 gE ((cT ((aY m t).1) ((aY m t).2) u).1).sT)]) (ds:= [fre w0.heap.size (sl 1 rE_ ((cT ((aY m t).1) ((aY m t).2) u).1).aC),fre w0.heap.size (sl 1 gE ((cT ((aY m t).1) ((aY m t).2) u).1).sT)]) ⟨fun h=>iW hN h,fun h=>iW hN h,tV⟩ h,fun h=>h,tV⟩ h) (xt J J (xt J J (sPA (cs':= [fre w0.heap.size (sl 1 rE_ ((cT ((aY m t).1) ((aY m t).2) u).1).aC),fre w0.heap.size (sl 1 gE ((cT ((aY m t).1) ((aY m t).2) u).1).sT)]) J J J T.aU J J (ag (nl (th (rt ?_)))))))))))))))))))))))))))))
   have hr0:((cT ((aY m t).1) ((aY m t).2) u).1).aC=((bE m t u).1.aC):=by
    rw[hd]
   have hr1:((cT ((aY m t).1) ((aY m t).2) u).1).sT=((bE m t u).1.sT):=by
    rw[hd]
   have hr2:(((cT ((aY m t).1) ((aY m t).2) u).2):Int)=((bE m t u).2):=by
    rw[hd]
   exact rE () [.cell 6 25,.tmp 7] J [agg [fre w0.heap.size (sl 1 rE_ ((cT ((aY m t).1) ((aY m t).2) u).1).aC),fre w0.heap.size (sl 1 gE ((cT ((aY m t).1) ((aY m t).2) u).1).sT)],int ((cT ((aY m t).1) ((aY m t).2) u).2)] ⟨.agg J J T.aU J J,.tmp J,tV⟩ (cA3 (fun x0 x1 x2=>rV [agg [fre w0.heap.size (sl 1 rE_ x0),fre w0.heap.size (sl 1 gE x1)],int x2]) hr0 hr1 hr2) trivial eX
theorem HK (x m:aA) (t:SS) (hts:dH t) (u:Int) (hz:m.sT.length*x.sT.length<5000) (hz2:bP m.sT*bP x.sT≤400000):
 Fn0 Tryz.prog 30 [sys x,sys m,spec t,int u] (tup [bl (iV x m t u),int (eU x m t u)]):=by
 refine fnI Tryz.func30 rfl rfl (fun w0 F0=> ?_)
 refine fcC (bW 0 J) (fun hS0=> ?_)
 obtain⟨hma0,hms0,hme0⟩:=cJ hS0
 refine fcC (bW 1 J) (fun hS1=> ?_)
 obtain⟨hma1,hms1,hme1⟩:=cJ hS1
 refine fcC (bW 2 J) (fun hS2=> ?_)
 obtain⟨hsa2,hss2,hse2⟩:=sLn hS2
 refine sq (rg (bx (key:=4) (cs:= [sl 1 rE_ x.aC,sl 1 gE x.sT]) J fun b4=>(bx (key:=5) (cs:= [sl 1 rE_ m.aC,sl 1 gE m.sT]) J fun b5=>(bx (key:=6) (cs:= [sl 1 rE_ t.aC,sl 2 sE t.sT]) J fun b6=>(ag (ag (nl (th (sq (bk (sq (rg (lPA J J T.aU J (bI (φs:= [agg [sl 1 rE_ x.aC,sl 1 gE x.sT]]) (φ:=bl (bM x)) ⟨J,tV⟩ (sysw.iB x) T.wP (no J (mv ?_))))))))))))))))
 apply gOr (t:=17) (pd:=21) rfl
 rotate_left
 ·intro hg0 fin
  have hg0':=hg0
  try simp at hg0'
  exact gy J J J hg0 (lPA J J T.aU J (gy J J J hg0 (bI (φs:= [agg [sl 1 rE_ m.aC,sl 1 gE m.sT]]) (φ:=bl (bM m)) ⟨J,tV⟩ (sysw.iB m) T.wP (gy J J J hg0 (no J (pkF J hg0 J (drp (X:= [(20,_),(19,_),(18,_)]) ⟨J,J,J,tV⟩ fin)))))))
 ·intro hg0 fin
  exact gn J J J hg0 J J (gn J J J hg0 J J (gn J J J hg0 J J (pkT J hg0 J (drp (X:= [(20,_),(19,_),(18,_)]) ⟨J,J,J,tV⟩ fin))))
 refine ag (nl (th ?_))
 refine cd J (fun hc0=> ?_) (fun hc0=> ?_)
 ·skip
  have hxm:¬(bM x=true∧bM m=true):=fun g=>by rw[g.1,g.2] at hc0;cases hc0
  have hd:eU x m t u=20:=by unfold eU;rw[if_neg hxm]
  refine sq (rg (ag (ag (nl (th (rt (rb (rt_ ?_))))))))
  have hr0:false=(iV x m t u):=by
   rw[CS (by rw[hd];decide)]
  have hr1:(20:Int)=(eU x m t u):=by
   rw[hd]
  exact rE () [.tmp 8,.tmp 9] J [bl false,int 20] ⟨.tmp J,.tmp J,tV⟩ (cA2 (fun x0 x1=>rV [bl x0,int x1]) hr0 hr1) trivial eX
 ·skip
  obtain⟨hxv,hmv⟩:bM x=true∧bM m=true:=by
   rw[Bool.or_eq_false_iff,Bool.not_eq_false',Bool.not_eq_false'] at hc0;exact hc0
  have hx:=cU hxv
  have hm:=cU hmv
  refine sq (rg (lPA J J T.bA J (bI (φs:= [agg [sl 1 rE_ t.aC,sl 2 sE t.sT]]) (φ:=bl (cC t)) ⟨J,tV⟩ (prog2.iB t aS) T.Fa (no J (ag (nl (th ?_)))))))
  refine cd J (fun hc1=> ?_) (fun hc1=> ?_)
  ·try simp at hc1
   have hd:eU x m t u=30:=by unfold eU;rw[if_pos ⟨hxv,hmv⟩,if_neg (by simpa using hc1)]
   refine sq (rg (ag (ag (nl (th (rt (rb (rt_ ?_))))))))
   have hr0:false=(iV x m t u):=by
    rw[CS (by rw[hd];decide)]
   have hr1:(30:Int)=(eU x m t u):=by
    rw[hd]
   exact rE () [.tmp 8,.tmp 9] J [bl false,int 30] ⟨.tmp J,.tmp J,tV⟩ (cA2 (fun x0 x1=>rV [bl x0,int x1]) hr0 hr1) trivial eX
  ·try simp at hc1
   have htv:cC t=true:=by simpa using hc1
   have ht:=eJ htv
   have hn8:=ht.n8
   refine sq (rg (fP J T.hU (lP J J J T.dE (fP J T.hU (lP J J J T.dE (bI (φs:= [sl 1 rE_ x.aC,sl 1 rE_ m.aC]) (φ:=bl (decide (x.aC=m.aC))) ⟨J,J,tV⟩ (prog.iY _ _) T.zI (no J (mv ?_))))))))
   apply gOr (t:=33) (pd:=40) rfl
   rotate_left
   ·intro hg1 fin
    have hg1':=hg1
    try simp at hg1'
    exact gy J J J hg1 (fP J T.hU (gy J J J hg1 (lP J J J T.dE (gy J J J hg1 (fP J T.eD (gy J J J hg1 (lP J J J T.dE (gy J J J hg1 (bI (φs:= [sl 1 rE_ x.aC,sl 1 rE_ t.aC]) (φ:=bl (decide (x.aC=t.aC))) ⟨J,J,tV⟩ (prog.iY _ _) T.zI (gy J J J hg1 (no J (pkF J hg1 J (drp (X:= [(39,_),(38,_),(37,_),(36,_),(35,_),(34,_)]) ⟨J,J,J,J,J,J,tV⟩ fin)))))))))))))
   ·intro hg1 fin
    exact gn J J J hg1 J J (gn J J J hg1 J J (gn J J J hg1 J J (gn J J J hg1 J J (gn J J J hg1 J J (gn J J J hg1 J J (pkT J hg1 J (drp (X:= [(39,_),(38,_),(37,_),(36,_),(35,_),(34,_)]) ⟨J,J,J,J,J,J,tV⟩ fin)))))))
   refine ag (nl (th ?_))
   refine cd J (fun hc2=> ?_) (fun hc2=> ?_)
   ·skip
    have hne:¬(x.aC=m.aC∧x.aC=t.aC):=fun g=>by rw[decide_eq_true g.1,decide_eq_true g.2] at hc2;cases hc2
    have hd:eU x m t u=10:=by unfold eU;rw[if_pos ⟨hxv,hmv⟩,if_pos htv,if_neg hne]
    refine sq (rg (ag (ag (nl (th (rt (rb (rt_ ?_))))))))
    have hr0:false=(iV x m t u):=by
     rw[CS (by rw[hd];decide)]
    have hr1:(10:Int)=(eU x m t u):=by
     rw[hd]
    exact rE () [.tmp 8,.tmp 9] J [bl false,int 10] ⟨.tmp J,.tmp J,tV⟩ (cA2 (fun x0 x1=>rV [bl x0,int x1]) hr0 hr1) trivial eX
   ·skip
    obtain⟨hxm,hxt⟩:x.aC=m.aC∧x.aC=t.aC:=by
     rw[Bool.or_eq_false_iff,Bool.not_eq_false',Bool.not_eq_false'] at hc2;exact⟨of_decide_eq_true hc2.1,of_decide_eq_true hc2.2⟩
    have hbo:=Ux hmv hxv hxm.symm
    refine sq (rg (fP J T.eD (lP J J J T.dE (fc (bL 43 J) fun hm43=>(lnF J T.iL (mv (bI (φs:= [int (t.aC.length:Int),int u]) (φ:=bl (fR (t.aC.length:Int) u)) ⟨J,J,tV⟩ (mkk.Nq (t.aC.length:Int) u O O) T.RU (no J (ag (nl (th ?_)))))))))))
    refine cd J (fun hc3=> ?_) (fun hc3=> ?_)
    ·skip
     have hns:¬fR (t.aC.length:Int) u=true:=fun g=>by rw[g] at hc3;cases hc3
     have hd:eU x m t u=1:=by unfold eU;rw[if_pos ⟨hxv,hmv⟩,if_pos htv,if_pos ⟨hxm,hxt⟩,if_neg hns]
     refine sq (rg (ag (ag (nl (th (rt (rb (rt_ ?_))))))))
     have hr0:false=(iV x m t u):=by
      rw[CS (by rw[hd];decide)]
     have hr1:(1:Int)=(eU x m t u):=by
      rw[hd]
     exact rE () [.tmp 8,.tmp 9] J [bl false,int 1] ⟨.tmp J,.tmp J,tV⟩ (cA2 (fun x0 x1=>rV [bl x0,int x1]) hr0 hr1) trivial eX
    ·skip
     have hse:fR (t.aC.length:Int) u=true:=by simpa using hc3
     obtain⟨hu0,hu1⟩:=GQ ht.n8 hse
     have hd:eU x m t u=0:=by unfold eU;rw[if_pos ⟨hxv,hmv⟩,if_pos htv,if_pos ⟨hxm,hxt⟩,if_pos hse]
     refine sk (eb (th (sq (rg (lPA J J T.aU J (lPA J J T.aU J (cl (prodw.CQ m x aS aS) T.RV trivial fun N51 i51=>(mv (xt J J (xt J J (xt J J (al (key:=10) T.z25 (eC (eC eZ)) fun b10=>(sPA (cs':= [sl 1 rE_ i51.1.1.aC,sl 1 gE i51.1.1.sT]) J J J T.aU J J (ag (ag (nl (th (sq (sq (rg (mv (bi J J fV (nl (th ?_))))))))))))))))))))))))
     refine cd J (fun hc4=> ?_) (fun hc4=> ?_)
     ·try simp at hc4
      exact absurd hbo (by simpa using hc4)
     ·try simp at hc4
      have hPk:=i51.2.2 hbo
      have hkv:=RS hmv hxv hPk hz hz2
      have hkk:=cU hkv
      refine sk (th (sq (rg (lPA J J T.aU J (lPA J J T.bA J (cl (satj.GG i51.1.1 aS t aS) T.RI trivial fun N60 i60=>(Vw J T.Uy T.iG J (mv ?_))))))))
      apply fT (t:=62) (pd:=66) rfl
      rotate_left
      ·intro hg2 fin
       have hg2':=hg2
       try simp at hg2'
       exact gy J J J hg2 (lPA J J T.aU J (gy J J J hg2 (mv (gy J J J hg2 (bI (φs:= [agg [sl 1 rE_ x.aC,sl 1 gE x.sT],int u]) (φ:=bl (jD x u)) ⟨J,J,tV⟩ (mkp.Qo x aS u O O) T.XK (pkT J hg2 J (drp (X:= [(65,_),(64,_),(63,_)]) ⟨J,J,J,tV⟩ fin)))))))
      ·intro hg2 fin
       exact gn J J J hg2 J J (gn J J J hg2 J J (gn J J J hg2 J J (pkF J hg2 J (drp (X:= [(65,_),(64,_),(63,_)]) ⟨J,J,J,tV⟩ fin))))
      refine ag (ag (nl (th (rt ?_))))
      have hr0:(i60.1.holds&&(jD x u))=(iV x m t u):=by
       rw[Oh hm hx ht hPk hkk i60.2 hd]
      have hr1:(0:Int)=(eU x m t u):=by
       rw[hd]
      exact rE () [.tmp 8,.tmp 9] J [bl (i60.1.holds&&(jD x u)),int 0] ⟨.tmp J,.tmp J,tV⟩ (cA2 (fun x0 x1=>rV [bl x0,int x1]) hr0 hr1) trivial eX
end mkr
end
section
namespace LeadM
open ref01 ref03 ref04 ref06 Part Rungs LeftM TrimM RoundM MergeM BisM BisM3 BisM4 BisM5 BisM6 Keys WalkM WitM JudgM JudgM2 LevM divr divs divd dive divf divv judg sysw satj ChsM BisS TrimI QuoM FailM DivM RefM GenW CompM CompP CrossM FitM TogM KeepK GuardM MakeM LsysM LsysM2 GuaW
structure YA (m:aA) (t:SS) (z:SS × Bool):Prop where
 yes:z.2=true→∃l,Lc m t l z.1∧l.length≤10000
 no:z.2=false→z.1=⟨[],[]⟩
end LeadM
end
section
open ref01 ref03 ref04 ref06 prog prog2 prog3 prog6 prog13 Part Rungs LeftM TrimM RoundM MergeM BisM BisM4 BisM5 WalkM StepM WitM JudgM JudgM2 refw judg wit refj sysw divr divs divd dive divg divw divv divf LevM LevM2
namespace divc
end divc
end
section
open ref01 ref03 ref04 ref06 prog prog2 prog3 prog6 prog13 Part Rungs LeftM TrimM RoundM MergeM BisM BisM4 BisM5 WalkM StepM WitM JudgM JudgM2 refw judg wit refj sysw divr divs divd dive divg divw divv LevM LevM2 QuoM FailM FitM
def uL:M5→List AV:=fun m=> [int m.x,int m.t,int m.s,int m.before,int m.action]
instance (m:M5):OneAll (uL m):=inferInstanceAs (OneAll [int m.x,int m.t,int m.s,int m.before,int m.action])
theorem DU {a b c:Int} (h1: -9223372036854775808≤a∧a≤9223372036854775807) (h2: -9223372036854775808≤b∧b≤9223372036854775807) (h3: -9223372036854775808≤c∧c≤9223372036854775807):sQ (a,b,c):=⟨h1,h2,h3⟩
theorem UA {es:List (Int × Int)} (h:∀e∈es,0≤e.1∧e.1<8):0≤cX es∧cX es<256:=by
 refine⟨oW _,FV _ fun u hu=> ?_⟩
 obtain⟨e,he,rfl⟩:=List.mem_map.1 hu
 have:=h e he
 have h2:2^e.1.toNat≤2^7:=Nat.pow_le_pow_right O O
 omega
theorem HL {x:aA} {t s:SS} (h:eF x t s=0):bM x=true∧cC t=true∧cC s=true∧x.aC=t.aC∧t.aC=s.aC:=by
 unfold eF at h
 split at h
 ·next g1=>
  split at h
  ·next g2=>
   split at h
   ·next g3=>
    obtain⟨a,b,c⟩:=Go.Proofs.YtnlfjojfgghchaaGreatDoor.Dp g2
    exact⟨g1,a,b,g3,c⟩
   ·exact absurd h (by decide)
  ·next g2=>exact absurd h g2
 ·exact absurd h (by decide)
namespace T
theorem HM:jN Tryz.prog 207 206 4 mX sQ:=PT Tryz.underlying207 Tryz.underlying206 kR (by decide+kernel) kR kR ⟨rfl,rfl,by kernel_rfl,by kernel_rfl⟩ ⟨rfl,rfl,by kernel_rfl,by kernel_rfl⟩ ⟨rfl,rfl,by kernel_rfl,by kernel_rfl⟩ kR kR
theorem RX:fY Tryz.prog 206 [(0,1),(1,1),(2,1)] [.int .i64 0,.int .i64 0,.int .i64 0]:=fG kR kR
theorem RY:fY Tryz.prog 209 [(0,3),(3,1),(4,1)] [.int .i64 0,.int .i64 0,.int .i64 0,.int .i64 0,.int .i64 0]:=fG kR kR
theorem Lj:dW Tryz.prog 210 209 5 40 [.int .i64 0,.int .i64 0,.int .i64 0,.int .i64 0,.int .i64 0]:=gP kR kR
theorem CU:IsSlice Tryz.prog 210 209 5:=eL kR
theorem QX:cS Tryz.prog 209 0 0:=bZ kR
theorem vP:gS Tryz.prog 206 3:=fU kR
theorem WV:dM Tryz.prog 206 [.int .i64 0,.int .i64 0,.int .i64 0]:=cE kR
theorem HO:cS Tryz.prog 206 0 0:=bZ kR
theorem Bj:cS Tryz.prog 206 2 2:=bZ kR
theorem HP:cS Tryz.prog 206 1 1:=bZ kR
theorem HQ:cS Tryz.prog 209 1 3:=bZ kR
theorem QZ:cS Tryz.prog 209 2 4:=bZ kR
theorem z72:dM Tryz.prog 72 [.bool false,.slice none 0 0,.slice none 0 0]:=cE kR
theorem Ll:fY Tryz.prog 72 [(0,1),(1,2)] [.bool false,.slice none 0 0,.slice none 0 0]:=fG kR kR
theorem oN:gS Tryz.prog 72 3:=fU kR
theorem WW:Ent Tryz.prog 130:=aR kR
theorem WX:Ent Tryz.prog 131:=aR kR
theorem WY:Ent Tryz.prog 132:=aR kR
theorem XL:Ent Tryz.prog 86:=aR kR
theorem XM:Ent Tryz.prog 87:=aR kR
end T
namespace divj
theorem Lm (x:aA) (t s:SS) (hx:bC x) (ht:oK t) (hs:oK s) (hu:AH s) (hxa:x.aC.length=s.aC.length) (hta:t.aC.length=s.aC.length) (hz:x.sT.length*(t.sT.length*s.sT.length)≤1000000000):
 AL.Fn Tryz.prog 130 [sys x,spec t,spec s] [] (ι:= { z:List Int × Int × Bool//VP x t s z }) (fun _ i=>tup [ints i.1.1,int i.1.2.1,bl i.1.2.2]) (fun _=> []):=by
 refine fnI Tryz.func130 rfl rfl (fun w0 F0=> ?_)
 have f0:=hx.few0;have f1:=ht.few0;have f2:=hs.few0;have f3:=hx.few1;have f4:=ht.few1;have f5:=hs.few1;have hn8:=hs.n8
 refine fcC (bW 0 J) (fun hS0=> ?_)
 obtain⟨hma0,hms0,hme0⟩:=cJ hS0
 refine fcC (bW 1 J) (fun hS1=> ?_)
 obtain⟨hsa1,hss1,hse1⟩:=sLn hS1
 refine fcC (bW 2 J) (fun hS2=> ?_)
 obtain⟨hsa2,hss2,hse2⟩:=sLn hS2
 refine sq (rg (bx (key:=3) (cs:= [sl 1 rE_ x.aC,sl 1 gE x.sT]) J fun b3=>(bx (key:=4) (cs:= [sl 1 rE_ t.aC,sl 2 sE t.sT]) J fun b4=>(bx (key:=5) (cs:= [sl 1 rE_ s.aC,sl 2 sE s.sT]) J fun b5=>(ag (ag (ag (nl (th (sq (rg (mkm (key:=21) (kE:=mX) (dom:=sQ) (vE:=blV) fun b21=>(bd (css:= []) T.RX (eC (eC (eC eZ))) trivial (AL.insert (q:=(0,0,0)) (u:=true) J J Du J T.HM (DU ⟨O,O⟩ ⟨O,O⟩ ⟨O,O⟩) (mv (ag (nl (th (sq (rg (bd (css:= [(3,_)]) T.RY (eC (eC (eC (eC (eC eZ))))) ⟨J,J,p1 (φ:=int (-1)) J,tV⟩ (bsO 25 (enc:=uL) (xs:= [⟨0,0,0,(-1),0⟩]) (css:= [[int 0,int 0,int 0,int (-1),int 0]]) T.Lj ⟨J,J,pA (cs:= [int 0,int 0,int 0,int (-1),int 0]) J,tV⟩ J J J J fun v25=>(ag (nl (th (sq (sq (rg (ag (nl (th (bk ?_))))))))))))))))))))))))))))))))
 have hI0_0:QF x t s ([⟨0,0,0,(-1),0⟩]:List M5)∧lT (bQ ([]:List ((Int × Int × Int) × Bool)) (0,0,0) true) (([⟨0,0,0,(-1),0⟩]:List M5).map tri)∧0≤([⟨0,0,0,(-1),0⟩]:List M5).length∧∀j,j<0→mO x t s ([⟨0,0,0,(-1),0⟩]:List M5) j:=by
  exact⟨Tp,KL,by simp,fun k hk=>absurd hk O⟩
 refine lp (κ:=Nat × Value × (List M5) × (List ((Int × Int × Int) × Bool))) (fun p=> [(3,ptr 3 b3 0),(4,ptr 4 b4 0),(5,ptr 5 b5 0),(9,mpv 21 b21),(10,osl 25 p.2.1),(11,int (p.1:Int))]) (fun p=> [(3,cell b3 [sl 1 rE_ x.aC,sl 1 gE x.sT]),(4,cell b4 [sl 1 rE_ t.aC,sl 2 sE t.sT]),(5,cell b5 [sl 1 rE_ s.aC,sl 2 sE s.sT]),(21,mp b21 mX sQ blV p.2.2.2),(25,own p.2.1 209 5 uL p.2.2.1)]) (fun p=>QF x t s p.2.2.1∧lT p.2.2.2 (p.2.2.1.map tri)∧p.1≤p.2.2.1.length∧∀j,j<p.1→mO x t s p.2.2.1 j) (fun p=>x.sT.length*(t.sT.length*s.sT.length)- p.1) ⟨0,v25,([⟨0,0,0,(-1),0⟩]:List M5),bQ ([]:List ((Int × Int × Int) × Bool)) (0,0,0) true⟩ hI0_0 ⟨id,id,id,id,id,id,tV⟩ ⟨rI,rI,rI,rI,rI,tV⟩ ?_
 intro⟨i,v,q,mm⟩ hG0
 obtain⟨hq,hsm,hil,hdone⟩:QF x t s q∧lT mm (q.map tri)∧i≤q.length∧∀j,j<i→mO x t s q j:=hG0
 show Ct _ _ _ _ [(3,ptr 3 b3 0),(4,ptr 4 b4 0),(5,ptr 5 b5 0),(9,mpv 21 b21),(10,osl 25 v),(11,int (i:Int))] [(3,cell b3 [sl 1 rE_ x.aC,sl 1 gE x.sT]),(4,cell b4 [sl 1 rE_ t.aC,sl 2 sE t.sT]),(5,cell b5 [sl 1 rE_ s.aC,sl 2 sE s.sT]),(21,mp b21 mX sQ blV mm),(25,own v 209 5 uL q)] _
 have hql:=Gw hx ht hs hu hxa hq
 refine sq (sq (rg (mv (mv (lnO J J T.CU (bi J J aZ (nl (th ?_))))))))
 refine cd J (fun hc0=> ?_) (fun hc0=> ?_)
 ·try simp at hc0
  have hbx:0≤(ix q i).x∧(ix q i).x<(x.sT.length:Int)∧0≤(ix q i).t∧(ix q i).t<(t.sT.length:Int)∧0≤(ix q i).s∧(ix q i).s<(s.sT.length:Int):=AP hx ht hs hu hxa (hq.rch _ (aO hc0))
  obtain⟨hb0,hb1,hb2,hb3,hb4,hb5⟩:=hbx
  have hst:=ht.st (ix q i).t.toNat O
  have hss:=hs.st (ix q i).s.toNat O
  have hsl:=hss.len
  have htl:=hst.len
  have hacl:=hss.acl
  have hoff:∀e∈(ix x.sT (ix q i).x.toNat),0≤e.1∧e.1<8:=fun e he=>by have:=hx.ed (ix q i).x.toNat O e he;have:=hx.n8;omega
  have hof:=UA hoff
  refine sk (th (sq (bk (sq (rg (mv (mv (iO J J J T.CU O O (fO J T.QX (lOA J J gB T.vP (by decide) (al (key:=12) T.WV (eC (eC (eC eZ))) fun b12=>(sPA (cs':= [int (ix q i).x,int (ix q i).t,int (ix q i).s]) J J J T.vP J J (nl (th (sq (rg (fP J T.bY (lP J J J T.dA (fP J T.HO (lP J J J T.aH (iF J J T.gY O gB (lF J J T.fK (bI (φs:= [sl 2 pE (ix x.sT (ix q i).x.toNat)]) (φ:=int (cX (ix x.sT (ix q i).x.toNat))) ⟨J,tV⟩ (sysw.tU (ix x.sT (ix q i).x.toNat) aS) T.Fh (ag (nl (th (sq (sq (rg (fP J T.bO (lP J J J T.cM (fP J T.Bj (lP J J J T.aH (iF J J T.dB O gB (fF J T.cY (lF J J T.bF (fc (bL 50 J) fun hm50=>(lnF J T.aT (mv (nl (th (bk ?_))))))))))))))))))))))))))))))))))))))))))
  have hI1_0:0≤(ix s.sT (ix q i).s.toNat).aP.length:=by
   first|omega|simp
  have hI1_1:∀j,j<0→bS (bR x (ix q i).x.toNat) (ix (ix s.sT (ix q i).s.toNat).aP j)∈acc t (ix q i).t.toNat:=by
   intro j hj;omega
  refine lp (κ:=Nat) (fun p=> [(3,ptr 3 b3 0),(4,ptr 4 b4 0),(5,ptr 5 b5 0),(9,mpv 21 b21),(10,osl 25 v),(11,int (i:Int)),(12,ptr 12 b12 0),(13,int (cX (ix x.sT (ix q i).x.toNat))),(50,sl 1 nE (ix s.sT (ix q i).s.toNat).aP),(51,int ((ix s.sT (ix q i).s.toNat).aP.length:Int)),(52,int (p:Int))]) (fun p=> [(3,cell b3 [sl 1 rE_ x.aC,sl 1 gE x.sT]),(4,cell b4 [sl 1 rE_ t.aC,sl 2 sE t.sT]),(5,cell b5 [sl 1 rE_ s.aC,sl 2 sE s.sT]),(12,cell b12 [int (ix q i).x,int (ix q i).t,int (ix q i).s]),(21,mp b21 mX sQ blV mm),(25,own v 209 5 uL q)]) (fun p=>(p≤(ix s.sT (ix q i).s.toNat).aP.length)∧(∀j,j<p→bS (bR x (ix q i).x.toNat) (ix (ix s.sT (ix q i).s.toNat).aP j)∈acc t (ix q i).t.toNat)) (fun p=>(ix s.sT (ix q i).s.toNat).aP.length- p) 0 ⟨hI1_0,hI1_1⟩ ⟨id,id,id,id,id,id,id,id,id,id,id,tV⟩ ⟨rI,rI,rI,rI,rI,rI,tV⟩ ?_
  intro k1 hG1
  obtain⟨hk1,hI1⟩:(k1≤(ix s.sT (ix q i).s.toNat).aP.length)∧(∀j,j<k1→bS (bR x (ix q i).x.toNat) (ix (ix s.sT (ix q i).s.toNat).aP j)∈acc t (ix q i).t.toNat):=hG1
  refine sq (rg (bi J J aZ (nl (th (sq ?_)))))
  refine cd J (fun hc1=> ?_) (fun hc1=> ?_)
  ·try simp at hc1
   have hkb:=hss.ac k1 O
   refine sk (th (sq (bk (sq (rg (iF J J T.aT O gB (lF J J T.aH (ag (nl (th (sq (rg (fP J T.bO (lP J J J T.cM (fP J T.HP (lP J J J T.aH (iF J J T.dB O gB (lFA J T.eO (Nat.le_of_ble_eq_true J) (mv (mv (bi J J (Bv O O O O) (bI (φs:= [agg [sl 1 nE (ix t.sT (ix q i).t.toNat).aP,sl 1 nE (ix t.sT (ix q i).t.toNat).next],int (((cX (ix x.sT (ix q i).x.toNat)).toNat&&&(ix (ix s.sT (ix q i).s.toNat).aP k1).toNat:Nat):Int)]) (φ:=bl (decide ((((cX (ix x.sT (ix q i).x.toNat)).toNat&&&(ix (ix s.sT (ix q i).s.toNat).aP k1).toNat:Nat):Int)∈(ix t.sT (ix q i).t.toNat).aP))) ⟨J,J,tV⟩ (search.rC (ix t.sT (ix q i).t.toNat) hst.rise (((cX (ix x.sT (ix q i).x.toNat)).toNat&&&(ix (ix s.sT (ix q i).s.toNat).aP k1).toNat:Nat):Int)) T.EZ (no J (nl (th ?_)))))))))))))))))))))))))
   refine cd J (fun hc2=> ?_) (fun hc2=> ?_)
   ·skip
    have hbad:bS (bR x (ix q i).x.toNat) (ix (ix s.sT (ix q i).s.toNat).aP k1)∉acc t (ix q i).t.toNat:=by unfold bS;simpa using hc2
    refine sq (rg (nw 16 3 1 nE (ag (rtg (key:=16) 16 J (nl (th (sq (sq (rg (mv (ag (nl (th (bk ?_))))))))))))))
    have hI2_0:0≤(i:Int)∧(i:Int)<(q.length:Int)∧([]:List Int)++upF (q.map jJ) (i+1) (i:Int).toNat=upF (q.map jJ) (i+1) i∧(i:Int).toNat<(i+1)∧([]:List Int).length+(i:Int).toNat≤i:=by
     exact⟨O,O,by rw[Int.toNat_natCast];rfl,O,by simp⟩
    refine lp (κ:=Nat × Int × Value × (List Int)) (fun p=> [(3,ptr 3 b3 0),(4,ptr 4 b4 0),(5,ptr 5 b5 0),(9,mpv 21 b21),(10,osl 25 v),(11,int (i:Int)),(12,ptr 12 b12 0),(13,int (cX (ix x.sT (ix q i).x.toNat))),(15,int (ix (ix s.sT (ix q i).s.toNat).aP k1)),(16,osl 16 p.2.2.1),(17,int p.2.1),(50,sl 1 nE (ix s.sT (ix q i).s.toNat).aP),(51,int ((ix s.sT (ix q i).s.toNat).aP.length:Int)),(52,int (k1:Int))]) (fun p=> [(3,cell b3 [sl 1 rE_ x.aC,sl 1 gE x.sT]),(4,cell b4 [sl 1 rE_ t.aC,sl 2 sE t.sT]),(5,cell b5 [sl 1 rE_ s.aC,sl 2 sE s.sT]),(12,cell b12 [int (ix q i).x,int (ix q i).t,int (ix q i).s]),(16,own p.2.2.1 3 1 nE p.2.2.2),(21,mp b21 mX sQ blV mm),(25,own v 209 5 uL q)]) (fun p=>0≤p.2.1∧p.2.1<(q.length:Int)∧p.2.2.2++upF (q.map jJ) p.1 p.2.1.toNat=upF (q.map jJ) (i+1) i∧p.2.1.toNat<p.1∧p.2.2.2.length+p.2.1.toNat≤i) (fun p=>p.2.1.toNat) ⟨i+1,(i:Int),(.slice none 0 0),([]:List Int)⟩ hI2_0 ⟨id,id,id,id,id,id,id,id,id,id,id,id,id,id,tV⟩ ⟨rI,rI,rI,rI,rI,rI,rI,tV⟩ ?_
    intro⟨n,j,v16,out⟩ hG2
    obtain⟨hj0,hjl,hou,hjn,hol⟩:0≤j∧j<(q.length:Int)∧out++upF (q.map jJ) n j.toNat=upF (q.map jJ) (i+1) i∧j.toNat<n∧out.length+j.toNat≤i:=hG2
    show Ct _ _ _ _ [(3,ptr 3 b3 0),(4,ptr 4 b4 0),(5,ptr 5 b5 0),(9,mpv 21 b21),(10,osl 25 v),(11,int (i:Int)),(12,ptr 12 b12 0),(13,int (cX (ix x.sT (ix q i).x.toNat))),(15,int (ix (ix s.sT (ix q i).s.toNat).aP k1)),(16,osl 16 v16),(17,int j),(50,sl 1 nE (ix s.sT (ix q i).s.toNat).aP),(51,int ((ix s.sT (ix q i).s.toNat).aP.length:Int)),(52,int (k1:Int))] [(3,cell b3 [sl 1 rE_ x.aC,sl 1 gE x.sT]),(4,cell b4 [sl 1 rE_ t.aC,sl 2 sE t.sT]),(5,cell b5 [sl 1 rE_ s.aC,sl 2 sE s.sT]),(12,cell b12 [int (ix q i).x,int (ix q i).t,int (ix q i).s]),(16,own v16 3 1 nE out),(21,mp b21 mX sQ blV mm),(25,own v 209 5 uL q)] _
    have hjm:ix (q.map jJ) j.toNat=jJ (ix q j.toNat):=zR O
    have hbk:0≤(ix q j.toNat).before→(ix q j.toNat).before<((j.toNat:Nat):Int):=by
     have h:=Dt hq j.toNat (by simp;omega)
     rw[hjm] at h;exact h
    refine sq (sq (rg (mv (mv (iO J J J T.CU O O (fO J T.HQ (lO J J gB J T.aH (bi J J jG (nl (th ?_))))))))))
    refine cd J (fun hc3=> ?_) (fun hc3=> ?_)
    ·try simp at hc3
     refine sk (th (sq (bk (rg (mv (mv (mv (iO J J J T.CU O O (fO J T.QZ (lO J J gB J T.aH (bsE (enc:=nE) (xs:= [(ix q j.toNat).action]) (css:= [[int (ix q j.toNat).action]]) T.cQ ⟨J,J,p1 (φ:=int (ix q j.toNat).action) J,tV⟩ J J J J (ap (key:=16) (zs:= [(ix q j.toNat).action]) cB J J J T.cQ (by unfold aN at*;simp;omega) (by unfold aN at*;simp;omega) fun v86=>(ag (nl (eb (th (rg (mv (mv (iO J J J T.CU O O (fO J T.HQ (lO J J gB J T.aH (ag (nl ?_))))))))))))))))))))))))
     have hN0:0≤(ix q j.toNat).before∧(ix q j.toNat).before<(q.length:Int)∧(out++ [(ix q j.toNat).action])++upF (q.map jJ) (n- 1) (ix q j.toNat).before.toNat=upF (q.map jJ) (i+1) i∧(ix q j.toNat).before.toNat<(n- 1)∧(out++ [(ix q j.toNat).action]).length+(ix q j.toNat).before.toNat≤i:=by
      have hbk2:=hbk hc3
      have hup:=MB hou hjn (by rw[hjm];exact hc3)
      rw[hjm] at hup
      exact⟨hc3,O,hup,O,by simp;omega⟩
     exact ln (⟨n- 1,(ix q j.toNat).before,v86,out++ [(ix q j.toNat).action]⟩:Nat × Int × Value × (List Int)) hN0 (by have hbk2:=hbk hc3;show(ix q j.toNat).before.toNat<j.toNat;omega) ⟨id,id,id,id,id,id,id,id,id,id,id,id,id,id,tV⟩ ⟨rI,rI,rI,rI,rI,rI,rI,tV⟩
    ·try simp at hc3
     have hwd:=Jf hou hjn (by rw[hjm];show ¬0≤(ix q j.toNat).before;omega)
     refine ex (xt_ (xt_ (xb (th (sq (rg (mv (cal (Hi:= [(16,own v16 3 1 nE out)]) (φs:= [osl 5 v16]) ⟨dV.trans dV.symm,tV⟩ (nM 5 16 (judg.Ck v16 out O)) T.Ni ⟨rI,tV⟩ fun _ _=>(nl (th (sq (rg (mv (mv (ag (ag (ag (nl (th (rt (rb (rt_ (rt_ (rb (rt_ (rb (rt_ (rt_ (rb (rt_ ?_))))))))))))))))))))))))))))))
     refine fzA 16 6 rfl rfl ?_
     exact rE ⟨(out.reverse,ix (ix s.sT (ix q i).s.toNat).aP k1,true),⟨fun h=>(nomatch (show true=false from h)),fun _=>⟨q,i,hq,hc0,by rw[hwd];rfl,aO hc1,hbad⟩⟩⟩ [.tmp 6,.tmp 7,.tmp 8] J [sl 1 nE out.reverse,int (ix (ix s.sT (ix q i).s.toNat).aP k1),bl true] ⟨.tmp J,.tmp J,.tmp J,tV⟩ J trivial eX
   ·skip
    have hgood:bS (bR x (ix q i).x.toNat) (ix (ix s.sT (ix q i).s.toNat).aP k1)∈acc t (ix q i).t.toNat:=by unfold bS;simpa using hc2
    refine sk (eb (th (rg (bi J J (aM i6) (mv (nl ?_))))))
    have hN0:(k1+1)≤(ix s.sT (ix q i).s.toNat).aP.length:=by
     first|omega|simp_all
    have hN1:∀j,j<(k1+1)→bS (bR x (ix q i).x.toNat) (ix (ix s.sT (ix q i).s.toNat).aP j)∈acc t (ix q i).t.toNat:=by
     intro j hj
     by_cases g:j=k1
     ·subst g;exact hgood
     ·exact hI1 j O
    exact ln (k1+1) ⟨hN0,hN1⟩ dO ⟨id,id,id,id,id,id,id,id,id,id,id,tV⟩ ⟨rI,rI,rI,rI,rI,rI,tV⟩
  ·try simp at hc1
   have hnb:¬wR x t s (tri (ix q i)):=by
    rintro⟨o,ho,hn⟩
    obtain⟨j,hj,rfl⟩:=List.getElem_of_mem ho
    have h9:j<(ix s.sT (ix q i).s.toNat).aP.length:=hj
    have h8:=hI1 j O
    rw[aG h9] at h8
    exact hn h8
   refine ex (xt_ (xt_ (xb (th (sq (rg (fP J T.bY (lP J J J T.dA (fP J T.HO (lP J J J T.aH (iF J J T.gY O gB (lF J J T.fK (fc (bL 97 J) fun hm97=>(lnF J T.dU (mv (nl (th (bk ?_))))))))))))))))))
   have hI3_0:0≤(ix x.sT (ix q i).x.toNat).length:=by
    first|omega|simp
   have hI3_1:sM x t s q i 0 q mm:=by
    exact MY hq hsm hdone
   refine lp (κ:=Nat × Value × (List M5) × (List ((Int × Int × Int) × Bool))) (fun p=> [(3,ptr 3 b3 0),(4,ptr 4 b4 0),(5,ptr 5 b5 0),(9,mpv 21 b21),(10,osl 25 p.2.1),(11,int (i:Int)),(12,ptr 12 b12 0),(97,sl 2 pE (ix x.sT (ix q i).x.toNat)),(98,int ((ix x.sT (ix q i).x.toNat).length:Int)),(99,int (p.1:Int))]) (fun p=> [(3,cell b3 [sl 1 rE_ x.aC,sl 1 gE x.sT]),(4,cell b4 [sl 1 rE_ t.aC,sl 2 sE t.sT]),(5,cell b5 [sl 1 rE_ s.aC,sl 2 sE s.sT]),(12,cell b12 [int (ix q i).x,int (ix q i).t,int (ix q i).s]),(21,mp b21 mX sQ blV p.2.2.2),(25,own p.2.1 209 5 uL p.2.2.1)]) (fun p=>(p.1≤(ix x.sT (ix q i).x.toNat).length)∧(sM x t s q i p.1 p.2.2.1 p.2.2.2)) (fun p=>(ix x.sT (ix q i).x.toNat).length- p.1) ⟨0,v,q,mm⟩ ⟨hI3_0,hI3_1⟩ ⟨id,id,id,id,id,id,id,id,id,id,tV⟩ ⟨rI,rI,rI,rI,rI,rI,tV⟩ ?_
   intro⟨k3,v2,q2,mm2⟩ hG3
   obtain⟨hk3,hI3⟩:(k3≤(ix x.sT (ix q i).x.toNat).length)∧(sM x t s q i k3 q2 mm2):=hG3
   show Ct _ _ _ _ [(3,ptr 3 b3 0),(4,ptr 4 b4 0),(5,ptr 5 b5 0),(9,mpv 21 b21),(10,osl 25 v2),(11,int (i:Int)),(12,ptr 12 b12 0),(97,sl 2 pE (ix x.sT (ix q i).x.toNat)),(98,int ((ix x.sT (ix q i).x.toNat).length:Int)),(99,int (k3:Int))] [(3,cell b3 [sl 1 rE_ x.aC,sl 1 gE x.sT]),(4,cell b4 [sl 1 rE_ t.aC,sl 2 sE t.sT]),(5,cell b5 [sl 1 rE_ s.aC,sl 2 sE s.sT]),(12,cell b12 [int (ix q i).x,int (ix q i).t,int (ix q i).s]),(21,mp b21 mX sQ blV mm2),(25,own v2 209 5 uL q2)] _
   have hq2l:=Gw hx ht hs hu hxa hI3.qi
   refine sq (rg (bi J J aZ (nl (th (sq ?_)))))
   refine cd J (fun hc4=> ?_) (fun hc4=> ?_)
   ·try simp at hc4
    have hed:0≤(ix (ix x.sT (ix q i).x.toNat) k3).1∧(ix (ix x.sT (ix q i).x.toNat) k3).1<(x.aC.length:Int)∧0≤(ix (ix x.sT (ix q i).x.toNat) k3).2∧(ix (ix x.sT (ix q i).x.toNat) k3).2<(x.sT.length:Int):=hx.ed (ix q i).x.toNat O _ (aO hc4)
    have htn:=hst.nx (ix (ix x.sT (ix q i).x.toNat) k3).1.toNat O
    have hsn:=hss.nx (ix (ix x.sT (ix q i).x.toNat) k3).1.toNat O
    refine sk (th (sq (bk (sq (rg (iF J J T.dU O gB (lFA J T.dP (Nat.le_of_ble_eq_true J) (al (key:=19) T.z94 (eC (eC eZ)) fun b19=>(sPA (cs':= [int ((ix (ix x.sT (ix q i).x.toNat) k3).1),int ((ix (ix x.sT (ix q i).x.toNat) k3).2)]) J J J T.dP J J (nl (th (sq ?_))))))))))))
    refine drH (nh:=27) [0,1,0,4,0,16,60,124,252,0,512,2044,4092,0,8192,0,32768,122880,253952,516096,0,1048576,4186112,8380416,16777215,0,67108863] [(none,[]),(none,[19]),(none,[]),(none,[4]),(none,[]),(none,[12]),(none,[]),(none,[]),(none,[]),(none,[]),(none,[19]),(none,[]),(none,[]),(none,[]),(none,[5]),(none,[]),(none,[12]),(none,[]),(none,[]),(none,[]),(none,[]),(none,[19]),(none,[]),(none,[]),(none,[]),(some 20,[]),(some 20,[20])] T.mixed kR kR ?_
    refine stv (d:=103) (fun β0=>ptr 19 b19 1) [] J bH (fun β0 _ _ _ _ gq gh kq=>fP (gq.1.trans J) T.eY kq) ?_
    refine stv (d:=104) (fun β0=>int ((ix (ix x.sT (ix q i).x.toNat) k3).2)) [19] J bH (fun β0 _ _ _ _ gq gh kq=>lP (gq.1.trans J) (gh.1.trans J) J T.aH kq) ?_
    refine stv (d:=105) (fun β0=>ptr 4 b4 1) [] J bH (fun β0 _ _ _ _ gq gh kq=>fP (gq.1.trans J) T.bO kq) ?_
    refine stv (d:=106) (fun β0=>sl 2 sE t.sT) [4] J bH (fun β0 _ _ _ _ gq gh kq=>lP (gq.1.trans J) (gh.1.trans J) J T.cM kq) ?_
    refine stv (d:=107) (fun β0=>ptr 12 b12 1) [] J bH (fun β0 _ _ _ _ gq gh kq=>fP (gq.1.trans J) T.HP kq) ?_
    refine stv (d:=108) (fun β0=>int (ix q i).t) [12] J bH (fun β0 _ _ _ _ gq gh kq=>lP (gq.1.trans J) (gh.1.trans J) J T.aH kq) ?_
    refine stv (d:=109) (fun β0=>fp [sl 1 nE (ix t.sT (ix q i).t.toNat).aP,sl 1 nE (ix t.sT (ix q i).t.toNat).next]) [] J bH (fun β0 _ _ _ _ gq gh kq=>iF (gq.1.trans J) (gq.2.1.trans J) T.dB O gB kq) ?_
    refine stv (d:=110) (fun β0=>fp [sl 1 nE (ix t.sT (ix q i).t.toNat).next]) [] J bH (fun β0 _ _ _ _ gq gh kq=>fF (gq.1.trans J) T.eM kq) ?_
    refine stv (d:=111) (fun β0=>sl 1 nE (ix t.sT (ix q i).t.toNat).next) [] J bH (fun β0 _ _ _ _ gq gh kq=>lF (gq.1.trans J) J T.bF kq) ?_
    refine stv (d:=112) (fun β0=>ptr 19 b19 0) [] J bH (fun β0 _ _ _ _ gq gh kq=>fP (gq.1.trans J) T.eE kq) ?_
    refine stv (d:=113) (fun β0=>int ((ix (ix x.sT (ix q i).x.toNat) k3).1)) [19] J bH (fun β0 _ _ _ _ gq gh kq=>lP (gq.1.trans J) (gh.1.trans J) J T.aH kq) ?_
    refine stv (d:=114) (fun β0=>fp [int (ix (ix t.sT (ix q i).t.toNat).next ((ix (ix x.sT (ix q i).x.toNat) k3).1).toNat)]) [] J bH (fun β0 _ _ _ _ gq gh kq=>iF (gq.1.trans J) (gq.2.1.trans J) T.aT O gB kq) ?_
    refine stv (d:=115) (fun β0=>int (ix (ix t.sT (ix q i).t.toNat).next ((ix (ix x.sT (ix q i).x.toNat) k3).1).toNat)) [] J bH (fun β0 _ _ _ _ gq gh kq=>lF (gq.1.trans J) J T.aH kq) ?_
    refine stv (d:=116) (fun β0=>ptr 5 b5 1) [] J bH (fun β0 _ _ _ _ gq gh kq=>fP (gq.1.trans J) T.bO kq) ?_
    refine stv (d:=117) (fun β0=>sl 2 sE s.sT) [5] J bH (fun β0 _ _ _ _ gq gh kq=>lP (gq.1.trans J) (gh.1.trans J) J T.cM kq) ?_
    refine stv (d:=118) (fun β0=>ptr 12 b12 2) [] J bH (fun β0 _ _ _ _ gq gh kq=>fP (gq.1.trans J) T.Bj kq) ?_
    refine stv (d:=119) (fun β0=>int (ix q i).s) [12] J bH (fun β0 _ _ _ _ gq gh kq=>lP (gq.1.trans J) (gh.1.trans J) J T.aH kq) ?_
    refine stv (d:=120) (fun β0=>fp [sl 1 nE (ix s.sT (ix q i).s.toNat).aP,sl 1 nE (ix s.sT (ix q i).s.toNat).next]) [] J bH (fun β0 _ _ _ _ gq gh kq=>iF (gq.1.trans J) (gq.2.1.trans J) T.dB O gB kq) ?_
    refine stv (d:=121) (fun β0=>fp [sl 1 nE (ix s.sT (ix q i).s.toNat).next]) [] J bH (fun β0 _ _ _ _ gq gh kq=>fF (gq.1.trans J) T.eM kq) ?_
    refine stv (d:=122) (fun β0=>sl 1 nE (ix s.sT (ix q i).s.toNat).next) [] J bH (fun β0 _ _ _ _ gq gh kq=>lF (gq.1.trans J) J T.bF kq) ?_
    refine stv (d:=123) (fun β0=>ptr 19 b19 0) [] J bH (fun β0 _ _ _ _ gq gh kq=>fP (gq.1.trans J) T.eE kq) ?_
    refine stv (d:=124) (fun β0=>int ((ix (ix x.sT (ix q i).x.toNat) k3).1)) [19] J bH (fun β0 _ _ _ _ gq gh kq=>lP (gq.1.trans J) (gh.1.trans J) J T.aH kq) ?_
    refine stv (d:=125) (fun β0=>fp [int (ix (ix s.sT (ix q i).s.toNat).next ((ix (ix x.sT (ix q i).x.toNat) k3).1).toNat)]) [] J bH (fun β0 _ _ _ _ gq gh kq=>iF (gq.1.trans J) (gq.2.1.trans J) T.aT O gB kq) ?_
    refine stv (d:=126) (fun β0=>int (ix (ix s.sT (ix q i).s.toNat).next ((ix (ix x.sT (ix q i).x.toNat) k3).1).toNat)) [] J bH (fun β0 _ _ _ _ gq gh kq=>lF (gq.1.trans J) J T.aH kq) ?_
    refine stv (d:=127) (fun β0=>agg [int ((ix (ix x.sT (ix q i).x.toNat) k3).2),int (ix (ix t.sT (ix q i).t.toNat).next ((ix (ix x.sT (ix q i).x.toNat) k3).1).toNat),int (ix (ix s.sT (ix q i).s.toNat).next ((ix (ix x.sT (ix q i).x.toNat) k3).1).toNat)]) [] J bH (fun β0 _ _ _ _ gq gh kq=>bd (css:= [(0,_),(1,_),(2,_)]) T.RX (eC (eC (eC eZ))) ⟨J,J,p1 (φ:=int ((ix (ix x.sT (ix q i).x.toNat) k3).2)) (by exact(gq.1.trans J)),⟨J,J,p1 (φ:=int (ix (ix t.sT (ix q i).t.toNat).next ((ix (ix x.sT (ix q i).x.toNat) k3).1).toNat)) (by exact(gq.2.1.trans J)),⟨J,J,p1 (φ:=int (ix (ix s.sT (ix q i).s.toNat).next ((ix (ix x.sT (ix q i).x.toNat) k3).1).toNat)) (by exact(gq.2.2.1.trans J)),tV⟩⟩⟩ kq) ?_
    refine sta 20 T.WV (eC (eC (eC eZ))) ?_
    refine stw 20 (fun β0=>cell (gbk (β0 25)) [int ((ix (ix x.sT (ix q i).x.toNat) k3).2),int (ix (ix t.sT (ix q i).t.toNat).next ((ix (ix x.sT (ix q i).x.toNat) k3).1).toNat),int (ix (ix s.sT (ix q i).s.toNat).next ((ix (ix x.sT (ix q i).x.toNat) k3).1).toNat)]) [20] J (fun β β' hb=>by first|rw[hb 25 J]|(dsimp only;rw[hb 25 J])) (fun β0 _ _ _ _ gq gh kq=>sPA (cs':= [int ((ix (ix x.sT (ix q i).x.toNat) k3).2),int (ix (ix t.sT (ix q i).t.toNat).next ((ix (ix x.sT (ix q i).x.toNat) k3).1).toNat),int (ix (ix s.sT (ix q i).s.toNat).next ((ix (ix x.sT (ix q i).x.toNat) k3).1).toNat)]) (gq.1.trans J) (gh.1.trans J) (gq.2.1.trans J) T.vP J J kq) ?_
    refine pnH fun β0=>(nl (th (sq (rg (fP J T.Bj (lP J J J T.aH (bi J J jG (mv ?_))))))))
    apply fT (t:=131) (pd:=136) rfl
    rotate_left
    ·intro hg0 fin
     have hg0':=hg0
     try simp at hg0'
     exact gy J J J hg0 (mv (gy J J J hg0 (lPA J J T.vP J (gy J J J hg0 (lookup (z:=false) (q:=((ix (ix x.sT (ix q i).x.toNat) k3).2,ix (ix t.sT (ix q i).t.toNat).next ((ix (ix x.sT (ix q i).x.toNat) k3).1).toNat,ix (ix s.sT (ix q i).s.toNat).next ((ix (ix x.sT (ix q i).x.toNat) k3).1).toNat)) J J Du T.HM (DU ⟨O,O⟩ ⟨O,O⟩ ⟨O,O⟩) T.Qe (gy J J J hg0 (no J (pkT J hg0 J (drp (X:= [(135,_),(134,_),(133,_),(132,_)]) ⟨J,J,J,J,tV⟩ fin)))))))))
    ·intro hg0 fin
     exact gn J J J hg0 J J (gn J J J hg0 J J (gn J J J hg0 J J (gn J J J hg0 J J (pkF J hg0 J (drp (X:= [(135,_),(134,_),(133,_),(132,_)]) ⟨J,J,J,J,tV⟩ fin)))))
    refine nl (th ?_)
    refine cd J (fun hc5=> ?_) (fun hc5=> ?_)
    ·try simp at hc5
     refine sq (rg (mv (lPA J J T.vP J (mapUpdate (q:=((ix (ix x.sT (ix q i).x.toNat) k3).2,ix (ix t.sT (ix q i).t.toNat).next ((ix (ix x.sT (ix q i).x.toNat) k3).1).toNat,ix (ix s.sT (ix q i).s.toNat).next ((ix (ix x.sT (ix q i).x.toNat) k3).1).toNat)) (u:=true) J J Du J T.HM (DU ⟨O,O⟩ ⟨O,O⟩ ⟨O,O⟩) (nl (th (rg (mv (lPA J J T.vP J (mv (fP J T.eE (lP J J J T.aH (bd (css:= [(0,_),(3,_),(4,_)]) T.RY (eC (eC (eC (eC (eC eZ))))) ⟨J,J,pA (cs:= [int ((ix (ix x.sT (ix q i).x.toNat) k3).2),int (ix (ix t.sT (ix q i).t.toNat).next ((ix (ix x.sT (ix q i).x.toNat) k3).1).toNat),int (ix (ix s.sT (ix q i).s.toNat).next ((ix (ix x.sT (ix q i).x.toNat) k3).1).toNat)]) J,⟨J,J,p1 (φ:=int (i:Int)) J,⟨J,J,p1 (φ:=int ((ix (ix x.sT (ix q i).x.toNat) k3).1)) J,tV⟩⟩⟩ (bsE (enc:=uL) (xs:= [⟨((ix (ix x.sT (ix q i).x.toNat) k3).2),(ix (ix t.sT (ix q i).t.toNat).next ((ix (ix x.sT (ix q i).x.toNat) k3).1).toNat),(ix (ix s.sT (ix q i).s.toNat).next ((ix (ix x.sT (ix q i).x.toNat) k3).1).toNat),(i:Int),((ix (ix x.sT (ix q i).x.toNat) k3).1)⟩]) (css:= [[int ((ix (ix x.sT (ix q i).x.toNat) k3).2),int (ix (ix t.sT (ix q i).t.toNat).next ((ix (ix x.sT (ix q i).x.toNat) k3).1).toNat),int (ix (ix s.sT (ix q i).s.toNat).next ((ix (ix x.sT (ix q i).x.toNat) k3).1).toNat),int (i:Int),int ((ix (ix x.sT (ix q i).x.toNat) k3).1)]]) T.Lj ⟨J,J,pA (cs:= [int ((ix (ix x.sT (ix q i).x.toNat) k3).2),int (ix (ix t.sT (ix q i).t.toNat).next ((ix (ix x.sT (ix q i).x.toNat) k3).1).toNat),int (ix (ix s.sT (ix q i).s.toNat).next ((ix (ix x.sT (ix q i).x.toNat) k3).1).toNat),int (i:Int),int ((ix (ix x.sT (ix q i).x.toNat) k3).1)]) J,tV⟩ J J J J (ap (key:=25) (zs:= [⟨((ix (ix x.sT (ix q i).x.toNat) k3).2),(ix (ix t.sT (ix q i).t.toNat).next ((ix (ix x.sT (ix q i).x.toNat) k3).1).toNat),(ix (ix s.sT (ix q i).s.toNat).next ((ix (ix x.sT (ix q i).x.toNat) k3).1).toNat),(i:Int),((ix (ix x.sT (ix q i).x.toNat) k3).1)⟩]) cB J J J T.Lj (by unfold aN at*;simp;omega) (by unfold aN at*;simp;omega) fun v146=>(ag (nl (eb (th (rg (bi J J (aM i6) (mv (nl ?_)))))))))))))))))))))))
     have hN0:(k3+1)≤(ix x.sT (ix q i).x.toNat).length:=by
      first|omega|simp_all
     have hN1:sM x t s q i (k3+1) (q2++ [⟨((ix (ix x.sT (ix q i).x.toNat) k3).2),(ix (ix t.sT (ix q i).t.toNat).next ((ix (ix x.sT (ix q i).x.toNat) k3).1).toNat),(ix (ix s.sT (ix q i).s.toNat).next ((ix (ix x.sT (ix q i).x.toNat) k3).1).toNat),(i:Int),((ix (ix x.sT (ix q i).x.toNat) k3).1)⟩]) (bQ mm2 ((ix (ix x.sT (ix q i).x.toNat) k3).2,ix (ix t.sT (ix q i).t.toNat).next ((ix (ix x.sT (ix q i).x.toNat) k3).1).toNat,ix (ix s.sT (ix q i).s.toNat).next ((ix (ix x.sT (ix q i).x.toNat) k3).1).toNat) true):=by
      exact MZ hI3 hc0 hnb hc4 rfl hc5.1 hc5.2
     exact ln (⟨k3+1,v146,q2++ [⟨((ix (ix x.sT (ix q i).x.toNat) k3).2),(ix (ix t.sT (ix q i).t.toNat).next ((ix (ix x.sT (ix q i).x.toNat) k3).1).toNat),(ix (ix s.sT (ix q i).s.toNat).next ((ix (ix x.sT (ix q i).x.toNat) k3).1).toNat),(i:Int),((ix (ix x.sT (ix q i).x.toNat) k3).1)⟩],bQ mm2 ((ix (ix x.sT (ix q i).x.toNat) k3).2,ix (ix t.sT (ix q i).t.toNat).next ((ix (ix x.sT (ix q i).x.toNat) k3).1).toNat,ix (ix s.sT (ix q i).s.toNat).next ((ix (ix x.sT (ix q i).x.toNat) k3).1).toNat) true⟩:Nat × Value × (List M5) × (List ((Int × Int × Int) × Bool))) ⟨hN0,hN1⟩ dO ⟨id,id,id,id,id,id,id,id,id,id,tV⟩ ⟨rI,rI,rI,rI,rI,rI,tV⟩
    ·try simp at hc5
     have h5:ix (nxt s (ix q i).s.toNat) (ix (ix x.sT (ix q i).x.toNat) k3).1.toNat<0∨(bJ mm2 (nx3 t s (tri (ix q i)) (ix (ix x.sT (ix q i).x.toNat) k3))).getD false=true:=by
      by_cases g:0≤ix (nxt s (ix q i).s.toNat) (ix (ix x.sT (ix q i).x.toNat) k3).1.toNat
      ·exact .inr (hc5 g)
      ·exact .inl O
     refine sk (eb (th (rg (bi J J (aM i6) (mv (nl ?_))))))
     have hN0:(k3+1)≤(ix x.sT (ix q i).x.toNat).length:=by
      first|omega|simp_all
     have hN1:sM x t s q i (k3+1) q2 mm2:=by
      exact Na hI3 hc4 rfl h5
     exact ln (⟨k3+1,v2,q2,mm2⟩:Nat × Value × (List M5) × (List ((Int × Int × Int) × Bool))) ⟨hN0,hN1⟩ dO ⟨id,id,id,id,id,id,id,id,id,id,tV⟩ ⟨rI,rI,rI,rI,rI,rI,tV⟩
   ·try simp at hc4
    refine ex (xt_ (xt_ (xb (eb (th (rg (mv (bi J J (aM i6) (ag (nl ?_))))))))))
    have hN0:QF x t s q2∧lT mm2 (q2.map tri)∧(i+1)≤q2.length∧∀j,j<(i+1)→mO x t s q2 j:=by
     exact PS hI3 hc0 hnb (by show(ix x.sT (ix q i).x.toNat).length≤k3;omega)
    exact ln (⟨i+1,v2,q2,mm2⟩:Nat × Value × (List M5) × (List ((Int × Int × Int) × Bool))) hN0 dO ⟨id,id,id,id,id,id,tV⟩ ⟨rI,rI,rI,rI,rI,tV⟩
 ·try simp at hc0
  refine ex (xt_ (xt_ (xb (th (sq (rg (ag (ag (ag (nl (th (rt ?_))))))))))))
  refine knA 6 (sl 1 nE []) rfl slnil ?_
  exact rE ⟨([],0,false),⟨fun _=>⟨J,J,Nb hq (fun k hk=>hdone k O)⟩,fun h=>(nomatch (show false=true from h))⟩⟩ [.tmp 6,.tmp 7,.tmp 8] J [sl 1 nE [],int 0,bl false] ⟨.tmp J,.tmp J,.tmp J,tV⟩ J trivial eX
theorem Ra (x:aA) (t s:SS) (hx:bC x) (ht:oK t) (hs:oK s) (hts:t.aC=s.aC) (hxt:x.aC=t.aC) (hz:x.sT.length*(t.sT.length*s.sT.length)≤1000000000):
 AL.Fn Tryz.prog 87 [sys x,spec t,spec s] [] (ι:= { v:Bool × aA//zS x t s v }) (fun _ i=>agg [bl i.1.1,strs i.1.2.aC,sl 1 gE i.1.2.sT]) (fun _=> []):=by
 refine fnI Tryz.func87 rfl rfl (fun w0 F0=> ?_)
 have hop:=kT s
 refine fcC (bW 0 J) (fun hS0=> ?_)
 obtain⟨hma0,hms0,hme0⟩:=cJ hS0
 refine fcC (bW 1 J) (fun hS1=> ?_)
 obtain⟨hsa1,hss1,hse1⟩:=sLn hS1
 refine fcC (bW 2 J) (fun hS2=> ?_)
 obtain⟨hsa2,hss2,hse2⟩:=sLn hS2
 refine sq (rg (bx (key:=3) (cs:= [sl 1 rE_ x.aC,sl 1 gE x.sT]) J fun b3=>(bx (key:=4) (cs:= [sl 1 rE_ t.aC,sl 2 sE t.sT]) J fun b4=>(bx (key:=5) (cs:= [sl 1 rE_ s.aC,sl 2 sE s.sT]) J fun b5=>(al (key:=6) T.z72 (eC (eC (eC eZ))) fun b6=>(nl (th (sq (rg (lPA J J T.bA J (eI (φs:= [agg [sl 1 rE_ s.aC,sl 2 sE s.sT]]) (φ:=tup [agg [sl 1 rE_ ((tR s).1.aC),sl 2 sE ((tR s).1.sT)],sl 1 nE ((tR s).2)]) ⟨J,tV⟩ (prog9.wB s aS) T.KZ (fun N hN=>fun h=>pZ (cs:= [agg [fre N (sl 1 rE_ ((tR s).1.aC)),frb (ix (hOl s) 0) N (sl 2 sE ((tR s).1.sT))],sl 1 nE ((tR s).2)]) (ds:= [agg [sl 1 rE_ ((tR s).1.aC),sl 2 sE ((tR s).1.sT)],sl 1 nE ((tR s).2)]) ⟨fun h=>cV (cs:= [fre N (sl 1 rE_ ((tR s).1.aC)),frb (ix (hOl s) 0) N (sl 2 sE ((tR s).1.sT))]) (ds:= [sl 1 rE_ ((tR s).1.aC),sl 2 sE ((tR s).1.sT)]) ⟨fun h=>bV h,fun h=>BK h,tV⟩ h,fun h=>h,tV⟩ h) (mv (xt J J (xt J J (sPA (cs':= [sl 1 rE_ ((tR s).1.aC),sl 2 sE ((tR s).1.sT)]) J J J T.bA J J (ag (nl (th (sq (sq (rg (mv (fc (bL 18 J) fun hm18=>(lnF J T.aT (bi J J gF (nl (th ?_)))))))))))))))))))))))))))
 refine cd J (fun hc0=> ?_) (fun hc0=> ?_)
 ·try simp at hc0
  have hh0:ix (hOl s) 0=true:=by
   cases h:ix (hOl s) 0 with
   |true=>rfl
   |false=>
    exfalso
    rw[dC h] at hc0
    have h3:=hop
    rw[show aJ s= [] from hc0] at h3
    simp at h3
  refine sq (rg (bd (css:= [(0,_)]) T.Ll (eC (eC (eC eZ))) ⟨J,J,p1 (φ:=bl true) J,tV⟩ (sPA (cs':= [bl true,eqv (.slice none 0 0),eqv (.slice none 0 0)]) J J J T.oN J J (nl (th (rt (rt_ ?_)))))))
  refine eB 6 1 (sl 1 rE_ []) rfl rfl slnil ?_
  refine eB 6 2 (sl 1 gE []) rfl rfl slnil ?_
  exact rE ⟨(true,⟨[],[]⟩),⟨fun _=>⟨J,.inl hh0⟩,fun h=>(nomatch (show true=false from h))⟩⟩ [.cell 6 72] J [agg [bl true,sl 1 rE_ [],sl 1 gE []]] ⟨.agg J J T.oN J J,tV⟩ J trivial eX
 ·try simp at hc0
  have h00:ix (hOl s) 0=false:=by
   cases h:ix (hOl s) 0 with
   |false=>rfl
   |true=>exact absurd (by rw[fB h]) hc0
  have hts2:(tR s).1=tS s:=by rw[dC h00]
  have hto:=nN hs
  have htu:=MP hs
  have hta:=qI s
  have hxa:x.aC.length=(tR s).1.aC.length:=by rw[hta,hxt,hts]
  have hya:t.aC.length=(tR s).1.aC.length:=by rw[hta,hts]
  have htl:=TrimI.AK hs
  have hz2:x.sT.length*(t.sT.length*(tR s).1.sT.length)≤1000000000:=Nat.le_trans (Nat.mul_le_mul_left _ (Nat.mul_le_mul_left _ htl)) hz
  refine sk (th (sq (rg (lPA J J T.aU J (lPA J J T.bA J (lPA J J T.bA J (cl (divj.Lm x t ((tR s).1) aS aS aS aS aS aS aS) T.WW trivial fun N26 i26=>(mv (xt J J (xt J J (xt J J (ag (ag (ag (nl (th (sq (sq (rg (mv (no J (nl (th ?_)))))))))))))))))))))))
  refine cd J (fun hc1=> ?_) (fun hc1=> ?_)
  ·try simp at hc1
   have hno:i26.1.2.2=false:=by simpa using hc1
   refine sq (rg (bd (css:= [(0,_)]) T.Ll (eC (eC (eC eZ))) ⟨J,J,p1 (φ:=bl true) J,tV⟩ (sPA (cs':= [bl true,eqv (.slice none 0 0),eqv (.slice none 0 0)]) J J J T.oN J J (nl (th (rt (rt_ ?_)))))))
   refine eB 6 1 (sl 1 rE_ []) rfl rfl slnil ?_
   refine eB 6 2 (sl 1 gE []) rfl rfl slnil ?_
   exact rE ⟨(true,⟨[],[]⟩),⟨fun _=>⟨J,.inr (i26.2.none hno).2.2⟩,fun h=>(nomatch (show true=false from h))⟩⟩ [.cell 6 72] J [agg [bl true,sl 1 rE_ [],sl 1 gE []]] ⟨.agg J J T.oN J J,tV⟩ J trivial eX
  ·try simp at hc1
   have hyes:i26.1.2.2=true:=by simpa using hc1
   obtain⟨q,i,hqf,hi,hw,hacc,hbad⟩:=i26.2.some hyes
   have hruns:=Tr hx ht hto htu hxa hqf i hi
   have halive:=hruns.1.alive hto
   have hgo:=hruns.1.go hto
   have hql:=Gw hx ht hto htu hxa hqf
   have hwl:=KC (Dt hqf) i (by simpa using hi)
   have hal2:zG (tR s).1 i26.1.1:=by rw[hw];exact halive
   have hwl2:i26.1.1.length≤1000000000:=by rw[hw];show(fX (q.map jJ) i).length≤_;omega
   have hwants:wK (tR s).1 (kM (tR s).1 i26.1.1 i26.1.2.1):=by
    rw[hw]
    exact⟨MA hto halive (by rw[hgo,Int.toNat_natCast];exact hacc),fun y hy=>by rw[hts2] at hy ⊢;exact RB hs h00 hy,by rw[Mz];show(fX (q.map jJ) i).length+1≤_;omega⟩
   refine sk (th (sq (rg (lPA J J T.bA J (mv (mv (bI (φs:= [agg [sl 1 rE_ ((tR s).1.aC),sl 2 sE ((tR s).1.sT)],sl 1 nE i26.1.1,int i26.1.2.1]) (φ:=tup [sl 2 pE (kM ((tR s).1) i26.1.1 i26.1.2.1),bl (decide (i26.1.2.1∈acc ((tR s).1) (goS ((tR s).1) i26.1.1).toNat))]) ⟨J,J,J,tV⟩ (judg.SK ((tR s).1) aS i26.1.1 aS i26.1.2.1 O) T.WX (mv (xt J J (xt J J (ag (ag (nl (th (sq (rg (lPA J J T.bA J (mv (cl (wit.KE ((tR s).1) aS (kM ((tR s).1) i26.1.1 i26.1.2.1) aS) T.WY trivial fun N42 i42=>(bd (css:= [(1,_)]) T.Ll (eC (eC (eC eZ))) ⟨J,J,pA (cs:= [fre N42 (sl 1 rE_ i42.1.aC),fre N42 (sl 1 gE i42.1.sT)]) J,tV⟩ (sPA (cs':= [bl false,fre N42 (sl 1 rE_ i42.1.aC),fre N42 (sl 1 gE i42.1.sT)]) J J J T.oN J J (nl (th (rt ?_))))))))))))))))))))))))
   refine eB 6 1 (sl 1 rE_ i42.1.aC) rfl rfl bV ?_
   refine eB 6 2 (sl 1 gE i42.1.sT) rfl rfl bV ?_
   exact rE ⟨(false,i42.1),⟨fun h=>(nomatch (show false=true from h)),fun _=>⟨h00,q,i,i26.1.2.1,by rw[←hts2];exact hqf,hi,by rw[←hts2];exact hacc,hbad,by rw[←hts2,←hw];exact i42.2⟩⟩⟩ [.cell 6 72] J [agg [bl false,sl 1 rE_ i42.1.aC,sl 1 gE i42.1.sT]] ⟨.agg J J T.oN J J,tV⟩ J trivial eX
theorem UB (x:aA) (t s:SS) (htm:dH t) (hsm:dH s) (hz:x.sT.length*(t.sT.length*s.sT.length)≤1000000000):
 AL.Fn Tryz.prog 44 [sys x,spec t,spec s] [] (ι:= { v:Bool × aA//(eF x t s≠0→v=(false,⟨[],[]⟩))∧(eF x t s=0→zS x t s v) }) (fun _ i=>tup [agg [bl i.1.1,strs i.1.2.aC,sl 1 gE i.1.2.sT],int (eF x t s)]) (fun _=> []):=by
 refine fnI Tryz.func44 rfl rfl (fun w0 F0=> ?_)
 refine fcC (bW 0 J) (fun hS0=> ?_)
 obtain⟨hma0,hms0,hme0⟩:=cJ hS0
 refine fcC (bW 1 J) (fun hS1=> ?_)
 obtain⟨hsa1,hss1,hse1⟩:=sLn hS1
 refine fcC (bW 2 J) (fun hS2=> ?_)
 obtain⟨hsa2,hss2,hse2⟩:=sLn hS2
 refine sq (rg (bx (key:=3) (cs:= [sl 1 rE_ x.aC,sl 1 gE x.sT]) J fun b3=>(bx (key:=4) (cs:= [sl 1 rE_ t.aC,sl 2 sE t.sT]) J fun b4=>(bx (key:=5) (cs:= [sl 1 rE_ s.aC,sl 2 sE s.sT]) J fun b5=>(al (key:=6) T.z72 (eC (eC (eC eZ))) fun b6=>(ag (nl (th (sq (sq (rg (lPA J J T.aU J (lPA J J T.bA J (lPA J J T.bA J (bI (φs:= [agg [sl 1 rE_ x.aC,sl 1 gE x.sT],agg [sl 1 rE_ t.aC,sl 2 sE t.sT],agg [sl 1 rE_ s.aC,sl 2 sE s.sT]]) (φ:=int (eF x t s)) ⟨J,J,J,tV⟩ (divv.Dp x t s aS aS) T.XL (ag (nl (th (sq (rg (mv (bi J J fV (nl (th ?_))))))))))))))))))))))))
 refine cd J (fun hc0=> ?_) (fun hc0=> ?_)
 ·try simp at hc0
  refine sq (rg (bd (css:= []) T.Ll (eC (eC (eC eZ))) trivial (mv (sPA (cs':= [bl false,eqv (.slice none 0 0),eqv (.slice none 0 0)]) J J J T.oN J J (ag (nl (th (rt (rt_ ?_)))))))))
  refine eB 6 1 (sl 1 rE_ []) rfl rfl slnil ?_
  refine eB 6 2 (sl 1 gE []) rfl rfl slnil ?_
  exact rE ⟨(false,⟨[],[]⟩),⟨fun _=>J,fun h=>absurd h hc0⟩⟩ [.cell 6 72,.tmp 7] J [agg [bl false,sl 1 rE_ [],sl 1 gE []],int (eF x t s)] ⟨.agg J J T.oN J J,.tmp J,tV⟩ J trivial eX
 ·try simp at hc0
  obtain⟨hxv,htv,hsv,hxt,hts⟩:=HL hc0
  have hx:=cU hxv
  have ht:=eJ htv
  have hs:=eJ hsv
  refine sk (th (sq (rg (lPA J J T.aU J (lPA J J T.bA J (lPA J J T.bA J (cl (divj.Ra x t s aS aS aS aS aS aS) T.XM trivial fun N20 i20=>(sPA (cs':= [bl i20.1.1,sl 1 rE_ i20.1.2.aC,sl 1 gE i20.1.2.sT]) J J J T.oN J J (ag (nl (th (rt ?_))))))))))))
  have hr0:(0:Int)=(eF x t s):=by
   exact hc0.symm
  exact rE ⟨i20.1,⟨fun h=>absurd hc0 h,fun _=>i20.2⟩⟩ [.cell 6 72,.tmp 7] J [agg [bl i20.1.1,sl 1 rE_ i20.1.2.aC,sl 1 gE i20.1.2.sT],int 0] ⟨.agg J J T.oN J J,.tmp J,tV⟩ (cA1 (fun x0=>rV [agg [bl i20.1.1,sl 1 rE_ i20.1.2.aC,sl 1 gE i20.1.2.sT],int x0]) hr0) trivial eX
end divj
end
section
open ref01 ref03 ref04 ref06 prog prog2 prog3 prog4 prog6 prog13 Part Rungs LeftM TrimM RoundM MergeM BisM BisM4 BisM5 WalkM StepM WitM JudgM JudgM2 refw judg wit refj sysw divr divs divd dive divg divw divv divf divc LevM LevM2 ChsM QuoM FailM DivM QuoW
namespace T
theorem z173:dM Tryz.prog 173 [.slice none 0 0]:=cE kR
theorem z171:dM Tryz.prog 171 [.int .i64 0,.int .i64 0,.int .i64 0]:=cE kR
end T
namespace divq
end divq
end
section
open ref01 ref03 ref04 ref06 prog prog2 prog3 prog6 prog13 starts Part Rungs LeftM TrimM RoundM MergeM BisM BisM4 BisM5 WalkM StepM WitM JudgM JudgM2 refw judg wit refj sysw divr divs divd dive divg divw divv divf divc divj divq divp LevM LevM2 ChsM QuoM FailM DivM QuoW RefM
namespace divm
end divm
end
section
open ref01 ref03 ref04 ref06 prog prog2 prog3 prog6 prog13 starts Part Rungs LeftM TrimM RoundM MergeM BisM BisM4 BisM5 WalkM StepM WitM JudgM JudgM2 refw judg wit refj sysw divr divs divd dive divg divw divv divf divc divj divq divp divm LevM LevM2 ChsM QuoM FailM DivM QuoW RefM FitM PartM EncM
namespace diva
end diva
end
section
open ref01 ref03 ref04 ref06 prog prog2 prog3 prog6 prog13 starts Part Rungs LeftM TrimM RoundM MergeM BisM BisM4 BisM5 WalkM StepM WitM JudgM JudgM2 refw judg wit refj sysw divr divs divd dive divg divw divv divf divc divj divq divp divm diva LevM LevM2 ChsM QuoM FailM DivM QuoW RefM FitM PartM EncM TogM
namespace divt
end divt
end
end Go.Proofs.YtnlfjojfgghchaaGreatDoor
