/- The walks of the functions and the plain laws. Own texts of this claim, packed: Mkmkr, MkLeadM, Mkdivc, Mkdivj, Mkdivq, Mkdivm, Mkdiva, Mkdivt. -/
import Derived.Test.YtnlfjojfgghchaaGreatDoorX30
import Derived.Test.YtnlfjojfgghchaaGreatDoorX24
import Derived.Test.YtnlfjojfgghchaaGreatDoorX18
import Derived.Test.YtnlfjojfgghchaaGreatDoorX15
import Derived.Test.YtnlfjojfgghchaaGreatDoorX17
import Derived.Test.YtnlfjojfgghchaaGreatDoorX07
import Derived.Test.YtnlfjojfgghchaaGreatDoorX21
set_option linter.all false
namespace Go.Proofs.YtnlfjojfgghchaaGreatDoor
open AL Go
set_option maxRecDepth 100000
section
open ref01 ref03 ref04 ref06 prog prog2 prog3 prog4 prog5 prog6 prog7 prog8 prog9 prog15 Part Rungs LeftM TrimM RoundM MergeM BisM BisM4 BisM5 Itoa Keys WalkM StepM WitM JudgM JudgM2 search refw judg wit refj sysw satj divr divs divd dive divv TrimI QuoM FailM DivM FitM TogM ProdM prodw GenW CompM CrossM KeepK GuardM MakeM LsysM LsysM2 MakeM2 KeepB AtM ClsM LstM MakeM3 GuaW ValidM mkk mkp mkl mkc mkq mkg
theorem PY {f:FuncId} {w:World} {F:Fz} {v:Value} (h:(agg [eqv (.func (.func f) #[] #[])]).p w F v):(agg [clo f []]).p w F v:=jR (cs:= [eqv (.func (.func f) #[] #[])]) (ds:= [clo f []]) ⟨fun h=>Vy h,tV⟩ h
theorem PZ {l:List Int} {m:Nat} {a:Int} (nx:List Int) (h:l[m]?=some a):(l.take (m+1)).map (fun(a:Int)=>((a,ix nx a.toNat):Int × Int))=(l.take m).map (fun(a:Int)=>((a,ix nx a.toNat):Int × Int))++ [(a,ix nx a.toNat)]:=by
 rw[List.take_succ,h,List.map_append];rfl
theorem Ed {s:SS} {u:Int}:cW s false u=(⟨[],[]⟩,2):=by unfold cW;simp
theorem GU {s:SS} {u:Int} (h:ix (hOl (tR (bD u s)).1) 0=true):cW s true u=(⟨[],[]⟩,3):=by unfold cW;simp[h]
theorem Jc {s:SS} {u:Int} (h:ix (hOl (tR (bD u s)).1) 0=false):cW s true u=(iT lgC (tR (bD u s)).1,0):=by unfold cW;simp[h]
theorem Xm {m n k:aB} {q:List (Int × Int)} (hm:bL m=true) (hn:bL n=true) (h:mQ m n k q) (hz:m.sT.length*n.sT.length<5000) (hz2:bU m.sT*bU n.sT≤400000):bL k=true:=
 Kb hm hn h (by have:=Pg h;omega) (Nat.le_trans (Ph h) (Nat.le_trans (IA h.nd h.box _) hz2))
noncomputable def bN (m:aB) (t:SS) (u:Int):aB × Int:=
 if bW m t=0 then(if eG (t.aC.length:Int) u=true then cW (bC m t).1 (bC m t).2 u else(⟨[],[]⟩,1)) else(⟨[],[]⟩,bW m t)
noncomputable def iD (x m:aB) (t:SS) (u:Int):Int:=
 if bL x=true∧bL m=true then(if bT t=true then(if x.aC=m.aC∧x.aC=t.aC then(if eG (t.aC.length:Int) u=true then 0 else 1) else 10) else 30) else 20
noncomputable def mF (x m:aB) (t:SS) (u:Int):Bool:=decide (iD x m t u=0)&&(@decide (wG m x t) (Classical.propDecidable _)&&jI x u)
theorem Nh {m x k:aB} {t:SS} {u:Int} {q:List (Int × Int)} {v:VJ} (hm:bE m) (hx:bE x) (ht:oK t) (h:mQ m x k q) (hk:bE k) (hv:yS k t v) (hd:iD x m t u=0):mF x m t u=(v.holds&&jI x u):=by
 unfold mF
 rw[hd,decide_eq_true rfl,Bool.true_and]
 congr 1
 rw[Bool.eq_iff_iff,LN hv,Pf hm hx ht h];simp
theorem Ci {x m:aB} {t:SS} {u:Int} (h:iD x m t u≠0):mF x m t u=false:=by unfold mF;rw[decide_eq_false h,Bool.false_and]
theorem TP {m x:aB} (hm:bL m=true) (hx:bL x=true) (h:m.aC=x.aC):iI m x=0:=by unfold iI;rw[if_pos hm,if_pos hx,if_pos h]
namespace T
theorem z87:eW Tryz.prog 87 [.slice none 0 0]:=cY kR
theorem Qa:fD Tryz.prog 104 0 0:=eK kR
theorem Wn:eF Tryz.prog 102:=fT kR
theorem Wo:Ent Tryz.prog 111:=aN kR
theorem Wp:Ent Tryz.prog 121:=aN kR
theorem Xn:Ent Tryz.prog 72:=aN kR
theorem Xo:iZ Tryz.prog 104 [(0,1)] [.nilFunc]:=jB kR kR
theorem Xp:Ent Tryz.prog 75:=aN kR
theorem Ri:Ent Tryz.prog 61:=aN kR
theorem Xq:Ent Tryz.prog 62:=aN kR
theorem Xr:Ent Tryz.prog 69:=aN kR
theorem Xs:Ent Tryz.prog 70:=aN kR
theorem TQ:FD Tryz.prog 68 0 0 4:=HX kR
theorem Xt:Ent Tryz.prog 71:=aN kR
end T
namespace mkr
theorem Qb (s:SS) (hs:oK s) (hf:s.sT.length≤500) (hne:∀y,y<s.sT.length→acc s y≠[]):
 AL.Fn Tryz.prog 75 [agg [clo 111 []],mN (spec s)] [] (ι:=Unit) (fun N _=>agg [fre N (strs s.aC),fre N (sl 1 gE (iT lgC s).sT)]) (fun _=> []):=by
 refine fnI Tryz.func75 rfl rfl (fun w0 F0=> ?_)
 have f1:=hs.few1;have hn8:=hs.n8;have hc:=MY hne;have hmv:=MX hs hc hf
 refine tbI 1 9999 rfl ?_
 refine CC (ψ:=tab) 9999 997 rfl ?_
 refine fcC (bV 1 J) (fun hS1=> ?_)
 obtain⟨hsa1,hss1,hse1⟩:=sLn hS1
 refine sq (rg (bx (key:=2) (cs:= [clo 111 []]) J fun b2=>(bx (key:=3) (cs:= [sl 1 rE_ s.aC,sl 2 sE s.sT]) J fun b3=>(al (key:=4) T.z25 (eC (eC eZ)) fun b4=>(nl (th (sq (rg (fP J T.cP (lP J J J T.cK (lB (φs:= [sl 1 rE_ s.aC]) (φ:=sl 1 rE_ s.aC) ⟨J,tV⟩ (prog.gG _ O) T.tK (fun N hN=>fun h=>jQ h) (bd (css:= [(0,_)]) T.oM (eC (eC eZ)) ⟨J,J,p1 (φ:=sl 1 rE_ s.aC) J,tV⟩ (al (key:=5) T.z25 (eC (eC eZ)) fun b5=>(sPA (cs':= [sl 1 rE_ s.aC,eqv (.slice none 0 0)]) J J J T.bK J J (nl (th (sq (sq (rg (fP J T.bA (lP J J J T.bM (fc (aT 15 J) fun hm15=>(lnF J T.cE (mv (nl (th (bk ?_)))))))))))))))))))))))))))
 refine nwC 50 87 1 gE (iJ 5 1 (osl 50 (.slice none 0 0)) rfl rfl cS ?_)
 have hI0_0:0≤s.sT.length:=by
  first|omega|simp
 have hI0_1:([]:List (List (Int × Int)))=mkO (lgC s) s 0:=by
  rfl
 refine lp (κ:=Nat × Value × (List (List (Int × Int)))) (fun p=> [(2,ptr 2 b2 0),(4,ptr 4 b4 0),(5,ptr 5 b5 0),(15,sl 2 sE s.sT),(16,int (s.sT.length:Int)),(17,int (p.1:Int)),(9999,tab)]) (fun p=> [(2,cell b2 [clo 111 []]),(3,cell b3 [sl 1 rE_ s.aC,sl 2 sE s.sT]),(4,cell b4 [eqv (.slice none 0 0),eqv (.slice none 0 0)]),(5,cell b5 [sl 1 rE_ s.aC,osl 50 p.2.1]),(50,own p.2.1 87 1 gE p.2.2),(997,dZ tab)]) (fun p=>(p.1≤s.sT.length)∧(p.2.2=mkO (lgC s) s p.1)) (fun p=>s.sT.length- p.1) ⟨0,(.slice none 0 0),([]:List (List (Int × Int)))⟩ ⟨hI0_0,hI0_1⟩ ⟨id,id,id,id,id,id,id,tV⟩ ⟨rI,rI,rI,rI,rI,rI,tV⟩ ?_
 intro⟨k,uo,aJ⟩ hG0
 obtain⟨hk0,houts⟩:(k≤s.sT.length)∧(aJ=mkO (lgC s) s k):=hG0
 show Ct _ _ _ _ [(2,ptr 2 b2 0),(4,ptr 4 b4 0),(5,ptr 5 b5 0),(15,sl 2 sE s.sT),(16,int (s.sT.length:Int)),(17,int (k:Int)),(9999,tab)] [(2,cell b2 [clo 111 []]),(3,cell b3 [sl 1 rE_ s.aC,sl 2 sE s.sT]),(4,cell b4 [eqv (.slice none 0 0),eqv (.slice none 0 0)]),(5,cell b5 [sl 1 rE_ s.aC,osl 50 uo]),(50,own uo 87 1 gE aJ),(997,dZ tab)] _
 have hol:aJ.length≤500:=by rw[houts,TC];omega
 refine sq (rg (bi J J aO (nl (th (sq ?_)))))
 refine cd J (fun hc0=> ?_) (fun hc0=> ?_)
 ·try simp at hc0
  have hst:=hs.st k O
  have hsl:=hst.len
  have hac:=hst.ac
  have hcin:(gP (ix s.sT k).aP)∈acc s k:=hc k O
  have hal:0<(ix s.sT k).aP.length:=List.length_pos_iff.2 (hne k O)
  have hcb:0≤(gP (ix s.sT k).aP)∧(gP (ix s.sT k).aP)<256:=CompM.xH hs O _ hcin
  have hcut:aL 63 (gP (ix s.sT k).aP)=aL s.aC.length (gP (ix s.sT k).aP):=TE hs O hcin
  refine sk (th (sq (bk (sq (rg (iF J J T.cE O gB (lFA J T.cR (Nat.le_of_ble_eq_true J) (al (key:=7) T.z79 (eC (eC eZ)) fun b7=>(sPA (cs':= [sl 1 nE (ix s.sT k).aP,sl 1 nE (ix s.sT k).next]) J J J T.cR J J (nl (th (sq (rg (al (key:=8) T.z87 (eC eZ) fun b8=>(nl (th (sq (sq (rg (fP J T.Qa (lP J J J T.Wn (fP J T.cJ (lP J J J T.aY (WG (φs:= [sl 1 nE (ix s.sT k).aP]) (φ:=int (gP (ix s.sT k).aP)) J ⟨J,tV⟩ (Ke (ix s.sT k).aP hal hac) T.Wo (aZ (φs:= [int (gP (ix s.sT k).aP)]) (φ:=clo 137 [fp [int (gP (ix s.sT k).aP)]]) ⟨J,tV⟩ (prog3.rB (gP (ix s.sT k).aP)) T.yN (nl (th (bk (nwC 80 94 2 pE (iJ 8 0 (osl 80 (.slice none 0 0)) J J cS ?_))))))))))))))))))))))))))))))
  have hR0:([]:List (Int × Int))=((aL 63 (gP (ix s.sT k).aP)).take 0).map (fun(a:Int)=>((a,ix (ix s.sT k).next a.toNat):Int × Int)):=by
   rfl
  refine rf (κ:=Value × (List (Int × Int))) 900 (fun p=> [(2,cell b2 [clo 111 []]),(3,cell b3 [sl 1 rE_ s.aC,sl 2 sE s.sT]),(4,cell b4 [eqv (.slice none 0 0),eqv (.slice none 0 0)]),(5,cell b5 [sl 1 rE_ s.aC,osl 50 uo]),(7,cell b7 [sl 1 nE (ix s.sT k).aP,sl 1 nE (ix s.sT k).next]),(8,cell b8 [osl 80 p.1]),(50,own uo 87 1 gE aJ),(80,own p.1 94 2 pE p.2),(997,dZ tab)]) (fun iR p=>p.2=((aL 63 (gP (ix s.sT k).aP)).take iR).map (fun(a:Int)=>((a,ix (ix s.sT k).next a.toNat):Int × Int))) (fun c p=>False) J (Cr (gP (ix s.sT k).aP) O O) T.uU J (fun _=>J) (fun _=>J) ⟨(.slice none 0 0),([]:List (Int × Int))⟩ hR0 ⟨rI,rI,rI,rI,rI,rI,rI,rI,rI,tV⟩ ?_ ?_ (fun k h=>h.elim) (fun id k h=>h.elim) (fun c k h=>h.elim)
  ·intro m0 ⟨u8x,l1⟩ x0 hG0 hx0 l R w1 M1 F1 hRd
   have hR0:l1=((aL 63 (gP (ix s.sT k).aP)).take m0).map (fun(a:Int)=>((a,ix (ix s.sT k).next a.toNat):Int × Int)):=hG0
   show Ct _ _ _ _ _ ((900,obj l (.loop R)):: [(2,cell b2 [clo 111 []]),(3,cell b3 [sl 1 rE_ s.aC,sl 2 sE s.sT]),(4,cell b4 [eqv (.slice none 0 0),eqv (.slice none 0 0)]),(5,cell b5 [sl 1 rE_ s.aC,osl 50 uo]),(7,cell b7 [sl 1 nE (ix s.sT k).aP,sl 1 nE (ix s.sT k).next]),(8,cell b8 [osl 80 u8x]),(50,own uo 87 1 gE aJ),(80,own u8x 94 2 pE l1),(997,dZ tab)]) _
   have hm63:m0<63:=by
    have h1:=(List.getElem?_eq_some_iff.1 hx0).1
    have h2:=Gu (gP (ix s.sT k).aP)
    omega
   have hl1l:l1.length≤63:=by rw[hR0,List.length_map,List.length_take];omega
   obtain⟨a,rfl,ha63,hha⟩:=oI hx0
   have hgo:=pT hs (x:=k) O ((cU _ _).2 ⟨_,hcin,hha⟩)
   have hgo2:0≤ix (ix s.sT k).next a∧ix (ix s.sT k).next a<(s.sT.length:Int):=hgo.2
   refine rg (ag (nl (aq hRd J (bk (dr (nh:=9) [0,0,0,4,0,28,60,126,254,511,1023] T.mixed kR ?_)))))
   refine st_ J (fun _ _ _ gq kq=>lP (gq.1.trans J) J J T.iG kq) ?_
   refine st_ J (fun _ _ _ gq kq=>mv' (gq.1.trans J) kq) ?_
   refine st_ J (fun _ _ _ gq kq=>fP (gq.1.trans J) T.bR kq) ?_
   refine st_ J (fun _ _ _ gq kq=>lP (gq.1.trans J) J J T.aY kq) ?_
   refine st_ J (fun _ _ _ gq kq=>mv' (gq.1.trans J) kq) ?_
   refine st_ J (fun _ _ _ gq kq=>iF (gq.1.trans J) (gq.2.1.trans J) T.aU O gB kq) ?_
   refine st_ J (fun _ _ _ gq kq=>lF (gq.1.trans J) J T.aH kq) ?_
   refine st_ J (fun _ _ _ gq kq=>bd (css:= [(0,_),(1,_)]) T.Au (eC (eC eZ)) ⟨J,J,p1 (φ:=int (a:Int)) (by exact(gq.1.trans J)),⟨J,J,p1 (φ:=int (ix (ix s.sT k).next a)) (by exact(gq.2.1.trans J)),tV⟩⟩ kq) ?_
   refine st_ J (fun _ _ _ gq kq=>bsE (enc:=pE) (xs:= [((a:Int),ix (ix s.sT k).next a)]) (css:= [[int (a:Int),int (ix (ix s.sT k).next a)]]) T.pG ⟨J,J,pA (cs:= [int (a:Int),int (ix (ix s.sT k).next a)]) (by exact(gq.1.trans J)),tV⟩ J J J J kq) ?_
   refine pn (ap (key:=80) (zs:= [((a:Int),ix (ix s.sT k).next a)]) bP J J J T.pG (by unfold aQ at*;simp;omega) (by unfold aQ at*;simp;omega) fun v37=>(bY J J J J T.iG J (nl (eb ?_))))
   have hN0:(l1++ [((a:Int),ix (ix s.sT k).next a)])=((aL 63 (gP (ix s.sT k).aP)).take (m0+1)).map (fun(a:Int)=>((a,ix (ix s.sT k).next a.toNat):Int × Int)):=by
    rw[PZ _ hx0,←hR0,Int.toNat_natCast]
   exact rqN ⟨v37,l1++ [((a:Int),ix (ix s.sT k).next a)]⟩ hN0 ⟨rI,rI,rI,rI,rI,rI,rI,rI,rI,rI,tV⟩
  ·intro⟨u8x,l1⟩ hG0
   have hR0:l1=((aL 63 (gP (ix s.sT k).aP)).take (aL 63 (gP (ix s.sT k).aP)).length).map (fun(a:Int)=>((a,ix (ix s.sT k).next a.toNat):Int × Int)):=hG0
   show At _ _ _ _ [(2,cell b2 [clo 111 []]),(3,cell b3 [sl 1 rE_ s.aC,sl 2 sE s.sT]),(4,cell b4 [eqv (.slice none 0 0),eqv (.slice none 0 0)]),(5,cell b5 [sl 1 rE_ s.aC,osl 50 uo]),(7,cell b7 [sl 1 nE (ix s.sT k).aP,sl 1 nE (ix s.sT k).next]),(8,cell b8 [osl 80 u8x]),(50,own uo 87 1 gE aJ),(80,own u8x 94 2 pE l1),(997,dZ tab)]
   refine eb (th (rg (fP rfl T.bX (lP rfl rfl rfl T.cV (lP rfl rfl rfl T.iG (fz 80 40 rfl rfl (bsE (enc:=gE) (xs:= [l1]) (css:= [[sl 2 pE l1]]) T.sK ⟨rfl,rfl,p1 (φ:=sl 2 pE l1) rfl,tV⟩ rfl rfl rfl rfl (ap (key:=50) (zs:= [l1]) bP rfl rfl rfl T.sK (by unfold aQ at*;simp;omega) (by unfold aQ at*;simp;omega) fun v42=>(fP rfl T.bX (bY rfl rfl rfl rfl T.cV rfl (nl (eb (th (rg (bi rfl rfl (aG i6) (mv (nl ?_)))))))))))))))))
   have hN0:(k+1)≤s.sT.length:=by
    first|omega|simp_all
   have hN1:(aJ++ [l1])=mkO (lgC s) s (k+1):=by
    rw[PL,houts,hR0,List.take_length,hcut];rfl
   exact ln (⟨k+1,v42,aJ++ [l1]⟩:Nat × Value × (List (List (Int × Int)))) ⟨hN0,hN1⟩ dO ⟨id,id,id,id,id,id,id,tV⟩ ⟨rI,rI,rI,rI,rI,rI,tV⟩
 ·try simp at hc0
  refine ex (xt_ (xt_ (xb (th (sq (rg (fzc 5 50 1 J J J J (lPA J J T.bK J (kn 46 (sys (mkM (lgC s) s)) J (by rw[show aJ=(mkM (lgC s) s).sT by rw[houts,show k=s.sT.length by omega];exact TD _ _];exact fun h=>h) (tbU (ψ:=tab) 46 9999 J J (Uq (φs:= [both (agg [sl 1 rE_ (mkM (lgC s) s).aC,sl 1 gE (mkM (lgC s) s).sT]) tab]) ⟨J,tV⟩ (mkq.PG (mkM (lgC s) s) aS) T.Wp trivial fun N47 i47 hN47=>(kd (φ':=tup [agg [fre w0.heap.size (sl 1 rE_ (fH (mkM (lgC s) s)).aC),fre w0.heap.size (sl 1 gE (fH (mkM (lgC s) s)).sT)],sl 1 nE i47,int 0]) (fun h=>uR (cs:= [agg [fre N47 (sl 1 rE_ (fH (mkM (lgC s) s)).aC),fre N47 (sl 1 gE (fH (mkM (lgC s) s)).sT)],sl 1 nE i47,int 0]) (ds:= [agg [fre w0.heap.size (sl 1 rE_ (fH (mkM (lgC s) s)).aC),fre w0.heap.size (sl 1 gE (fH (mkM (lgC s) s)).sT)],sl 1 nE i47,int 0]) ⟨fun h=>jR (cs:= [fre N47 (sl 1 rE_ (fH (mkM (lgC s) s)).aC),fre N47 (sl 1 gE (fH (mkM (lgC s) s)).sT)]) (ds:= [fre w0.heap.size (sl 1 rE_ (fH (mkM (lgC s) s)).aC),fre w0.heap.size (sl 1 gE (fH (mkM (lgC s) s)).sT)]) ⟨fun h=>jS hN47 h,fun h=>jS hN47 h,tV⟩ h,fun h=>h,fun h=>h,tV⟩ h) (mv (xt J J (xt J J (xt J J (sPA (cs':= [fre w0.heap.size (sl 1 rE_ (fH (mkM (lgC s) s)).aC),fre w0.heap.size (sl 1 gE (fH (mkM (lgC s) s)).sT)]) J J J T.bK J J (nl (th (sq (rg (lPA J J T.bK J (sPA (cs':= [fre w0.heap.size (sl 1 rE_ (fH (mkM (lgC s) s)).aC),fre w0.heap.size (sl 1 gE (fH (mkM (lgC s) s)).sT)]) J J J T.bK J J (nl (th (rt ?_))))))))))))))))))))))))))
  have hr0:(fH (mkM (lgC s) s)).aC=s.aC:=by
   first|rfl|simp_all|omega
  have hr1:(fH (mkM (lgC s) s)).sT=(iT lgC s).sT:=by
   first|rfl|simp_all|omega
  exact rE () [.cell 4 25] J [agg [fre w0.heap.size (sl 1 rE_ (fH (mkM (lgC s) s)).aC),fre w0.heap.size (sl 1 gE (fH (mkM (lgC s) s)).sT)]] ⟨.agg J J T.bK J J,tV⟩ (cA2 (fun x0 x1=>rV [agg [fre w0.heap.size (sl 1 rE_ x0),fre w0.heap.size (sl 1 gE x1)]]) hr0 hr1) trivial eX
theorem TR (s:SS) (ok:Bool) (hs:ok=true→oK s∧s.sT.length≤500) (u:Int) (h0:0≤u) (h1:u<256):
 AL.Fn Tryz.prog 62 [mN (spec s),bl ok,int u] [] (ι:=Unit) (fun N _=>tup [agg [fre N (strs (cW s ok u).1.aC),fre N (sl 1 gE (cW s ok u).1.sT)],int (cW s ok u).2]) (fun _=> []):=by
 refine fnI Tryz.func62 rfl rfl (fun w0 F0=> ?_)
 refine tbI 0 9999 rfl ?_
 refine CC (ψ:=tab) 9999 997 rfl ?_
 refine fcC (bV 0 J) (fun hS0=> ?_)
 obtain⟨hsa0,hss0,hse0⟩:=sLn hS0
 refine sq (rg (bx (key:=3) (cs:= [sl 1 rE_ s.aC,sl 2 sE s.sT]) J fun b3=>(al (key:=6) T.z25 (eC (eC eZ)) fun b6=>(ag (nl (th (sq (sq (rg (mv (no J (nl (th ?_)))))))))))))
 refine cd J (fun hc0=> ?_) (fun hc0=> ?_)
 ·try simp at hc0
  have hok:ok=false:=by simpa using hc0
  have hd:cW s ok u=(⟨[],[]⟩,2):=by rw[hok];exact Ed
  refine sq (rg (bd (css:= []) T.oM (eC (eC eZ)) trivial (sPA (cs':= [eqv (.slice none 0 0),eqv (.slice none 0 0)]) J J J T.bK J J (ag (nl (th (rt (rt_ ?_))))))))
  refine gH 6 0 (fre w0.heap.size (sl 1 rE_ [])) rfl rfl mK ?_
  refine gH 6 1 (fre w0.heap.size (sl 1 gE [])) rfl rfl mK ?_
  have hr0: []=((cW s ok u).1.aC):=by
   rw[hd]
  have hr1: []=((cW s ok u).1.sT):=by
   rw[hd]
  have hr2:(2:Int)=((cW s ok u).2):=by
   rw[hd]
  exact rE () [.cell 6 25,.tmp 7] J [agg [fre w0.heap.size (sl 1 rE_ []),fre w0.heap.size (sl 1 gE [])],int 2] ⟨.agg J J T.bK J J,.tmp J,tV⟩ (cA3 (fun x0 x1 x2=>rV [agg [fre w0.heap.size (sl 1 rE_ x0),fre w0.heap.size (sl 1 gE x1)],int x2]) hr0 hr1 hr2) trivial eX
 ·try simp at hc0
  have hok:ok=true:=by simpa using hc0
  obtain⟨hsk,hsf⟩:=hs hok
  have hT:=Eb hsk hsf u
  obtain⟨hTk,hTf⟩:=hT
  have hT0:=hTk.few0
  refine sk (th (sq (rg (lPA J J T.aW J (mv (aZ (φs:= [agg [sl 1 rE_ s.aC,sl 2 sE s.sT],int u]) (φ:=agg [sl 1 rE_ ((tR (bD u s)).1).aC,sl 2 sE ((tR (bD u s)).1).sT]) ⟨J,J,tV⟩ (mkk.Kd s aS u O O) T.Xn (sPA (cs':= [sl 1 rE_ ((tR (bD u s)).1).aC,sl 2 sE ((tR (bD u s)).1).sT]) J J J T.aW J J (nl (th (sq (sq (rg (lPA J J T.aW J (aZ (φs:= [agg [sl 1 rE_ ((tR (bD u s)).1).aC,sl 2 sE ((tR (bD u s)).1).sT]]) (φ:=sl 1 blE (hOl ((tR (bD u s)).1))) ⟨J,tV⟩ (prog7.Bq ((tR (bD u s)).1) aS) T.Lf (iF J J T.gJ O (gK (k:=0) (by rw[jX];omega)) (lF J J T.eP (nl (th ?_))))))))))))))))))
  refine cd J (fun hc1=> ?_) (fun hc1=> ?_)
  ·try simp at hc1
   have hd:cW s ok u=(⟨[],[]⟩,3):=by rw[hok];exact GU hc1
   refine sq (rg (bd (css:= []) T.oM (eC (eC eZ)) trivial (sPA (cs':= [eqv (.slice none 0 0),eqv (.slice none 0 0)]) J J J T.bK J J (ag (nl (th (rt (rt_ ?_))))))))
   refine gH 6 0 (fre w0.heap.size (sl 1 rE_ [])) rfl rfl mK ?_
   refine gH 6 1 (fre w0.heap.size (sl 1 gE [])) rfl rfl mK ?_
   have hr0: []=((cW s ok u).1.aC):=by
    rw[hd]
   have hr1: []=((cW s ok u).1.sT):=by
    rw[hd]
   have hr2:(3:Int)=((cW s ok u).2):=by
    rw[hd]
   exact rE () [.cell 6 25,.tmp 7] J [agg [fre w0.heap.size (sl 1 rE_ []),fre w0.heap.size (sl 1 gE [])],int 3] ⟨.agg J J T.bK J J,.tmp J,tV⟩ (cA3 (fun x0 x1 x2=>rV [agg [fre w0.heap.size (sl 1 rE_ x0),fre w0.heap.size (sl 1 gE x1)],int x2]) hr0 hr1 hr2) trivial eX
  ·try simp at hc1
   have hd:cW s ok u=(iT lgC (tR (bD u s)).1,0):=by rw[hok];exact Jc hc1
   have hfree:=Cg hsk hsf hc1
   refine sk (th (sq (rg (bd (css:= [(0,_)]) T.Xo (eC eZ) ⟨J,J,p1 (φ:=eqv (.func (.func 111) #[] #[])) J,tV⟩ (kn 19 (agg [clo 111 []]) J PY (lPA J J T.aW J (tbU (ψ:=tab) 20 9999 J J (lB (φs:= [agg [clo 111 []],both (agg [sl 1 rE_ ((tR (bD u s)).1).aC,sl 2 sE ((tR (bD u s)).1).sT]) tab]) (φ:=agg [fre w0.heap.size (sl 1 rE_ (iT lgC ((tR (bD u s)).1)).aC),fre w0.heap.size (sl 1 gE (iT lgC ((tR (bD u s)).1)).sT)]) ⟨J,J,tV⟩ (mkr.Qb ((tR (bD u s)).1) aS aS aS) T.Xp (fun N hN=>fun h=>jR (cs:= [fre N (sl 1 rE_ (iT lgC ((tR (bD u s)).1)).aC),fre N (sl 1 gE (iT lgC ((tR (bD u s)).1)).sT)]) (ds:= [fre w0.heap.size (sl 1 rE_ (iT lgC ((tR (bD u s)).1)).aC),fre w0.heap.size (sl 1 gE (iT lgC ((tR (bD u s)).1)).sT)]) ⟨fun h=>jS hN h,fun h=>jS hN h,tV⟩ h) (sPA (cs':= [fre w0.heap.size (sl 1 rE_ (iT lgC ((tR (bD u s)).1)).aC),fre w0.heap.size (sl 1 gE (iT lgC ((tR (bD u s)).1)).sT)]) J J J T.bK J J (ag (nl (th (rt ?_)))))))))))))
   have hr0:(iT lgC ((tR (bD u s)).1)).aC=((cW s ok u).1.aC):=by
    rw[hd]
   have hr1:(iT lgC ((tR (bD u s)).1)).sT=((cW s ok u).1.sT):=by
    rw[hd]
   have hr2:(0:Int)=((cW s ok u).2):=by
    rw[hd]
   exact rE () [.cell 6 25,.tmp 7] J [agg [fre w0.heap.size (sl 1 rE_ (iT lgC ((tR (bD u s)).1)).aC),fre w0.heap.size (sl 1 gE (iT lgC ((tR (bD u s)).1)).sT)],int 0] ⟨.agg J J T.bK J J,.tmp J,tV⟩ (cA3 (fun x0 x1 x2=>rV [agg [fre w0.heap.size (sl 1 rE_ x0),fre w0.heap.size (sl 1 gE x1)],int x2]) hr0 hr1 hr2) trivial eX
theorem Cj (m:aB) (t:SS) (hts:jE t) (u:Int):
 AL.Fn Tryz.prog 25 [mN (sys m),spec t,int u] [] (ι:=Unit) (fun N _=>tup [agg [fre N (strs (bN m t u).1.aC),fre N (sl 1 gE (bN m t u).1.sT)],int (bN m t u).2]) (fun _=> []):=by
 refine fnI Tryz.func25 rfl rfl (fun w0 F0=> ?_)
 refine tbI 0 9999 rfl ?_
 refine CC (ψ:=tab) 9999 997 rfl ?_
 refine fcC (bV 0 J) (fun hS0=> ?_)
 obtain⟨hma0,hms0,hme0⟩:=cQ hS0
 refine fcC (bV 1 J) (fun hS1=> ?_)
 obtain⟨hsa1,hss1,hse1⟩:=sLn hS1
 refine sq (rg (bx (key:=3) (cs:= [sl 1 rE_ m.aC,sl 1 gE m.sT]) J fun b3=>(bx (key:=4) (cs:= [sl 1 rE_ t.aC,sl 2 sE t.sT]) J fun b4=>(al (key:=6) T.z25 (eC (eC eZ)) fun b6=>(ag (nl (th (sq (sq (rg (lPA J J T.bK J (lPA J J T.aW J (aZ (φs:= [agg [sl 1 rE_ m.aC,sl 1 gE m.sT],agg [sl 1 rE_ t.aC,sl 2 sE t.sT]]) (φ:=int (bW m t)) ⟨J,J,tV⟩ (satj.yT m t aS) T.Rf (ag (nl (th (sq (rg (mv (bi J J fR (nl (th ?_))))))))))))))))))))))
 refine cd J (fun hc0=> ?_) (fun hc0=> ?_)
 ·try simp at hc0
  have hd:bN m t u=(⟨[],[]⟩,bW m t):=by unfold bN;rw[if_neg hc0]
  refine sq (rg (bd (css:= []) T.oM (eC (eC eZ)) trivial (mv (sPA (cs':= [eqv (.slice none 0 0),eqv (.slice none 0 0)]) J J J T.bK J J (ag (nl (th (rt (rt_ ?_)))))))))
  refine gH 6 0 (fre w0.heap.size (sl 1 rE_ [])) rfl rfl mK ?_
  refine gH 6 1 (fre w0.heap.size (sl 1 gE [])) rfl rfl mK ?_
  have hr0: []=((bN m t u).1.aC):=by
   rw[hd]
  have hr1: []=((bN m t u).1.sT):=by
   rw[hd]
  have hr2:((bW m t):Int)=((bN m t u).2):=by
   rw[hd]
  exact rE () [.cell 6 25,.tmp 7] J [agg [fre w0.heap.size (sl 1 rE_ []),fre w0.heap.size (sl 1 gE [])],int (bW m t)] ⟨.agg J J T.bK J J,.tmp J,tV⟩ (cA3 (fun x0 x1 x2=>rV [agg [fre w0.heap.size (sl 1 rE_ x0),fre w0.heap.size (sl 1 gE x1)],int x2]) hr0 hr1 hr2) trivial eX
 ·try simp at hc0
  obtain⟨hmv,htv,hmt⟩:=lK hc0
  have hm:=eI hmv
  have ht:=fC htv
  have hn8:=ht.n8
  refine sk (th (sq (sq (rg (fP J T.cP (lP J J J T.cK (fc (aT 19 J) fun hm19=>(lnF J T.dW (mv (aZ (φs:= [int (t.aC.length:Int),int u]) (φ:=bl (eG (t.aC.length:Int) u)) ⟨J,J,tV⟩ (mkk.Mm (t.aC.length:Int) u O O) T.Ri (no J (nl (th ?_)))))))))))))
  refine cd J (fun hc1=> ?_) (fun hc1=> ?_)
  ·try simp at hc1
   have hd:bN m t u=(⟨[],[]⟩,1):=by unfold bN;rw[if_pos hc0,if_neg (by simpa using hc1)]
   refine sq (rg (bd (css:= []) T.oM (eC (eC eZ)) trivial (sPA (cs':= [eqv (.slice none 0 0),eqv (.slice none 0 0)]) J J J T.bK J J (ag (nl (th (rt (rt_ ?_))))))))
   refine gH 6 0 (fre w0.heap.size (sl 1 rE_ [])) rfl rfl mK ?_
   refine gH 6 1 (fre w0.heap.size (sl 1 gE [])) rfl rfl mK ?_
   have hr0: []=((bN m t u).1.aC):=by
    rw[hd]
   have hr1: []=((bN m t u).1.sT):=by
    rw[hd]
   have hr2:(1:Int)=((bN m t u).2):=by
    rw[hd]
   exact rE () [.cell 6 25,.tmp 7] J [agg [fre w0.heap.size (sl 1 rE_ []),fre w0.heap.size (sl 1 gE [])],int 1] ⟨.agg J J T.bK J J,.tmp J,tV⟩ (cA3 (fun x0 x1 x2=>rV [agg [fre w0.heap.size (sl 1 rE_ x0),fre w0.heap.size (sl 1 gE x1)],int x2]) hr0 hr1 hr2) trivial eX
  ·try simp at hc1
   have hse:eG (t.aC.length:Int) u=true:=by simpa using hc1
   obtain⟨hu0,hu1⟩:=Gf ht.n8 hse
   have hd:bN m t u=cW (bC m t).1 (bC m t).2 u:=by unfold bN;rw[if_pos hc0,if_pos hse]
   have hgk:(bC m t).2=true→oK (bC m t).1∧(bC m t).1.sT.length≤500:=fun h=>⟨(sX hm ht h).1,(sX hm ht h).2.1⟩
   refine sk (th (sq (rg (lPA J J T.bK J (lPA J J T.aW J (tbU (ψ:=tab) 26 9999 J J (aZ (φs:= [both (agg [sl 1 rE_ m.aC,sl 1 gE m.sT]) tab,agg [sl 1 rE_ t.aC,sl 2 sE t.sT]]) (φ:=tup [agg [sl 1 rE_ ((bC m t).1).aC,sl 2 sE ((bC m t).1).sT],bl ((bC m t).2)]) ⟨J,J,tV⟩ (mkg.GP m aS t aS aS) T.Rh (mv (xt J J (xt J J (al (key:=9) T.z28 (eC (eC eZ)) fun b9=>(sPA (cs':= [sl 1 rE_ ((bC m t).1).aC,sl 2 sE ((bC m t).1).sT]) J J J T.aW J J (ag (nl (th (sq (rg (lPA J J T.aW J (mv (mv (tbU (ψ:=tab) 31 9999 J J (lB (φs:= [both (agg [sl 1 rE_ ((bC m t).1).aC,sl 2 sE ((bC m t).1).sT]) tab,bl ((bC m t).2),int u]) (φ:=tup [agg [fre w0.heap.size (sl 1 rE_ ((cW ((bC m t).1) ((bC m t).2) u).1).aC),fre w0.heap.size (sl 1 gE ((cW ((bC m t).1) ((bC m t).2) u).1).sT)],int ((cW ((bC m t).1) ((bC m t).2) u).2)]) ⟨J,J,J,tV⟩ (mkr.TR ((bC m t).1) ((bC m t).2) aS u O O) T.Xq (fun N hN=>fun h=>uR (cs:= [agg [fre N (sl 1 rE_ ((cW ((bC m t).1) ((bC m t).2) u).1).aC),fre N (sl 1 gE ((cW ((bC m t).1) ((bC m t).2) u).1).sT)],int ((cW ((bC m t).1) ((bC m t).2) u).2)]) (ds:= [agg [fre w0.heap.size (sl 1 rE_ ((cW ((bC m t).1) ((bC m t).2) u).1).aC),fre w0.heap.size (sl 1 gE ((cW ((bC m t).1) ((bC m t).2) u).1).sT)],int ((cW ((bC m t).1) ((bC m t).2) u).2)]) ⟨fun h=>jR (cs:= [fre N (sl 1 rE_ ((cW ((bC m t).1) ((bC m t).2) u).1).aC),fre N (sl 1 gE ((cW ((bC m t).1) ((bC m t).2) u).1).sT)]) (ds:= [fre w0.heap.size (sl 1 rE_ ((cW ((bC m t).1) ((bC m t).2) u).1).aC),fre w0.heap.size (sl 1 gE ((cW ((bC m t).1) ((bC m t).2) u).1).sT)]) ⟨fun h=>jS hN h,fun h=>jS hN h,tV⟩ h,fun h=>h,tV⟩ h) (xt J J (xt J J (sPA (cs':= [fre w0.heap.size (sl 1 rE_ ((cW ((bC m t).1) ((bC m t).2) u).1).aC),fre w0.heap.size (sl 1 gE ((cW ((bC m t).1) ((bC m t).2) u).1).sT)]) J J J T.bK J J (ag (nl (th (rt ?_)))))))))))))))))))))))))))))
   have hr0:((cW ((bC m t).1) ((bC m t).2) u).1).aC=((bN m t u).1.aC):=by
    rw[hd]
   have hr1:((cW ((bC m t).1) ((bC m t).2) u).1).sT=((bN m t u).1.sT):=by
    rw[hd]
   have hr2:(((cW ((bC m t).1) ((bC m t).2) u).2):Int)=((bN m t u).2):=by
    rw[hd]
   exact rE () [.cell 6 25,.tmp 7] J [agg [fre w0.heap.size (sl 1 rE_ ((cW ((bC m t).1) ((bC m t).2) u).1).aC),fre w0.heap.size (sl 1 gE ((cW ((bC m t).1) ((bC m t).2) u).1).sT)],int ((cW ((bC m t).1) ((bC m t).2) u).2)] ⟨.agg J J T.bK J J,.tmp J,tV⟩ (cA3 (fun x0 x1 x2=>rV [agg [fre w0.heap.size (sl 1 rE_ x0),fre w0.heap.size (sl 1 gE x1)],int x2]) hr0 hr1 hr2) trivial eX
theorem Qc (x m:aB) (t:SS) (hts:jE t) (u:Int) (hz:m.sT.length*x.sT.length<5000) (hz2:bU m.sT*bU x.sT≤400000):
 Fn0 Tryz.prog 30 [sys x,sys m,spec t,int u] (tup [bl (mF x m t u),int (iD x m t u)]):=by
 refine fnI Tryz.func30 rfl rfl (fun w0 F0=> ?_)
 refine fcC (bV 0 J) (fun hS0=> ?_)
 obtain⟨hma0,hms0,hme0⟩:=cQ hS0
 refine fcC (bV 1 J) (fun hS1=> ?_)
 obtain⟨hma1,hms1,hme1⟩:=cQ hS1
 refine fcC (bV 2 J) (fun hS2=> ?_)
 obtain⟨hsa2,hss2,hse2⟩:=sLn hS2
 refine sq (rg (bx (key:=4) (cs:= [sl 1 rE_ x.aC,sl 1 gE x.sT]) J fun b4=>(bx (key:=5) (cs:= [sl 1 rE_ m.aC,sl 1 gE m.sT]) J fun b5=>(bx (key:=6) (cs:= [sl 1 rE_ t.aC,sl 2 sE t.sT]) J fun b6=>(ag (ag (nl (th (sq (bk (sq (rg (lPA J J T.bK J (aZ (φs:= [agg [sl 1 rE_ x.aC,sl 1 gE x.sT]]) (φ:=bl (bL x)) ⟨J,tV⟩ (sysw.kB x) T.yX (no J (mv ?_))))))))))))))))
 apply gOr (t:=17) (pd:=21) rfl
 rotate_left
 ·intro hg0 fin
  have hg0':=hg0
  try simp at hg0'
  exact gy J J J hg0 (lPA J J T.bK J (gy J J J hg0 (aZ (φs:= [agg [sl 1 rE_ m.aC,sl 1 gE m.sT]]) (φ:=bl (bL m)) ⟨J,tV⟩ (sysw.kB m) T.yX (gy J J J hg0 (no J (pkF J hg0 J (drp (X:= [(20,_),(19,_),(18,_)]) ⟨J,J,J,tV⟩ fin)))))))
 ·intro hg0 fin
  exact gn J J J hg0 J J (gn J J J hg0 J J (gn J J J hg0 J J (pkT J hg0 J (drp (X:= [(20,_),(19,_),(18,_)]) ⟨J,J,J,tV⟩ fin))))
 refine ag (nl (th ?_))
 refine cd J (fun hc0=> ?_) (fun hc0=> ?_)
 ·skip
  have hxm:¬(bL x=true∧bL m=true):=fun g=>by rw[g.1,g.2] at hc0;cases hc0
  have hd:iD x m t u=20:=by unfold iD;rw[if_neg hxm]
  refine sq (rg (ag (ag (nl (th (rt (rb (rt_ ?_))))))))
  have hr0:false=(mF x m t u):=by
   rw[Ci (by rw[hd];decide)]
  have hr1:(20:Int)=(iD x m t u):=by
   rw[hd]
  exact rE () [.tmp 8,.tmp 9] J [bl false,int 20] ⟨.tmp J,.tmp J,tV⟩ (cA2 (fun x0 x1=>rV [bl x0,int x1]) hr0 hr1) trivial eX
 ·skip
  obtain⟨hxv,hmv⟩:bL x=true∧bL m=true:=by
   rw[Bool.or_eq_false_iff,Bool.not_eq_false',Bool.not_eq_false'] at hc0;exact hc0
  have hx:=eI hxv
  have hm:=eI hmv
  refine sq (rg (lPA J J T.aW J (aZ (φs:= [agg [sl 1 rE_ t.aC,sl 2 sE t.sT]]) (φ:=bl (bT t)) ⟨J,tV⟩ (prog2.kB t aS) T.QS (no J (ag (nl (th ?_)))))))
  refine cd J (fun hc1=> ?_) (fun hc1=> ?_)
  ·try simp at hc1
   have hd:iD x m t u=30:=by unfold iD;rw[if_pos ⟨hxv,hmv⟩,if_neg (by simpa using hc1)]
   refine sq (rg (ag (ag (nl (th (rt (rb (rt_ ?_))))))))
   have hr0:false=(mF x m t u):=by
    rw[Ci (by rw[hd];decide)]
   have hr1:(30:Int)=(iD x m t u):=by
    rw[hd]
   exact rE () [.tmp 8,.tmp 9] J [bl false,int 30] ⟨.tmp J,.tmp J,tV⟩ (cA2 (fun x0 x1=>rV [bl x0,int x1]) hr0 hr1) trivial eX
  ·try simp at hc1
   have htv:bT t=true:=by simpa using hc1
   have ht:=fC htv
   have hn8:=ht.n8
   refine sq (rg (fP J T.gC (lP J J J T.cK (fP J T.gC (lP J J J T.cK (aZ (φs:= [sl 1 rE_ x.aC,sl 1 rE_ m.aC]) (φ:=bl (decide (x.aC=m.aC))) ⟨J,J,tV⟩ (prog.mS _ _) T.EB (no J (mv ?_))))))))
   apply gOr (t:=33) (pd:=40) rfl
   rotate_left
   ·intro hg1 fin
    have hg1':=hg1
    try simp at hg1'
    exact gy J J J hg1 (fP J T.gC (gy J J J hg1 (lP J J J T.cK (gy J J J hg1 (fP J T.cP (gy J J J hg1 (lP J J J T.cK (gy J J J hg1 (aZ (φs:= [sl 1 rE_ x.aC,sl 1 rE_ t.aC]) (φ:=bl (decide (x.aC=t.aC))) ⟨J,J,tV⟩ (prog.mS _ _) T.EB (gy J J J hg1 (no J (pkF J hg1 J (drp (X:= [(39,_),(38,_),(37,_),(36,_),(35,_),(34,_)]) ⟨J,J,J,J,J,J,tV⟩ fin)))))))))))))
   ·intro hg1 fin
    exact gn J J J hg1 J J (gn J J J hg1 J J (gn J J J hg1 J J (gn J J J hg1 J J (gn J J J hg1 J J (gn J J J hg1 J J (pkT J hg1 J (drp (X:= [(39,_),(38,_),(37,_),(36,_),(35,_),(34,_)]) ⟨J,J,J,J,J,J,tV⟩ fin)))))))
   refine ag (nl (th ?_))
   refine cd J (fun hc2=> ?_) (fun hc2=> ?_)
   ·skip
    have hne:¬(x.aC=m.aC∧x.aC=t.aC):=fun g=>by rw[decide_eq_true g.1,decide_eq_true g.2] at hc2;cases hc2
    have hd:iD x m t u=10:=by unfold iD;rw[if_pos ⟨hxv,hmv⟩,if_pos htv,if_neg hne]
    refine sq (rg (ag (ag (nl (th (rt (rb (rt_ ?_))))))))
    have hr0:false=(mF x m t u):=by
     rw[Ci (by rw[hd];decide)]
    have hr1:(10:Int)=(iD x m t u):=by
     rw[hd]
    exact rE () [.tmp 8,.tmp 9] J [bl false,int 10] ⟨.tmp J,.tmp J,tV⟩ (cA2 (fun x0 x1=>rV [bl x0,int x1]) hr0 hr1) trivial eX
   ·skip
    obtain⟨hxm,hxt⟩:x.aC=m.aC∧x.aC=t.aC:=by
     rw[Bool.or_eq_false_iff,Bool.not_eq_false',Bool.not_eq_false'] at hc2;exact⟨of_decide_eq_true hc2.1,of_decide_eq_true hc2.2⟩
    have hbo:=TP hmv hxv hxm.symm
    refine sq (rg (fP J T.cP (lP J J J T.cK (fc (aT 43 J) fun hm43=>(lnF J T.dW (mv (aZ (φs:= [int (t.aC.length:Int),int u]) (φ:=bl (eG (t.aC.length:Int) u)) ⟨J,J,tV⟩ (mkk.Mm (t.aC.length:Int) u O O) T.Ri (no J (ag (nl (th ?_)))))))))))
    refine cd J (fun hc3=> ?_) (fun hc3=> ?_)
    ·skip
     have hns:¬eG (t.aC.length:Int) u=true:=fun g=>by rw[g] at hc3;cases hc3
     have hd:iD x m t u=1:=by unfold iD;rw[if_pos ⟨hxv,hmv⟩,if_pos htv,if_pos ⟨hxm,hxt⟩,if_neg hns]
     refine sq (rg (ag (ag (nl (th (rt (rb (rt_ ?_))))))))
     have hr0:false=(mF x m t u):=by
      rw[Ci (by rw[hd];decide)]
     have hr1:(1:Int)=(iD x m t u):=by
      rw[hd]
     exact rE () [.tmp 8,.tmp 9] J [bl false,int 1] ⟨.tmp J,.tmp J,tV⟩ (cA2 (fun x0 x1=>rV [bl x0,int x1]) hr0 hr1) trivial eX
    ·skip
     have hse:eG (t.aC.length:Int) u=true:=by simpa using hc3
     obtain⟨hu0,hu1⟩:=Gf ht.n8 hse
     have hd:iD x m t u=0:=by unfold iD;rw[if_pos ⟨hxv,hmv⟩,if_pos htv,if_pos ⟨hxm,hxt⟩,if_pos hse]
     refine sk (eb (th (sq (rg (lPA J J T.bK J (lPA J J T.bK J (cl (prodw.Kj m x aS aS) T.Xr trivial fun N51 i51=>(mv (xt J J (xt J J (xt J J (al (key:=10) T.z25 (eC (eC eZ)) fun b10=>(sPA (cs':= [sl 1 rE_ i51.1.1.aC,sl 1 gE i51.1.1.sT]) J J J T.bK J J (ag (ag (nl (th (sq (sq (rg (mv (bi J J fR (nl (th ?_))))))))))))))))))))))))
     refine cd J (fun hc4=> ?_) (fun hc4=> ?_)
     ·try simp at hc4
      exact absurd hbo (by simpa using hc4)
     ·try simp at hc4
      have hPk:=i51.2.2 hbo
      have hkv:=Xm hmv hxv hPk hz hz2
      have hkk:=eI hkv
      refine sk (th (sq (rg (lPA J J T.bK J (lPA J J T.aW J (cl (satj.Pb i51.1.1 aS t aS) T.Xs trivial fun N60 i60=>(UR J T.TQ T.eP J (mv ?_))))))))
      apply cZ (t:=62) (pd:=66) rfl
      rotate_left
      ·intro hg2 fin
       have hg2':=hg2
       try simp at hg2'
       exact gy J J J hg2 (lPA J J T.bK J (gy J J J hg2 (mv (gy J J J hg2 (aZ (φs:= [agg [sl 1 rE_ x.aC,sl 1 gE x.sT],int u]) (φ:=bl (jI x u)) ⟨J,J,tV⟩ (mkp.Pn x aS u O O) T.Xt (pkT J hg2 J (drp (X:= [(65,_),(64,_),(63,_)]) ⟨J,J,J,tV⟩ fin)))))))
      ·intro hg2 fin
       exact gn J J J hg2 J J (gn J J J hg2 J J (gn J J J hg2 J J (pkF J hg2 J (drp (X:= [(65,_),(64,_),(63,_)]) ⟨J,J,J,tV⟩ fin))))
      refine ag (ag (nl (th (rt ?_))))
      have hr0:(i60.1.holds&&(jI x u))=(mF x m t u):=by
       rw[Nh hm hx ht hPk hkk i60.2 hd]
      have hr1:(0:Int)=(iD x m t u):=by
       rw[hd]
      exact rE () [.tmp 8,.tmp 9] J [bl (i60.1.holds&&(jI x u)),int 0] ⟨.tmp J,.tmp J,tV⟩ (cA2 (fun x0 x1=>rV [bl x0,int x1]) hr0 hr1) trivial eX
end mkr
end
section
namespace LeadM
open ref01 ref03 ref04 ref06 Part Rungs LeftM TrimM RoundM MergeM BisM BisM3 BisM4 BisM5 BisM6 Keys WalkM WitM JudgM JudgM2 LevM divr divs divd dive divf divv judg sysw satj ChsM BisS TrimI QuoM FailM DivM RefM GenW CompM CompP CrossM FitM TogM KeepK GuardM MakeM LsysM LsysM2 GuaW
def fI (m:aB) (t:SS) (a:Nat) (l:LP):LP:=l.flatMap fun p=>(dB m [p.1] (a:Int)).map fun k=>((k,ix (nxt t p.2.toNat) a):PP)
theorem Ni {m:aB} {t:SS} {a:Nat} {l:LP} {k:Nat} (hk:k<l.length):fI m t a (l.take (k+1))=fI m t a (l.take k)++(dB m [(ix l k).1] (a:Int)).map fun x=>((x,ix (nxt t (ix l k).2.toNat) a):PP):=by
 unfold fI
 rw[bJ hk,List.flatMap_append];simp
theorem Qd {m:aB} (hm:bE m) {t:SS} {a:Nat} {l:LP} (hl:gOk m t l) {q:PP}:q∈fI m t a l↔∃p∈l,∃e∈edg m p.1.toNat,e.1=(a:Int)∧e.2=q.1∧ix (nxt t p.2.toNat) a=q.2:=by
 unfold fI
 rw[List.mem_flatMap]
 constructor
 ·rintro⟨p,hp,h⟩
  obtain⟨x,hx,rfl⟩:=List.mem_map.1 h
  obtain⟨k,rfl,_,y,hy,e,he,h1,h2⟩:=Ag.1 hx
  rw[List.mem_singleton.1 hy] at he
  exact⟨p,hp,e,he,h1,h2,rfl⟩
 ·rintro⟨p,hp,e,he,h1,h2,h3⟩
  have hb:=jU hl hp
  have:=hm.ed p.1.toNat O e he
  refine⟨p,hp,List.mem_map.2 ⟨q.1,Ag.2 ⟨q.1.toNat,O,O,p.1,List.mem_singleton.2 rfl,e,he,h1,O⟩,Prod.ext rfl h3⟩⟩
def mG (n:Nat) (vis:LP) (x k:Nat):LP:=((List.range k).filter fun(y:Nat)=>decide (((x:Int),(y:Int))∈vis)).map fun(y:Nat)=>(((x:Int),(y:Int)):PP)
def qR (n:Nat) (vis:LP) (k:Nat):LP:=(List.range k).flatMap fun(x:Nat)=>mG n vis x n
theorem Qe {n:Nat} {vis:LP} {x k:Nat} (h:((x:Int),(k:Int))∈vis):mG n vis x (k+1)=mG n vis x k++ [((x:Int),(k:Int))]:=by
 unfold mG
 rw[List.range_succ,List.filter_append,List.map_append]
 simp[h]
theorem TS {n:Nat} {vis:LP} {x k:Nat} (h:((x:Int),(k:Int))∉vis):mG n vis x (k+1)=mG n vis x k:=by
 unfold mG
 rw[List.range_succ,List.filter_append,List.map_append]
 simp[h]
theorem GV {n:Nat} {vis:LP} {x k:Nat}:(mG n vis x k).length≤k:=by
 unfold mG
 rw[List.length_map]
 exact Nat.le_trans (List.length_filter_le _ _) (by simp)
theorem Ee {n:Nat} {vis:LP} {k:Nat}:qR n vis (k+1)=qR n vis k++mG n vis k n:=by
 unfold qR
 rw[List.range_succ,List.flatMap_append];simp
theorem GX {n:Nat} {vis:LP}:∀{k:Nat},(qR n vis k).length≤k*n
 |0=>by simp[qR]
 |k+1=>by
  rw[Ee,List.length_append,Nat.succ_mul]
  exact Nat.add_le_add GX GV
theorem Qf {n k:Nat} {vis:LP}:qR n vis k=(oN k n).filter fun q=>decide (q∈vis):=by
 unfold qR oN mG
 rw[List.filter_flatMap]
 congr 1
 funext x
 rw[List.filter_map];rfl
theorem Qg {m:aB} (hm:bE m) {t:SS} {a:Nat} {l:LP} (hl:gOk m t l):qR t.sT.length (fI m t a l) m.sT.length=gN m t l a:=by
 rw[Qf]
 unfold GuardM.gN
 refine List.filter_congr fun q _=> ?_
 rw[Bool.eq_iff_iff,decide_eq_true_eq]
 rw[Qd hm hl,List.any_eq_true]
 constructor
 ·rintro⟨p,hp,e,he,k⟩
  exact⟨p,hp,List.any_eq_true.2 ⟨e,he,decide_eq_true k⟩⟩
 ·rintro⟨p,hp,g⟩
  obtain⟨e,he,k⟩:=List.any_eq_true.1 g
  exact⟨p,hp,e,he,of_decide_eq_true k⟩
theorem CY {α:Type} [DecidableEq α] {l:List α} {q:α} (h:q∉l):pxa l q=l.length:=by
 show l.idxOf q=l.length
 first
  |exact List.idxOf_eq_length h
  |exact List.idxOf_eq_length_iff.2 h
theorem Qh {α:Type} [DecidableEq α] [Inhabited α] {l:List α} {q:α} {k:Nat} (hk:k≤l.length) (h:∀j,j<k→ix l j≠q) (hs:k=l.length∨ix l k=q):k=pxa l q:=by
 rcases hs with e|e
 ·subst e
  have hn:q∉l:=fun hq=>by
   obtain⟨j,hj,e⟩:=List.getElem_of_mem hq
   exact h j hj (by rw[aF hj];exact e)
  exact(CY hn).symm
 ·by_cases hkl:k<l.length
  ·have hq:q∈l:=by rw[←e];exact aX hkl
   have h1:pxa l q≤k:=QuoM.FQ hkl e
   have h2:=QuoM.sM hq
   have h2:ix l (pxa l q)=q:=h2
   rcases Nat.lt_or_ge (pxa l q) k with g|g
   ·exact absurd h2 (h _ g)
   ·omega
  ·have hn:q∉l:=fun hq=>by
    obtain⟨j,hj,e⟩:=List.getElem_of_mem hq
    exact h j O (by rw[aF hj];exact e)
   have:pxa l q=l.length:=CY hn
   omega
theorem TT {α:Type} [DecidableEq α] [Inhabited α] {l:List α} {q:α} (h:pxa l q=l.length):dL l q=l++ [q]:=by
 unfold dL
 rw[if_neg]
 intro hq
 have:pxa l q<l.length:=QuoM.vA hq
 omega
theorem TU {α:Type} [DecidableEq α] [Inhabited α] {l:List α} {q:α} (h:pxa l q<l.length):dL l q=l:=by
 unfold dL
 rw[if_pos]
 refine Classical.byContradiction fun hq=> ?_
 have:pxa l q=l.length:=CY hq
 omega
structure yC (m:aB) (t:SS) (z:SS × Bool):Prop where
 yes:z.2=true→∃l,Gh m t l z.1∧l.length≤10000
 no:z.2=false→z.1=⟨[],[]⟩
theorem TV (m:aB) (t:SS):yC m t (⟨[],[]⟩,false):=⟨fun h=>(nomatch h),fun _=>rfl⟩
theorem Qi {m:aB} {t:SS} (ht:oK t) {i:Nat} {l:List LP} {aJ:List SA} (hw:HW (gA m t) (gN m t) (gOk m t) [(0,0)] t.aC.length i l aJ) (hi:l.length≤i) (hi2:i≤10000):yC m t (⟨t.aC,aJ⟩,true):=by
 have hd:=SI (Ap ht) hw hi t.aC
 exact⟨fun _=>⟨l,⟨hd.1,hw.okl,rfl⟩,O⟩,fun h=>(nomatch h)⟩
end LeadM
end
section
open ref01 ref03 ref04 ref06 prog prog2 prog3 prog6 prog13 Part Rungs LeftM TrimM RoundM MergeM BisM BisM4 BisM5 WalkM StepM WitM JudgM JudgM2 refw judg wit refj sysw divr divs divd dive divg divw divv divf LevM LevM2
namespace divc
end divc
end
section
open ref01 ref03 ref04 ref06 prog prog2 prog3 prog6 prog13 Part Rungs LeftM TrimM RoundM MergeM BisM BisM4 BisM5 WalkM StepM WitM JudgM JudgM2 refw judg wit refj sysw divr divs divd dive divg divw divv LevM LevM2 QuoM FailM FitM
namespace divj
end divj
end
section
open ref01 ref03 ref04 ref06 prog prog2 prog3 prog4 prog6 prog13 Part Rungs LeftM TrimM RoundM MergeM BisM BisM4 BisM5 WalkM StepM WitM JudgM JudgM2 refw judg wit refj sysw divr divs divd dive divg divw divv divf divc LevM LevM2 ChsM QuoM FailM DivM QuoW
namespace T
theorem z173:eW Tryz.prog 173 [.slice none 0 0]:=cY kR
theorem z171:eW Tryz.prog 171 [.int .i64 0,.int .i64 0,.int .i64 0]:=cY kR
end T
namespace divq
end divq
end
section
open ref01 ref03 ref04 ref06 prog prog2 prog3 prog6 prog13 starts Part Rungs LeftM TrimM RoundM MergeM BisM BisM4 BisM5 WalkM StepM WitM JudgM JudgM2 refw judg wit refj sysw divr divs divd dive divg divw divv divf divc divj divq divp LevM LevM2 ChsM QuoM FailM DivM QuoW RefM
namespace divm
end divm
end
section
open ref01 ref03 ref04 ref06 prog prog2 prog3 prog6 prog13 starts Part Rungs LeftM TrimM RoundM MergeM BisM BisM4 BisM5 WalkM StepM WitM JudgM JudgM2 refw judg wit refj sysw divr divs divd dive divg divw divv divf divc divj divq divp divm LevM LevM2 ChsM QuoM FailM DivM QuoW RefM FitM PartM EncM
namespace diva
end diva
end
section
open ref01 ref03 ref04 ref06 prog prog2 prog3 prog6 prog13 starts Part Rungs LeftM TrimM RoundM MergeM BisM BisM4 BisM5 WalkM StepM WitM JudgM JudgM2 refw judg wit refj sysw divr divs divd dive divg divw divv divf divc divj divq divp divm diva LevM LevM2 ChsM QuoM FailM DivM QuoW RefM FitM PartM EncM TogM
theorem Wq {t:SS} {z u:Int} (h:0≤z):Ad t z u=decide (u∈acc t z.toNat):=by unfold Ad;simp[h]
namespace divt
end divt
end
end Go.Proofs.YtnlfjojfgghchaaGreatDoor
