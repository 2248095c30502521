/- The walks of the functions and the plain laws. Own texts of this claim, packed: Mkmkr, MkLeadM, Mkdivc, Mkdivj, Mkdivq, Mkdivm, Mkdiva, Mkdivt. -/
import Derived.Test.YtnlfjojfgghchaaGreatDoorX28
import Derived.Test.YtnlfjojfgghchaaGreatDoorX22
import Derived.Test.YtnlfjojfgghchaaGreatDoorX16
import Derived.Test.YtnlfjojfgghchaaGreatDoorX14
import Derived.Test.YtnlfjojfgghchaaGreatDoorX15
import Derived.Test.YtnlfjojfgghchaaGreatDoorX06
import Derived.Test.YtnlfjojfgghchaaGreatDoorX19
set_option linter.all false
namespace Go.Proofs.YtnlfjojfgghchaaGreatDoor
open AL Go
set_option maxRecDepth 100000
section
open ref01 ref03 ref04 ref06 prog prog2 prog3 prog4 prog5 prog6 prog7 prog8 prog9 prog15 Part Rungs LeftM TrimM RoundM MergeM BisM BisM4 BisM5 Itoa Keys WalkM StepM WitM JudgM JudgM2 search refw judg wit refj sysw satj divr divs divd dive divv TrimI QuoM FailM DivM FitM TogM ProdM prodw GenW CompM CrossM KeepK GuardM MakeM LsysM LsysM2 MakeM2 KeepB AtM ClsM LstM MakeM3 GuaW ValidM mkk mkp mkl mkc mkq mkg
theorem HY {f:FuncId} {w:World} {F:Fz} {v:Value} (h:(agg [eqv (.func (.func f) #[] #[])]).p w F v):(agg [clo f []]).p w F v:=dY (cs:= [eqv (.func (.func f) #[] #[])]) (ds:= [clo f []]) ⟨fun h=>Vs h,tV⟩ h
theorem HZ {l:List Int} {m:Nat} {a:Int} (nx:List Int) (h:l[m]?=some a):(l.take (m+1)).map (fun(a:Int)=>((a,ix nx a.toNat):Int × Int))=(l.take m).map (fun(a:Int)=>((a,ix nx a.toNat):Int × Int))++ [(a,ix nx a.toNat)]:=by
 rw[List.take_succ,h,List.map_append];rfl
theorem EM {s:SS} {u:Int}:bW s false u=(⟨[],[]⟩,2):=by unfold bW;simp
theorem Ia {s:SS} {u:Int} (h:ix (hOl (tR (aM u s)).1) 0=true):bW s true u=(⟨[],[]⟩,3):=by unfold bW;simp[h]
theorem Kr {s:SS} {u:Int} (h:ix (hOl (tR (aM u s)).1) 0=false):bW s true u=(eG lgC (tR (aM u s)).1,0):=by unfold bW;simp[h]
theorem WS {m n k:aA} {q:List (Int × Int)} (hm:bR m=true) (hn:bR n=true) (h:mT m n k q) (hz:m.sT.length*n.sT.length<5000) (hz2:bV m.sT*bV n.sT≤400000):bR k=true:=
 Ls hm hn h (by have:=Qi h;omega) (Nat.le_trans (Qj h) (Nat.le_trans (JS h.nd h.box _) hz2))
noncomputable def bM (m:aA) (t:SS) (u:Int):aA × Int:=
 if dF m t=0 then(if eI (t.aC.length:Int) u=true then bW (aW m t).1 (aW m t).2 u else(⟨[],[]⟩,1)) else(⟨[],[]⟩,dF m t)
noncomputable def gW (x m:aA) (t:SS) (u:Int):Int:=
 if bR x=true∧bR m=true then(if cK t=true then(if x.aC=m.aC∧x.aC=t.aC then(if eI (t.aC.length:Int) u=true then 0 else 1) else 10) else 30) else 20
noncomputable def mE (x m:aA) (t:SS) (u:Int):Bool:=decide (gW x m t u=0)&&(@decide (wV m x t) (Classical.propDecidable _)&&jQ x u)
theorem Oo {m x k:aA} {t:SS} {u:Int} {q:List (Int × Int)} {v:VJ} (hm:bL m) (hx:bL x) (ht:oK t) (h:mT m x k q) (hk:bL k) (hv:zU k t v) (hd:gW x m t u=0):mE x m t u=(v.holds&&jQ x u):=by
 unfold mE
 rw[hd,decide_eq_true rfl,Bool.true_and]
 congr 1
 rw[Bool.eq_iff_iff,MY hv,Qh hm hx ht h];simp
theorem CE {x m:aA} {t:SS} {u:Int} (h:gW x m t u≠0):mE x m t u=false:=by unfold mE;rw[decide_eq_false h,Bool.false_and]
theorem Ug {m x:aA} (hm:bR m=true) (hx:bR x=true) (h:m.aC=x.aC):iH m x=0:=by unfold iH;rw[if_pos hm,if_pos hx,if_pos h]
namespace T
theorem z87:eP Tryz.prog 87 [.slice none 0 0]:=cT kR
theorem Ib:eK Tryz.prog 104 0 0:=dN kR
theorem Oq:dK Tryz.prog 102:=eL kR
theorem We:Ent Tryz.prog 111:=aZ kR
theorem Ot:Ent Tryz.prog 121:=aZ kR
theorem WT:Ent Tryz.prog 74:=aZ kR
theorem RJ:Ent Tryz.prog 72:=aZ kR
theorem RL:iU Tryz.prog 104 [(0,1)] [.nilFunc]:=iN kR kR
theorem RO:Ent Tryz.prog 75:=aZ kR
theorem Fq:Ent Tryz.prog 61:=aZ kR
theorem RP:Ent Tryz.prog 62:=aZ kR
theorem WU:Ent Tryz.prog 69:=aZ kR
theorem WV:Ent Tryz.prog 70:=aZ kR
theorem Uh:Gr Tryz.prog 68 0 0 4:=Ju kR
theorem WW:Ent Tryz.prog 71:=aZ kR
end T
namespace mkr
theorem QI (s:SS) (hs:oK s) (hf:s.sT.length≤500) (hne:∀y,y<s.sT.length→acc s y≠[]):
 AL.Fn Tryz.prog 75 [agg [clo 111 []],jA (spec s)] [] (ι:=Unit) (fun N _=>agg [fre N (strs s.aC),fre N (sl 1 gE (eG lgC s).sT)]) (fun _=> []):=by
 refine fnI Tryz.func75 rfl rfl (fun w0 F0=> ?_)
 have f1:=hs.few1;have hn8:=hs.n8;have hc:=Og hne;have hmv:=EH hs hc hf
 refine tbI 1 9999 rfl ?_
 refine uK (ψ:=tab) 9999 997 rfl ?_
 refine fcC (cG 1 J) (fun hS1=> ?_)
 obtain⟨hsa1,hss1,hse1⟩:=sLn hS1
 refine sq (rg (bx (key:=2) (cs:= [clo 111 []]) J fun b2=>(bx (key:=3) (cs:= [sl 1 rE_ s.aC,sl 2 sE s.sT]) J fun b3=>(al (key:=4) T.z25 (eC (eC eZ)) fun b4=>(nl (th (sq (rg (fP J T.cD (lP J J J T.bZ (eW (φs:= [sl 1 rE_ s.aC]) (φ:=sl 1 rE_ s.aC) ⟨J,tV⟩ (prog.dW _ O) T.mZ (fun N hN=>fun h=>eS h) (bd (css:= [(0,_)]) T.kQ (eC (eC eZ)) ⟨J,J,p1 (φ:=sl 1 rE_ s.aC) J,tV⟩ (al (key:=5) T.z25 (eC (eC eZ)) fun b5=>(sPA (cs':= [sl 1 rE_ s.aC,eqv (.slice none 0 0)]) J J J T.aY J J (nl (th (sq (sq (rg (fP J T.bE (lP J J J T.bP (fc (bB 15 J) fun hm15=>(lnF J T.cR (mv (nl (th (bk ?_)))))))))))))))))))))))))))
 refine nwC 50 87 1 gE (jY 5 1 (osl 50 (.slice none 0 0)) rfl rfl cU ?_)
 have hI0_0:0≤s.sT.length:=by
  first|omega|simp
 have hI0_1:([]:List (List (Int × Int)))=mkO (lgC s) s 0:=by
  rfl
 refine lp (κ:=Nat × Value × (List (List (Int × Int)))) (fun p=> [(2,ptr 2 b2 0),(4,ptr 4 b4 0),(5,ptr 5 b5 0),(15,sl 2 sE s.sT),(16,int (s.sT.length:Int)),(17,int (p.1:Int)),(9999,tab)]) (fun p=> [(2,cell b2 [clo 111 []]),(3,cell b3 [sl 1 rE_ s.aC,sl 2 sE s.sT]),(4,cell b4 [eqv (.slice none 0 0),eqv (.slice none 0 0)]),(5,cell b5 [sl 1 rE_ s.aC,osl 50 p.2.1]),(50,own p.2.1 87 1 gE p.2.2),(997,cV tab)]) (fun p=>(p.1≤s.sT.length)∧(p.2.2=mkO (lgC s) s p.1)) (fun p=>s.sT.length- p.1) ⟨0,(.slice none 0 0),([]:List (List (Int × Int)))⟩ ⟨hI0_0,hI0_1⟩ ⟨id,id,id,id,id,id,id,tV⟩ ⟨rI,rI,rI,rI,rI,rI,tV⟩ ?_
 intro⟨k,uo,aD⟩ hG0
 obtain⟨hk0,houts⟩:(k≤s.sT.length)∧(aD=mkO (lgC s) s k):=hG0
 show Ct _ _ _ _ [(2,ptr 2 b2 0),(4,ptr 4 b4 0),(5,ptr 5 b5 0),(15,sl 2 sE s.sT),(16,int (s.sT.length:Int)),(17,int (k:Int)),(9999,tab)] [(2,cell b2 [clo 111 []]),(3,cell b3 [sl 1 rE_ s.aC,sl 2 sE s.sT]),(4,cell b4 [eqv (.slice none 0 0),eqv (.slice none 0 0)]),(5,cell b5 [sl 1 rE_ s.aC,osl 50 uo]),(50,own uo 87 1 gE aD),(997,cV tab)] _
 have hol:aD.length≤500:=by rw[houts,Kh];omega
 refine sq (rg (bi J J bA (nl (th (sq ?_)))))
 refine cd J (fun hc0=> ?_) (fun hc0=> ?_)
 ·try simp at hc0
  have hst:=hs.st k O
  have hsl:=hst.len
  have hac:=hst.ac
  have hcin:(gR (ix s.sT k).aP)∈acc s k:=hc k O
  have hal:0<(ix s.sT k).aP.length:=List.length_pos_iff.2 (hne k O)
  have hcb:0≤(gR (ix s.sT k).aP)∧(gR (ix s.sT k).aP)<256:=CompM.sI hs O _ hcin
  have hcut:aL 63 (gR (ix s.sT k).aP)=aL s.aC.length (gR (ix s.sT k).aP):=Kj hs O hcin
  refine sk (th (sq (bk (sq (rg (iF J J T.cR O gB (lFA J T.cX (Nat.le_of_ble_eq_true J) (al (key:=7) T.z79 (eC (eC eZ)) fun b7=>(sPA (cs':= [sl 1 nE (ix s.sT k).aP,sl 1 nE (ix s.sT k).next]) J J J T.cX J J (nl (th (sq (rg (al (key:=8) T.z87 (eC eZ) fun b8=>(nl (th (sq (sq (rg (fP J T.Ib (lP J J J T.Oq (fP J T.cE (lP J J J T.aQ (Re (φs:= [sl 1 nE (ix s.sT k).aP]) (φ:=int (gR (ix s.sT k).aP)) J ⟨J,tV⟩ (Lv (ix s.sT k).aP hal hac) T.We (bC (φs:= [int (gR (ix s.sT k).aP)]) (φ:=clo 137 [fp [int (gR (ix s.sT k).aP)]]) ⟨J,tV⟩ (prog3.mX (gR (ix s.sT k).aP)) T.mY (nl (th (bk (nwC 80 94 2 pE (jY 8 0 (osl 80 (.slice none 0 0)) J J cU ?_))))))))))))))))))))))))))))))
  have hR0:([]:List (Int × Int))=((aL 63 (gR (ix s.sT k).aP)).take 0).map (fun(a:Int)=>((a,ix (ix s.sT k).next a.toNat):Int × Int)):=by
   rfl
  refine rf (κ:=Value × (List (Int × Int))) 900 (fun p=> [(2,cell b2 [clo 111 []]),(3,cell b3 [sl 1 rE_ s.aC,sl 2 sE s.sT]),(4,cell b4 [eqv (.slice none 0 0),eqv (.slice none 0 0)]),(5,cell b5 [sl 1 rE_ s.aC,osl 50 uo]),(7,cell b7 [sl 1 nE (ix s.sT k).aP,sl 1 nE (ix s.sT k).next]),(8,cell b8 [osl 80 p.1]),(50,own uo 87 1 gE aD),(80,own p.1 94 2 pE p.2),(997,cV tab)]) (fun iR p=>p.2=((aL 63 (gR (ix s.sT k).aP)).take iR).map (fun(a:Int)=>((a,ix (ix s.sT k).next a.toNat):Int × Int))) (fun c p=>False) J (qX (gR (ix s.sT k).aP) O O) T.kW J (fun _=>J) (fun _=>J) ⟨(.slice none 0 0),([]:List (Int × Int))⟩ hR0 ⟨rI,rI,rI,rI,rI,rI,rI,rI,rI,tV⟩ ?_ ?_ (fun k h=>h.elim) (fun id k h=>h.elim) (fun c k h=>h.elim)
  ·intro m0 ⟨u8x,l1⟩ x0 hG0 hx0 l R w1 M1 F1 hRd
   have hR0:l1=((aL 63 (gR (ix s.sT k).aP)).take m0).map (fun(a:Int)=>((a,ix (ix s.sT k).next a.toNat):Int × Int)):=hG0
   show Ct _ _ _ _ _ ((900,obj l (.loop R)):: [(2,cell b2 [clo 111 []]),(3,cell b3 [sl 1 rE_ s.aC,sl 2 sE s.sT]),(4,cell b4 [eqv (.slice none 0 0),eqv (.slice none 0 0)]),(5,cell b5 [sl 1 rE_ s.aC,osl 50 uo]),(7,cell b7 [sl 1 nE (ix s.sT k).aP,sl 1 nE (ix s.sT k).next]),(8,cell b8 [osl 80 u8x]),(50,own uo 87 1 gE aD),(80,own u8x 94 2 pE l1),(997,cV tab)]) _
   have hm63:m0<63:=by
    have h1:=(List.getElem?_eq_some_iff.1 hx0).1
    have h2:=Bb (gR (ix s.sT k).aP)
    omega
   have hl1l:l1.length≤63:=by rw[hR0,List.length_map,List.length_take];omega
   obtain⟨a,rfl,ha63,hha⟩:=fZ hx0
   have hgo:=rK hs (x:=k) O ((cS _ _).2 ⟨_,hcin,hha⟩)
   have hgo2:0≤ix (ix s.sT k).next a∧ix (ix s.sT k).next a<(s.sT.length:Int):=hgo.2
   refine rg (ag (nl (aq hRd J (bk (dr (nh:=9) [0,0,0,4,0,28,60,126,254,511,1023] T.mixed kR ?_)))))
   refine st_ J (fun _ _ _ gq kq=>lP (gq.1.trans J) J J T.fT kq) ?_
   refine st_ J (fun _ _ _ gq kq=>mv' (gq.1.trans J) kq) ?_
   refine st_ J (fun _ _ _ gq kq=>fP (gq.1.trans J) T.cP kq) ?_
   refine st_ J (fun _ _ _ gq kq=>lP (gq.1.trans J) J J T.aQ kq) ?_
   refine st_ J (fun _ _ _ gq kq=>mv' (gq.1.trans J) kq) ?_
   refine st_ J (fun _ _ _ gq kq=>iF (gq.1.trans J) (gq.2.1.trans J) T.aU O gB kq) ?_
   refine st_ J (fun _ _ _ gq kq=>lF (gq.1.trans J) J T.aH kq) ?_
   refine st_ J (fun _ _ _ gq kq=>bd (css:= [(0,_),(1,_)]) T.xD (eC (eC eZ)) ⟨J,J,p1 (φ:=int (a:Int)) (by exact(gq.1.trans J)),⟨J,J,p1 (φ:=int (ix (ix s.sT k).next a)) (by exact(gq.2.1.trans J)),tV⟩⟩ kq) ?_
   refine st_ J (fun _ _ _ gq kq=>bsE (enc:=pE) (xs:= [((a:Int),ix (ix s.sT k).next a)]) (css:= [[int (a:Int),int (ix (ix s.sT k).next a)]]) T.nK ⟨J,J,pA (cs:= [int (a:Int),int (ix (ix s.sT k).next a)]) (by exact(gq.1.trans J)),tV⟩ J J J J kq) ?_
   refine pn (ap (key:=80) (zs:= [((a:Int),ix (ix s.sT k).next a)]) bU J J J T.nK (by unfold aR at*;simp;omega) (by unfold aR at*;simp;omega) fun v37=>(bQ J J J J T.fT J (nl (eb ?_))))
   have hN0:(l1++ [((a:Int),ix (ix s.sT k).next a)])=((aL 63 (gR (ix s.sT k).aP)).take (m0+1)).map (fun(a:Int)=>((a,ix (ix s.sT k).next a.toNat):Int × Int)):=by
    rw[HZ _ hx0,←hR0,Int.toNat_natCast]
   exact rqN ⟨v37,l1++ [((a:Int),ix (ix s.sT k).next a)]⟩ hN0 ⟨rI,rI,rI,rI,rI,rI,rI,rI,rI,rI,tV⟩
  ·intro⟨u8x,l1⟩ hG0
   have hR0:l1=((aL 63 (gR (ix s.sT k).aP)).take (aL 63 (gR (ix s.sT k).aP)).length).map (fun(a:Int)=>((a,ix (ix s.sT k).next a.toNat):Int × Int)):=hG0
   show At _ _ _ _ [(2,cell b2 [clo 111 []]),(3,cell b3 [sl 1 rE_ s.aC,sl 2 sE s.sT]),(4,cell b4 [eqv (.slice none 0 0),eqv (.slice none 0 0)]),(5,cell b5 [sl 1 rE_ s.aC,osl 50 uo]),(7,cell b7 [sl 1 nE (ix s.sT k).aP,sl 1 nE (ix s.sT k).next]),(8,cell b8 [osl 80 u8x]),(50,own uo 87 1 gE aD),(80,own u8x 94 2 pE l1),(997,cV tab)]
   refine eb (th (rg (fP rfl T.bX (lP rfl rfl rfl T.dB (lP rfl rfl rfl T.fT (fz 80 40 rfl rfl (bsE (enc:=gE) (xs:= [l1]) (css:= [[sl 2 pE l1]]) T.pO ⟨rfl,rfl,p1 (φ:=sl 2 pE l1) rfl,tV⟩ rfl rfl rfl rfl (ap (key:=50) (zs:= [l1]) bU rfl rfl rfl T.pO (by unfold aR at*;simp;omega) (by unfold aR at*;simp;omega) fun v42=>(fP rfl T.bX (bQ rfl rfl rfl rfl T.dB rfl (nl (eb (th (rg (bi rfl rfl (aN i6) (mv (nl ?_)))))))))))))))))
   have hN0:(k+1)≤s.sT.length:=by
    first|omega|simp_all
   have hN1:(aD++ [l1])=mkO (lgC s) s (k+1):=by
    rw[HL,houts,hR0,List.take_length,hcut];rfl
   exact ln (⟨k+1,v42,aD++ [l1]⟩:Nat × Value × (List (List (Int × Int)))) ⟨hN0,hN1⟩ dO ⟨id,id,id,id,id,id,id,tV⟩ ⟨rI,rI,rI,rI,rI,rI,tV⟩
 ·try simp at hc0
  refine ex (xt_ (xt_ (xb (th (sq (rg (fzc 5 50 1 J J J J (lPA J J T.aY J (kn 46 (sys (mkM (lgC s) s)) J (by rw[show aD=(mkM (lgC s) s).sT by rw[houts,show k=s.sT.length by omega];exact Ki _ _];exact fun h=>h) (tbU (ψ:=tab) 46 9999 J J (OQ (φs:= [both (agg [sl 1 rE_ (mkM (lgC s) s).aC,sl 1 gE (mkM (lgC s) s).sT]) tab]) ⟨J,tV⟩ (mkq.HJ (mkM (lgC s) s) aS) T.Ot trivial fun N47 i47 hN47=>(kd (φ':=tup [agg [fre w0.heap.size (sl 1 rE_ (cO (mkM (lgC s) s)).aC),fre w0.heap.size (sl 1 gE (cO (mkM (lgC s) s)).sT)],sl 1 nE i47,int 0]) (fun h=>jL (cs:= [agg [fre N47 (sl 1 rE_ (cO (mkM (lgC s) s)).aC),fre N47 (sl 1 gE (cO (mkM (lgC s) s)).sT)],sl 1 nE i47,int 0]) (ds:= [agg [fre w0.heap.size (sl 1 rE_ (cO (mkM (lgC s) s)).aC),fre w0.heap.size (sl 1 gE (cO (mkM (lgC s) s)).sT)],sl 1 nE i47,int 0]) ⟨fun h=>dY (cs:= [fre N47 (sl 1 rE_ (cO (mkM (lgC s) s)).aC),fre N47 (sl 1 gE (cO (mkM (lgC s) s)).sT)]) (ds:= [fre w0.heap.size (sl 1 rE_ (cO (mkM (lgC s) s)).aC),fre w0.heap.size (sl 1 gE (cO (mkM (lgC s) s)).sT)]) ⟨fun h=>dA hN47 h,fun h=>dA hN47 h,tV⟩ h,fun h=>h,fun h=>h,tV⟩ h) (mv (xt J J (xt J J (xt J J (sPA (cs':= [fre w0.heap.size (sl 1 rE_ (cO (mkM (lgC s) s)).aC),fre w0.heap.size (sl 1 gE (cO (mkM (lgC s) s)).sT)]) J J J T.aY J J (nl (th (sq (rg (lPA J J T.aY J (sPA (cs':= [fre w0.heap.size (sl 1 rE_ (cO (mkM (lgC s) s)).aC),fre w0.heap.size (sl 1 gE (cO (mkM (lgC s) s)).sT)]) J J J T.aY J J (nl (th (rt ?_))))))))))))))))))))))))))
  have hr0:(cO (mkM (lgC s) s)).aC=s.aC:=by
   first|rfl|simp_all|omega
  have hr1:(cO (mkM (lgC s) s)).sT=(eG lgC s).sT:=by
   first|rfl|simp_all|omega
  exact rE () [.cell 4 25] J [agg [fre w0.heap.size (sl 1 rE_ (cO (mkM (lgC s) s)).aC),fre w0.heap.size (sl 1 gE (cO (mkM (lgC s) s)).sT)]] ⟨.agg J J T.aY J J,tV⟩ (cA2 (fun x0 x1=>rV [agg [fre w0.heap.size (sl 1 rE_ x0),fre w0.heap.size (sl 1 gE x1)]]) hr0 hr1) trivial eX
theorem QK (s:SS) (hs:oK s) (hf:s.sT.length≤500) (hne:∀y,y<s.sT.length→acc s y≠[]):
 AL.Fn Tryz.prog 75 [agg [clo 74 []],jA (spec s)] [] (ι:=Unit) (fun N _=>agg [fre N (strs s.aC),fre N (sl 1 gE (eG cC s).sT)]) (fun _=> []):=by
 refine fnI Tryz.func75 rfl rfl (fun w0 F0=> ?_)
 have f1:=hs.few1;have hn8:=hs.n8;have hc:=EG hne;have hmv:=EH hs hc hf
 refine tbI 1 9999 rfl ?_
 refine uK (ψ:=tab) 9999 997 rfl ?_
 refine fcC (cG 1 J) (fun hS1=> ?_)
 obtain⟨hsa1,hss1,hse1⟩:=sLn hS1
 refine sq (rg (bx (key:=2) (cs:= [clo 74 []]) J fun b2=>(bx (key:=3) (cs:= [sl 1 rE_ s.aC,sl 2 sE s.sT]) J fun b3=>(al (key:=4) T.z25 (eC (eC eZ)) fun b4=>(nl (th (sq (rg (fP J T.cD (lP J J J T.bZ (eW (φs:= [sl 1 rE_ s.aC]) (φ:=sl 1 rE_ s.aC) ⟨J,tV⟩ (prog.dW _ O) T.mZ (fun N hN=>fun h=>eS h) (bd (css:= [(0,_)]) T.kQ (eC (eC eZ)) ⟨J,J,p1 (φ:=sl 1 rE_ s.aC) J,tV⟩ (al (key:=5) T.z25 (eC (eC eZ)) fun b5=>(sPA (cs':= [sl 1 rE_ s.aC,eqv (.slice none 0 0)]) J J J T.aY J J (nl (th (sq (sq (rg (fP J T.bE (lP J J J T.bP (fc (bB 15 J) fun hm15=>(lnF J T.cR (mv (nl (th (bk ?_)))))))))))))))))))))))))))
 refine nwC 50 87 1 gE (jY 5 1 (osl 50 (.slice none 0 0)) rfl rfl cU ?_)
 have hI0_0:0≤s.sT.length:=by
  first|omega|simp
 have hI0_1:([]:List (List (Int × Int)))=mkO (cC s) s 0:=by
  rfl
 refine lp (κ:=Nat × Value × (List (List (Int × Int)))) (fun p=> [(2,ptr 2 b2 0),(4,ptr 4 b4 0),(5,ptr 5 b5 0),(15,sl 2 sE s.sT),(16,int (s.sT.length:Int)),(17,int (p.1:Int)),(9999,tab)]) (fun p=> [(2,cell b2 [clo 74 []]),(3,cell b3 [sl 1 rE_ s.aC,sl 2 sE s.sT]),(4,cell b4 [eqv (.slice none 0 0),eqv (.slice none 0 0)]),(5,cell b5 [sl 1 rE_ s.aC,osl 50 p.2.1]),(50,own p.2.1 87 1 gE p.2.2),(997,cV tab)]) (fun p=>(p.1≤s.sT.length)∧(p.2.2=mkO (cC s) s p.1)) (fun p=>s.sT.length- p.1) ⟨0,(.slice none 0 0),([]:List (List (Int × Int)))⟩ ⟨hI0_0,hI0_1⟩ ⟨id,id,id,id,id,id,id,tV⟩ ⟨rI,rI,rI,rI,rI,rI,tV⟩ ?_
 intro⟨k,uo,aD⟩ hG0
 obtain⟨hk0,houts⟩:(k≤s.sT.length)∧(aD=mkO (cC s) s k):=hG0
 show Ct _ _ _ _ [(2,ptr 2 b2 0),(4,ptr 4 b4 0),(5,ptr 5 b5 0),(15,sl 2 sE s.sT),(16,int (s.sT.length:Int)),(17,int (k:Int)),(9999,tab)] [(2,cell b2 [clo 74 []]),(3,cell b3 [sl 1 rE_ s.aC,sl 2 sE s.sT]),(4,cell b4 [eqv (.slice none 0 0),eqv (.slice none 0 0)]),(5,cell b5 [sl 1 rE_ s.aC,osl 50 uo]),(50,own uo 87 1 gE aD),(997,cV tab)] _
 have hol:aD.length≤500:=by rw[houts,Kh];omega
 refine sq (rg (bi J J bA (nl (th (sq ?_)))))
 refine cd J (fun hc0=> ?_) (fun hc0=> ?_)
 ·try simp at hc0
  have hst:=hs.st k O
  have hsl:=hst.len
  have hac:=hst.ac
  have hcin:(ix (ix s.sT k).aP 0)∈acc s k:=hc k O
  have hal:0<(ix s.sT k).aP.length:=List.length_pos_iff.2 (hne k O)
  have hcb:0≤(ix (ix s.sT k).aP 0)∧(ix (ix s.sT k).aP 0)<256:=CompM.sI hs O _ hcin
  have hcut:aL 63 (ix (ix s.sT k).aP 0)=aL s.aC.length (ix (ix s.sT k).aP 0):=Kj hs O hcin
  refine sk (th (sq (bk (sq (rg (iF J J T.cR O gB (lFA J T.cX (Nat.le_of_ble_eq_true J) (al (key:=7) T.z79 (eC (eC eZ)) fun b7=>(sPA (cs':= [sl 1 nE (ix s.sT k).aP,sl 1 nE (ix s.sT k).next]) J J J T.cX J J (nl (th (sq (rg (al (key:=8) T.z87 (eC eZ) fun b8=>(nl (th (sq (sq (rg (fP J T.Ib (lP J J J T.Oq (fP J T.cE (lP J J J T.aQ (Re (φs:= [sl 1 nE (ix s.sT k).aP]) (φ:=int (ix (ix s.sT k).aP 0)) J ⟨J,tV⟩ (IU (ix s.sT k).aP hal) T.WT (bC (φs:= [int (ix (ix s.sT k).aP 0)]) (φ:=clo 137 [fp [int (ix (ix s.sT k).aP 0)]]) ⟨J,tV⟩ (prog3.mX (ix (ix s.sT k).aP 0)) T.mY (nl (th (bk (nwC 80 94 2 pE (jY 8 0 (osl 80 (.slice none 0 0)) J J cU ?_))))))))))))))))))))))))))))))
  have hR0:([]:List (Int × Int))=((aL 63 (ix (ix s.sT k).aP 0)).take 0).map (fun(a:Int)=>((a,ix (ix s.sT k).next a.toNat):Int × Int)):=by
   rfl
  refine rf (κ:=Value × (List (Int × Int))) 900 (fun p=> [(2,cell b2 [clo 74 []]),(3,cell b3 [sl 1 rE_ s.aC,sl 2 sE s.sT]),(4,cell b4 [eqv (.slice none 0 0),eqv (.slice none 0 0)]),(5,cell b5 [sl 1 rE_ s.aC,osl 50 uo]),(7,cell b7 [sl 1 nE (ix s.sT k).aP,sl 1 nE (ix s.sT k).next]),(8,cell b8 [osl 80 p.1]),(50,own uo 87 1 gE aD),(80,own p.1 94 2 pE p.2),(997,cV tab)]) (fun iR p=>p.2=((aL 63 (ix (ix s.sT k).aP 0)).take iR).map (fun(a:Int)=>((a,ix (ix s.sT k).next a.toNat):Int × Int))) (fun c p=>False) J (qX (ix (ix s.sT k).aP 0) O O) T.kW J (fun _=>J) (fun _=>J) ⟨(.slice none 0 0),([]:List (Int × Int))⟩ hR0 ⟨rI,rI,rI,rI,rI,rI,rI,rI,rI,tV⟩ ?_ ?_ (fun k h=>h.elim) (fun id k h=>h.elim) (fun c k h=>h.elim)
  ·intro m0 ⟨u8x,l1⟩ x0 hG0 hx0 l R w1 M1 F1 hRd
   have hR0:l1=((aL 63 (ix (ix s.sT k).aP 0)).take m0).map (fun(a:Int)=>((a,ix (ix s.sT k).next a.toNat):Int × Int)):=hG0
   show Ct _ _ _ _ _ ((900,obj l (.loop R)):: [(2,cell b2 [clo 74 []]),(3,cell b3 [sl 1 rE_ s.aC,sl 2 sE s.sT]),(4,cell b4 [eqv (.slice none 0 0),eqv (.slice none 0 0)]),(5,cell b5 [sl 1 rE_ s.aC,osl 50 uo]),(7,cell b7 [sl 1 nE (ix s.sT k).aP,sl 1 nE (ix s.sT k).next]),(8,cell b8 [osl 80 u8x]),(50,own uo 87 1 gE aD),(80,own u8x 94 2 pE l1),(997,cV tab)]) _
   have hm63:m0<63:=by
    have h1:=(List.getElem?_eq_some_iff.1 hx0).1
    have h2:=Bb (ix (ix s.sT k).aP 0)
    omega
   have hl1l:l1.length≤63:=by rw[hR0,List.length_map,List.length_take];omega
   obtain⟨a,rfl,ha63,hha⟩:=fZ hx0
   have hgo:=rK hs (x:=k) O ((cS _ _).2 ⟨_,hcin,hha⟩)
   have hgo2:0≤ix (ix s.sT k).next a∧ix (ix s.sT k).next a<(s.sT.length:Int):=hgo.2
   refine rg (ag (nl (aq hRd J (bk (dr (nh:=9) [0,0,0,4,0,28,60,126,254,511,1023] T.mixed kR ?_)))))
   refine st_ J (fun _ _ _ gq kq=>lP (gq.1.trans J) J J T.fT kq) ?_
   refine st_ J (fun _ _ _ gq kq=>mv' (gq.1.trans J) kq) ?_
   refine st_ J (fun _ _ _ gq kq=>fP (gq.1.trans J) T.cP kq) ?_
   refine st_ J (fun _ _ _ gq kq=>lP (gq.1.trans J) J J T.aQ kq) ?_
   refine st_ J (fun _ _ _ gq kq=>mv' (gq.1.trans J) kq) ?_
   refine st_ J (fun _ _ _ gq kq=>iF (gq.1.trans J) (gq.2.1.trans J) T.aU O gB kq) ?_
   refine st_ J (fun _ _ _ gq kq=>lF (gq.1.trans J) J T.aH kq) ?_
   refine st_ J (fun _ _ _ gq kq=>bd (css:= [(0,_),(1,_)]) T.xD (eC (eC eZ)) ⟨J,J,p1 (φ:=int (a:Int)) (by exact(gq.1.trans J)),⟨J,J,p1 (φ:=int (ix (ix s.sT k).next a)) (by exact(gq.2.1.trans J)),tV⟩⟩ kq) ?_
   refine st_ J (fun _ _ _ gq kq=>bsE (enc:=pE) (xs:= [((a:Int),ix (ix s.sT k).next a)]) (css:= [[int (a:Int),int (ix (ix s.sT k).next a)]]) T.nK ⟨J,J,pA (cs:= [int (a:Int),int (ix (ix s.sT k).next a)]) (by exact(gq.1.trans J)),tV⟩ J J J J kq) ?_
   refine pn (ap (key:=80) (zs:= [((a:Int),ix (ix s.sT k).next a)]) bU J J J T.nK (by unfold aR at*;simp;omega) (by unfold aR at*;simp;omega) fun v37=>(bQ J J J J T.fT J (nl (eb ?_))))
   have hN0:(l1++ [((a:Int),ix (ix s.sT k).next a)])=((aL 63 (ix (ix s.sT k).aP 0)).take (m0+1)).map (fun(a:Int)=>((a,ix (ix s.sT k).next a.toNat):Int × Int)):=by
    rw[HZ _ hx0,←hR0,Int.toNat_natCast]
   exact rqN ⟨v37,l1++ [((a:Int),ix (ix s.sT k).next a)]⟩ hN0 ⟨rI,rI,rI,rI,rI,rI,rI,rI,rI,rI,tV⟩
  ·intro⟨u8x,l1⟩ hG0
   have hR0:l1=((aL 63 (ix (ix s.sT k).aP 0)).take (aL 63 (ix (ix s.sT k).aP 0)).length).map (fun(a:Int)=>((a,ix (ix s.sT k).next a.toNat):Int × Int)):=hG0
   show At _ _ _ _ [(2,cell b2 [clo 74 []]),(3,cell b3 [sl 1 rE_ s.aC,sl 2 sE s.sT]),(4,cell b4 [eqv (.slice none 0 0),eqv (.slice none 0 0)]),(5,cell b5 [sl 1 rE_ s.aC,osl 50 uo]),(7,cell b7 [sl 1 nE (ix s.sT k).aP,sl 1 nE (ix s.sT k).next]),(8,cell b8 [osl 80 u8x]),(50,own uo 87 1 gE aD),(80,own u8x 94 2 pE l1),(997,cV tab)]
   refine eb (th (rg (fP rfl T.bX (lP rfl rfl rfl T.dB (lP rfl rfl rfl T.fT (fz 80 40 rfl rfl (bsE (enc:=gE) (xs:= [l1]) (css:= [[sl 2 pE l1]]) T.pO ⟨rfl,rfl,p1 (φ:=sl 2 pE l1) rfl,tV⟩ rfl rfl rfl rfl (ap (key:=50) (zs:= [l1]) bU rfl rfl rfl T.pO (by unfold aR at*;simp;omega) (by unfold aR at*;simp;omega) fun v42=>(fP rfl T.bX (bQ rfl rfl rfl rfl T.dB rfl (nl (eb (th (rg (bi rfl rfl (aN i6) (mv (nl ?_)))))))))))))))))
   have hN0:(k+1)≤s.sT.length:=by
    first|omega|simp_all
   have hN1:(aD++ [l1])=mkO (cC s) s (k+1):=by
    rw[HL,houts,hR0,List.take_length,hcut];rfl
   exact ln (⟨k+1,v42,aD++ [l1]⟩:Nat × Value × (List (List (Int × Int)))) ⟨hN0,hN1⟩ dO ⟨id,id,id,id,id,id,id,tV⟩ ⟨rI,rI,rI,rI,rI,rI,tV⟩
 ·try simp at hc0
  refine ex (xt_ (xt_ (xb (th (sq (rg (fzc 5 50 1 J J J J (lPA J J T.aY J (kn 46 (sys (mkM (cC s) s)) J (by rw[show aD=(mkM (cC s) s).sT by rw[houts,show k=s.sT.length by omega];exact Ki _ _];exact fun h=>h) (tbU (ψ:=tab) 46 9999 J J (OQ (φs:= [both (agg [sl 1 rE_ (mkM (cC s) s).aC,sl 1 gE (mkM (cC s) s).sT]) tab]) ⟨J,tV⟩ (mkq.HJ (mkM (cC s) s) aS) T.Ot trivial fun N47 i47 hN47=>(kd (φ':=tup [agg [fre w0.heap.size (sl 1 rE_ (cO (mkM (cC s) s)).aC),fre w0.heap.size (sl 1 gE (cO (mkM (cC s) s)).sT)],sl 1 nE i47,int 0]) (fun h=>jL (cs:= [agg [fre N47 (sl 1 rE_ (cO (mkM (cC s) s)).aC),fre N47 (sl 1 gE (cO (mkM (cC s) s)).sT)],sl 1 nE i47,int 0]) (ds:= [agg [fre w0.heap.size (sl 1 rE_ (cO (mkM (cC s) s)).aC),fre w0.heap.size (sl 1 gE (cO (mkM (cC s) s)).sT)],sl 1 nE i47,int 0]) ⟨fun h=>dY (cs:= [fre N47 (sl 1 rE_ (cO (mkM (cC s) s)).aC),fre N47 (sl 1 gE (cO (mkM (cC s) s)).sT)]) (ds:= [fre w0.heap.size (sl 1 rE_ (cO (mkM (cC s) s)).aC),fre w0.heap.size (sl 1 gE (cO (mkM (cC s) s)).sT)]) ⟨fun h=>dA hN47 h,fun h=>dA hN47 h,tV⟩ h,fun h=>h,fun h=>h,tV⟩ h) (mv (xt J J (xt J J (xt J J (sPA (cs':= [fre w0.heap.size (sl 1 rE_ (cO (mkM (cC s) s)).aC),fre w0.heap.size (sl 1 gE (cO (mkM (cC s) s)).sT)]) J J J T.aY J J (nl (th (sq (rg (lPA J J T.aY J (sPA (cs':= [fre w0.heap.size (sl 1 rE_ (cO (mkM (cC s) s)).aC),fre w0.heap.size (sl 1 gE (cO (mkM (cC s) s)).sT)]) J J J T.aY J J (nl (th (rt ?_))))))))))))))))))))))))))
  have hr0:(cO (mkM (cC s) s)).aC=s.aC:=by
   first|rfl|simp_all|omega
  have hr1:(cO (mkM (cC s) s)).sT=(eG cC s).sT:=by
   first|rfl|simp_all|omega
  exact rE () [.cell 4 25] J [agg [fre w0.heap.size (sl 1 rE_ (cO (mkM (cC s) s)).aC),fre w0.heap.size (sl 1 gE (cO (mkM (cC s) s)).sT)]] ⟨.agg J J T.aY J J,tV⟩ (cA2 (fun x0 x1=>rV [agg [fre w0.heap.size (sl 1 rE_ x0),fre w0.heap.size (sl 1 gE x1)]]) hr0 hr1) trivial eX
theorem Kt (s:SS) (ok:Bool) (hs:ok=true→oK s∧s.sT.length≤500) (u:Int) (h0:0≤u) (h1:u<256):
 AL.Fn Tryz.prog 62 [jA (spec s),bl ok,int u] [] (ι:=Unit) (fun N _=>tup [agg [fre N (strs (bW s ok u).1.aC),fre N (sl 1 gE (bW s ok u).1.sT)],int (bW s ok u).2]) (fun _=> []):=by
 refine fnI Tryz.func62 rfl rfl (fun w0 F0=> ?_)
 refine tbI 0 9999 rfl ?_
 refine uK (ψ:=tab) 9999 997 rfl ?_
 refine fcC (cG 0 J) (fun hS0=> ?_)
 obtain⟨hsa0,hss0,hse0⟩:=sLn hS0
 refine sq (rg (bx (key:=3) (cs:= [sl 1 rE_ s.aC,sl 2 sE s.sT]) J fun b3=>(al (key:=6) T.z25 (eC (eC eZ)) fun b6=>(ag (nl (th (sq (sq (rg (mv (no J (nl (th ?_)))))))))))))
 refine cd J (fun hc0=> ?_) (fun hc0=> ?_)
 ·try simp at hc0
  have hok:ok=false:=by simpa using hc0
  have hd:bW s ok u=(⟨[],[]⟩,2):=by rw[hok];exact EM
  refine sq (rg (bd (css:= []) T.kQ (eC (eC eZ)) trivial (sPA (cs':= [eqv (.slice none 0 0),eqv (.slice none 0 0)]) J J J T.aY J J (ag (nl (th (rt (rt_ ?_))))))))
  refine dI 6 0 (fre w0.heap.size (sl 1 rE_ [])) rfl rfl dP ?_
  refine dI 6 1 (fre w0.heap.size (sl 1 gE [])) rfl rfl dP ?_
  have hr0: []=((bW s ok u).1.aC):=by
   rw[hd]
  have hr1: []=((bW s ok u).1.sT):=by
   rw[hd]
  have hr2:(2:Int)=((bW s ok u).2):=by
   rw[hd]
  exact rE () [.cell 6 25,.tmp 7] J [agg [fre w0.heap.size (sl 1 rE_ []),fre w0.heap.size (sl 1 gE [])],int 2] ⟨.agg J J T.aY J J,.tmp J,tV⟩ (cA3 (fun x0 x1 x2=>rV [agg [fre w0.heap.size (sl 1 rE_ x0),fre w0.heap.size (sl 1 gE x1)],int x2]) hr0 hr1 hr2) trivial eX
 ·try simp at hc0
  have hok:ok=true:=by simpa using hc0
  obtain⟨hsk,hsf⟩:=hs hok
  have hT:=EI hsk hsf u
  obtain⟨hTk,hTf⟩:=hT
  have hT0:=hTk.few0
  refine sk (th (sq (rg (lPA J J T.aI J (mv (bC (φs:= [agg [sl 1 rE_ s.aC,sl 2 sE s.sT],int u]) (φ:=agg [sl 1 rE_ ((tR (aM u s)).1).aC,sl 2 sE ((tR (aM u s)).1).sT]) ⟨J,J,tV⟩ (mkk.Lt s aS u O O) T.RJ (sPA (cs':= [sl 1 rE_ ((tR (aM u s)).1).aC,sl 2 sE ((tR (aM u s)).1).sT]) J J J T.aI J J (nl (th (sq (sq (rg (lPA J J T.aI J (bC (φs:= [agg [sl 1 rE_ ((tR (aM u s)).1).aC,sl 2 sE ((tR (aM u s)).1).sT]]) (φ:=sl 1 blE (hOl ((tR (aM u s)).1))) ⟨J,tV⟩ (prog7.wH ((tR (aM u s)).1) aS) T.Gd (iF J J T.mM O (gK (k:=0) (by rw[rF];omega)) (lF J J T.eE (nl (th ?_))))))))))))))))))
  refine cd J (fun hc1=> ?_) (fun hc1=> ?_)
  ·try simp at hc1
   have hd:bW s ok u=(⟨[],[]⟩,3):=by rw[hok];exact Ia hc1
   refine sq (rg (bd (css:= []) T.kQ (eC (eC eZ)) trivial (sPA (cs':= [eqv (.slice none 0 0),eqv (.slice none 0 0)]) J J J T.aY J J (ag (nl (th (rt (rt_ ?_))))))))
   refine dI 6 0 (fre w0.heap.size (sl 1 rE_ [])) rfl rfl dP ?_
   refine dI 6 1 (fre w0.heap.size (sl 1 gE [])) rfl rfl dP ?_
   have hr0: []=((bW s ok u).1.aC):=by
    rw[hd]
   have hr1: []=((bW s ok u).1.sT):=by
    rw[hd]
   have hr2:(3:Int)=((bW s ok u).2):=by
    rw[hd]
   exact rE () [.cell 6 25,.tmp 7] J [agg [fre w0.heap.size (sl 1 rE_ []),fre w0.heap.size (sl 1 gE [])],int 3] ⟨.agg J J T.aY J J,.tmp J,tV⟩ (cA3 (fun x0 x1 x2=>rV [agg [fre w0.heap.size (sl 1 rE_ x0),fre w0.heap.size (sl 1 gE x1)],int x2]) hr0 hr1 hr2) trivial eX
  ·try simp at hc1
   have hd:bW s ok u=(eG lgC (tR (aM u s)).1,0):=by rw[hok];exact Kr hc1
   have hfree:=CC hsk hsf hc1
   refine sk (th (sq (rg (bd (css:= [(0,_)]) T.RL (eC eZ) ⟨J,J,p1 (φ:=eqv (.func (.func 111) #[] #[])) J,tV⟩ (kn 19 (agg [clo 111 []]) J HY (lPA J J T.aI J (tbU (ψ:=tab) 20 9999 J J (eW (φs:= [agg [clo 111 []],both (agg [sl 1 rE_ ((tR (aM u s)).1).aC,sl 2 sE ((tR (aM u s)).1).sT]) tab]) (φ:=agg [fre w0.heap.size (sl 1 rE_ (eG lgC ((tR (aM u s)).1)).aC),fre w0.heap.size (sl 1 gE (eG lgC ((tR (aM u s)).1)).sT)]) ⟨J,J,tV⟩ (mkr.QI ((tR (aM u s)).1) aS aS aS) T.RO (fun N hN=>fun h=>dY (cs:= [fre N (sl 1 rE_ (eG lgC ((tR (aM u s)).1)).aC),fre N (sl 1 gE (eG lgC ((tR (aM u s)).1)).sT)]) (ds:= [fre w0.heap.size (sl 1 rE_ (eG lgC ((tR (aM u s)).1)).aC),fre w0.heap.size (sl 1 gE (eG lgC ((tR (aM u s)).1)).sT)]) ⟨fun h=>dA hN h,fun h=>dA hN h,tV⟩ h) (sPA (cs':= [fre w0.heap.size (sl 1 rE_ (eG lgC ((tR (aM u s)).1)).aC),fre w0.heap.size (sl 1 gE (eG lgC ((tR (aM u s)).1)).sT)]) J J J T.aY J J (ag (nl (th (rt ?_)))))))))))))
   have hr0:(eG lgC ((tR (aM u s)).1)).aC=((bW s ok u).1.aC):=by
    rw[hd]
   have hr1:(eG lgC ((tR (aM u s)).1)).sT=((bW s ok u).1.sT):=by
    rw[hd]
   have hr2:(0:Int)=((bW s ok u).2):=by
    rw[hd]
   exact rE () [.cell 6 25,.tmp 7] J [agg [fre w0.heap.size (sl 1 rE_ (eG lgC ((tR (aM u s)).1)).aC),fre w0.heap.size (sl 1 gE (eG lgC ((tR (aM u s)).1)).sT)],int 0] ⟨.agg J J T.aY J J,.tmp J,tV⟩ (cA3 (fun x0 x1 x2=>rV [agg [fre w0.heap.size (sl 1 rE_ x0),fre w0.heap.size (sl 1 gE x1)],int x2]) hr0 hr1 hr2) trivial eX
theorem QL (s:SS) (hsm:eB s):
 AL.Fn Tryz.prog 33 [jA (spec s)] [] (ι:=Unit) (fun N _=>tup [agg [fre N (strs (jC s).1.aC),fre N (sl 1 gE (jC s).1.sT)],int (jC s).2]) (fun _=> []):=by
 refine fnI Tryz.func33 rfl rfl (fun w0 F0=> ?_)
 refine tbI 0 9999 rfl ?_
 refine uK (ψ:=tab) 9999 997 rfl ?_
 refine fcC (cG 0 J) (fun hS0=> ?_)
 obtain⟨hsa0,hss0,hse0⟩:=sLn hS0
 refine sq (rg (bx (key:=1) (cs:= [sl 1 rE_ s.aC,sl 2 sE s.sT]) J fun b1=>(al (key:=2) T.z25 (eC (eC eZ)) fun b2=>(ag (nl (th (sq (sq (rg (lPA J J T.aI J (bC (φs:= [agg [sl 1 rE_ s.aC,sl 2 sE s.sT]]) (φ:=bl (cK s)) ⟨J,tV⟩ (prog2.gU s aS) T.zQ (no J (nl (th ?_))))))))))))))
 refine cd J (fun hc0=> ?_) (fun hc0=> ?_)
 ·try simp at hc0
  have hd:jC s=(⟨[],[]⟩,30):=by unfold jC;rw[if_neg (by simpa using hc0)]
  refine sq (rg (bd (css:= []) T.kQ (eC (eC eZ)) trivial (sPA (cs':= [eqv (.slice none 0 0),eqv (.slice none 0 0)]) J J J T.aY J J (ag (nl (th (rt (rt_ ?_))))))))
  refine dI 2 0 (fre w0.heap.size (sl 1 rE_ [])) rfl rfl dP ?_
  refine dI 2 1 (fre w0.heap.size (sl 1 gE [])) rfl rfl dP ?_
  have hr0: []=((jC s).1.aC):=by
   rw[hd]
  have hr1: []=((jC s).1.sT):=by
   rw[hd]
  have hr2:(30:Int)=((jC s).2):=by
   rw[hd]
  exact rE () [.cell 2 25,.tmp 3] J [agg [fre w0.heap.size (sl 1 rE_ []),fre w0.heap.size (sl 1 gE [])],int 30] ⟨.agg J J T.aY J J,.tmp J,tV⟩ (cA3 (fun x0 x1 x2=>rV [agg [fre w0.heap.size (sl 1 rE_ x0),fre w0.heap.size (sl 1 gE x1)],int x2]) hr0 hr1 hr2) trivial eX
 ·try simp at hc0
  have hsv:cK s=true:=by simpa using hc0
  have hs:=gH hsv
  have hs5:=wS hsv
  have hTk:=kC hs
  have hTl:=wT hs
  have hTf:(tR s).1.sT.length≤500:=by omega
  refine sk (th (sq (rg (lPA J J T.aI J (eW (φs:= [agg [sl 1 rE_ s.aC,sl 2 sE s.sT]]) (φ:=tup [agg [sl 1 rE_ ((tR s).1.aC),sl 2 sE ((tR s).1.sT)],sl 1 nE ((tR s).2)]) ⟨J,tV⟩ (prog9.oP s aS) T.xA (fun N hN=>fun h=>jL (cs:= [agg [fre N (sl 1 rE_ ((tR s).1.aC)),frb (ix (hOl s) 0) N (sl 2 sE ((tR s).1.sT))],sl 1 nE ((tR s).2)]) (ds:= [agg [sl 1 rE_ ((tR s).1.aC),sl 2 sE ((tR s).1.sT)],sl 1 nE ((tR s).2)]) ⟨fun h=>dY (cs:= [fre N (sl 1 rE_ ((tR s).1.aC)),frb (ix (hOl s) 0) N (sl 2 sE ((tR s).1.sT))]) (ds:= [sl 1 rE_ ((tR s).1.aC),sl 2 sE ((tR s).1.sT)]) ⟨fun h=>eS h,fun h=>uY h,tV⟩ h,fun h=>h,tV⟩ h) (mv (xt J J (xt J J (al (key:=4) T.z28 (eC (eC eZ)) fun b4=>(sPA (cs':= [sl 1 rE_ ((tR s).1.aC),sl 2 sE ((tR s).1.sT)]) J J J T.aI J J (ag (nl (th (sq (sq (rg (mv (fc (bB 15 J) fun hm15=>(lnF J T.aU (bi J J fS (nl (th ?_))))))))))))))))))))))
  refine cd J (fun hc1=> ?_) (fun hc1=> ?_)
  ·try simp at hc1
   have h0:(tR s).2.length=0:=by first|omega|simp[hc1]
   have hd:jC s=(⟨[],[]⟩,3):=by unfold jC;rw[if_pos hsv,if_pos h0]
   refine sq (rg (bd (css:= []) T.kQ (eC (eC eZ)) trivial (sPA (cs':= [eqv (.slice none 0 0),eqv (.slice none 0 0)]) J J J T.aY J J (ag (nl (th (rt (rt_ ?_))))))))
   refine dI 2 0 (fre w0.heap.size (sl 1 rE_ [])) rfl rfl dP ?_
   refine dI 2 1 (fre w0.heap.size (sl 1 gE [])) rfl rfl dP ?_
   have hr0: []=((jC s).1.aC):=by
    rw[hd]
   have hr1: []=((jC s).1.sT):=by
    rw[hd]
   have hr2:(3:Int)=((jC s).2):=by
    rw[hd]
   exact rE () [.cell 2 25,.tmp 3] J [agg [fre w0.heap.size (sl 1 rE_ []),fre w0.heap.size (sl 1 gE [])],int 3] ⟨.agg J J T.aY J J,.tmp J,tV⟩ (cA3 (fun x0 x1 x2=>rV [agg [fre w0.heap.size (sl 1 rE_ x0),fre w0.heap.size (sl 1 gE x1)],int x2]) hr0 hr1 hr2) trivial eX
  ·try simp at hc1
   have h0:(tR s).2.length≠0:=by first|omega|exact fun h=>hc1 (List.eq_nil_of_length_eq_zero h)
   have hd:jC s=(eG cC (tR s).1,0):=by unfold jC;rw[if_pos hsv,if_neg h0]
   have hh:ix (hOl s) 0=false:=by
    cases e:ix (hOl s) 0 with
    |false=>rfl
    |true=>exact absurd (Ua.2 e) h0
   have hfree:=OrdM.yR hs hh
   refine sk (th (sq (rg (bd (css:= [(0,_)]) T.RL (eC eZ) ⟨J,J,p1 (φ:=eqv (.func (.func 74) #[] #[])) J,tV⟩ (kn 19 (agg [clo 74 []]) J HY (lPA J J T.aI J (tbU (ψ:=tab) 20 9999 J J (eW (φs:= [agg [clo 74 []],both (agg [sl 1 rE_ ((tR s).1.aC),sl 2 sE ((tR s).1.sT)]) tab]) (φ:=agg [fre w0.heap.size (sl 1 rE_ (eG cC ((tR s).1)).aC),fre w0.heap.size (sl 1 gE (eG cC ((tR s).1)).sT)]) ⟨J,J,tV⟩ (mkr.QK ((tR s).1) aS aS aS) T.RO (fun N hN=>fun h=>dY (cs:= [fre N (sl 1 rE_ (eG cC ((tR s).1)).aC),fre N (sl 1 gE (eG cC ((tR s).1)).sT)]) (ds:= [fre w0.heap.size (sl 1 rE_ (eG cC ((tR s).1)).aC),fre w0.heap.size (sl 1 gE (eG cC ((tR s).1)).sT)]) ⟨fun h=>dA hN h,fun h=>dA hN h,tV⟩ h) (sPA (cs':= [fre w0.heap.size (sl 1 rE_ (eG cC ((tR s).1)).aC),fre w0.heap.size (sl 1 gE (eG cC ((tR s).1)).sT)]) J J J T.aY J J (ag (nl (th (rt ?_)))))))))))))
   have hr0:(eG cC ((tR s).1)).aC=((jC s).1.aC):=by
    rw[hd]
   have hr1:(eG cC ((tR s).1)).sT=((jC s).1.sT):=by
    rw[hd]
   have hr2:(0:Int)=((jC s).2):=by
    rw[hd]
   exact rE () [.cell 2 25,.tmp 3] J [agg [fre w0.heap.size (sl 1 rE_ (eG cC ((tR s).1)).aC),fre w0.heap.size (sl 1 gE (eG cC ((tR s).1)).sT)],int 0] ⟨.agg J J T.aY J J,.tmp J,tV⟩ (cA3 (fun x0 x1 x2=>rV [agg [fre w0.heap.size (sl 1 rE_ x0),fre w0.heap.size (sl 1 gE x1)],int x2]) hr0 hr1 hr2) trivial eX
theorem xH (m:aA) (t:SS) (hts:eB t) (u:Int):
 AL.Fn Tryz.prog 25 [jA (sys m),spec t,int u] [] (ι:=Unit) (fun N _=>tup [agg [fre N (strs (bM m t u).1.aC),fre N (sl 1 gE (bM m t u).1.sT)],int (bM m t u).2]) (fun _=> []):=by
 refine fnI Tryz.func25 rfl rfl (fun w0 F0=> ?_)
 refine tbI 0 9999 rfl ?_
 refine uK (ψ:=tab) 9999 997 rfl ?_
 refine fcC (cG 0 J) (fun hS0=> ?_)
 obtain⟨hma0,hms0,hme0⟩:=cZ hS0
 refine fcC (cG 1 J) (fun hS1=> ?_)
 obtain⟨hsa1,hss1,hse1⟩:=sLn hS1
 refine sq (rg (bx (key:=3) (cs:= [sl 1 rE_ m.aC,sl 1 gE m.sT]) J fun b3=>(bx (key:=4) (cs:= [sl 1 rE_ t.aC,sl 2 sE t.sT]) J fun b4=>(al (key:=6) T.z25 (eC (eC eZ)) fun b6=>(ag (nl (th (sq (sq (rg (lPA J J T.aY J (lPA J J T.aI J (bC (φs:= [agg [sl 1 rE_ m.aC,sl 1 gE m.sT],agg [sl 1 rE_ t.aC,sl 2 sE t.sT]]) (φ:=int (dF m t)) ⟨J,J,tV⟩ (satj.vI m t aS) T.LB (ag (nl (th (sq (rg (mv (bi J J gO (nl (th ?_))))))))))))))))))))))
 refine cd J (fun hc0=> ?_) (fun hc0=> ?_)
 ·try simp at hc0
  have hd:bM m t u=(⟨[],[]⟩,dF m t):=by unfold bM;rw[if_neg hc0]
  refine sq (rg (bd (css:= []) T.kQ (eC (eC eZ)) trivial (mv (sPA (cs':= [eqv (.slice none 0 0),eqv (.slice none 0 0)]) J J J T.aY J J (ag (nl (th (rt (rt_ ?_)))))))))
  refine dI 6 0 (fre w0.heap.size (sl 1 rE_ [])) rfl rfl dP ?_
  refine dI 6 1 (fre w0.heap.size (sl 1 gE [])) rfl rfl dP ?_
  have hr0: []=((bM m t u).1.aC):=by
   rw[hd]
  have hr1: []=((bM m t u).1.sT):=by
   rw[hd]
  have hr2:((dF m t):Int)=((bM m t u).2):=by
   rw[hd]
  exact rE () [.cell 6 25,.tmp 7] J [agg [fre w0.heap.size (sl 1 rE_ []),fre w0.heap.size (sl 1 gE [])],int (dF m t)] ⟨.agg J J T.aY J J,.tmp J,tV⟩ (cA3 (fun x0 x1 x2=>rV [agg [fre w0.heap.size (sl 1 rE_ x0),fre w0.heap.size (sl 1 gE x1)],int x2]) hr0 hr1 hr2) trivial eX
 ·try simp at hc0
  obtain⟨hmv,htv,hmt⟩:=uC hc0
  have hm:=eY hmv
  have ht:=gH htv
  have hn8:=ht.n8
  refine sk (th (sq (sq (rg (fP J T.cD (lP J J J T.bZ (fc (bB 19 J) fun hm19=>(lnF J T.eH (mv (bC (φs:= [int (t.aC.length:Int),int u]) (φ:=bl (eI (t.aC.length:Int) u)) ⟨J,J,tV⟩ (mkk.Hc (t.aC.length:Int) u O O) T.Fq (no J (nl (th ?_)))))))))))))
  refine cd J (fun hc1=> ?_) (fun hc1=> ?_)
  ·try simp at hc1
   have hd:bM m t u=(⟨[],[]⟩,1):=by unfold bM;rw[if_pos hc0,if_neg (by simpa using hc1)]
   refine sq (rg (bd (css:= []) T.kQ (eC (eC eZ)) trivial (sPA (cs':= [eqv (.slice none 0 0),eqv (.slice none 0 0)]) J J J T.aY J J (ag (nl (th (rt (rt_ ?_))))))))
   refine dI 6 0 (fre w0.heap.size (sl 1 rE_ [])) rfl rfl dP ?_
   refine dI 6 1 (fre w0.heap.size (sl 1 gE [])) rfl rfl dP ?_
   have hr0: []=((bM m t u).1.aC):=by
    rw[hd]
   have hr1: []=((bM m t u).1.sT):=by
    rw[hd]
   have hr2:(1:Int)=((bM m t u).2):=by
    rw[hd]
   exact rE () [.cell 6 25,.tmp 7] J [agg [fre w0.heap.size (sl 1 rE_ []),fre w0.heap.size (sl 1 gE [])],int 1] ⟨.agg J J T.aY J J,.tmp J,tV⟩ (cA3 (fun x0 x1 x2=>rV [agg [fre w0.heap.size (sl 1 rE_ x0),fre w0.heap.size (sl 1 gE x1)],int x2]) hr0 hr1 hr2) trivial eX
  ·try simp at hc1
   have hse:eI (t.aC.length:Int) u=true:=by simpa using hc1
   obtain⟨hu0,hu1⟩:=wZ ht.n8 hse
   have hd:bM m t u=bW (aW m t).1 (aW m t).2 u:=by unfold bM;rw[if_pos hc0,if_pos hse]
   have hgk:(aW m t).2=true→oK (aW m t).1∧(aW m t).1.sT.length≤500:=fun h=>⟨(vV hm ht h).1,(vV hm ht h).2.1⟩
   refine sk (th (sq (rg (lPA J J T.aY J (lPA J J T.aI J (tbU (ψ:=tab) 26 9999 J J (bC (φs:= [both (agg [sl 1 rE_ m.aC,sl 1 gE m.sT]) tab,agg [sl 1 rE_ t.aC,sl 2 sE t.sT]]) (φ:=tup [agg [sl 1 rE_ ((aW m t).1).aC,sl 2 sE ((aW m t).1).sT],bl ((aW m t).2)]) ⟨J,J,tV⟩ (mkg.HV m aS t aS aS) T.LC (mv (xt J J (xt J J (al (key:=9) T.z28 (eC (eC eZ)) fun b9=>(sPA (cs':= [sl 1 rE_ ((aW m t).1).aC,sl 2 sE ((aW m t).1).sT]) J J J T.aI J J (ag (nl (th (sq (rg (lPA J J T.aI J (mv (mv (tbU (ψ:=tab) 31 9999 J J (eW (φs:= [both (agg [sl 1 rE_ ((aW m t).1).aC,sl 2 sE ((aW m t).1).sT]) tab,bl ((aW m t).2),int u]) (φ:=tup [agg [fre w0.heap.size (sl 1 rE_ ((bW ((aW m t).1) ((aW m t).2) u).1).aC),fre w0.heap.size (sl 1 gE ((bW ((aW m t).1) ((aW m t).2) u).1).sT)],int ((bW ((aW m t).1) ((aW m t).2) u).2)]) ⟨J,J,J,tV⟩ (mkr.Kt ((aW m t).1) ((aW m t).2) aS u O O) T.RP (fun N hN=>fun h=>jL (cs:= [agg [fre N (sl 1 rE_ ((bW ((aW m t).1) ((aW m t).2) u).1).aC),fre N (sl 1 gE ((bW ((aW m t).1) ((aW m t).2) u).1).sT)],int ((bW ((aW m t).1) ((aW m t).2) u).2)]) (ds:= [agg [fre w0.heap.size (sl 1 rE_ ((bW ((aW m t).1) ((aW m t).2) u).1).aC),fre w0.heap.size (sl 1 gE ((bW ((aW m t).1) ((aW m t).2) u).1).sT)],int ((bW ((aW m t).1) ((aW m t).2) u).2)]) ⟨fun h=>dY (cs:= [fre N (sl 1 rE_ ((bW ((aW m t).1) ((aW m t).2) u).1).aC),fre N (sl 1 gE ((bW ((aW m t).1) ((aW m t).2) u).1).sT)]) (ds:= [fre w0.heap.size (sl 1 rE_ ((bW ((aW m t).1) ((aW m t).2) u).1).aC),fre w0.heap.size (sl 1 gE ((bW ((aW m t).1) ((aW m t).2) u).1).sT)]) ⟨fun h=>dA hN h,fun h=>dA hN h,tV⟩ h,fun h=>h,tV⟩ h) (xt J J (xt J J (sPA (cs':= [fre w0.heap.size (sl 1 rE_ ((bW ((aW m t).1) ((aW m t).2) u).1).aC),fre w0.heap.size (sl 1 gE ((bW ((aW m t).1) ((aW m t).2) u).1).sT)]) J J J T.aY J J (ag (nl (th (rt ?_)))))))))))))))))))))))))))))
   have hr0:((bW ((aW m t).1) ((aW m t).2) u).1).aC=((bM m t u).1.aC):=by
    rw[hd]
   have hr1:((bW ((aW m t).1) ((aW m t).2) u).1).sT=((bM m t u).1.sT):=by
    rw[hd]
   have hr2:(((bW ((aW m t).1) ((aW m t).2) u).2):Int)=((bM m t u).2):=by
    rw[hd]
   exact rE () [.cell 6 25,.tmp 7] J [agg [fre w0.heap.size (sl 1 rE_ ((bW ((aW m t).1) ((aW m t).2) u).1).aC),fre w0.heap.size (sl 1 gE ((bW ((aW m t).1) ((aW m t).2) u).1).sT)],int ((bW ((aW m t).1) ((aW m t).2) u).2)] ⟨.agg J J T.aY J J,.tmp J,tV⟩ (cA3 (fun x0 x1 x2=>rV [agg [fre w0.heap.size (sl 1 rE_ x0),fre w0.heap.size (sl 1 gE x1)],int x2]) hr0 hr1 hr2) trivial eX
theorem Ic (x m:aA) (t:SS) (hts:eB t) (u:Int) (hz:m.sT.length*x.sT.length<5000) (hz2:bV m.sT*bV x.sT≤400000):
 Fn0 Tryz.prog 30 [sys x,sys m,spec t,int u] (tup [bl (mE x m t u),int (gW x m t u)]):=by
 refine fnI Tryz.func30 rfl rfl (fun w0 F0=> ?_)
 refine fcC (cG 0 J) (fun hS0=> ?_)
 obtain⟨hma0,hms0,hme0⟩:=cZ hS0
 refine fcC (cG 1 J) (fun hS1=> ?_)
 obtain⟨hma1,hms1,hme1⟩:=cZ hS1
 refine fcC (cG 2 J) (fun hS2=> ?_)
 obtain⟨hsa2,hss2,hse2⟩:=sLn hS2
 refine sq (rg (bx (key:=4) (cs:= [sl 1 rE_ x.aC,sl 1 gE x.sT]) J fun b4=>(bx (key:=5) (cs:= [sl 1 rE_ m.aC,sl 1 gE m.sT]) J fun b5=>(bx (key:=6) (cs:= [sl 1 rE_ t.aC,sl 2 sE t.sT]) J fun b6=>(ag (ag (nl (th (sq (bk (sq (rg (lPA J J T.aY J (bC (φs:= [agg [sl 1 rE_ x.aC,sl 1 gE x.sT]]) (φ:=bl (bR x)) ⟨J,tV⟩ (sysw.gU x) T.zX (no J (mv ?_))))))))))))))))
 apply gOr (t:=17) (pd:=21) rfl
 rotate_left
 ·intro hg0 fin
  have hg0':=hg0
  try simp at hg0'
  exact gy J J J hg0 (lPA J J T.aY J (gy J J J hg0 (bC (φs:= [agg [sl 1 rE_ m.aC,sl 1 gE m.sT]]) (φ:=bl (bR m)) ⟨J,tV⟩ (sysw.gU m) T.zX (gy J J J hg0 (no J (pkF J hg0 J (drp (X:= [(20,_),(19,_),(18,_)]) ⟨J,J,J,tV⟩ fin)))))))
 ·intro hg0 fin
  exact gn J J J hg0 J J (gn J J J hg0 J J (gn J J J hg0 J J (pkT J hg0 J (drp (X:= [(20,_),(19,_),(18,_)]) ⟨J,J,J,tV⟩ fin))))
 refine ag (nl (th ?_))
 refine cd J (fun hc0=> ?_) (fun hc0=> ?_)
 ·skip
  have hxm:¬(bR x=true∧bR m=true):=fun g=>by rw[g.1,g.2] at hc0;cases hc0
  have hd:gW x m t u=20:=by unfold gW;rw[if_neg hxm]
  refine sq (rg (ag (ag (nl (th (rt (rb (rt_ ?_))))))))
  have hr0:false=(mE x m t u):=by
   rw[CE (by rw[hd];decide)]
  have hr1:(20:Int)=(gW x m t u):=by
   rw[hd]
  exact rE () [.tmp 8,.tmp 9] J [bl false,int 20] ⟨.tmp J,.tmp J,tV⟩ (cA2 (fun x0 x1=>rV [bl x0,int x1]) hr0 hr1) trivial eX
 ·skip
  obtain⟨hxv,hmv⟩:bR x=true∧bR m=true:=by
   rw[Bool.or_eq_false_iff,Bool.not_eq_false',Bool.not_eq_false'] at hc0;exact hc0
  have hx:=eY hxv
  have hm:=eY hmv
  refine sq (rg (lPA J J T.aI J (bC (φs:= [agg [sl 1 rE_ t.aC,sl 2 sE t.sT]]) (φ:=bl (cK t)) ⟨J,tV⟩ (prog2.gU t aS) T.zQ (no J (ag (nl (th ?_)))))))
  refine cd J (fun hc1=> ?_) (fun hc1=> ?_)
  ·try simp at hc1
   have hd:gW x m t u=30:=by unfold gW;rw[if_pos ⟨hxv,hmv⟩,if_neg (by simpa using hc1)]
   refine sq (rg (ag (ag (nl (th (rt (rb (rt_ ?_))))))))
   have hr0:false=(mE x m t u):=by
    rw[CE (by rw[hd];decide)]
   have hr1:(30:Int)=(gW x m t u):=by
    rw[hd]
   exact rE () [.tmp 8,.tmp 9] J [bl false,int 30] ⟨.tmp J,.tmp J,tV⟩ (cA2 (fun x0 x1=>rV [bl x0,int x1]) hr0 hr1) trivial eX
  ·try simp at hc1
   have htv:cK t=true:=by simpa using hc1
   have ht:=gH htv
   have hn8:=ht.n8
   refine sq (rg (fP J T.fR (lP J J J T.bZ (fP J T.fR (lP J J J T.bZ (bC (φs:= [sl 1 rE_ x.aC,sl 1 rE_ m.aC]) (φ:=bl (decide (x.aC=m.aC))) ⟨J,J,tV⟩ (prog.kU _ _) T.Ca (no J (mv ?_))))))))
   apply gOr (t:=33) (pd:=40) rfl
   rotate_left
   ·intro hg1 fin
    have hg1':=hg1
    try simp at hg1'
    exact gy J J J hg1 (fP J T.fR (gy J J J hg1 (lP J J J T.bZ (gy J J J hg1 (fP J T.cD (gy J J J hg1 (lP J J J T.bZ (gy J J J hg1 (bC (φs:= [sl 1 rE_ x.aC,sl 1 rE_ t.aC]) (φ:=bl (decide (x.aC=t.aC))) ⟨J,J,tV⟩ (prog.kU _ _) T.Ca (gy J J J hg1 (no J (pkF J hg1 J (drp (X:= [(39,_),(38,_),(37,_),(36,_),(35,_),(34,_)]) ⟨J,J,J,J,J,J,tV⟩ fin)))))))))))))
   ·intro hg1 fin
    exact gn J J J hg1 J J (gn J J J hg1 J J (gn J J J hg1 J J (gn J J J hg1 J J (gn J J J hg1 J J (gn J J J hg1 J J (pkT J hg1 J (drp (X:= [(39,_),(38,_),(37,_),(36,_),(35,_),(34,_)]) ⟨J,J,J,J,J,J,tV⟩ fin)))))))
   refine ag (nl (th ?_))
   refine cd J (fun hc2=> ?_) (fun hc2=> ?_)
   ·skip
    have hne:¬(x.aC=m.aC∧x.aC=t.aC):=fun g=>by rw[decide_eq_true g.1,decide_eq_true g.2] at hc2;cases hc2
    have hd:gW x m t u=10:=by unfold gW;rw[if_pos ⟨hxv,hmv⟩,if_pos htv,if_neg hne]
    refine sq (rg (ag (ag (nl (th (rt (rb (rt_ ?_))))))))
    have hr0:false=(mE x m t u):=by
     rw[CE (by rw[hd];decide)]
    have hr1:(10:Int)=(gW x m t u):=by
     rw[hd]
    exact rE () [.tmp 8,.tmp 9] J [bl false,int 10] ⟨.tmp J,.tmp J,tV⟩ (cA2 (fun x0 x1=>rV [bl x0,int x1]) hr0 hr1) trivial eX
   ·skip
    obtain⟨hxm,hxt⟩:x.aC=m.aC∧x.aC=t.aC:=by
     rw[Bool.or_eq_false_iff,Bool.not_eq_false',Bool.not_eq_false'] at hc2;exact⟨of_decide_eq_true hc2.1,of_decide_eq_true hc2.2⟩
    have hbo:=Ug hmv hxv hxm.symm
    refine sq (rg (fP J T.cD (lP J J J T.bZ (fc (bB 43 J) fun hm43=>(lnF J T.eH (mv (bC (φs:= [int (t.aC.length:Int),int u]) (φ:=bl (eI (t.aC.length:Int) u)) ⟨J,J,tV⟩ (mkk.Hc (t.aC.length:Int) u O O) T.Fq (no J (ag (nl (th ?_)))))))))))
    refine cd J (fun hc3=> ?_) (fun hc3=> ?_)
    ·skip
     have hns:¬eI (t.aC.length:Int) u=true:=fun g=>by rw[g] at hc3;cases hc3
     have hd:gW x m t u=1:=by unfold gW;rw[if_pos ⟨hxv,hmv⟩,if_pos htv,if_pos ⟨hxm,hxt⟩,if_neg hns]
     refine sq (rg (ag (ag (nl (th (rt (rb (rt_ ?_))))))))
     have hr0:false=(mE x m t u):=by
      rw[CE (by rw[hd];decide)]
     have hr1:(1:Int)=(gW x m t u):=by
      rw[hd]
     exact rE () [.tmp 8,.tmp 9] J [bl false,int 1] ⟨.tmp J,.tmp J,tV⟩ (cA2 (fun x0 x1=>rV [bl x0,int x1]) hr0 hr1) trivial eX
    ·skip
     have hse:eI (t.aC.length:Int) u=true:=by simpa using hc3
     obtain⟨hu0,hu1⟩:=wZ ht.n8 hse
     have hd:gW x m t u=0:=by unfold gW;rw[if_pos ⟨hxv,hmv⟩,if_pos htv,if_pos ⟨hxm,hxt⟩,if_pos hse]
     refine sk (eb (th (sq (rg (lPA J J T.aY J (lPA J J T.aY J (cl (prodw.LD m x aS aS) T.WU trivial fun N51 i51=>(mv (xt J J (xt J J (xt J J (al (key:=10) T.z25 (eC (eC eZ)) fun b10=>(sPA (cs':= [sl 1 rE_ i51.1.1.aC,sl 1 gE i51.1.1.sT]) J J J T.aY J J (ag (ag (nl (th (sq (sq (rg (mv (bi J J gO (nl (th ?_))))))))))))))))))))))))
     refine cd J (fun hc4=> ?_) (fun hc4=> ?_)
     ·try simp at hc4
      exact absurd hbo (by simpa using hc4)
     ·try simp at hc4
      have hPk:=i51.2.2 hbo
      have hkv:=WS hmv hxv hPk hz hz2
      have hkk:=eY hkv
      refine sk (th (sq (rg (lPA J J T.aY J (lPA J J T.aI J (cl (satj.Qe i51.1.1 aS t aS) T.WV trivial fun N60 i60=>(KU J T.Uh T.eE J (mv ?_))))))))
      apply gM (t:=62) (pd:=66) rfl
      rotate_left
      ·intro hg2 fin
       have hg2':=hg2
       try simp at hg2'
       exact gy J J J hg2 (lPA J J T.aY J (gy J J J hg2 (mv (gy J J J hg2 (bC (φs:= [agg [sl 1 rE_ x.aC,sl 1 gE x.sT],int u]) (φ:=bl (jQ x u)) ⟨J,J,tV⟩ (mkp.Qn x aS u O O) T.WW (pkT J hg2 J (drp (X:= [(65,_),(64,_),(63,_)]) ⟨J,J,J,tV⟩ fin)))))))
      ·intro hg2 fin
       exact gn J J J hg2 J J (gn J J J hg2 J J (gn J J J hg2 J J (pkF J hg2 J (drp (X:= [(65,_),(64,_),(63,_)]) ⟨J,J,J,tV⟩ fin))))
      refine ag (ag (nl (th (rt ?_))))
      have hr0:(i60.1.holds&&(jQ x u))=(mE x m t u):=by
       rw[Oo hm hx ht hPk hkk i60.2 hd]
      have hr1:(0:Int)=(gW x m t u):=by
       rw[hd]
      exact rE () [.tmp 8,.tmp 9] J [bl (i60.1.holds&&(jQ x u)),int 0] ⟨.tmp J,.tmp J,tV⟩ (cA2 (fun x0 x1=>rV [bl x0,int x1]) hr0 hr1) trivial eX
end mkr
end
section
namespace LeadM
open ref01 ref03 ref04 ref06 Part Rungs LeftM TrimM RoundM MergeM BisM BisM3 BisM4 BisM5 BisM6 Keys WalkM WitM JudgM JudgM2 LevM divr divs divd dive divf divv judg sysw satj ChsM BisS TrimI QuoM FailM DivM RefM GenW CompM CompP CrossM FitM TogM KeepK GuardM MakeM LsysM LsysM2 GuaW
structure XR (m:aA) (t:SS) (z:SS × Bool):Prop where
 yes:z.2=true→∃l,Lu m t l z.1∧l.length≤10000
 no:z.2=false→z.1=⟨[],[]⟩
end LeadM
end
section
open ref01 ref03 ref04 ref06 prog prog2 prog3 prog6 prog13 Part Rungs LeftM TrimM RoundM MergeM BisM BisM4 BisM5 WalkM StepM WitM JudgM JudgM2 refw judg wit refj sysw divr divs divd dive divg divw divv divf LevM LevM2
theorem Dv (x y:SA):∀(n:Nat) (u:Int),(chs x y n u).length≤2^n
 |0,u=>by unfold chs;split<;>simp
 |k+1,u=>by
  have h1:=Dv x y k u
  have h2:=Dv x y k (((u.toNat|||2^k:Nat):Int))
  unfold chs
  rw[List.length_append,Nat.pow_succ];omega
abbrev chH (x y:SA) (c4 c5:Nat) (v:Value) (acc:List Int):Hp:= [(7,cell c4 [osl 70 v]),(70,own v 3 1 nE acc),(8,cell c5 [clo 154 [fp [ints y.aP,ints y.next],fp [ints x.aP,ints x.next],ptr 7 c4 0,ptr 8 c5 0]])]
abbrev Ie (x y:SA) (c4 c5:Nat) (n:Nat) (u:Int) (v:Value) (acc:List Int):Prop:=
 AL.Fn Tryz.prog 154 [int ((n:Int)- 1),int u,fp [ints y.aP,ints y.next],fp [ints x.aP,ints x.next],ptr 7 c4 0,ptr 8 c5 0] (chH x y c4 c5 v acc) (fun _ (_:Value)=>tup []) (fun v2=>chH x y c4 c5 v2 (acc++chs x y n u))
namespace T
theorem Ig:Ent Tryz.prog 154:=aZ kR
theorem Wg:Ent Tryz.prog 155:=aZ kR
theorem CF:dK Tryz.prog 203:=eL kR
end T
namespace divc
theorem step_ok (x y:SA) (hr:rising x.aP=true) (hy:∀k,k<y.aP.length→0≤ix y.aP k∧ix y.aP k<256) (n:Nat) (hn:n≤8) (c4 c5:Nat) (ih:∀k,k+1=n→∀(u:Int) (v:Value) (acc:List Int),(0≤u∧u<256)→acc.length+2^k≤1000→Ie x y c4 c5 k u v acc) (u:Int) (v:Value) (acc:List Int) (hu:0≤u∧u<256) (hl:acc.length+2^n≤1000):
 Ie x y c4 c5 n u v acc:=by
 refine fnI Tryz.func154 rfl rfl (fun w0 F0=> ?_)
 have hl1:acc.length≤1000:=Nat.le_trans (Nat.le_add_right _ _) hl
 refine sq (rg (bx1 (key:=17) (φ:=int u) J fun b7=>(nl (th (sq (sq (rg (mv (bi J J bA (nl (th ?_)))))))))))
 refine cd J (fun hc0=> ?_) (fun hc0=> ?_)
 ·try simp at hc0
  have hn0:n=0:=by omega
  subst hn0
  refine sq (sq (rg (fF J T.cE (lF J J T.aQ (fzv 17 7 J J (mkf (bC (φs:= [sl 1 nE y.aP,clo 156 [fp [sl 1 nE x.aP,sl 1 nE x.next],fp [int u]]]) (φ:=bl (y.aP.any (fun o=>decide (bS u o∉x.aP)))) ⟨J,J,tV⟩ (divf.PK x y.aP hy u hr hu) T.Wg (no J (nl (th ?_))))))))))
  refine cd J (fun hc1=> ?_) (fun hc1=> ?_)
  ·skip
   have hfi:oU x y u=true:=by rw[←GA];simpa using hc1
   refine rg (lP J J J T.aQ (lF J J T.aH (bsE (enc:=nE) (xs:= [u]) (css:= [[int u]]) T.cH ⟨J,J,p1 (φ:=int u) J,tV⟩ J J J J (ap (key:=70) (zs:= [u]) bU J J J T.cH (by unfold aR at*;simp;omega) (by unfold aR at*;simp;omega) fun v18=>(bQ J J J J T.aQ J (nl (th (rt (rt_ ?_)))))))))
   exact rE v18 [] J [] trivial J (by first|(rw[show chs x y 0 u= [u] by unfold chs;rw[if_pos hfi]];exact⟨rI,rI,rI,tV⟩)|(rw[show chs x y 0 u= [] by unfold chs;rw[if_neg (by simp[hfi])],List.append_nil];exact⟨rI,rI,rI,tV⟩)|(rw[ech,←List.append_assoc];exact⟨rI,rI,rI,tV⟩)) eX
  ·skip
   have hfi:oU x y u=false:=by rw[←GA];simpa using hc1
   refine sk (th (rt (rt_ ?_)))
   exact rE v [] J [] trivial J (by first|(rw[show chs x y 0 u= [u] by unfold chs;rw[if_pos hfi]];exact⟨rI,rI,rI,tV⟩)|(rw[show chs x y 0 u= [] by unfold chs;rw[if_neg (by simp[hfi])],List.append_nil];exact⟨rI,rI,rI,tV⟩)|(rw[ech,←List.append_assoc];exact⟨rI,rI,rI,tV⟩)) eX
 ·try simp at hc0
  have hn1:1≤n:=by omega
  have hpw:2^n=2^ (n- 1)+2^ (n- 1):=by
   have:n=(n- 1)+1:=by omega
   rw[this,Nat.pow_succ,Nat.add_sub_cancel];omega
  have hcl:=Dv x y (n- 1) u
  have e1:((n- 1:Nat):Int)- 1=(n:Int)- 1- 1:=by omega
  have e2:((n:Int)- 1).toNat=n- 1:=by omega
  have e3:((u.toNat|||((2^ ((n:Int)- 1).toNat:Nat):Int).toNat:Nat):Int)=((u.toNat|||2^ (n- 1):Nat):Int):=by rw[e2,Int.toNat_natCast]
  have hp0:0≤((2^ ((n:Int)- 1).toNat:Nat):Int):=Int.natCast_nonneg _
  have hp7:2^ ((n:Int)- 1).toNat≤2^7:=Nat.pow_le_pow_right O O
  have hp8:2^ (n- 1)≤2^7:=Nat.pow_le_pow_right O O
  have hu2:0≤((u.toNat|||2^ (n- 1):Nat):Int)∧((u.toNat|||2^ (n- 1):Nat):Int)<256:=⟨Int.natCast_nonneg _,by
   have:=iY (b:=((2^ (n- 1):Nat):Int)) hu.2 O
   rw[Int.toNat_natCast] at this;exact this⟩
  have hu3:0≤((u.toNat|||((2^ ((n:Int)- 1).toNat:Nat):Int).toNat:Nat):Int)∧((u.toNat|||((2^ ((n:Int)- 1).toNat:Nat):Int).toNat:Nat):Int)<256:=by rw[e3];exact hu2
  have ech:chs x y n u=chs x y (n- 1) u++chs x y (n- 1) ((u.toNat|||((2^ ((n:Int)- 1).toNat:Nat):Int).toNat:Nat):Int):=by
   rw[e3]
   obtain⟨k,rfl⟩:∃k,n=k+1:=⟨n- 1,O⟩
   rfl
  refine sk (th (sq (rg (lP J J J T.CF (mv (bi J J (kL i6) (lP J J J T.aH (Bu (Hi:=chH x y c4 c5 v acc) (ι:=Value) (res:=fun _ _=>tup []) (Ho:=fun v2=>chH x y c4 c5 v2 (acc++chs x y (n- 1) u)) J (by have g:=ih (n- 1) O u v acc (by first|exact hu|exact hu3) (by first|omega|(simp;omega));unfold Ie at g;rw[e1] at g;exact g) T.Ig ⟨rI,rI,rI,tV⟩ fun N z0=>(nl (th (dr (nh:=7) [0,0,2,0,0,16,56,127] T.mixed kR ?_)))))))))))
  refine st_ J (fun _ _ _ gq kq=>lP (gq.1.trans J) J J T.CF kq) ?_
  refine st_ J (fun _ _ _ gq kq=>mv' (gq.1.trans J) kq) ?_
  refine st_ J (fun _ _ _ gq kq=>bi (gq.1.trans J) J (kL i6) kq) ?_
  refine st_ J (fun _ _ _ gq kq=>lP (gq.1.trans J) J J T.aH kq) ?_
  refine st_ J (fun _ _ _ gq kq=>mv' (gq.1.trans J) kq) ?_
  refine st_ J (fun _ _ _ gq kq=>bi J (gq.1.trans J) (uV O O) kq) ?_
  refine st_ J (fun _ _ _ gq kq=>bi (gq.1.trans J) (gq.2.1.trans J) (pW O O O O) kq) ?_
  refine pn (Bu (Hi:=chH x y c4 c5 z0 (acc++chs x y (n- 1) u)) (ι:=Value) (res:=fun _ _=>tup []) (Ho:=fun v2=>chH x y c4 c5 v2 ((acc++chs x y (n- 1) u)++chs x y (n- 1) ((u.toNat|||((2^ ((n:Int)- 1).toNat:Nat):Int).toNat:Nat):Int))) J (by have g:=ih (n- 1) O ((u.toNat|||((2^ ((n:Int)- 1).toNat:Nat):Int).toNat:Nat):Int) z0 (acc++chs x y (n- 1) u) (by first|exact hu|exact hu3) (by first|omega|(simp;omega));unfold Ie at g;rw[e1] at g;exact g) T.Ig ⟨rI,rI,rI,tV⟩ fun N z1=>(nl ?_))
  exact rE z1 [] J [] trivial J (by first|(rw[show chs x y 0 u= [u] by unfold chs;rw[if_pos hfi]];exact⟨rI,rI,rI,tV⟩)|(rw[show chs x y 0 u= [] by unfold chs;rw[if_neg (by simp[hfi])],List.append_nil];exact⟨rI,rI,rI,tV⟩)|(rw[ech,←List.append_assoc];exact⟨rI,rI,rI,tV⟩)) eX
theorem EN (x y:SA) (hr:rising x.aP=true) (hy:∀k,k<y.aP.length→0≤ix y.aP k∧ix y.aP k<256) (c4 c5:Nat):∀(n:Nat),n≤8→∀(u:Int) (v:Value) (acc:List Int),(0≤u∧u<256)→acc.length+2^n≤1000→Ie x y c4 c5 n u v acc
 |0,hn,u,v,acc,hu,hl=>step_ok x y hr hy 0 hn c4 c5 (fun k hk=>absurd hk O) u v acc hu hl
 |k+1,hn,u,v,acc,hu,hl=>step_ok x y hr hy (k+1) hn c4 c5 (fun j hj u2 v2 acc2 hu2 hl2=>by
   obtain rfl:j=k:=by omega
   exact EN x y hr hy c4 c5 j O u2 v2 acc2 hu2 hl2) u v acc hu hl
end divc
end
section
open ref01 ref03 ref04 ref06 prog prog2 prog3 prog6 prog13 Part Rungs LeftM TrimM RoundM MergeM BisM BisM4 BisM5 WalkM StepM WitM JudgM JudgM2 refw judg wit refj sysw divr divs divd dive divg divw divv LevM LevM2 QuoM FailM FitM
theorem Dw {a b c:Int} (h1: -9223372036854775808≤a∧a≤9223372036854775807) (h2: -9223372036854775808≤b∧b≤9223372036854775807) (h3: -9223372036854775808≤c∧c≤9223372036854775807):lX (a,b,c):=⟨h1,h2,h3⟩
namespace divj
end divj
end
section
open ref01 ref03 ref04 ref06 prog prog2 prog3 prog4 prog6 prog13 Part Rungs LeftM TrimM RoundM MergeM BisM BisM4 BisM5 WalkM StepM WitM JudgM JudgM2 refw judg wit refj sysw divr divs divd dive divg divw divv divf divc LevM LevM2 ChsM QuoM FailM DivM QuoW
theorem Ui {key:Nat} {x v:Value} {w:World} {F:Fz} (h:(osl key x).p w F v):(eqv x).p w F v:=by rw[fH] at h;exact h
theorem Uj {p:Int × Int} {a b c:Int} (h:(a,b,c)=k3 p):([[int a,int b,int c]]:List (List AV))= [p].map jP:=by
 show _= [jP p]
 unfold jP
 rw[←h]
theorem Ou {t T:SS} (h1:t.sT.length≤10000) (h2:T.sT.length≤10000) {p:Int × Int} (h:qOk t T p):lX (k3 p):=by
 by_cases e:p=bes
 ·rw[e,yN];exact Dw ⟨O,O⟩ ⟨O,O⟩ ⟨O,O⟩
 ·obtain⟨a,b,c,d⟩:=h.resolve_left e
  rw[nB e];exact Dw ⟨O,O⟩ ⟨O,O⟩ ⟨O,O⟩
theorem QM {t s:SS} (h:ix (hOl s) 0=true):bN t s=(cY t.aC,true):=by unfold bN;rw[if_pos h]
theorem QO {t s:SS} (h:ix (hOl s) 0=false) (h5:(qL t (tR s).1).length≤500):bN t s=((tR (eM t (tR s).1)).1,true):=by unfold bN;rw[if_neg (by simp[h]),if_pos h5]
theorem Dx {t s:SS} (h:ix (hOl s) 0=false) (h5:500<(qL t (tR s).1).length):bN t s=(⟨[],[]⟩,false):=by unfold bN;rw[if_neg (by simp[h]),if_neg O]
theorem Wh {t T:SS} {p:Int × Int} (h:p≠bes):chs (ix t.sT ((k3 p).2.1).toNat) (ix T.sT ((k3 p).2.2).toNat) t.aC.length 0=qA t T p:=by
 rw[nB h,PL]
 unfold qA
 rw[if_neg h];rfl
theorem Wi {t T:SS} (hn:t.aC.length≤8) (p:Int × Int):(qA t T p).length≤256:=by
 have h1:(bG t.aC.length).length≤2^8:=by unfold bG;simp;exact Nat.pow_le_pow_right O hn
 unfold qA
 split
 ·exact h1
 ·exact Nat.le_trans (List.length_filter_le _ _) h1
namespace T
theorem Ih:lN Tryz.prog 172 171 3 kD lX:=PT Tryz.underlying172 Tryz.underlying171 kR (by decide+kernel) kR kR ⟨rfl,rfl,by kernel_rfl,by kernel_rfl⟩ ⟨rfl,rfl,by kernel_rfl,by kernel_rfl⟩ ⟨rfl,rfl,by kernel_rfl,by kernel_rfl⟩ kR kR
theorem Xz:eP Tryz.prog 203 [.nilFunc]:=cT kR
theorem Fs:iU Tryz.prog 171 [(0,1),(1,1),(2,1)] [.int .i64 0,.int .i64 0,.int .i64 0]:=iN kR kR
theorem XA:eP Tryz.prog 172 [.map none]:=cT kR
theorem Ii:dK Tryz.prog 172:=eL kR
theorem LF:eR Tryz.prog 173 171 3 24 [.int .i64 0,.int .i64 0,.int .i64 0]:=iW kR kR
theorem z173:eP Tryz.prog 173 [.slice none 0 0]:=cT kR
theorem tF:dK Tryz.prog 173:=eL kR
theorem Ft:IsSlice Tryz.prog 173 171 3:=fV kR
theorem tG:gX Tryz.prog 171 3:=iV kR
theorem z171:eP Tryz.prog 171 [.int .i64 0,.int .i64 0,.int .i64 0]:=cT kR
theorem Ij:eK Tryz.prog 171 0 0:=dN kR
theorem Ov:dK Tryz.prog 169:=eL kR
theorem Ik:eK Tryz.prog 171 1 1:=dN kR
theorem Bi:eK Tryz.prog 171 2 2:=dN kR
theorem Wj:Ent Tryz.prog 129:=aZ kR
end T
namespace divq
theorem Wk (x y:SA) (n:Nat) (hn:n≤8) (hr:rising x.aP=true) (hy:∀k,k<y.aP.length→0≤ix y.aP k∧ix y.aP k<256):
 Fn0 Tryz.prog 129 [int (n:Int),state x,state y] (ints (chs x y n 0)):=by
 refine fnI Tryz.func129 rfl rfl (fun w0 F0=> ?_)
 have hp8:2^n≤2^8:=Nat.pow_le_pow_right O hn
 refine fcC (cG 1 J) (fun hS1=> ?_)
 obtain⟨hxa1,hxn1⟩:=wD hS1
 refine fcC (cG 2 J) (fun hS2=> ?_)
 obtain⟨hxa2,hxn2⟩:=wD hS2
 refine sq (rg (bx (key:=4) (cs:= [sl 1 nE x.aP,sl 1 nE x.next]) J fun b4=>(bx (key:=5) (cs:= [sl 1 nE y.aP,sl 1 nE y.next]) J fun b5=>(ag (nl (th (sq (rg (al (key:=7) T.z66 (eC eZ) fun b7=>(nl (th (sq (rg (al (key:=8) T.Xz (eC eZ) fun b8=>(nl (th (sq (rg (fzv 5 5 J J (fzv 4 4 J J (nw 70 3 1 nE (knc 7 0 (osl 70 (.slice none 0 0)) J J cU (mkf (sP (φ:=clo 154 [fp [sl 1 nE y.aP,sl 1 nE y.next],fp [sl 1 nE x.aP,sl 1 nE x.next],ptr 7 b7 0,ptr 8 b8 0]) J J J T.CF J (nl (th (sq (rg (lP J J J T.CF (mv (bi J J (kL i6) (Bu (Hi:=chH x y b7 b8 (.slice none 0 0) []) (ι:=Value) (res:=fun _ _=>tup []) (Ho:=fun v2=>chH x y b7 b8 v2 (chs x y n 0)) J (EN x y hr hy b7 b8 n hn 0 (.slice none 0 0) [] ⟨O,O⟩ (by simp;omega)) T.Ig ⟨rI,rI,rI,tV⟩ fun N z=>(nl (th (sq (rg (lP J J J T.aQ (ag (nl (th (rt ?_)))))))))))))))))))))))))))))))))))))))))
 refine fzA 70 6 rfl rfl ?_
 exact rE () [.tmp 6] J [sl 1 nE (chs x y n 0)] ⟨.tmp J,tV⟩ J trivial eX
theorem IZ (t s:SS) (ht:oK t) (hs:oK s) (hts:t.aC=s.aC):
 Fn0 Tryz.prog 84 [spec t,spec s] (tup [spec (bN t s).1,bl (bN t s).2]):=by
 refine fnI Tryz.func84 rfl rfl (fun w0 F0=> ?_)
 have hop:=jU s;have f1:=ht.few1;have f2:=ht.few0;have hn8:=ht.n8
 refine fcC (cG 0 J) (fun hS0=> ?_)
 obtain⟨hsa0,hss0,hse0⟩:=sLn hS0
 refine fcC (cG 1 J) (fun hS1=> ?_)
 obtain⟨hsa1,hss1,hse1⟩:=sLn hS1
 refine sq (rg (bx (key:=2) (cs:= [sl 1 rE_ t.aC,sl 2 sE t.sT]) J fun b2=>(bx (key:=3) (cs:= [sl 1 rE_ s.aC,sl 2 sE s.sT]) J fun b3=>(al (key:=4) T.z28 (eC (eC eZ)) fun b4=>(al (key:=5) T.z4 (eC eZ) fun b5=>(nl (th (sq (rg (lPA J J T.aI J (eW (φs:= [agg [sl 1 rE_ s.aC,sl 2 sE s.sT]]) (φ:=tup [agg [sl 1 rE_ ((tR s).1.aC),sl 2 sE ((tR s).1.sT)],sl 1 nE ((tR s).2)]) ⟨J,tV⟩ (prog9.oP s aS) T.xA (fun N hN=>fun h=>jL (cs:= [agg [fre N (sl 1 rE_ ((tR s).1.aC)),frb (ix (hOl s) 0) N (sl 2 sE ((tR s).1.sT))],sl 1 nE ((tR s).2)]) (ds:= [agg [sl 1 rE_ ((tR s).1.aC),sl 2 sE ((tR s).1.sT)],sl 1 nE ((tR s).2)]) ⟨fun h=>dY (cs:= [fre N (sl 1 rE_ ((tR s).1.aC)),frb (ix (hOl s) 0) N (sl 2 sE ((tR s).1.sT))]) (ds:= [sl 1 rE_ ((tR s).1.aC),sl 2 sE ((tR s).1.sT)]) ⟨fun h=>eS h,fun h=>uY h,tV⟩ h,fun h=>h,tV⟩ h) (mv (xt J J (xt J J (sPA (cs':= [sl 1 rE_ ((tR s).1.aC),sl 2 sE ((tR s).1.sT)]) J J J T.aI J J (ag (nl (th (sq (sq (rg (mv (fc (bB 26 J) fun hm26=>(lnF J T.aU (bi J J fS (nl (th ?_)))))))))))))))))))))))))))
 refine cd J (fun hc0=> ?_) (fun hc0=> ?_)
 ·try simp at hc0
  have hh0:ix (hOl s) 0=true:=by
   cases h:ix (hOl s) 0 with
   |true=>rfl
   |false=>
    exfalso
    rw[dE h] at hc0
    have h3:=hop
    rw[show aF s= [] from hc0] at h3
    simp at h3
  have hq0:=QM (t:=t) hh0
  refine sq (rg (fP J T.cD (lP J J J T.bZ (bC (φs:= [sl 1 rE_ t.aC]) (φ:=agg [sl 1 rE_ (cY t.aC).aC,sl 2 sE (cY t.aC).sT]) ⟨J,tV⟩ (divv.wR t.aC O) T.Fl (sPA (cs':= [sl 1 rE_ (cY t.aC).aC,sl 2 sE (cY t.aC).sT]) J J J T.aI J J (sP (φ:=bl true) J J J T.eE J (nl (th (rt (rt_ ?_))))))))))
  have hr0:(cY t.aC).aC=((bN t s).1).aC:=by
   rw[hq0]
  have hr1:(cY t.aC).sT=((bN t s).1).sT:=by
   rw[hq0]
  have hr2:true=((bN t s).2):=by
   rw[hq0]
  exact rE () [.cell 4 28,.cell 5 4] J [agg [sl 1 rE_ (cY t.aC).aC,sl 2 sE (cY t.aC).sT],bl true] ⟨.agg J J T.aI J J,.one J J T.eE J,tV⟩ (cA3 (fun x0 x1 x2=>rV [agg [sl 1 rE_ x0,sl 2 sE x1],bl x2]) hr0 hr1 hr2) trivial eX
 ·try simp at hc0
  have h00:ix (hOl s) 0=false:=by
   cases h:ix (hOl s) 0 with
   |false=>rfl
   |true=>exact absurd (by rw[dQ h]) hc0
  have hT:=kC hs
  have hU:=yL hs
  have hTa:(tR s).1.aC.length=t.aC.length:=by rw[kK,←hts]
  have hT8:=hT.n8
  have f4:=hT.few1
  have f5:=hT.few0
  refine sk (th (sq (rg (fP J T.cD (lP J J J T.bZ (bC (φs:= [sl 1 rE_ t.aC]) (φ:=agg [sl 1 rE_ (cY t.aC).aC,sl 2 sE (cY t.aC).sT]) ⟨J,tV⟩ (divv.wR t.aC O) T.Fl (KU J T.Du T.bP J (iF J J T.cR O (gK (k:=0) (by show 0<1;omega)) (fF J T.cE (lF J J T.aQ (ag (nl (th (sq (rg (mkm (key:=39) (kE:=kD) (dom:=lX) (vE:=fU) fun b39=>(bd (css:= []) T.Fs (eC (eC (eC eZ))) trivial (AL.insert (q:=(0,0,0)) (u:=0) J J Dd J T.Ih (Dw ⟨O,O⟩ ⟨O,O⟩ ⟨O,O⟩) (mv (al (key:=8) T.XA (eC eZ) fun b8=>(sP (φ:=mpv 39 b39) J J J T.Ii J (nl (th (sq (rg (bd (css:= []) T.Fs (eC (eC (eC eZ))) trivial (bsO 43 (enc:=jP) (xs:= [(0,0)]) (css:= [[int 0,int 0,int 0]]) T.LF ⟨J,J,pA (cs:= [int 0,int 0,int 0]) J,tV⟩ J J J J fun v43=>(al (key:=9) T.z173 (eC eZ) fun b9=>(bQ J J J J T.tF J (nl (th (sq (rg (fP J T.cD (lP J J J T.bZ (eW (φs:= [sl 1 rE_ t.aC]) (φ:=sl 1 rE_ t.aC) ⟨J,tV⟩ (prog.dW _ O) T.mZ (fun N hN=>fun h=>eS h) (bd (css:= [(0,_)]) T.kA (eC (eC eZ)) ⟨J,J,p1 (φ:=sl 1 rE_ t.aC) J,tV⟩ (al (key:=10) T.z28 (eC (eC eZ)) fun b10=>(sPA (cs':= [sl 1 rE_ t.aC,eqv (.slice none 0 0)]) J J J T.aI J J (nl (th (sq (sq (rg (ag (nl (th (bk ?_))))))))))))))))))))))))))))))))))))))))))))))))
  refine nwC 100 79 2 sE (jY 10 1 (osl 100 (.slice none 0 0)) rfl rfl cU ?_)
  have hI0_0:QW t (tR s).1 0 ([(0,0)]:List (Int × Int)) (bT ([]:List ((Int × Int × Int) × Int)) (0,0,0) 0) ([]:List SA):=by
   exact Tf ht hT
  refine lp (κ:=Nat × Value × (List (Int × Int)) × (List ((Int × Int × Int) × Int)) × Value × (List SA)) (fun p=> [(2,ptr 2 b2 0),(3,ptr 3 b3 0),(4,ptr 4 b4 0),(5,ptr 5 b5 0),(7,sl 1 nE (ix (cY t.aC).sT 0).aP),(8,ptr 8 b8 0),(9,ptr 9 b9 0),(10,ptr 10 b10 0),(11,int (p.1:Int))]) (fun p=> [(2,cell b2 [sl 1 rE_ t.aC,sl 2 sE t.sT]),(3,cell b3 [sl 1 rE_ ((tR s).1.aC),sl 2 sE ((tR s).1.sT)]),(4,cell b4 [eqv (.slice none 0 0),eqv (.slice none 0 0)]),(5,cell b5 [bl false]),(8,cell b8 [mpv 39 b39]),(9,cell b9 [osl 43 p.2.1]),(10,cell b10 [sl 1 rE_ t.aC,osl 100 p.2.2.2.2.1]),(39,mp b39 kD lX fU p.2.2.2.1),(43,own p.2.1 171 3 jP p.2.2.1),(100,own p.2.2.2.2.1 79 2 sE p.2.2.2.2.2)]) (fun p=>QW t (tR s).1 p.1 p.2.2.1 p.2.2.2.1 p.2.2.2.2.2) (fun p=>501- p.1) ⟨0,v43,([(0,0)]:List (Int × Int)),bT ([]:List ((Int × Int × Int) × Int)) (0,0,0) 0,(.slice none 0 0),([]:List SA)⟩ hI0_0 ⟨id,id,id,id,id,id,id,id,id,tV⟩ ⟨rI,rI,rI,rI,rI,rI,rI,rI,rI,rI,tV⟩ ?_
  intro⟨i,v,ql,mm,v10,aD⟩ hG0
  have hQW:QW t (tR s).1 i ql mm aD:=hG0
  show Ct _ _ _ _ [(2,ptr 2 b2 0),(3,ptr 3 b3 0),(4,ptr 4 b4 0),(5,ptr 5 b5 0),(7,sl 1 nE (ix (cY t.aC).sT 0).aP),(8,ptr 8 b8 0),(9,ptr 9 b9 0),(10,ptr 10 b10 0),(11,int (i:Int))] [(2,cell b2 [sl 1 rE_ t.aC,sl 2 sE t.sT]),(3,cell b3 [sl 1 rE_ ((tR s).1.aC),sl 2 sE ((tR s).1.sT)]),(4,cell b4 [eqv (.slice none 0 0),eqv (.slice none 0 0)]),(5,cell b5 [bl false]),(8,cell b8 [mpv 39 b39]),(9,cell b9 [osl 43 v]),(10,cell b10 [sl 1 rE_ t.aC,osl 100 v10]),(39,mp b39 kD lX fU mm),(43,own v 171 3 jP ql),(100,own v10 79 2 sE aD)] _
  have hlf:=hQW.few
  have hil:=hQW.il
  have hol:aD.length≤i:=by rw[hQW.out];simp;omega
  refine sq (sq (rg (mv (lP J J J T.tF (lnO J J T.Ft (bi J J bA (nl (th ?_))))))))
  refine cd J (fun hc1=> ?_) (fun hc1=> ?_)
  ·try simp at hc1
   refine sk (th (sq (bk (sq (rg (lP J J J T.tF (mv (iO J J J T.Ft O O (lOA J J gB T.tG (by decide) (al (key:=12) T.z171 (eC (eC (eC eZ))) fun b12=>(sPA (cs':= [int ((k3 (ix ql i)).1),int ((k3 (ix ql i)).2.1),int ((k3 (ix ql i)).2.2)]) J J J T.tG J J (nl (th (sq (rg (mv (bsE (enc:=nE) (xs:= [(-1)]) (css:= [[int (-1)]]) T.cH ⟨J,J,p1 (φ:=int (-1)) J,tV⟩ J J J J (fP J T.cD (lP J J J T.bZ (fc (bB 61 J) fun hm61=>(lnF J T.eH (cl (prog8.nV t.aC.length O) T.zL trivial fun N63 v63=>(fc (svI 30 J) fun hsv30=> ?_)))))))))))))))))))))))
   rw[←hsv30]
   refine kn 63 (eqv (sv v63)) rfl Ui (bd (css:= [(0,_),(1,_)]) T.sB (eC (eC eZ)) ⟨rfl,rfl,p1 (φ:=sl 1 nE (ix (cY t.aC).sT 0).aP) rfl,⟨rfl,rfl,p1 (φ:=eqv (sv v63)) rfl,tV⟩⟩ (al (key:=13) T.z79 (eC (eC eZ)) fun b13=>(sPA (cs':= [sl 1 nE (ix (cY t.aC).sT 0).aP,eqv (sv v63)]) rfl rfl rfl T.cX rfl rfl (knc 13 1 (osl 30 (sv v63)) rfl rfl cU (nl (th (sq (sq (rg (fP rfl T.Ij (lP rfl rfl rfl T.Ov (bi rfl rfl fS (nl (th ?_))))))))))))))
   refine jn (κ:=(List Int)) (fun p=> [(2,ptr 2 b2 0),(3,ptr 3 b3 0),(4,ptr 4 b4 0),(5,ptr 5 b5 0),(7,sl 1 nE (ix (cY t.aC).sT 0).aP),(8,ptr 8 b8 0),(9,ptr 9 b9 0),(10,ptr 10 b10 0),(11,int (i:Int)),(12,ptr 12 b12 0),(13,ptr 13 b13 0)]) (fun p=> [(2,cell b2 [sl 1 rE_ t.aC,sl 2 sE t.sT]),(3,cell b3 [sl 1 rE_ ((tR s).1.aC),sl 2 sE ((tR s).1.sT)]),(4,cell b4 [eqv (.slice none 0 0),eqv (.slice none 0 0)]),(5,cell b5 [bl false]),(8,cell b8 [mpv 39 b39]),(9,cell b9 [osl 43 v]),(10,cell b10 [sl 1 rE_ t.aC,osl 100 v10]),(12,cell b12 [int ((k3 (ix ql i)).1),int ((k3 (ix ql i)).2.1),int ((k3 (ix ql i)).2.2)]),(13,cell b13 [sl 1 nE p,osl 30 (sv v63)]),(30,own (sv v63) 3 1 nE (List.replicate t.aC.length (-1))),(39,mp b39 kD lX fU mm),(43,own v 171 3 jP ql),(100,own v10 79 2 sE aD)]) (fun p=>p=qA t (tR s).1 (ix ql i)) ?_ ?_
   ·
    refine cd J (fun hc2=> ?_) (fun hc2=> ?_)
    ·try simp at hc2
     have hp0:(k3 (ix ql i)).1=0:=hc2
     have hnb:=Lj hp0
     have hk3:=nB hnb
     have hpb:=(hQW.ok _ (aX hc1)).resolve_left hnb
     obtain⟨hp1,hp2,hp3,hp4⟩:=hpb
     have hk1:(k3 (ix ql i)).2.1=(ix ql i).1:=by rw[hk3]
     have hk2:(k3 (ix ql i)).2.2=(ix ql i).2:=by rw[hk3]
     have hst:=ht.st ((k3 (ix ql i)).2.1).toNat O
     have hss:=hT.st ((k3 (ix ql i)).2.2).toNat O
     have htl:=hst.len
     have hsl:=hss.len
     have hri:=hst.rise
     have hac:=hss.ac
     refine dr (nh:=17) [0,1,3,0,8,0,32,120,248,0,512,0,2048,7680,15872,32767,65535,131071] T.mixed kR ?_
     refine st_ J (fun _ _ _ gq kq=>fP (gq.1.trans J) T.cD kq) ?_
     refine st_ J (fun _ _ _ gq kq=>lP (gq.1.trans J) J J T.bZ kq) ?_
     refine st_ J (fun _ _ _ gq kq=>lnF (gq.1.trans J) T.eH kq) ?_
     refine st_ J (fun _ _ _ gq kq=>fP (gq.1.trans J) T.bE kq) ?_
     refine st_ J (fun _ _ _ gq kq=>lP (gq.1.trans J) J J T.bP kq) ?_
     refine st_ J (fun _ _ _ gq kq=>fP (gq.1.trans J) T.Ik kq) ?_
     refine st_ J (fun _ _ _ gq kq=>lP (gq.1.trans J) J J T.aH kq) ?_
     refine st_ J (fun _ _ _ gq kq=>iF (gq.1.trans J) (gq.2.1.trans J) T.cR O gB kq) ?_
     refine st_ J (fun _ _ _ gq kq=>lFA (gq.1.trans J) T.cX (Nat.le_of_ble_eq_true J) kq) ?_
     refine st_ J (fun _ _ _ gq kq=>fP (gq.1.trans J) T.bE kq) ?_
     refine st_ J (fun _ _ _ gq kq=>lP (gq.1.trans J) J J T.bP kq) ?_
     refine st_ J (fun _ _ _ gq kq=>fP (gq.1.trans J) T.Bi kq) ?_
     refine st_ J (fun _ _ _ gq kq=>lP (gq.1.trans J) J J T.aH kq) ?_
     refine st_ J (fun _ _ _ gq kq=>iF (gq.1.trans J) (gq.2.1.trans J) T.cR O gB kq) ?_
     refine st_ J (fun _ _ _ gq kq=>lFA (gq.1.trans J) T.cX (Nat.le_of_ble_eq_true J) kq) ?_
     refine st_ J (fun _ _ _ gq kq=>bC (φs:= [int (t.aC.length:Int),agg [sl 1 nE (ix t.sT ((k3 (ix ql i)).2.1).toNat).aP,sl 1 nE (ix t.sT ((k3 (ix ql i)).2.1).toNat).next],agg [sl 1 nE (ix ((tR s).1.sT) ((k3 (ix ql i)).2.2).toNat).aP,sl 1 nE (ix ((tR s).1.sT) ((k3 (ix ql i)).2.2).toNat).next]]) (φ:=sl 1 nE (chs (ix t.sT ((k3 (ix ql i)).2.1).toNat) (ix ((tR s).1.sT) ((k3 (ix ql i)).2.2).toNat) t.aC.length 0)) ⟨(gq.1.trans J),(gq.2.1.trans J),(gq.2.2.1.trans J),tV⟩ (divq.Wk (ix t.sT ((k3 (ix ql i)).2.1).toNat) (ix ((tR s).1.sT) ((k3 (ix ql i)).2.2).toNat) t.aC.length O aS aS) T.Wj kq) ?_
     refine st_ J (fun _ _ _ gq kq=>fP (gq.1.trans J) T.cE kq) ?_
     refine pn (sP (φ:=sl 1 nE (chs (ix t.sT ((k3 (ix ql i)).2.1).toNat) (ix ((tR s).1.sT) ((k3 (ix ql i)).2.2).toNat) t.aC.length 0)) J J J T.aQ J (nl ?_))
     have hN0:(chs (ix t.sT ((k3 (ix ql i)).2.1).toNat) (ix ((tR s).1.sT) ((k3 (ix ql i)).2.2).toNat) t.aC.length 0)=qA t (tR s).1 (ix ql i):=by
      exact Wh hnb
     exact jx (chs (ix t.sT ((k3 (ix ql i)).2.1).toNat) (ix ((tR s).1.sT) ((k3 (ix ql i)).2.2).toNat) t.aC.length 0) hN0 ⟨id,id,id,id,id,id,id,id,id,id,id,tV⟩ ⟨rI,rI,rI,rI,rI,rI,rI,rI,rI,rI,rI,rI,rI,tV⟩
    ·try simp at hc2
     have hpb:(ix ql i)=bes:=WG hc2
     refine sk ?_
     have hN0:(ix (cY t.aC).sT 0).aP=qA t (tR s).1 (ix ql i):=by
      unfold qA;rw[if_pos hpb];rfl
     exact jx (ix (cY t.aC).sT 0).aP hN0 ⟨id,id,id,id,id,id,id,id,id,id,id,tV⟩ ⟨rI,rI,rI,rI,rI,rI,rI,rI,rI,rI,rI,rI,rI,tV⟩
   ·intro ac hG
    have hJ2:ac=qA t (tR s).1 (ix ql i):=hG
    have hal:ac.length≤256:=by rw[hJ2];exact Wi hn8 _
    have hab:∀u∈ac,0≤u∧u<256:=fun u hu=>by rw[hJ2] at hu;exact Rq hn8 hu
    skip
    show At _ _ _ [(2,ptr 2 b2 0),(3,ptr 3 b3 0),(4,ptr 4 b4 0),(5,ptr 5 b5 0),(7,sl 1 nE (ix (cY t.aC).sT 0).aP),(8,ptr 8 b8 0),(9,ptr 9 b9 0),(10,ptr 10 b10 0),(11,int (i:Int)),(12,ptr 12 b12 0),(13,ptr 13 b13 0)] [(2,cell b2 [sl 1 rE_ t.aC,sl 2 sE t.sT]),(3,cell b3 [sl 1 rE_ ((tR s).1.aC),sl 2 sE ((tR s).1.sT)]),(4,cell b4 [eqv (.slice none 0 0),eqv (.slice none 0 0)]),(5,cell b5 [bl false]),(8,cell b8 [mpv 39 b39]),(9,cell b9 [osl 43 v]),(10,cell b10 [sl 1 rE_ t.aC,osl 100 v10]),(12,cell b12 [int ((k3 (ix ql i)).1),int ((k3 (ix ql i)).2.1),int ((k3 (ix ql i)).2.2)]),(13,cell b13 [sl 1 nE ac,osl 30 (sv v63)]),(30,own (sv v63) 3 1 nE (List.replicate t.aC.length (-1))),(39,mp b39 kD lX fU mm),(43,own v 171 3 jP ql),(100,own v10 79 2 sE aD)]
    refine th (sq (rg (ag (nl (th (sq (sq (rg (fP rfl T.cE (lP rfl rfl rfl T.aQ (fc (bB 86 rfl) fun hm86=>(lnF rfl T.aU (mv (nl (th (bk ?_))))))))))))))))
    have hI1_0:0≤ac.length:=by
     first|omega|simp
    have hI1_1:(0:Int)=aT (ac.take 0)∧0≤(0:Int)∧(0:Int)<256:=by
     exact⟨rfl,O,O⟩
    refine lp (κ:=Nat × Int) (fun p=> [(2,ptr 2 b2 0),(3,ptr 3 b3 0),(4,ptr 4 b4 0),(5,ptr 5 b5 0),(7,sl 1 nE (ix (cY t.aC).sT 0).aP),(8,ptr 8 b8 0),(9,ptr 9 b9 0),(10,ptr 10 b10 0),(11,int (i:Int)),(12,ptr 12 b12 0),(13,ptr 13 b13 0),(14,int p.2),(86,sl 1 nE ac),(87,int (ac.length:Int)),(88,int (p.1:Int))]) (fun p=> [(2,cell b2 [sl 1 rE_ t.aC,sl 2 sE t.sT]),(3,cell b3 [sl 1 rE_ ((tR s).1.aC),sl 2 sE ((tR s).1.sT)]),(4,cell b4 [eqv (.slice none 0 0),eqv (.slice none 0 0)]),(5,cell b5 [bl false]),(8,cell b8 [mpv 39 b39]),(9,cell b9 [osl 43 v]),(10,cell b10 [sl 1 rE_ t.aC,osl 100 v10]),(12,cell b12 [int ((k3 (ix ql i)).1),int ((k3 (ix ql i)).2.1),int ((k3 (ix ql i)).2.2)]),(13,cell b13 [sl 1 nE ac,osl 30 (sv v63)]),(30,own (sv v63) 3 1 nE (List.replicate t.aC.length (-1))),(39,mp b39 kD lX fU mm),(43,own v 171 3 jP ql),(100,own v10 79 2 sE aD)]) (fun p=>(p.1≤ac.length)∧(p.2=aT (ac.take p.1)∧0≤p.2∧p.2<256)) (fun p=>ac.length- p.1) ⟨0,(0:Int)⟩ ⟨hI1_0,hI1_1⟩ ⟨id,id,id,id,id,id,id,id,id,id,id,id,id,id,id,tV⟩ ⟨rI,rI,rI,rI,rI,rI,rI,rI,rI,rI,rI,rI,rI,tV⟩ ?_
    intro⟨k1,cn⟩ hG1
    obtain⟨hk1,hI1⟩:(k1≤ac.length)∧(cn=aT (ac.take k1)∧0≤cn∧cn<256):=hG1
    show Ct _ _ _ _ [(2,ptr 2 b2 0),(3,ptr 3 b3 0),(4,ptr 4 b4 0),(5,ptr 5 b5 0),(7,sl 1 nE (ix (cY t.aC).sT 0).aP),(8,ptr 8 b8 0),(9,ptr 9 b9 0),(10,ptr 10 b10 0),(11,int (i:Int)),(12,ptr 12 b12 0),(13,ptr 13 b13 0),(14,int cn),(86,sl 1 nE ac),(87,int (ac.length:Int)),(88,int (k1:Int))] [(2,cell b2 [sl 1 rE_ t.aC,sl 2 sE t.sT]),(3,cell b3 [sl 1 rE_ ((tR s).1.aC),sl 2 sE ((tR s).1.sT)]),(4,cell b4 [eqv (.slice none 0 0),eqv (.slice none 0 0)]),(5,cell b5 [bl false]),(8,cell b8 [mpv 39 b39]),(9,cell b9 [osl 43 v]),(10,cell b10 [sl 1 rE_ t.aC,osl 100 v10]),(12,cell b12 [int ((k3 (ix ql i)).1),int ((k3 (ix ql i)).2.1),int ((k3 (ix ql i)).2.2)]),(13,cell b13 [sl 1 nE ac,osl 30 (sv v63)]),(30,own (sv v63) 3 1 nE (List.replicate t.aC.length (-1))),(39,mp b39 kD lX fU mm),(43,own v 171 3 jP ql),(100,own v10 79 2 sE aD)] _
    refine sq (rg (bi J J bA (nl (th (sq ?_)))))
    refine cd J (fun hc3=> ?_) (fun hc3=> ?_)
    ·try simp at hc3
     have hkb:=hab _ (aX (l:=ac) (i:=k1) O)
     refine sk (th (sq (bk (sq (rg (iF J J T.aU O gB (lF J J T.aH (ag (nl (th (rg (mv (mv (bi J J (pW O O O O) (ag (nl (eb (th (rg (bi J J (aN i6) (mv (nl ?_))))))))))))))))))))))
     have hN0:(k1+1)≤ac.length:=by
      first|omega|simp_all
     have hN1:((cn.toNat|||(ix ac k1).toNat:Nat):Int)=aT (ac.take (k1+1))∧0≤((cn.toNat|||(ix ac k1).toNat:Nat):Int)∧((cn.toNat|||(ix ac k1).toNat:Nat):Int)<256:=by
      refine⟨?_,O,iY hI1.2.2 hkb.2⟩
      rw[bK O,fW,←hI1.1]
     exact ln (⟨k1+1,((cn.toNat|||(ix ac k1).toNat:Nat):Int)⟩:Nat × Int) ⟨hN0,hN1⟩ dO ⟨id,id,id,id,id,id,id,id,id,id,id,id,id,id,id,tV⟩ ⟨rI,rI,rI,rI,rI,rI,rI,rI,rI,rI,rI,rI,rI,tV⟩
    ·try simp at hc3
     refine ex (xt_ (xt_ (xb (th (sq (sq (rg (mv (bC (φs:= [int cn]) (φ:=clo 137 [fp [int cn]]) ⟨J,tV⟩ (prog3.mX cn) T.mY (nl (th (bk ?_))))))))))))
     have hR0:QN t (tR s).1 i ql 0 ql mm (List.replicate t.aC.length (-1)):=by
      exact Tg hQW
     refine rf (κ:=Value × (List (Int × Int)) × (List ((Int × Int × Int) × Int)) × (List Int)) 900 (fun p=> [(2,cell b2 [sl 1 rE_ t.aC,sl 2 sE t.sT]),(3,cell b3 [sl 1 rE_ ((tR s).1.aC),sl 2 sE ((tR s).1.sT)]),(4,cell b4 [eqv (.slice none 0 0),eqv (.slice none 0 0)]),(5,cell b5 [bl false]),(8,cell b8 [mpv 39 b39]),(9,cell b9 [osl 43 p.1]),(10,cell b10 [sl 1 rE_ t.aC,osl 100 v10]),(12,cell b12 [int ((k3 (ix ql i)).1),int ((k3 (ix ql i)).2.1),int ((k3 (ix ql i)).2.2)]),(13,cell b13 [sl 1 nE ac,osl 30 (sv v63)]),(30,own (sv v63) 3 1 nE p.2.2.2),(39,mp b39 kD lX fU p.2.2.1),(43,own p.1 171 3 jP p.2.1),(100,own v10 79 2 sE aD)]) (fun iR p=>QN t (tR s).1 i ql iR p.2.1 p.2.2.1 p.2.2.2) (fun c p=>c= .ret∧(500<(qL t (tR s).1).length)) J (qX cn O O) T.kW J (fun _=>J) (fun _=>J) ⟨v,ql,mm,List.replicate t.aC.length (-1)⟩ hR0 ⟨rI,rI,rI,rI,rI,rI,rI,rI,rI,rI,rI,rI,rI,tV⟩ ?_ ?_ ?_ (fun id k h=>nomatch h.1) (fun c k h=> .inl h.1)
     ·intro m0 ⟨v2,l2,mm2,nx⟩ x0 hG0 hx0 l R w1 M1 F1 hRd
      have hR0:QN t (tR s).1 i ql m0 l2 mm2 nx:=hG0
      show Ct _ _ _ _ _ ((900,obj l (.loop R)):: [(2,cell b2 [sl 1 rE_ t.aC,sl 2 sE t.sT]),(3,cell b3 [sl 1 rE_ ((tR s).1.aC),sl 2 sE ((tR s).1.sT)]),(4,cell b4 [eqv (.slice none 0 0),eqv (.slice none 0 0)]),(5,cell b5 [bl false]),(8,cell b8 [mpv 39 b39]),(9,cell b9 [osl 43 v2]),(10,cell b10 [sl 1 rE_ t.aC,osl 100 v10]),(12,cell b12 [int ((k3 (ix ql i)).1),int ((k3 (ix ql i)).2.1),int ((k3 (ix ql i)).2.2)]),(13,cell b13 [sl 1 nE ac,osl 30 (sv v63)]),(30,own (sv v63) 3 1 nE nx),(39,mp b39 kD lX fU mm2),(43,own v2 171 3 jP l2),(100,own v10 79 2 sE aD)]) _
      have hcn2:cn=aT (qA t (tR s).1 (ix ql i)):=by rw[←hJ2,hI1.1,show k1=ac.length by omega,List.take_length]
      have hx2:(bY (qA t (tR s).1) (ix ql i))[m0]?=some x0:=by unfold bY;rw[←hcn2];exact hx0
      obtain⟨a,rfl,ha63,hha⟩:=fZ hx0
      have hha2:has (aT (qA t (tR s).1 (ix ql i))) (a:Int)=true:=by rw[←hcn2];exact hha
      have hal8:=Cj hha2
      have hqok1:=Rt ht hT hU hTa (hQW.ok _ (aX hc1)) hha2
      have hnl:nx.length=t.aC.length:=by rw[hR0.nx];simp
      have hl2f:=hR0.few
      refine rg (ag (nl (aq hRd J (bk (sq (rg (bd (css:= [(0,_)]) T.Fs (eC (eC (eC eZ))) ⟨J,J,p1 (φ:=int 1) J,tV⟩ (al (key:=18) T.z171 (eC (eC (eC eZ))) fun b18=>(sPA (cs':= [int 1,int 0,int 0]) J J J T.tG J J (nl (th (sq (sq (rg (fP J T.Ij (lP J J J T.Ov (bi J J fS (mv ?_))))))))))))))))))
      apply gM (t:=103) (pd:=115) rfl
      rotate_left
      ·intro hg0 fin
       have hg0':=hg0
       try simp at hg0'
       have hp0:(k3 (ix ql i)).1=0:=by simpa using hg0
       have hnb:=Lj hp0
       have hk3:=nB hnb
       have hpb:=(hQW.ok _ (aX hc1)).resolve_left hnb
       obtain⟨hp1,hp2,hp3,hp4⟩:=hpb
       have hk1:(k3 (ix ql i)).2.1=(ix ql i).1:=by rw[hk3]
       have hk2:(k3 (ix ql i)).2.2=(ix ql i).2:=by rw[hk3]
       have hst:=ht.st ((k3 (ix ql i)).2.1).toNat O
       have hss:=hT.st ((k3 (ix ql i)).2.2).toNat O
       have htl:=hst.len
       have hsl:=hss.len
       exact gy J J J hg0 (fP J T.bE (gy J J J hg0 (lP J J J T.bP (gy J J J hg0 (fP J T.Bi (gy J J J hg0 (lP J J J T.aH (gy J J J hg0 (iF J J T.cR O gB (gy J J J hg0 (fF J T.cP (gy J J J hg0 (lF J J T.aQ (gy J J J hg0 (mv (gy J J J hg0 (iF J J T.aU O gB (gy J J J hg0 (lF J J T.aH (gy J J J hg0 (bi J J jW (pkT J hg0 J (drp (X:= [(114,_),(113,_),(112,_),(111,_),(110,_),(109,_),(108,_),(107,_),(106,_),(105,_),(104,_)]) ⟨J,J,J,J,J,J,J,J,J,J,J,tV⟩ fin)))))))))))))))))))))))
      ·intro hg0 fin
       exact gn J J J hg0 J J (gn J J J hg0 J J (gn J J J hg0 J J (gn J J J hg0 J J (gn J J J hg0 J J (gn J J J hg0 J J (gn J J J hg0 J J (gn J J J hg0 J J (gn J J J hg0 J J (gn J J J hg0 J J (gn J J J hg0 J J (pkF J hg0 J (drp (X:= [(114,_),(113,_),(112,_),(111,_),(110,_),(109,_),(108,_),(107,_),(106,_),(105,_),(104,_)]) ⟨J,J,J,J,J,J,J,J,J,J,J,tV⟩ fin))))))))))))
      refine nl (th ?_)
      refine jn (κ:=Int × Int × Int) (fun p=> [(4,ptr 4 b4 0),(5,ptr 5 b5 0),(8,ptr 8 b8 0),(9,ptr 9 b9 0),(13,ptr 13 b13 0),(17,int (a:Int)),(18,ptr 18 b18 0)]) (fun p=> [(2,cell b2 [sl 1 rE_ t.aC,sl 2 sE t.sT]),(3,cell b3 [sl 1 rE_ ((tR s).1.aC),sl 2 sE ((tR s).1.sT)]),(4,cell b4 [eqv (.slice none 0 0),eqv (.slice none 0 0)]),(5,cell b5 [bl false]),(8,cell b8 [mpv 39 b39]),(9,cell b9 [osl 43 v2]),(10,cell b10 [sl 1 rE_ t.aC,osl 100 v10]),(12,cell b12 [int ((k3 (ix ql i)).1),int ((k3 (ix ql i)).2.1),int ((k3 (ix ql i)).2.2)]),(13,cell b13 [sl 1 nE ac,osl 30 (sv v63)]),(18,cell b18 [int p.1,int p.2.1,int p.2.2]),(30,own (sv v63) 3 1 nE nx),(39,mp b39 kD lX fU mm2),(43,own v2 171 3 jP l2),(100,own v10 79 2 sE aD),(900,obj l (.loop { R with state:= .busy }))]) (fun p=>(p.1,p.2.1,p.2.2)=k3 (qN t (tR s).1 (ix ql i) a)) ?_ ?_
      ·
       refine cd J (fun hc4=> ?_) (fun hc4=> ?_)
       ·try simp at hc4
        have hp0:(k3 (ix ql i)).1=0:=hc4.1
        have hnb:=Lj hp0
        have hk3:=nB hnb
        have hpb:=(hQW.ok _ (aX hc1)).resolve_left hnb
        obtain⟨hp1,hp2,hp3,hp4⟩:=hpb
        have hk1:(k3 (ix ql i)).2.1=(ix ql i).1:=by rw[hk3]
        have hk2:(k3 (ix ql i)).2.2=(ix ql i).2:=by rw[hk3]
        have hst:=ht.st ((k3 (ix ql i)).2.1).toNat O
        have hss:=hT.st ((k3 (ix ql i)).2.2).toNat O
        have htl:=hst.len
        have hsl:=hss.len
        have hgo:=Rs ht hT hU hTa (hQW.ok _ (aX hc1)) hnb hha2 (by show 0≤ix (ix (tR s).1.sT (ix ql i).2.toNat).next a;have h:=hc4.2;rw[hk2] at h;exact h)
        refine dr (nh:=21) [0,1,0,4,15,31,63,0,255,511,0,1024,0,4096,15360,31744,64512,0,261120,523264,1048575,2097151] T.mixed kR ?_
        refine st_ J (fun _ _ _ gq kq=>fP (gq.1.trans J) T.bE kq) ?_
        refine st_ J (fun _ _ _ gq kq=>lP (gq.1.trans J) J J T.bP kq) ?_
        refine st_ J (fun _ _ _ gq kq=>fP (gq.1.trans J) T.Ik kq) ?_
        refine st_ J (fun _ _ _ gq kq=>lP (gq.1.trans J) J J T.aH kq) ?_
        refine st_ J (fun _ _ _ gq kq=>iF (gq.1.trans J) (gq.2.1.trans J) T.cR O gB kq) ?_
        refine st_ J (fun _ _ _ gq kq=>fF (gq.1.trans J) T.cP kq) ?_
        refine st_ J (fun _ _ _ gq kq=>lF (gq.1.trans J) J T.aQ kq) ?_
        refine st_ J (fun _ _ _ gq kq=>mv' (gq.1.trans J) kq) ?_
        refine st_ J (fun _ _ _ gq kq=>iF (gq.1.trans J) (gq.2.1.trans J) T.aU O gB kq) ?_
        refine st_ J (fun _ _ _ gq kq=>lF (gq.1.trans J) J T.aH kq) ?_
        refine st_ J (fun _ _ _ gq kq=>fP (gq.1.trans J) T.bE kq) ?_
        refine st_ J (fun _ _ _ gq kq=>lP (gq.1.trans J) J J T.bP kq) ?_
        refine st_ J (fun _ _ _ gq kq=>fP (gq.1.trans J) T.Bi kq) ?_
        refine st_ J (fun _ _ _ gq kq=>lP (gq.1.trans J) J J T.aH kq) ?_
        refine st_ J (fun _ _ _ gq kq=>iF (gq.1.trans J) (gq.2.1.trans J) T.cR O gB kq) ?_
        refine st_ J (fun _ _ _ gq kq=>fF (gq.1.trans J) T.cP kq) ?_
        refine st_ J (fun _ _ _ gq kq=>lF (gq.1.trans J) J T.aQ kq) ?_
        refine st_ J (fun _ _ _ gq kq=>mv' (gq.1.trans J) kq) ?_
        refine st_ J (fun _ _ _ gq kq=>iF (gq.1.trans J) (gq.2.1.trans J) T.aU O gB kq) ?_
        refine st_ J (fun _ _ _ gq kq=>lF (gq.1.trans J) J T.aH kq) ?_
        refine st_ J (fun _ _ _ gq kq=>bd (css:= [(0,_),(1,_),(2,_)]) T.Fs (eC (eC (eC eZ))) ⟨J,J,p1 (φ:=int 0) J,⟨J,J,p1 (φ:=int (ix (ix t.sT ((k3 (ix ql i)).2.1).toNat).next a)) (by exact(gq.1.trans J)),⟨J,J,p1 (φ:=int (ix (ix ((tR s).1.sT) ((k3 (ix ql i)).2.2).toNat).next a)) (by exact(gq.2.1.trans J)),tV⟩⟩⟩ kq) ?_
        refine pn (sPA (cs':= [int 0,int (ix (ix t.sT ((k3 (ix ql i)).2.1).toNat).next a),int (ix (ix ((tR s).1.sT) ((k3 (ix ql i)).2.2).toNat).next a)]) J J J T.tG J J (nl ?_))
        have hN0:((0:Int),(ix (ix t.sT ((k3 (ix ql i)).2.1).toNat).next a),(ix (ix ((tR s).1.sT) ((k3 (ix ql i)).2.2).toNat).next a))=k3 (qN t (tR s).1 (ix ql i) a):=by
         have e:qN t (tR s).1 (ix ql i) a=(ix (ix t.sT (ix ql i).1.toNat).next a,ix (ix (tR s).1.sT (ix ql i).2.toNat).next a):=by
          unfold qN
          rw[if_pos ⟨hnb,by have h:=hc4.2;rw[hk2] at h;exact h⟩]
         rw[e,hk1,hk2]
         exact(nB (p:=(ix (ix t.sT (ix ql i).1.toNat).next a,ix (ix (tR s).1.sT (ix ql i).2.toNat).next a)) (fun g=>by have g:=congrArg Prod.fst g;have g:ix (ix t.sT (ix ql i).1.toNat).next a= -1:=g;have:=hgo.1;dsimp only [nxt] at this;omega)).symm
        exact jx ⟨(0:Int),ix (ix t.sT ((k3 (ix ql i)).2.1).toNat).next a,ix (ix ((tR s).1.sT) ((k3 (ix ql i)).2.2).toNat).next a⟩ hN0 ⟨id,id,id,id,id,id,id,tV⟩ ⟨rI,rI,rI,rI,rI,rI,rI,rI,rI,rI,rI,rI,rI,rI,rI,tV⟩
       ·try simp at hc4
        refine sk ?_
        have hN0:((1:Int),(0:Int),(0:Int))=k3 (qN t (tR s).1 (ix ql i) a):=by
         have e:qN t (tR s).1 (ix ql i) a=bes:=by
          unfold qN
          rw[if_neg]
          rintro⟨h1,h2⟩
          have h3:=nB h1
          have h4:(k3 (ix ql i)).1=0:=by rw[h3]
          have h5:(k3 (ix ql i)).2.2=(ix ql i).2:=by rw[h3]
          rw[←h5] at h2
          dsimp only [nxt] at h2
          exact absurd h2 (by have:=hc4 h4;omega)
         rw[e,yN]
        exact jx ⟨(1:Int),(0:Int),(0:Int)⟩ hN0 ⟨id,id,id,id,id,id,id,tV⟩ ⟨rI,rI,rI,rI,rI,rI,rI,rI,rI,rI,rI,rI,rI,rI,rI,tV⟩
      ·intro⟨px,py,pz⟩ hG
       have hJ4:(px,py,pz)=k3 (qN t (tR s).1 (ix ql i) a):=hG
       skip
       show At _ _ _ [(4,ptr 4 b4 0),(5,ptr 5 b5 0),(8,ptr 8 b8 0),(9,ptr 9 b9 0),(13,ptr 13 b13 0),(17,int (a:Int)),(18,ptr 18 b18 0)] [(2,cell b2 [sl 1 rE_ t.aC,sl 2 sE t.sT]),(3,cell b3 [sl 1 rE_ ((tR s).1.aC),sl 2 sE ((tR s).1.sT)]),(4,cell b4 [eqv (.slice none 0 0),eqv (.slice none 0 0)]),(5,cell b5 [bl false]),(8,cell b8 [mpv 39 b39]),(9,cell b9 [osl 43 v2]),(10,cell b10 [sl 1 rE_ t.aC,osl 100 v10]),(12,cell b12 [int ((k3 (ix ql i)).1),int ((k3 (ix ql i)).2.1),int ((k3 (ix ql i)).2.2)]),(13,cell b13 [sl 1 nE ac,osl 30 (sv v63)]),(18,cell b18 [int px,int py,int pz]),(30,own (sv v63) 3 1 nE nx),(39,mp b39 kD lX fU mm2),(43,own v2 171 3 jP l2),(100,own v10 79 2 sE aD),(900,obj l (.loop { R with state:= .busy }))]
       refine th (sq (rg (lP rfl rfl rfl T.Ii (lPA rfl rfl T.tG rfl (rP (z:=(0:Int)) (q:=(px,py,pz)) rfl rfl Dd T.Ih (by rw[hJ4];exact Ou f1 f4 hqok1) T.yZ (mv (xt rfl rfl (xt rfl rfl (ag (ag (nl (th (sq (sq (rg (mv (no rfl (nl (th ?_)))))))))))))))))))
       refine cd J (fun hc5=> ?_) (fun hc5=> ?_)
       ·skip
        have h5:(bJ mm2 (px,py,pz)).isSome=false:=by
         revert hc5
         cases(bJ mm2 (px,py,pz)).isSome<;>simp
        refine sq (sq (rg (lP J J J T.tF (lnO J J T.Ft (bi J J fS (nl (th ?_)))))))
        refine cd J (fun hc6=> ?_) (fun hc6=> ?_)
        ·try simp at hc6
         refine sq (rg (bd (css:= []) T.kA (eC (eC eZ)) trivial (sPA (cs':= [eqv (.slice none 0 0),eqv (.slice none 0 0)]) J J J T.aI J J (sP (φ:=bl false) J J J T.eE J (nl (th (rt (rt_ (rt_ (rb ?_))))))))))
         have hRr:500<(qL t (tR s).1).length:=by
          exact Tj hQW hR0 hc1 hx2 hJ4 h5 hc6
         exact rqR ⟨v2,l2,mm2,nx⟩ ⟨rfl,hRr⟩ ⟨rI,rI,rI,rI,rI,rI,rI,rI,rI,rI,rI,rI,rI,rI,tV⟩
        ·try simp at hc6
         refine sk (th (sq (rg (lP J J J T.tF (lnO J J T.Ft (ag (nl (th (sq (rg (lP J J J T.Ii (lPA J J T.tG J (mv (mapUpdate (q:=(px,py,pz)) (u:=(l2.length:Int)) J J Dd J T.Ih (by rw[hJ4];exact Ou f1 f4 hqok1) (nl (th (rg (lP J J J T.tF (lPA J J T.tG J (bs (css:= [[int px,int py,int pz]]) T.LF ⟨J,J,pA (cs:= [int px,int py,int pz]) J,tV⟩ J J J (ap (key:=43) (zs:= [qN t (tR s).1 (ix ql i) a]) bU J J (Uj hJ4) T.LF (by unfold aR at*;simp;omega) (by unfold aR at*;simp;omega) fun v157=>(bQ J J J J T.tF J (nl (th (rg (fP J T.cP (lP J J J T.aQ (mv (mv (iO J J J T.aU O O (sO (φ:=int (l2.length:Int)) J J J T.aH gB J (y':=(l2.length:Int)) J (nl (eb ?_)))))))))))))))))))))))))))))))))
         have hN0:QN t (tR s).1 i ql (m0+1) (l2++ [qN t (tR s).1 (ix ql i) a]) (bT mm2 (px,py,pz) (l2.length:Int)) (nx.set a (l2.length:Int)):=by
          exact Vo hQW hR0 hc1 hqok1 hx2 hal8 hJ4 h5 O
         exact rqN ⟨v157,l2++ [qN t (tR s).1 (ix ql i) a],bT mm2 (px,py,pz) (l2.length:Int),nx.set a (l2.length:Int)⟩ hN0 ⟨rI,rI,rI,rI,rI,rI,rI,rI,rI,rI,rI,rI,rI,rI,tV⟩
       ·skip
        have h5:(bJ mm2 (px,py,pz)).isSome=true:=by
         revert hc5
         cases(bJ mm2 (px,py,pz)).isSome<;>simp
        refine sk (th (rg (fP J T.cP (lP J J J T.aQ (mv (mv (iO J J J T.aU O O (sO (φ:=int ((bJ mm2 (px,py,pz)).getD (0:Int))) J J J T.aH gB J (y':=((bJ mm2 (px,py,pz)).getD (0:Int))) J (nl (eb ?_))))))))))
        have hN0:QN t (tR s).1 i ql (m0+1) l2 mm2 (nx.set a ((bJ mm2 (px,py,pz)).getD (0:Int))):=by
         exact Vn hQW hR0 hc1 hx2 hal8 hJ4 h5
        exact rqN ⟨v2,l2,mm2,nx.set a ((bJ mm2 (px,py,pz)).getD (0:Int))⟩ hN0 ⟨rI,rI,rI,rI,rI,rI,rI,rI,rI,rI,rI,rI,rI,rI,tV⟩
     ·intro⟨v2,l2,mm2,nx⟩ hG0
      have hR0:QN t (tR s).1 i ql (aL 63 cn).length l2 mm2 nx:=hG0
      show At _ _ _ _ [(2,cell b2 [sl 1 rE_ t.aC,sl 2 sE t.sT]),(3,cell b3 [sl 1 rE_ ((tR s).1.aC),sl 2 sE ((tR s).1.sT)]),(4,cell b4 [eqv (.slice none 0 0),eqv (.slice none 0 0)]),(5,cell b5 [bl false]),(8,cell b8 [mpv 39 b39]),(9,cell b9 [osl 43 v2]),(10,cell b10 [sl 1 rE_ t.aC,osl 100 v10]),(12,cell b12 [int ((k3 (ix ql i)).1),int ((k3 (ix ql i)).2.1),int ((k3 (ix ql i)).2.2)]),(13,cell b13 [sl 1 nE ac,osl 30 (sv v63)]),(30,own (sv v63) 3 1 nE nx),(39,mp b39 kD lX fU mm2),(43,own v2 171 3 jP l2),(100,own v10 79 2 sE aD)]
      refine eb (th (rg (fP rfl T.bE (lP rfl rfl rfl T.bP (fzc 13 30 1 rfl rfl rfl rfl (lPA rfl rfl T.cX rfl (bsE (enc:=sE) (xs:= [(⟨ac,nx⟩)]) (css:= [[sl 1 nE ac,sl 1 nE nx]]) T.kN ⟨rfl,rfl,pA (cs:= [sl 1 nE ac,sl 1 nE nx]) rfl,tV⟩ rfl rfl rfl rfl (ap (key:=100) (zs:= [(⟨ac,nx⟩)]) bU rfl rfl rfl T.kN (by unfold aR at*;simp;omega) (by unfold aR at*;simp;omega) fun v167=>(fP rfl T.bE (bQ rfl rfl rfl rfl T.bP rfl (nl (eb (th (rg (mv (bi rfl rfl (aN i6) (ag (nl ?_))))))))))))))))))
      have hN0:QW t (tR s).1 (i+1) l2 mm2 (aD++ [(⟨ac,nx⟩)]):=by
       have hcl:aL 63 cn=bY (qA t (tR s).1) (ix ql i):=by
        unfold bY
        rw[←hJ2,hI1.1,show k1=ac.length by omega,List.take_length]
       rw[hcl] at hR0
       rw[hJ2]
       exact Vp hn8 hQW hR0 hc1
      exact ln (⟨i+1,v2,l2,mm2,v167,aD++ [(⟨ac,nx⟩)]⟩:Nat × Value × (List (Int × Int)) × (List ((Int × Int × Int) × Int)) × Value × (List SA)) hN0 (by have:=hQW.few;show 501- (i+1)<501- i;omega) ⟨id,id,id,id,id,id,id,id,id,tV⟩ ⟨rI,rI,rI,rI,rI,rI,rI,rI,rI,rI,tV⟩
     ·intro⟨v2,l2,mm2,nx⟩ hS0
      have hRt0:500<(qL t (tR s).1).length:=hS0.2
      show At _ _ _ _ [(2,cell b2 [sl 1 rE_ t.aC,sl 2 sE t.sT]),(3,cell b3 [sl 1 rE_ ((tR s).1.aC),sl 2 sE ((tR s).1.sT)]),(4,cell b4 [eqv (.slice none 0 0),eqv (.slice none 0 0)]),(5,cell b5 [bl false]),(8,cell b8 [mpv 39 b39]),(9,cell b9 [osl 43 v2]),(10,cell b10 [sl 1 rE_ t.aC,osl 100 v10]),(12,cell b12 [int ((k3 (ix ql i)).1),int ((k3 (ix ql i)).2.1),int ((k3 (ix ql i)).2.2)]),(13,cell b13 [sl 1 nE ac,osl 30 (sv v63)]),(30,own (sv v63) 3 1 nE nx),(39,mp b39 kD lX fU mm2),(43,own v2 171 3 jP l2),(100,own v10 79 2 sE aD)]
      refine rb (rt_ (rb (rt_ (rt_ (rb (rt_ ?_))))))
      refine dI 4 0 (sl 1 rE_ []) rfl rfl slnil ?_
      refine dI 4 1 (sl 2 sE []) rfl rfl slnil ?_
      have hr0: []=((bN t s).1).aC:=by
       rw[Dx h00 hRt0]
      have hr1: []=((bN t s).1).sT:=by
       rw[Dx h00 hRt0]
      have hr2:false=((bN t s).2):=by
       rw[Dx h00 hRt0]
      exact rE () [.cell 4 28,.cell 5 4] J [agg [sl 1 rE_ [],sl 2 sE []],bl false] ⟨.agg J J T.aI J J,.one J J T.eE J,tV⟩ (cA3 (fun x0 x1 x2=>rV [agg [sl 1 rE_ x0,sl 2 sE x1],bl x2]) hr0 hr1 hr2) trivial eX
  ·try simp at hc1
   have hdn:=Tk hQW O
   have hq5:(qL t (tR s).1).length≤500:=by rw[←hdn.1];exact hQW.few
   have hq1:=QO (t:=t) h00 hq5
   have hqok:oK (eM t (tR s).1):=PO ht (GI ht hT hU hTa) rfl O
   refine ex (xt_ (xt_ (xb (th (sq (rg (fzc 10 100 1 J J J J (lPA J J T.aI J (kn 170 (spec (eM t (tR s).1)) J (by rw[show aD=(eM t (tR s).1).sT from hdn.2];exact fun h=>h) (eW (φs:= [agg [sl 1 rE_ (eM t (tR s).1).aC,sl 2 sE (eM t (tR s).1).sT]]) (φ:=tup [agg [sl 1 rE_ ((tR (eM t (tR s).1)).1.aC),sl 2 sE ((tR (eM t (tR s).1)).1.sT)],sl 1 nE ((tR (eM t (tR s).1)).2)]) ⟨J,tV⟩ (prog9.oP (eM t (tR s).1) aS) T.xA (fun N hN=>fun h=>jL (cs:= [agg [fre N (sl 1 rE_ ((tR (eM t (tR s).1)).1.aC)),frb (ix (hOl (eM t (tR s).1)) 0) N (sl 2 sE ((tR (eM t (tR s).1)).1.sT))],sl 1 nE ((tR (eM t (tR s).1)).2)]) (ds:= [agg [sl 1 rE_ ((tR (eM t (tR s).1)).1.aC),sl 2 sE ((tR (eM t (tR s).1)).1.sT)],sl 1 nE ((tR (eM t (tR s).1)).2)]) ⟨fun h=>dY (cs:= [fre N (sl 1 rE_ ((tR (eM t (tR s).1)).1.aC)),frb (ix (hOl (eM t (tR s).1)) 0) N (sl 2 sE ((tR (eM t (tR s).1)).1.sT))]) (ds:= [sl 1 rE_ ((tR (eM t (tR s).1)).1.aC),sl 2 sE ((tR (eM t (tR s).1)).1.sT)]) ⟨fun h=>eS h,fun h=>uY h,tV⟩ h,fun h=>h,tV⟩ h) (mv (xt J J (xt J J (sPA (cs':= [sl 1 rE_ ((tR (eM t (tR s).1)).1.aC),sl 2 sE ((tR (eM t (tR s).1)).1.sT)]) J J J T.aI J J (nl (th (sq (rg (lPA J J T.aI J (sPA (cs':= [sl 1 rE_ ((tR (eM t (tR s).1)).1.aC),sl 2 sE ((tR (eM t (tR s).1)).1.sT)]) J J J T.aI J J (sP (φ:=bl true) J J J T.eE J (nl (th (rt ?_))))))))))))))))))))))))
   have hr0:((tR (eM t (tR s).1)).1.aC)=((bN t s).1).aC:=by
    rw[hq1]
   have hr1:((tR (eM t (tR s).1)).1.sT)=((bN t s).1).sT:=by
    rw[hq1]
   have hr2:true=((bN t s).2):=by
    rw[hq1]
   exact rE () [.cell 4 28,.cell 5 4] J [agg [sl 1 rE_ ((tR (eM t (tR s).1)).1.aC),sl 2 sE ((tR (eM t (tR s).1)).1.sT)],bl true] ⟨.agg J J T.aI J J,.one J J T.eE J,tV⟩ (cA3 (fun x0 x1 x2=>rV [agg [sl 1 rE_ x0,sl 2 sE x1],bl x2]) hr0 hr1 hr2) trivial eX
end divq
end
section
open ref01 ref03 ref04 ref06 prog prog2 prog3 prog6 prog13 starts Part Rungs LeftM TrimM RoundM MergeM BisM BisM4 BisM5 WalkM StepM WitM JudgM JudgM2 refw judg wit refj sysw divr divs divd dive divg divw divv divf divc divj divq divp LevM LevM2 ChsM QuoM FailM DivM QuoW RefM
namespace divm
end divm
end
section
open ref01 ref03 ref04 ref06 prog prog2 prog3 prog6 prog13 starts Part Rungs LeftM TrimM RoundM MergeM BisM BisM4 BisM5 WalkM StepM WitM JudgM JudgM2 refw judg wit refj sysw divr divs divd dive divg divw divv divf divc divj divq divp divm LevM LevM2 ChsM QuoM FailM DivM QuoW RefM FitM PartM EncM
namespace diva
end diva
end
section
open ref01 ref03 ref04 ref06 prog prog2 prog3 prog6 prog13 starts Part Rungs LeftM TrimM RoundM MergeM BisM BisM4 BisM5 WalkM StepM WitM JudgM JudgM2 refw judg wit refj sysw divr divs divd dive divg divw divv divf divc divj divq divp divm diva LevM LevM2 ChsM QuoM FailM DivM QuoW RefM FitM PartM EncM TogM
namespace divt
end divt
end
end Go.Proofs.YtnlfjojfgghchaaGreatDoor
