/- The walks of the functions and the plain laws. Own texts of this claim, packed: Mkmkr, MkLeadM, Mkdivc, Mkdivj, Mkdivq, Mkdivm, Mkdiva, Mkdivt. -/
import Derived.Test.YtnlfjojfgghchaaGreatDoorX29
import Derived.Test.YtnlfjojfgghchaaGreatDoorX23
import Derived.Test.YtnlfjojfgghchaaGreatDoorX17
import Derived.Test.YtnlfjojfgghchaaGreatDoorX15
import Derived.Test.YtnlfjojfgghchaaGreatDoorX16
import Derived.Test.YtnlfjojfgghchaaGreatDoorX07
import Derived.Test.YtnlfjojfgghchaaGreatDoorX20
set_option linter.all false
namespace Go.Proofs.YtnlfjojfgghchaaGreatDoor
open AL Go
set_option maxRecDepth 100000
section
open ref01 ref03 ref04 ref06 prog prog2 prog3 prog4 prog5 prog6 prog7 prog8 prog9 prog15 Part Rungs LeftM TrimM RoundM MergeM BisM BisM4 BisM5 Itoa Keys WalkM StepM WitM JudgM JudgM2 search refw judg wit refj sysw satj divr divs divd dive divv TrimI QuoM FailM DivM FitM TogM ProdM prodw GenW CompM CrossM KeepK GuardM MakeM LsysM LsysM2 MakeM2 KeepB AtM ClsM LstM MakeM3 GuaW ValidM mkk mkp mkl mkc mkq mkg
theorem func_clo {f:FuncId} {w:World} {F:Fz} {v:Value} (h:(agg [eqv (.func (.func f) #[] #[])]).p w F v):(agg [clo f []]).p w F v:=agg_le (cs:= [eqv (.func (.func f) #[] #[])]) (ds:= [clo f []]) ⟨fun h=>eq_clo h,tV⟩ h
theorem mkH_succ {l:List Int} {m:Nat} {a:Int} (nx:List Int) (h:l[m]?=some a):(l.take (m+1)).map (fun(a:Int)=>((a,ix nx a.toNat):Int × Int))=(l.take m).map (fun(a:Int)=>((a,ix nx a.toNat):Int × Int))++ [(a,ix nx a.toNat)]:=by
 rw[List.take_succ,h,List.map_append];rfl
theorem mad_large {s:SS} {u:Int}:madS s false u=(⟨[],[]⟩,2):=by unfold madS;simp
theorem mad_none {s:SS} {u:Int} (h:ix (hOl (tR (keepK u s)).1) 0=true):madS s true u=(⟨[],[]⟩,3):=by unfold madS;simp[h]
theorem mad_yes {s:SS} {u:Int} (h:ix (hOl (tR (keepK u s)).1) 0=false):madS s true u=(mdeM lgC (tR (keepK u s)).1,0):=by unfold madS;simp[h]
theorem prodk {m n k:SSys} {q:List (Int × Int)} (hm:sysOK m=true) (hn:sysOK n=true) (h:ProdOK m n k q) (hz:m.sT.length*n.sT.length<5000) (hz2:sumLen m.sT*sumLen n.sT≤400000):sysOK k=true:=
 prod_valid hm hn h (by have:=prod_few h;omega) (Nat.le_trans (prod_sum h) (Nat.le_trans (cnt_le0 h.nd h.box _) hz2))
noncomputable def ctlS (m:SSys) (t:SS) (u:Int):SSys × Int:=
 if fineSE m t=0 then(if isSet (t.aC.length:Int) u=true then madS (guaS m t).1 (guaS m t).2 u else(⟨[],[]⟩,1)) else(⟨[],[]⟩,fineSE m t)
noncomputable def rgtE (x m:SSys) (t:SS) (u:Int):Int:=
 if sysOK x=true∧sysOK m=true then(if specOK t=true then(if x.aC=m.aC∧x.aC=t.aC then(if isSet (t.aC.length:Int) u=true then 0 else 1) else 10) else 30) else 20
noncomputable def rgtB (x m:SSys) (t:SS) (u:Int):Bool:=decide (rgtE x m t u=0)&&(@decide (WellT m x t) (Classical.propDecidable _)&&keepsB x u)
theorem judge_rgt {m x k:SSys} {t:SS} {u:Int} {q:List (Int × Int)} {v:VJ} (hm:okSys m) (hx:okSys x) (ht:oK t) (h:ProdOK m x k q) (hk:okSys k) (hv:JudgeOK k t v) (hd:rgtE x m t u=0):rgtB x m t u=(v.holds&&keepsB x u):=by
 unfold rgtB
 rw[hd,decide_eq_true rfl,Bool.true_and]
 congr 1
 rw[Bool.eq_iff_iff,judge_iff hv,prod_sat hm hx ht h];simp
theorem rgt_no {x m:SSys} {t:SS} {u:Int} (h:rgtE x m t u≠0):rgtB x m t u=false:=by unfold rgtB;rw[decide_eq_false h,Bool.false_and]
theorem both_of {m x:SSys} (hm:sysOK m=true) (hx:sysOK x=true) (h:m.aC=x.aC):bothS m x=0:=by unfold bothS;rw[if_pos hm,if_pos hx,if_pos h]
namespace T
theorem z87:ZeroIs Tryz.prog 87 [.slice none 0 0]:=zeroIs_of kR
theorem fld104_0:FieldAt Tryz.prog 104 0 0:=fieldAt_of kR
theorem one102:IsOne Tryz.prog 102:=isOne_of kR
theorem ent111:Ent Tryz.prog 111:=ent_of kR
theorem ent121:Ent Tryz.prog 121:=ent_of kR
theorem st104:StructT Tryz.prog 104 [(0,1)] [.nilFunc]:=structT_of kR kR
theorem ent75:Ent Tryz.prog 75:=ent_of kR
theorem ent62:Ent Tryz.prog 62:=ent_of kR
theorem ent69:Ent Tryz.prog 69:=ent_of kR
theorem ent70:Ent Tryz.prog 70:=ent_of kR
theorem flv68_0:FldV Tryz.prog 68 0 0 4:=fldV_of kR
theorem ent71:Ent Tryz.prog 71:=ent_of kR
end T
namespace mkr
theorem makeL_ok (s:SS) (hs:oK s) (hf:s.sT.length≤500) (hne:∀y,y<s.sT.length→acc s y≠[]):
 AL.Fn Tryz.prog 75 [agg [clo 111 []],tabbed (spec s)] [] (ι:=Unit) (fun N _=>agg [fre N (strs s.aC),fre N (sl 1 gE (mdeM lgC s).sT)]) (fun _=> []):=by
 refine fnI Tryz.func75 rfl rfl (fun w0 F0=> ?_)
 have f1:=hs.few1;have hn8:=hs.n8;have hc:=lgC_in hne;have hmv:=mkM_valid hs hc hf
 refine tbI 1 9999 rfl ?_
 refine tbJC (ψ:=tab) 9999 997 rfl ?_
 refine fcC (inhS 1 J) (fun hS1=> ?_)
 obtain⟨hsa1,hss1,hse1⟩:=sLn hS1
 refine sq (rg (bx (key:=2) (cs:= [clo 111 []]) J fun b2=>(bx (key:=3) (cs:= [sl 1 rE_ s.aC,sl 2 sE s.sT]) J fun b3=>(al (key:=4) T.z25 (eC (eC eZ)) fun b4=>(nl (th (sq (rg (fP J T.fld28_0 (lP J J J T.one22 (calW (φs:= [sl 1 rE_ s.aC]) (φ:=sl 1 rE_ s.aC) ⟨J,tV⟩ (prog.sClonestrE_ok _ O) T.ent92 (fun N hN=>fun h=>nw_le h) (bd (css:= [(0,_)]) T.st25 (eC (eC eZ)) ⟨J,J,p1 (φ:=sl 1 rE_ s.aC) J,tV⟩ (al (key:=5) T.z25 (eC (eC eZ)) fun b5=>(sPA (cs':= [sl 1 rE_ s.aC,eqv (.slice none 0 0)]) J J J T.agg25 J J (nl (th (sq (sq (rg (fP J T.fld28_1 (lP J J J T.one26 (fc (slenI 15 J) fun hm15=>(lnF J T.sl26 (mv (nl (th (bk ?_)))))))))))))))))))))))))))
 refine nwC 50 87 1 gE (kncC 5 1 (osl 50 (.slice none 0 0)) rfl rfl eq_osl ?_)
 have hI0_0:0≤s.sT.length:=by
  first|omega|simp
 have hI0_1:([]:List (List (Int × Int)))=mkO (lgC s) s 0:=by
  rfl
 refine lp (κ:=Nat × Value × (List (List (Int × Int)))) (fun p=> [(2,ptr 2 b2 0),(4,ptr 4 b4 0),(5,ptr 5 b5 0),(15,sl 2 sE s.sT),(16,int (s.sT.length:Int)),(17,int (p.1:Int)),(9999,tab)]) (fun p=> [(2,cell b2 [clo 111 []]),(3,cell b3 [sl 1 rE_ s.aC,sl 2 sE s.sT]),(4,cell b4 [eqv (.slice none 0 0),eqv (.slice none 0 0)]),(5,cell b5 [sl 1 rE_ s.aC,osl 50 p.2.1]),(50,own p.2.1 87 1 gE p.2.2),(997,ambH tab)]) (fun p=>(p.1≤s.sT.length)∧(p.2.2=mkO (lgC s) s p.1)) (fun p=>s.sT.length- p.1) ⟨0,(.slice none 0 0),([]:List (List (Int × Int)))⟩ ⟨hI0_0,hI0_1⟩ ⟨id,id,id,id,id,id,id,tV⟩ ⟨rI,rI,rI,rI,rI,rI,tV⟩ ?_
 intro⟨k,uo,outs⟩ hG0
 obtain⟨hk0,houts⟩:(k≤s.sT.length)∧(outs=mkO (lgC s) s k):=hG0
 show Ct _ _ _ _ [(2,ptr 2 b2 0),(4,ptr 4 b4 0),(5,ptr 5 b5 0),(15,sl 2 sE s.sT),(16,int (s.sT.length:Int)),(17,int (k:Int)),(9999,tab)] [(2,cell b2 [clo 111 []]),(3,cell b3 [sl 1 rE_ s.aC,sl 2 sE s.sT]),(4,cell b4 [eqv (.slice none 0 0),eqv (.slice none 0 0)]),(5,cell b5 [sl 1 rE_ s.aC,osl 50 uo]),(50,own uo 87 1 gE outs),(997,ambH tab)] _
 have hol:outs.length≤500:=by rw[houts,mkO_len];omega
 refine sq (rg (bi J J b_lss (nl (th (sq ?_)))))
 refine cd J (fun hc0=> ?_) (fun hc0=> ?_)
 ·try simp at hc0
  have hst:=hs.st k O
  have hsl:=hst.len
  have hac:=hst.ac
  have hcin:(lgstC (ix s.sT k).aP)∈acc s k:=hc k O
  have hal:0<(ix s.sT k).aP.length:=List.length_pos_iff.2 (hne k O)
  have hcb:0≤(lgstC (ix s.sT k).aP)∧(lgstC (ix s.sT k).aP)<256:=CompM.acc_bd hs O _ hcin
  have hcut:listOf 63 (lgstC (ix s.sT k).aP)=listOf s.aC.length (lgstC (ix s.sT k).aP):=cut_acc hs O hcin
  refine sk (th (sq (bk (sq (rg (iF J J T.sl26 O gB (lFA J T.agg79 (Nat.le_of_ble_eq_true J) (al (key:=7) T.z79 (eC (eC eZ)) fun b7=>(sPA (cs':= [sl 1 nE (ix s.sT k).aP,sl 1 nE (ix s.sT k).next]) J J J T.agg79 J J (nl (th (sq (rg (al (key:=8) T.z87 (eC eZ) fun b8=>(nl (th (sq (sq (rg (fP J T.fld104_0 (lP J J J T.one102 (fP J T.fld79_0 (lP J J J T.one66 (calC0 (φs:= [sl 1 nE (ix s.sT k).aP]) (φ:=int (lgstC (ix s.sT k).aP)) J ⟨J,tV⟩ (largest_ok (ix s.sT k).aP hal hac) T.ent111 (cal0 (φs:= [int (lgstC (ix s.sT k).aP)]) (φ:=clo 137 [fp [int (lgstC (ix s.sT k).aP)]]) ⟨J,tV⟩ (prog3.In_ok (lgstC (ix s.sT k).aP)) T.ent99 (nl (th (bk (nwC 80 94 2 pE (kncC 8 0 (osl 80 (.slice none 0 0)) J J eq_osl ?_))))))))))))))))))))))))))))))
  have hR0:([]:List (Int × Int))=((listOf 63 (lgstC (ix s.sT k).aP)).take 0).map (fun(a:Int)=>((a,ix (ix s.sT k).next a.toNat):Int × Int)):=by
   rfl
  refine rf (κ:=Value × (List (Int × Int))) 900 (fun p=> [(2,cell b2 [clo 111 []]),(3,cell b3 [sl 1 rE_ s.aC,sl 2 sE s.sT]),(4,cell b4 [eqv (.slice none 0 0),eqv (.slice none 0 0)]),(5,cell b5 [sl 1 rE_ s.aC,osl 50 uo]),(7,cell b7 [sl 1 nE (ix s.sT k).aP,sl 1 nE (ix s.sT k).next]),(8,cell b8 [osl 80 p.1]),(50,own uo 87 1 gE outs),(80,own p.1 94 2 pE p.2),(997,ambH tab)]) (fun iR p=>p.2=((listOf 63 (lgstC (ix s.sT k).aP)).take iR).map (fun(a:Int)=>((a,ix (ix s.sT k).next a.toNat):Int × Int))) (fun c p=>False) J (InIt (lgstC (ix s.sT k).aP) O O) T.ent137 J (fun _=>J) (fun _=>J) ⟨(.slice none 0 0),([]:List (Int × Int))⟩ hR0 ⟨rI,rI,rI,rI,rI,rI,rI,rI,rI,tV⟩ ?_ ?_ (fun k h=>h.elim) (fun id k h=>h.elim) (fun c k h=>h.elim)
  ·intro m0 ⟨u8x,l1⟩ x0 hG0 hx0 l R w1 M1 F1 hRd
   have hR0:l1=((listOf 63 (lgstC (ix s.sT k).aP)).take m0).map (fun(a:Int)=>((a,ix (ix s.sT k).next a.toNat):Int × Int)):=hG0
   show Ct _ _ _ _ _ ((900,obj l (.loop R)):: [(2,cell b2 [clo 111 []]),(3,cell b3 [sl 1 rE_ s.aC,sl 2 sE s.sT]),(4,cell b4 [eqv (.slice none 0 0),eqv (.slice none 0 0)]),(5,cell b5 [sl 1 rE_ s.aC,osl 50 uo]),(7,cell b7 [sl 1 nE (ix s.sT k).aP,sl 1 nE (ix s.sT k).next]),(8,cell b8 [osl 80 u8x]),(50,own uo 87 1 gE outs),(80,own u8x 94 2 pE l1),(997,ambH tab)]) _
   have hm63:m0<63:=by
    have h1:=(List.getElem?_eq_some_iff.1 hx0).1
    have h2:=listOf63 (lgstC (ix s.sT k).aP)
    omega
   have hl1l:l1.length≤63:=by rw[hR0,List.length_map,List.length_take];omega
   obtain⟨a,rfl,ha63,hha⟩:=listOf_get hx0
   have hgo:=or_go hs (x:=k) O ((orAll_has _ _).2 ⟨_,hcin,hha⟩)
   have hgo2:0≤ix (ix s.sT k).next a∧ix (ix s.sT k).next a<(s.sT.length:Int):=hgo.2
   refine rg (ag (nl (aq hRd J (bk (dr (nh:=9) [0,0,0,4,0,28,60,126,254,511,1023] T.mixed kR ?_)))))
   refine st_ J (fun _ _ _ gq kq=>lP (gq.1.trans J) J J T.one87 kq) ?_
   refine st_ J (fun _ _ _ gq kq=>mv' (gq.1.trans J) kq) ?_
   refine st_ J (fun _ _ _ gq kq=>fP (gq.1.trans J) T.fld79_1 kq) ?_
   refine st_ J (fun _ _ _ gq kq=>lP (gq.1.trans J) J J T.one66 kq) ?_
   refine st_ J (fun _ _ _ gq kq=>mv' (gq.1.trans J) kq) ?_
   refine st_ J (fun _ _ _ gq kq=>iF (gq.1.trans J) (gq.2.1.trans J) T.sl66 O gB kq) ?_
   refine st_ J (fun _ _ _ gq kq=>lF (gq.1.trans J) J T.one3 kq) ?_
   refine st_ J (fun _ _ _ gq kq=>bd (css:= [(0,_),(1,_)]) T.st94 (eC (eC eZ)) ⟨J,J,p1 (φ:=int (a:Int)) (by exact(gq.1.trans J)),⟨J,J,p1 (φ:=int (ix (ix s.sT k).next a)) (by exact(gq.2.1.trans J)),tV⟩⟩ kq) ?_
   refine st_ J (fun _ _ _ gq kq=>bsE (enc:=pE) (xs:= [((a:Int),ix (ix s.sT k).next a)]) (css:= [[int (a:Int),int (ix (ix s.sT k).next a)]]) T.mk87 ⟨J,J,pA (cs:= [int (a:Int),int (ix (ix s.sT k).next a)]) (by exact(gq.1.trans J)),tV⟩ J J J J kq) ?_
   refine pn (ap (key:=80) (zs:= [((a:Int),ix (ix s.sT k).next a)]) osl_eq J J J T.mk87 (by unfold maxL at*;simp;omega) (by unfold maxL at*;simp;omega) fun v37=>(storePO J J J J T.one87 J (nl (eb ?_))))
   have hN0:(l1++ [((a:Int),ix (ix s.sT k).next a)])=((listOf 63 (lgstC (ix s.sT k).aP)).take (m0+1)).map (fun(a:Int)=>((a,ix (ix s.sT k).next a.toNat):Int × Int)):=by
    rw[mkH_succ _ hx0,←hR0,Int.toNat_natCast]
   exact rqN ⟨v37,l1++ [((a:Int),ix (ix s.sT k).next a)]⟩ hN0 ⟨rI,rI,rI,rI,rI,rI,rI,rI,rI,rI,tV⟩
  ·intro⟨u8x,l1⟩ hG0
   have hR0:l1=((listOf 63 (lgstC (ix s.sT k).aP)).take (listOf 63 (lgstC (ix s.sT k).aP)).length).map (fun(a:Int)=>((a,ix (ix s.sT k).next a.toNat):Int × Int)):=hG0
   show At _ _ _ _ [(2,cell b2 [clo 111 []]),(3,cell b3 [sl 1 rE_ s.aC,sl 2 sE s.sT]),(4,cell b4 [eqv (.slice none 0 0),eqv (.slice none 0 0)]),(5,cell b5 [sl 1 rE_ s.aC,osl 50 uo]),(7,cell b7 [sl 1 nE (ix s.sT k).aP,sl 1 nE (ix s.sT k).next]),(8,cell b8 [osl 80 u8x]),(50,own uo 87 1 gE outs),(80,own u8x 94 2 pE l1),(997,ambH tab)]
   refine eb (th (rg (fP rfl T.fld25_1 (lP rfl rfl rfl T.one23 (lP rfl rfl rfl T.one87 (fz 80 40 rfl rfl (bsE (enc:=gE) (xs:= [l1]) (css:= [[sl 2 pE l1]]) T.mk23 ⟨rfl,rfl,p1 (φ:=sl 2 pE l1) rfl,tV⟩ rfl rfl rfl rfl (ap (key:=50) (zs:= [l1]) osl_eq rfl rfl rfl T.mk23 (by unfold maxL at*;simp;omega) (by unfold maxL at*;simp;omega) fun v42=>(fP rfl T.fld25_1 (storePO rfl rfl rfl rfl T.one23 rfl (nl (eb (th (rg (bi rfl rfl (b_add i6) (mv (nl ?_)))))))))))))))))
   have hN0:(k+1)≤s.sT.length:=by
    first|omega|simp_all
   have hN1:(outs++ [l1])=mkO (lgC s) s (k+1):=by
    rw[mkO_succ,houts,hR0,List.take_length,hcut];rfl
   exact ln (⟨k+1,v42,outs++ [l1]⟩:Nat × Value × (List (List (Int × Int)))) ⟨hN0,hN1⟩ dO ⟨id,id,id,id,id,id,id,tV⟩ ⟨rI,rI,rI,rI,rI,rI,tV⟩
 ·try simp at hc0
  refine ex (xt_ (xt_ (xb (th (sq (rg (fzc 5 50 1 J J J J (lPA J J T.agg25 J (kn 46 (sys (mkM (lgC s) s)) J (by rw[show outs=(mkM (lgC s) s).sT by rw[houts,show k=s.sT.length by omega];exact mkO_end _ _];exact fun h=>h) (tbU (ψ:=tab) 46 9999 J J (calN (φs:= [both (agg [sl 1 rE_ (mkM (lgC s) s).aC,sl 1 gE (mkM (lgC s) s).sT]) tab]) ⟨J,tV⟩ (mkq.Least_ok (mkM (lgC s) s) aS) T.ent121 trivial fun N47 i47 hN47=>(kd (φ':=tup [agg [fre w0.heap.size (sl 1 rE_ (leastM (mkM (lgC s) s)).aC),fre w0.heap.size (sl 1 gE (leastM (mkM (lgC s) s)).sT)],sl 1 nE i47,int 0]) (fun h=>tup_le (cs:= [agg [fre N47 (sl 1 rE_ (leastM (mkM (lgC s) s)).aC),fre N47 (sl 1 gE (leastM (mkM (lgC s) s)).sT)],sl 1 nE i47,int 0]) (ds:= [agg [fre w0.heap.size (sl 1 rE_ (leastM (mkM (lgC s) s)).aC),fre w0.heap.size (sl 1 gE (leastM (mkM (lgC s) s)).sT)],sl 1 nE i47,int 0]) ⟨fun h=>agg_le (cs:= [fre N47 (sl 1 rE_ (leastM (mkM (lgC s) s)).aC),fre N47 (sl 1 gE (leastM (mkM (lgC s) s)).sT)]) (ds:= [fre w0.heap.size (sl 1 rE_ (leastM (mkM (lgC s) s)).aC),fre w0.heap.size (sl 1 gE (leastM (mkM (lgC s) s)).sT)]) ⟨fun h=>nw_mono hN47 h,fun h=>nw_mono hN47 h,tV⟩ h,fun h=>h,fun h=>h,tV⟩ h) (mv (xt J J (xt J J (xt J J (sPA (cs':= [fre w0.heap.size (sl 1 rE_ (leastM (mkM (lgC s) s)).aC),fre w0.heap.size (sl 1 gE (leastM (mkM (lgC s) s)).sT)]) J J J T.agg25 J J (nl (th (sq (rg (lPA J J T.agg25 J (sPA (cs':= [fre w0.heap.size (sl 1 rE_ (leastM (mkM (lgC s) s)).aC),fre w0.heap.size (sl 1 gE (leastM (mkM (lgC s) s)).sT)]) J J J T.agg25 J J (nl (th (rt ?_))))))))))))))))))))))))))
  have hr0:(leastM (mkM (lgC s) s)).aC=s.aC:=by
   first|rfl|simp_all|omega
  have hr1:(leastM (mkM (lgC s) s)).sT=(mdeM lgC s).sT:=by
   first|rfl|simp_all|omega
  exact rE () [.cell 4 25] J [agg [fre w0.heap.size (sl 1 rE_ (leastM (mkM (lgC s) s)).aC),fre w0.heap.size (sl 1 gE (leastM (mkM (lgC s) s)).sT)]] ⟨.agg J J T.agg25 J J,tV⟩ (cA2 (fun x0 x1=>rV [agg [fre w0.heap.size (sl 1 rE_ x0),fre w0.heap.size (sl 1 gE x1)]]) hr0 hr1) trivial eX
theorem made_ok (s:SS) (ok:Bool) (hs:ok=true→oK s∧s.sT.length≤500) (u:Int) (h0:0≤u) (h1:u<256):
 AL.Fn Tryz.prog 62 [tabbed (spec s),bl ok,int u] [] (ι:=Unit) (fun N _=>tup [agg [fre N (strs (madS s ok u).1.aC),fre N (sl 1 gE (madS s ok u).1.sT)],int (madS s ok u).2]) (fun _=> []):=by
 refine fnI Tryz.func62 rfl rfl (fun w0 F0=> ?_)
 refine tbI 0 9999 rfl ?_
 refine tbJC (ψ:=tab) 9999 997 rfl ?_
 refine fcC (inhS 0 J) (fun hS0=> ?_)
 obtain⟨hsa0,hss0,hse0⟩:=sLn hS0
 refine sq (rg (bx (key:=3) (cs:= [sl 1 rE_ s.aC,sl 2 sE s.sT]) J fun b3=>(al (key:=6) T.z25 (eC (eC eZ)) fun b6=>(ag (nl (th (sq (sq (rg (mv (no J (nl (th ?_)))))))))))))
 refine cd J (fun hc0=> ?_) (fun hc0=> ?_)
 ·try simp at hc0
  have hok:ok=false:=by simpa using hc0
  have hd:madS s ok u=(⟨[],[]⟩,2):=by rw[hok];exact mad_large
  refine sq (rg (bd (css:= []) T.st25 (eC (eC eZ)) trivial (sPA (cs':= [eqv (.slice none 0 0),eqv (.slice none 0 0)]) J J J T.agg25 J J (ag (nl (th (rt (rt_ ?_))))))))
  refine kncA 6 0 (fre w0.heap.size (sl 1 rE_ [])) rfl rfl nw_nil ?_
  refine kncA 6 1 (fre w0.heap.size (sl 1 gE [])) rfl rfl nw_nil ?_
  have hr0: []=((madS s ok u).1.aC):=by
   rw[hd]
  have hr1: []=((madS s ok u).1.sT):=by
   rw[hd]
  have hr2:(2:Int)=((madS s ok u).2):=by
   rw[hd]
  exact rE () [.cell 6 25,.tmp 7] J [agg [fre w0.heap.size (sl 1 rE_ []),fre w0.heap.size (sl 1 gE [])],int 2] ⟨.agg J J T.agg25 J J,.tmp J,tV⟩ (cA3 (fun x0 x1 x2=>rV [agg [fre w0.heap.size (sl 1 rE_ x0),fre w0.heap.size (sl 1 gE x1)],int x2]) hr0 hr1 hr2) trivial eX
 ·try simp at hc0
  have hok:ok=true:=by simpa using hc0
  obtain⟨hsk,hsf⟩:=hs hok
  have hT:=keepT_few hsk hsf u
  obtain⟨hTk,hTf⟩:=hT
  have hT0:=hTk.few0
  refine sk (th (sq (rg (lPA J J T.agg28 J (mv (cal0 (φs:= [agg [sl 1 rE_ s.aC,sl 2 sE s.sT],int u]) (φ:=agg [sl 1 rE_ ((tR (keepK u s)).1).aC,sl 2 sE ((tR (keepK u s)).1).sT]) ⟨J,J,tV⟩ (mkk.keeping_ok s aS u O O) T.ent72 (sPA (cs':= [sl 1 rE_ ((tR (keepK u s)).1).aC,sl 2 sE ((tR (keepK u s)).1).sT]) J J J T.agg28 J J (nl (th (sq (sq (rg (lPA J J T.agg28 J (cal0 (φs:= [agg [sl 1 rE_ ((tR (keepK u s)).1).aC,sl 2 sE ((tR (keepK u s)).1).sT]]) (φ:=sl 1 blE (hOl ((tR (keepK u s)).1))) ⟨J,tV⟩ (prog7.Hollows_ok ((tR (keepK u s)).1) aS) T.ent110 (iF J J T.sl90 O (gK (k:=0) (by rw[hollow_len];omega)) (lF J J T.one4 (nl (th ?_))))))))))))))))))
  refine cd J (fun hc1=> ?_) (fun hc1=> ?_)
  ·try simp at hc1
   have hd:madS s ok u=(⟨[],[]⟩,3):=by rw[hok];exact mad_none hc1
   refine sq (rg (bd (css:= []) T.st25 (eC (eC eZ)) trivial (sPA (cs':= [eqv (.slice none 0 0),eqv (.slice none 0 0)]) J J J T.agg25 J J (ag (nl (th (rt (rt_ ?_))))))))
   refine kncA 6 0 (fre w0.heap.size (sl 1 rE_ [])) rfl rfl nw_nil ?_
   refine kncA 6 1 (fre w0.heap.size (sl 1 gE [])) rfl rfl nw_nil ?_
   have hr0: []=((madS s ok u).1.aC):=by
    rw[hd]
   have hr1: []=((madS s ok u).1.sT):=by
    rw[hd]
   have hr2:(3:Int)=((madS s ok u).2):=by
    rw[hd]
   exact rE () [.cell 6 25,.tmp 7] J [agg [fre w0.heap.size (sl 1 rE_ []),fre w0.heap.size (sl 1 gE [])],int 3] ⟨.agg J J T.agg25 J J,.tmp J,tV⟩ (cA3 (fun x0 x1 x2=>rV [agg [fre w0.heap.size (sl 1 rE_ x0),fre w0.heap.size (sl 1 gE x1)],int x2]) hr0 hr1 hr2) trivial eX
  ·try simp at hc1
   have hd:madS s ok u=(mdeM lgC (tR (keepK u s)).1,0):=by rw[hok];exact mad_yes hc1
   have hfree:=keepT_free hsk hsf hc1
   refine sk (th (sq (rg (bd (css:= [(0,_)]) T.st104 (eC eZ) ⟨J,J,p1 (φ:=eqv (.func (.func 111) #[] #[])) J,tV⟩ (kn 19 (agg [clo 111 []]) J func_clo (lPA J J T.agg28 J (tbU (ψ:=tab) 20 9999 J J (calW (φs:= [agg [clo 111 []],both (agg [sl 1 rE_ ((tR (keepK u s)).1).aC,sl 2 sE ((tR (keepK u s)).1).sT]) tab]) (φ:=agg [fre w0.heap.size (sl 1 rE_ (mdeM lgC ((tR (keepK u s)).1)).aC),fre w0.heap.size (sl 1 gE (mdeM lgC ((tR (keepK u s)).1)).sT)]) ⟨J,J,tV⟩ (mkr.makeL_ok ((tR (keepK u s)).1) aS aS aS) T.ent75 (fun N hN=>fun h=>agg_le (cs:= [fre N (sl 1 rE_ (mdeM lgC ((tR (keepK u s)).1)).aC),fre N (sl 1 gE (mdeM lgC ((tR (keepK u s)).1)).sT)]) (ds:= [fre w0.heap.size (sl 1 rE_ (mdeM lgC ((tR (keepK u s)).1)).aC),fre w0.heap.size (sl 1 gE (mdeM lgC ((tR (keepK u s)).1)).sT)]) ⟨fun h=>nw_mono hN h,fun h=>nw_mono hN h,tV⟩ h) (sPA (cs':= [fre w0.heap.size (sl 1 rE_ (mdeM lgC ((tR (keepK u s)).1)).aC),fre w0.heap.size (sl 1 gE (mdeM lgC ((tR (keepK u s)).1)).sT)]) J J J T.agg25 J J (ag (nl (th (rt ?_)))))))))))))
   have hr0:(mdeM lgC ((tR (keepK u s)).1)).aC=((madS s ok u).1.aC):=by
    rw[hd]
   have hr1:(mdeM lgC ((tR (keepK u s)).1)).sT=((madS s ok u).1.sT):=by
    rw[hd]
   have hr2:(0:Int)=((madS s ok u).2):=by
    rw[hd]
   exact rE () [.cell 6 25,.tmp 7] J [agg [fre w0.heap.size (sl 1 rE_ (mdeM lgC ((tR (keepK u s)).1)).aC),fre w0.heap.size (sl 1 gE (mdeM lgC ((tR (keepK u s)).1)).sT)],int 0] ⟨.agg J J T.agg25 J J,.tmp J,tV⟩ (cA3 (fun x0 x1 x2=>rV [agg [fre w0.heap.size (sl 1 rE_ x0),fre w0.heap.size (sl 1 gE x1)],int x2]) hr0 hr1 hr2) trivial eX
theorem Control_ok (m:SSys) (t:SS) (hts:smallSpec t) (u:Int):
 AL.Fn Tryz.prog 25 [tabbed (sys m),spec t,int u] [] (ι:=Unit) (fun N _=>tup [agg [fre N (strs (ctlS m t u).1.aC),fre N (sl 1 gE (ctlS m t u).1.sT)],int (ctlS m t u).2]) (fun _=> []):=by
 refine fnI Tryz.func25 rfl rfl (fun w0 F0=> ?_)
 refine tbI 0 9999 rfl ?_
 refine tbJC (ψ:=tab) 9999 997 rfl ?_
 refine fcC (inhS 0 J) (fun hS0=> ?_)
 obtain⟨hma0,hms0,hme0⟩:=sys_lens hS0
 refine fcC (inhS 1 J) (fun hS1=> ?_)
 obtain⟨hsa1,hss1,hse1⟩:=sLn hS1
 refine sq (rg (bx (key:=3) (cs:= [sl 1 rE_ m.aC,sl 1 gE m.sT]) J fun b3=>(bx (key:=4) (cs:= [sl 1 rE_ t.aC,sl 2 sE t.sT]) J fun b4=>(al (key:=6) T.z25 (eC (eC eZ)) fun b6=>(ag (nl (th (sq (sq (rg (lPA J J T.agg25 J (lPA J J T.agg28 J (cal0 (φs:= [agg [sl 1 rE_ m.aC,sl 1 gE m.sT],agg [sl 1 rE_ t.aC,sl 2 sE t.sT]]) (φ:=int (fineSE m t)) ⟨J,J,tV⟩ (satj.Fine_ok m t aS) T.ent54 (ag (nl (th (sq (rg (mv (bi J J b_neq (nl (th ?_))))))))))))))))))))))
 refine cd J (fun hc0=> ?_) (fun hc0=> ?_)
 ·try simp at hc0
  have hd:ctlS m t u=(⟨[],[]⟩,fineSE m t):=by unfold ctlS;rw[if_neg hc0]
  refine sq (rg (bd (css:= []) T.st25 (eC (eC eZ)) trivial (mv (sPA (cs':= [eqv (.slice none 0 0),eqv (.slice none 0 0)]) J J J T.agg25 J J (ag (nl (th (rt (rt_ ?_)))))))))
  refine kncA 6 0 (fre w0.heap.size (sl 1 rE_ [])) rfl rfl nw_nil ?_
  refine kncA 6 1 (fre w0.heap.size (sl 1 gE [])) rfl rfl nw_nil ?_
  have hr0: []=((ctlS m t u).1.aC):=by
   rw[hd]
  have hr1: []=((ctlS m t u).1.sT):=by
   rw[hd]
  have hr2:((fineSE m t):Int)=((ctlS m t u).2):=by
   rw[hd]
  exact rE () [.cell 6 25,.tmp 7] J [agg [fre w0.heap.size (sl 1 rE_ []),fre w0.heap.size (sl 1 gE [])],int (fineSE m t)] ⟨.agg J J T.agg25 J J,.tmp J,tV⟩ (cA3 (fun x0 x1 x2=>rV [agg [fre w0.heap.size (sl 1 rE_ x0),fre w0.heap.size (sl 1 gE x1)],int x2]) hr0 hr1 hr2) trivial eX
 ·try simp at hc0
  obtain⟨hmv,htv,hmt⟩:=fineSE_ok hc0
  have hm:=sysOK_ok hmv
  have ht:=okSpec_of htv
  have hn8:=ht.n8
  refine sk (th (sq (sq (rg (fP J T.fld28_0 (lP J J J T.one22 (fc (slenI 19 J) fun hm19=>(lnF J T.sl22 (mv (cal0 (φs:= [int (t.aC.length:Int),int u]) (φ:=bl (isSet (t.aC.length:Int) u)) ⟨J,J,tV⟩ (mkk.isA_ok (t.aC.length:Int) u O O) T.ent61 (no J (nl (th ?_)))))))))))))
  refine cd J (fun hc1=> ?_) (fun hc1=> ?_)
  ·try simp at hc1
   have hd:ctlS m t u=(⟨[],[]⟩,1):=by unfold ctlS;rw[if_pos hc0,if_neg (by simpa using hc1)]
   refine sq (rg (bd (css:= []) T.st25 (eC (eC eZ)) trivial (sPA (cs':= [eqv (.slice none 0 0),eqv (.slice none 0 0)]) J J J T.agg25 J J (ag (nl (th (rt (rt_ ?_))))))))
   refine kncA 6 0 (fre w0.heap.size (sl 1 rE_ [])) rfl rfl nw_nil ?_
   refine kncA 6 1 (fre w0.heap.size (sl 1 gE [])) rfl rfl nw_nil ?_
   have hr0: []=((ctlS m t u).1.aC):=by
    rw[hd]
   have hr1: []=((ctlS m t u).1.sT):=by
    rw[hd]
   have hr2:(1:Int)=((ctlS m t u).2):=by
    rw[hd]
   exact rE () [.cell 6 25,.tmp 7] J [agg [fre w0.heap.size (sl 1 rE_ []),fre w0.heap.size (sl 1 gE [])],int 1] ⟨.agg J J T.agg25 J J,.tmp J,tV⟩ (cA3 (fun x0 x1 x2=>rV [agg [fre w0.heap.size (sl 1 rE_ x0),fre w0.heap.size (sl 1 gE x1)],int x2]) hr0 hr1 hr2) trivial eX
  ·try simp at hc1
   have hse:isSet (t.aC.length:Int) u=true:=by simpa using hc1
   obtain⟨hu0,hu1⟩:=isSet_b8 ht.n8 hse
   have hd:ctlS m t u=madS (guaS m t).1 (guaS m t).2 u:=by unfold ctlS;rw[if_pos hc0,if_pos hse]
   have hgk:(guaS m t).2=true→oK (guaS m t).1∧(guaS m t).1.sT.length≤500:=fun h=>⟨(gua_ok hm ht h).1,(gua_ok hm ht h).2.1⟩
   refine sk (th (sq (rg (lPA J J T.agg25 J (lPA J J T.agg28 J (tbU (ψ:=tab) 26 9999 J J (cal0 (φs:= [both (agg [sl 1 rE_ m.aC,sl 1 gE m.sT]) tab,agg [sl 1 rE_ t.aC,sl 2 sE t.sT]]) (φ:=tup [agg [sl 1 rE_ ((guaS m t).1).aC,sl 2 sE ((guaS m t).1).sT],bl ((guaS m t).2)]) ⟨J,J,tV⟩ (mkg.guard_ok m aS t aS aS) T.ent55 (mv (xt J J (xt J J (al (key:=9) T.z28 (eC (eC eZ)) fun b9=>(sPA (cs':= [sl 1 rE_ ((guaS m t).1).aC,sl 2 sE ((guaS m t).1).sT]) J J J T.agg28 J J (ag (nl (th (sq (rg (lPA J J T.agg28 J (mv (mv (tbU (ψ:=tab) 31 9999 J J (calW (φs:= [both (agg [sl 1 rE_ ((guaS m t).1).aC,sl 2 sE ((guaS m t).1).sT]) tab,bl ((guaS m t).2),int u]) (φ:=tup [agg [fre w0.heap.size (sl 1 rE_ ((madS ((guaS m t).1) ((guaS m t).2) u).1).aC),fre w0.heap.size (sl 1 gE ((madS ((guaS m t).1) ((guaS m t).2) u).1).sT)],int ((madS ((guaS m t).1) ((guaS m t).2) u).2)]) ⟨J,J,J,tV⟩ (mkr.made_ok ((guaS m t).1) ((guaS m t).2) aS u O O) T.ent62 (fun N hN=>fun h=>tup_le (cs:= [agg [fre N (sl 1 rE_ ((madS ((guaS m t).1) ((guaS m t).2) u).1).aC),fre N (sl 1 gE ((madS ((guaS m t).1) ((guaS m t).2) u).1).sT)],int ((madS ((guaS m t).1) ((guaS m t).2) u).2)]) (ds:= [agg [fre w0.heap.size (sl 1 rE_ ((madS ((guaS m t).1) ((guaS m t).2) u).1).aC),fre w0.heap.size (sl 1 gE ((madS ((guaS m t).1) ((guaS m t).2) u).1).sT)],int ((madS ((guaS m t).1) ((guaS m t).2) u).2)]) ⟨fun h=>agg_le (cs:= [fre N (sl 1 rE_ ((madS ((guaS m t).1) ((guaS m t).2) u).1).aC),fre N (sl 1 gE ((madS ((guaS m t).1) ((guaS m t).2) u).1).sT)]) (ds:= [fre w0.heap.size (sl 1 rE_ ((madS ((guaS m t).1) ((guaS m t).2) u).1).aC),fre w0.heap.size (sl 1 gE ((madS ((guaS m t).1) ((guaS m t).2) u).1).sT)]) ⟨fun h=>nw_mono hN h,fun h=>nw_mono hN h,tV⟩ h,fun h=>h,tV⟩ h) (xt J J (xt J J (sPA (cs':= [fre w0.heap.size (sl 1 rE_ ((madS ((guaS m t).1) ((guaS m t).2) u).1).aC),fre w0.heap.size (sl 1 gE ((madS ((guaS m t).1) ((guaS m t).2) u).1).sT)]) J J J T.agg25 J J (ag (nl (th (rt ?_)))))))))))))))))))))))))))))
   have hr0:((madS ((guaS m t).1) ((guaS m t).2) u).1).aC=((ctlS m t u).1.aC):=by
    rw[hd]
   have hr1:((madS ((guaS m t).1) ((guaS m t).2) u).1).sT=((ctlS m t u).1.sT):=by
    rw[hd]
   have hr2:(((madS ((guaS m t).1) ((guaS m t).2) u).2):Int)=((ctlS m t u).2):=by
    rw[hd]
   exact rE () [.cell 6 25,.tmp 7] J [agg [fre w0.heap.size (sl 1 rE_ ((madS ((guaS m t).1) ((guaS m t).2) u).1).aC),fre w0.heap.size (sl 1 gE ((madS ((guaS m t).1) ((guaS m t).2) u).1).sT)],int ((madS ((guaS m t).1) ((guaS m t).2) u).2)] ⟨.agg J J T.agg25 J J,.tmp J,tV⟩ (cA3 (fun x0 x1 x2=>rV [agg [fre w0.heap.size (sl 1 rE_ x0),fre w0.heap.size (sl 1 gE x1)],int x2]) hr0 hr1 hr2) trivial eX
theorem Right_ok (x m:SSys) (t:SS) (hts:smallSpec t) (u:Int) (hz:m.sT.length*x.sT.length<5000) (hz2:sumLen m.sT*sumLen x.sT≤400000):
 Fn0 Tryz.prog 30 [sys x,sys m,spec t,int u] (tup [bl (rgtB x m t u),int (rgtE x m t u)]):=by
 refine fnI Tryz.func30 rfl rfl (fun w0 F0=> ?_)
 refine fcC (inhS 0 J) (fun hS0=> ?_)
 obtain⟨hma0,hms0,hme0⟩:=sys_lens hS0
 refine fcC (inhS 1 J) (fun hS1=> ?_)
 obtain⟨hma1,hms1,hme1⟩:=sys_lens hS1
 refine fcC (inhS 2 J) (fun hS2=> ?_)
 obtain⟨hsa2,hss2,hse2⟩:=sLn hS2
 refine sq (rg (bx (key:=4) (cs:= [sl 1 rE_ x.aC,sl 1 gE x.sT]) J fun b4=>(bx (key:=5) (cs:= [sl 1 rE_ m.aC,sl 1 gE m.sT]) J fun b5=>(bx (key:=6) (cs:= [sl 1 rE_ t.aC,sl 2 sE t.sT]) J fun b6=>(ag (ag (nl (th (sq (bk (sq (rg (lPA J J T.agg25 J (cal0 (φs:= [agg [sl 1 rE_ x.aC,sl 1 gE x.sT]]) (φ:=bl (sysOK x)) ⟨J,tV⟩ (sysw.Valid_ok x) T.ent66 (no J (mv ?_))))))))))))))))
 apply gOr (t:=17) (pd:=21) rfl
 rotate_left
 ·intro hg0 fin
  have hg0':=hg0
  try simp at hg0'
  exact gy J J J hg0 (lPA J J T.agg25 J (gy J J J hg0 (cal0 (φs:= [agg [sl 1 rE_ m.aC,sl 1 gE m.sT]]) (φ:=bl (sysOK m)) ⟨J,tV⟩ (sysw.Valid_ok m) T.ent66 (gy J J J hg0 (no J (pkF J hg0 J (drp (X:= [(20,_),(19,_),(18,_)]) ⟨J,J,J,tV⟩ fin)))))))
 ·intro hg0 fin
  exact gn J J J hg0 J J (gn J J J hg0 J J (gn J J J hg0 J J (pkT J hg0 J (drp (X:= [(20,_),(19,_),(18,_)]) ⟨J,J,J,tV⟩ fin))))
 refine ag (nl (th ?_))
 refine cd J (fun hc0=> ?_) (fun hc0=> ?_)
 ·skip
  have hxm:¬(sysOK x=true∧sysOK m=true):=fun g=>by rw[g.1,g.2] at hc0;cases hc0
  have hd:rgtE x m t u=20:=by unfold rgtE;rw[if_neg hxm]
  refine sq (rg (ag (ag (nl (th (rt (rb (rt_ ?_))))))))
  have hr0:false=(rgtB x m t u):=by
   rw[rgt_no (by rw[hd];decide)]
  have hr1:(20:Int)=(rgtE x m t u):=by
   rw[hd]
  exact rE () [.tmp 8,.tmp 9] J [bl false,int 20] ⟨.tmp J,.tmp J,tV⟩ (cA2 (fun x0 x1=>rV [bl x0,int x1]) hr0 hr1) trivial eX
 ·skip
  obtain⟨hxv,hmv⟩:sysOK x=true∧sysOK m=true:=by
   rw[Bool.or_eq_false_iff,Bool.not_eq_false',Bool.not_eq_false'] at hc0;exact hc0
  have hx:=sysOK_ok hxv
  have hm:=sysOK_ok hmv
  refine sq (rg (lPA J J T.agg28 J (cal0 (φs:= [agg [sl 1 rE_ t.aC,sl 2 sE t.sT]]) (φ:=bl (specOK t)) ⟨J,tV⟩ (prog2.Valid_ok t aS) T.ent67 (no J (ag (nl (th ?_)))))))
  refine cd J (fun hc1=> ?_) (fun hc1=> ?_)
  ·try simp at hc1
   have hd:rgtE x m t u=30:=by unfold rgtE;rw[if_pos ⟨hxv,hmv⟩,if_neg (by simpa using hc1)]
   refine sq (rg (ag (ag (nl (th (rt (rb (rt_ ?_))))))))
   have hr0:false=(rgtB x m t u):=by
    rw[rgt_no (by rw[hd];decide)]
   have hr1:(30:Int)=(rgtE x m t u):=by
    rw[hd]
   exact rE () [.tmp 8,.tmp 9] J [bl false,int 30] ⟨.tmp J,.tmp J,tV⟩ (cA2 (fun x0 x1=>rV [bl x0,int x1]) hr0 hr1) trivial eX
  ·try simp at hc1
   have htv:specOK t=true:=by simpa using hc1
   have ht:=okSpec_of htv
   have hn8:=ht.n8
   refine sq (rg (fP J T.fld25_0 (lP J J J T.one22 (fP J T.fld25_0 (lP J J J T.one22 (cal0 (φs:= [sl 1 rE_ x.aC,sl 1 rE_ m.aC]) (φ:=bl (decide (x.aC=m.aC))) ⟨J,J,tV⟩ (prog.sEqualstrE_ok _ _) T.ent68 (no J (mv ?_))))))))
   apply gOr (t:=33) (pd:=40) rfl
   rotate_left
   ·intro hg1 fin
    have hg1':=hg1
    try simp at hg1'
    exact gy J J J hg1 (fP J T.fld25_0 (gy J J J hg1 (lP J J J T.one22 (gy J J J hg1 (fP J T.fld28_0 (gy J J J hg1 (lP J J J T.one22 (gy J J J hg1 (cal0 (φs:= [sl 1 rE_ x.aC,sl 1 rE_ t.aC]) (φ:=bl (decide (x.aC=t.aC))) ⟨J,J,tV⟩ (prog.sEqualstrE_ok _ _) T.ent68 (gy J J J hg1 (no J (pkF J hg1 J (drp (X:= [(39,_),(38,_),(37,_),(36,_),(35,_),(34,_)]) ⟨J,J,J,J,J,J,tV⟩ fin)))))))))))))
   ·intro hg1 fin
    exact gn J J J hg1 J J (gn J J J hg1 J J (gn J J J hg1 J J (gn J J J hg1 J J (gn J J J hg1 J J (gn J J J hg1 J J (pkT J hg1 J (drp (X:= [(39,_),(38,_),(37,_),(36,_),(35,_),(34,_)]) ⟨J,J,J,J,J,J,tV⟩ fin)))))))
   refine ag (nl (th ?_))
   refine cd J (fun hc2=> ?_) (fun hc2=> ?_)
   ·skip
    have hne:¬(x.aC=m.aC∧x.aC=t.aC):=fun g=>by rw[decide_eq_true g.1,decide_eq_true g.2] at hc2;cases hc2
    have hd:rgtE x m t u=10:=by unfold rgtE;rw[if_pos ⟨hxv,hmv⟩,if_pos htv,if_neg hne]
    refine sq (rg (ag (ag (nl (th (rt (rb (rt_ ?_))))))))
    have hr0:false=(rgtB x m t u):=by
     rw[rgt_no (by rw[hd];decide)]
    have hr1:(10:Int)=(rgtE x m t u):=by
     rw[hd]
    exact rE () [.tmp 8,.tmp 9] J [bl false,int 10] ⟨.tmp J,.tmp J,tV⟩ (cA2 (fun x0 x1=>rV [bl x0,int x1]) hr0 hr1) trivial eX
   ·skip
    obtain⟨hxm,hxt⟩:x.aC=m.aC∧x.aC=t.aC:=by
     rw[Bool.or_eq_false_iff,Bool.not_eq_false',Bool.not_eq_false'] at hc2;exact⟨of_decide_eq_true hc2.1,of_decide_eq_true hc2.2⟩
    have hbo:=both_of hmv hxv hxm.symm
    refine sq (rg (fP J T.fld28_0 (lP J J J T.one22 (fc (slenI 43 J) fun hm43=>(lnF J T.sl22 (mv (cal0 (φs:= [int (t.aC.length:Int),int u]) (φ:=bl (isSet (t.aC.length:Int) u)) ⟨J,J,tV⟩ (mkk.isA_ok (t.aC.length:Int) u O O) T.ent61 (no J (ag (nl (th ?_)))))))))))
    refine cd J (fun hc3=> ?_) (fun hc3=> ?_)
    ·skip
     have hns:¬isSet (t.aC.length:Int) u=true:=fun g=>by rw[g] at hc3;cases hc3
     have hd:rgtE x m t u=1:=by unfold rgtE;rw[if_pos ⟨hxv,hmv⟩,if_pos htv,if_pos ⟨hxm,hxt⟩,if_neg hns]
     refine sq (rg (ag (ag (nl (th (rt (rb (rt_ ?_))))))))
     have hr0:false=(rgtB x m t u):=by
      rw[rgt_no (by rw[hd];decide)]
     have hr1:(1:Int)=(rgtE x m t u):=by
      rw[hd]
     exact rE () [.tmp 8,.tmp 9] J [bl false,int 1] ⟨.tmp J,.tmp J,tV⟩ (cA2 (fun x0 x1=>rV [bl x0,int x1]) hr0 hr1) trivial eX
    ·skip
     have hse:isSet (t.aC.length:Int) u=true:=by simpa using hc3
     obtain⟨hu0,hu1⟩:=isSet_b8 ht.n8 hse
     have hd:rgtE x m t u=0:=by unfold rgtE;rw[if_pos ⟨hxv,hmv⟩,if_pos htv,if_pos ⟨hxm,hxt⟩,if_pos hse]
     refine sk (eb (th (sq (rg (lPA J J T.agg25 J (lPA J J T.agg25 J (cl (prodw.Product_ok m x aS aS) T.ent69 trivial fun N51 i51=>(mv (xt J J (xt J J (xt J J (al (key:=10) T.z25 (eC (eC eZ)) fun b10=>(sPA (cs':= [sl 1 rE_ i51.1.1.aC,sl 1 gE i51.1.1.sT]) J J J T.agg25 J J (ag (ag (nl (th (sq (sq (rg (mv (bi J J b_neq (nl (th ?_))))))))))))))))))))))))
     refine cd J (fun hc4=> ?_) (fun hc4=> ?_)
     ·try simp at hc4
      exact absurd hbo (by simpa using hc4)
     ·try simp at hc4
      have hPk:=i51.2.2 hbo
      have hkv:=prodk hmv hxv hPk hz hz2
      have hkk:=sysOK_ok hkv
      refine sk (th (sq (rg (lPA J J T.agg25 J (lPA J J T.agg28 J (cl (satj.Judge_ok i51.1.1 aS t aS) T.ent70 trivial fun N60 i60=>(fld1 J T.flv68_0 T.one4 J (mv ?_))))))))
      apply gAnd (t:=62) (pd:=66) rfl
      rotate_left
      ·intro hg2 fin
       have hg2':=hg2
       try simp at hg2'
       exact gy J J J hg2 (lPA J J T.agg25 J (gy J J J hg2 (mv (gy J J J hg2 (cal0 (φs:= [agg [sl 1 rE_ x.aC,sl 1 gE x.sT],int u]) (φ:=bl (keepsB x u)) ⟨J,J,tV⟩ (mkp.keeps_ok x aS u O O) T.ent71 (pkT J hg2 J (drp (X:= [(65,_),(64,_),(63,_)]) ⟨J,J,J,tV⟩ fin)))))))
      ·intro hg2 fin
       exact gn J J J hg2 J J (gn J J J hg2 J J (gn J J J hg2 J J (pkF J hg2 J (drp (X:= [(65,_),(64,_),(63,_)]) ⟨J,J,J,tV⟩ fin))))
      refine ag (ag (nl (th (rt ?_))))
      have hr0:(i60.1.holds&&(keepsB x u))=(rgtB x m t u):=by
       rw[judge_rgt hm hx ht hPk hkk i60.2 hd]
      have hr1:(0:Int)=(rgtE x m t u):=by
       rw[hd]
      exact rE () [.tmp 8,.tmp 9] J [bl (i60.1.holds&&(keepsB x u)),int 0] ⟨.tmp J,.tmp J,tV⟩ (cA2 (fun x0 x1=>rV [bl x0,int x1]) hr0 hr1) trivial eX
end mkr
end
section
namespace LeadM
open ref01 ref03 ref04 ref06 Part Rungs LeftM TrimM RoundM MergeM BisM BisM3 BisM4 BisM5 BisM6 Keys WalkM WitM JudgM JudgM2 LevM divr divs divd dive divf divv judg sysw satj ChsM BisS TrimI QuoM FailM DivM RefM GenW CompM CompP CrossM FitM TogM KeepK GuardM MakeM LsysM LsysM2 GuaW
structure RefG (m:SSys) (t:SS) (z:SS × Bool):Prop where
 yes:z.2=true→∃l,NumG m t l z.1∧l.length≤10000
 no:z.2=false→z.1=⟨[],[]⟩
abbrev KP:Type:= { φ:AV//One φ } × List Int
def avE:KP→List AV:=fun y=> [y.1.1,ints y.2]
instance (y:KP):OneAll (avE y):=by
 have:=y.1.2
 exact inferInstanceAs (OneAll [y.1.1,ints y.2])
def slP (l:List Int): { φ:AV//One φ }:=⟨ints l,inferInstance⟩
def eqvP (v:Value) [h:One (eqv v)]: { φ:AV//One φ }:=⟨eqv v,h⟩
instance:Inhabited KP:=⟨(slP [],[])⟩
def frz (x:SA):KP:=(slP x.aP,x.next)
def ksD (s:SS) (u:Int) (k:Nat):List KP:=(s.sT.take k).map (fun x=>frz (keepX u x))++(s.sT.drop k).map frz
def ksE (s:SS) (u:Int) (k:Nat) (φ: { φ:AV//One φ }):List KP:=(ksD s u k).set k (φ,(ix s.sT k).next)
theorem ksD_len (s:SS) (u:Int) {k:Nat} (hk:k≤s.sT.length):(ksD s u k).length=s.sT.length:=by
 unfold ksD;simp;omega
theorem ksD_zero (s:SS) (u:Int):ksD s u 0=s.sT.map frz:=by simp[ksD]
theorem ksD_end (s:SS) (u:Int):(ksD s u s.sT.length).map avE=(keepK u s).sT.map sE:=by
 unfold ksD keepK
 rw[List.take_length,List.drop_length]
 simp only [List.map_nil,List.append_nil,List.map_map]
 rfl
theorem ksD_at {s:SS} {u:Int} {k:Nat} (hk:k<s.sT.length):(ksD s u k)[k]?=some (frz (ix s.sT k)):=by
 unfold ksD
 rw[List.getElem?_append_right (by simp;omega),List.length_map,List.length_take,Nat.min_eq_left O,Nat.sub_self,List.getElem?_map,List.getElem?_drop,ix_get hk]
 simp[hk]
theorem ksE_at {s:SS} {u:Int} {k:Nat} {φ: { φ:AV//One φ }} (hk:k<s.sT.length):(ksE s u k φ)[k]?=some (φ,(ix s.sT k).next):=by
 unfold ksE
 rw[List.getElem?_set_self (by rw[ksD_len s u (Nat.le_of_lt hk)];exact hk)]
theorem ksE_set {s:SS} {u:Int} {k:Nat} {φ ψ: { φ:AV//One φ }}:(ksE s u k φ).set k (ψ,(ix s.sT k).next)=ksE s u k ψ:=by
 unfold ksE;rw[List.set_set]
theorem ksE_len (s:SS) (u:Int) {k:Nat} {φ: { φ:AV//One φ }} (hk:k≤s.sT.length):(ksE s u k φ).length=s.sT.length:=by
 unfold ksE;rw[List.length_set,ksD_len s u hk]
theorem ksE_done {s:SS} {u:Int} {k:Nat} (hk:k<s.sT.length):ksE s u k (slP (keepX u (ix s.sT k)).aP)=ksD s u (k+1):=by
 unfold ksE ksD
 have hl:((s.sT.take k).map fun x=>frz (keepX u x)).length=k:=by simp;omega
 rw[List.set_append_right _ _ O,hl,Nat.sub_self,take_s hk,List.map_append,List.append_assoc]
 congr 1
 have:s.sT.drop k=ix s.sT k::s.sT.drop (k+1):=by rw[List.drop_eq_getElem_cons hk,ix_get hk]
 rw[this]
 rfl
end LeadM
end
section
open ref01 ref03 ref04 ref06 prog prog2 prog3 prog6 prog13 Part Rungs LeftM TrimM RoundM MergeM BisM BisM4 BisM5 WalkM StepM WitM JudgM JudgM2 refw judg wit refj sysw divr divs divd dive divg divw divv divf LevM LevM2
namespace divc
end divc
end
section
open ref01 ref03 ref04 ref06 prog prog2 prog3 prog6 prog13 Part Rungs LeftM TrimM RoundM MergeM BisM BisM4 BisM5 WalkM StepM WitM JudgM JudgM2 refw judg wit refj sysw divr divs divd dive divg divw divv LevM LevM2 QuoM FailM FitM
namespace divj
end divj
end
section
open ref01 ref03 ref04 ref06 prog prog2 prog3 prog4 prog6 prog13 Part Rungs LeftM TrimM RoundM MergeM BisM BisM4 BisM5 WalkM StepM WitM JudgM JudgM2 refw judg wit refj sysw divr divs divd dive divg divw divv divf divc LevM LevM2 ChsM QuoM FailM DivM QuoW
namespace T
theorem z173:ZeroIs Tryz.prog 173 [.slice none 0 0]:=zeroIs_of kR
theorem z171:ZeroIs Tryz.prog 171 [.int .i64 0,.int .i64 0,.int .i64 0]:=zeroIs_of kR
end T
namespace divq
end divq
end
section
open ref01 ref03 ref04 ref06 prog prog2 prog3 prog6 prog13 starts Part Rungs LeftM TrimM RoundM MergeM BisM BisM4 BisM5 WalkM StepM WitM JudgM JudgM2 refw judg wit refj sysw divr divs divd dive divg divw divv divf divc divj divq divp LevM LevM2 ChsM QuoM FailM DivM QuoW RefM
namespace divm
end divm
end
section
open ref01 ref03 ref04 ref06 prog prog2 prog3 prog6 prog13 starts Part Rungs LeftM TrimM RoundM MergeM BisM BisM4 BisM5 WalkM StepM WitM JudgM JudgM2 refw judg wit refj sysw divr divs divd dive divg divw divv divf divc divj divq divp divm LevM LevM2 ChsM QuoM FailM DivM QuoW RefM FitM PartM EncM
namespace diva
end diva
end
section
open ref01 ref03 ref04 ref06 prog prog2 prog3 prog6 prog13 starts Part Rungs LeftM TrimM RoundM MergeM BisM BisM4 BisM5 WalkM StepM WitM JudgM JudgM2 refw judg wit refj sysw divr divs divd dive divg divw divv divf divc divj divq divp divm diva LevM LevM2 ChsM QuoM FailM DivM QuoW RefM FitM PartM EncM TogM
namespace divt
end divt
end
end Go.Proofs.YtnlfjojfgghchaaGreatDoor
