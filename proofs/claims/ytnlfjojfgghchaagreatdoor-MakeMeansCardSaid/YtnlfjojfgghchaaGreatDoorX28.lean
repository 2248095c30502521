/- The walks of the functions and the plain laws. Own texts of this claim, packed: Mkmkc, MkLstM, Mkmkq, MkMakeM2, MkMakeM3, MkGuaW, Mkpkey, Mkmkg, Mkprodw. -/
import Derived.Test.YtnlfjojfgghchaaGreatDoorX26
import Derived.Test.YtnlfjojfgghchaaGreatDoorX18
import Derived.Test.YtnlfjojfgghchaaGreatDoorX04
import Derived.Test.YtnlfjojfgghchaaGreatDoorX27
import Derived.Test.YtnlfjojfgghchaaGreatDoorX19
import Derived.Test.YtnlfjojfgghchaaGreatDoorX22
import Derived.Test.YtnlfjojfgghchaaGreatDoorX24
import Derived.Shelf.Strconv.AppendIntPublic10
import Derived.Lib.AppendIntMem
import Derived.Lib.ItoaLen
import Derived.Lib.Slices
import Derived.Lib.Hide
import Derived.Laws.IdiomStrings
import Derived.OwnWalk
import Derived.WalkKit
import Derived.BigCall
import Derived.Test.YtnlfjojfgghchaaGreatDoorX14
import Derived.Test.YtnlfjojfgghchaaGreatDoorX06
set_option linter.all false
namespace Go.Proofs.YtnlfjojfgghchaaGreatDoor
open AL Go
set_option maxRecDepth 100000
section
open ref01 ref03 ref04 ref06 prog prog2 prog3 prog4 prog5 prog6 prog7 prog8 prog9 Part Rungs LeftM TrimM RoundM MergeM BisM BisM4 BisM5 Itoa Keys WalkM StepM WitM JudgM JudgM2 refw judg wit refj sysw satj divr divs divd dive TrimI QuoM FailM DivM CompM CrossM KeepK GuardM MakeM LsysM LsysM2 KeepB AtM ClsM mkk mkp mkl
namespace T
theorem qM:jN Tryz.prog 125 9 3 smE smD:=Ow kR kR
theorem zv3:∀w F,∃u,(zeroValue 3).run Tryz.prog w= .ok u w∧(int 0).p w F u:=Al (v:= .int .i64 0) kR _ (fun _ _=>Dc)
theorem Wy:Ent Tryz.prog 188:=aR kR
theorem NP:Ent Tryz.prog 189:=aR kR
theorem Wz:Ent Tryz.prog 190:=aR kR
end T
namespace mkc
theorem Lh (m:aA) (hm:bC m):
 Fn0 Tryz.prog 151 [mE (sys m)] (ints (aI m)):=by
 refine fnI Tryz.func151 rfl rfl (fun w0 F0=> ?_)
 have f0:=hm.few0;have f1:=hm.few1;have hn8:=hm.n8
 refine tbI 0 9999 rfl ?_
 refine fcC (bW 0 J) (fun hS0=> ?_)
 obtain⟨hma0,hms0,hme0⟩:=cJ hS0
 refine sq (rg (bx (key:=1) (cs:= [sl 1 rE_ m.aC,sl 1 gE m.sT]) J fun b1=>(ag (nl (th (sc (sq (rg (fP J T.bY (lP J J J T.dA (fc (bL 18 J) fun hm18=>(lnF J T.gY (mk (key:=20) (m:=m.sT.length) (enc:=nE) (y:=(0:Int)) J J T.cQ (eC eZ) mL mL fun v20=>(ag (nl (th (sq (rg (ag (nl (th (sq (lb (th (bk ?_)))))))))))))))))))))))))
 refine fzC 20 3 rfl rfl ?_
 have hI0_0:CR m (m.sT.length+1) 1 (List.replicate m.sT.length (0:Int)):=by
  exact Ue hm
 refine lp (κ:=Nat × Nat × (List Int)) (fun p=> [(1,ptr 1 b1 0),(3,sl 1 nE p.2.2),(4,int (p.2.1:Int)),(9999,tab)]) (fun p=> [(1,cell b1 [sl 1 rE_ m.aC,sl 1 gE m.sT])]) (fun p=>CR m p.1 p.2.1 p.2.2) (fun p=>p.1) ⟨m.sT.length+1,1,List.replicate m.sT.length (0:Int)⟩ hI0_0 ⟨id,id,id,id,tV⟩ ⟨rI,tV⟩ ?_
 intro⟨f,kk,cl⟩ hG0
 have hcr0:CR m f kk cl:=hG0
 show Ct _ _ _ _ [(1,ptr 1 b1 0),(3,sl 1 nE cl),(4,int (kk:Int)),(9999,tab)] [(1,cell b1 [sl 1 rE_ m.aC,sl 1 gE m.sT])] _
 obtain⟨f1,rfl⟩:∃f1,f=f1+1:=⟨f- 1,by have:=hcr0.fuel;omega⟩
 have hcr:=hcr0
 have hcl:=hcr.lab.len
 refine bk (sq (rg (mkm (key:=21) (kE:=smE) (dom:=smD) (vE:=smV) fun b21=>(ag (nl (th (sq (rg (mv (fc (bL 22 rfl) fun hm22=>(lnF rfl T.aT (mk (key:=24) (m:=cl.length) (enc:=nE) (y:=(0:Int)) rfl rfl T.cQ (eC eZ) mL mL fun v24=>(ag (nl (th (sq (sq (rg (fP rfl T.bY (lP rfl rfl rfl T.dA (lnF rfl T.gY (mv (nl (th (bk ?_)))))))))))))))))))))))))
 have hI1_0:0≤m.sT.length:=by
  first|omega|simp
 have hI1_1:pO ([]:List (ByteArray × Int)) (eT m cl 0)∧(List.replicate cl.length (0:Int))=gM m cl 0:=by
  exact⟨NJ,by rw[hcl];exact Lf m cl⟩
 refine lp (κ:=Nat × (List (ByteArray × Int)) × (List Int)) (fun p=> [(1,ptr 1 b1 0),(3,sl 1 nE cl),(4,int (kk:Int)),(5,mpv 21 b21),(6,osl 24 v24),(26,sl 1 gE m.sT),(27,int (m.sT.length:Int)),(28,int (p.1:Int)),(9999,tab)]) (fun p=> [(1,cell b1 [sl 1 rE_ m.aC,sl 1 gE m.sT]),(21,mp b21 smE smD smV p.2.1),(24,own v24 3 1 nE p.2.2)]) (fun p=>(p.1≤m.sT.length)∧(pO p.2.1 (eT m cl p.1)∧p.2.2=gM m cl p.1)) (fun p=>m.sT.length- p.1) ⟨0,([]:List (ByteArray × Int)),List.replicate cl.length (0:Int)⟩ ⟨hI1_0,hI1_1⟩ ⟨id,id,id,id,id,id,id,id,id,tV⟩ ⟨rI,rI,rI,tV⟩ ?_
 intro⟨k1,mm1,nx⟩ hG1
 obtain⟨hk1,⟨hkm,hnx⟩⟩:(k1≤m.sT.length)∧(pO mm1 (eT m cl k1)∧nx=gM m cl k1):=hG1
 show Ct _ _ _ _ [(1,ptr 1 b1 0),(3,sl 1 nE cl),(4,int (kk:Int)),(5,mpv 21 b21),(6,osl 24 v24),(26,sl 1 gE m.sT),(27,int (m.sT.length:Int)),(28,int (k1:Int)),(9999,tab)] [(1,cell b1 [sl 1 rE_ m.aC,sl 1 gE m.sT]),(21,mp b21 smE smD smV mm1),(24,own v24 3 1 nE nx)] _
 have hnl:nx.length=m.sT.length:=by rw[hnx];exact qK m cl k1
 refine sq (rg (bi J J aZ (nl (th (sq ?_)))))
 refine cd J (fun hc0=> ?_) (fun hc0=> ?_)
 ·try simp at hc0
  refine sk (th (sq (bk (sq (rg (mv (iF J J T.gY O gB (lF J J T.fK (ag (ag (nl (th (sq (rg (nw 9 3 1 nE (ag (rtg (key:=9) 9 J (nl (th (sq (sq (rg (mv (fc (bL 33 J) fun hm33=>(lnF J T.dU (mv (nl (th (bk ?_)))))))))))))))))))))))))))))
  have hI2_0:0≤(ix m.sT k1).length:=by
   first|omega|simp
  have hI2_1:([]:List Int)=sZ cl.length cl (edg m k1) 0:=by
   rfl
  refine lp (κ:=Nat × Value × (List Int)) (fun p=> [(1,ptr 1 b1 0),(3,sl 1 nE cl),(4,int (kk:Int)),(5,mpv 21 b21),(6,osl 24 v24),(7,int (k1:Int)),(9,osl 9 p.2.1),(26,sl 1 gE m.sT),(27,int (m.sT.length:Int)),(28,int (k1:Int)),(33,sl 2 pE (ix m.sT k1)),(34,int ((ix m.sT k1).length:Int)),(35,int (p.1:Int)),(9999,tab)]) (fun p=> [(1,cell b1 [sl 1 rE_ m.aC,sl 1 gE m.sT]),(9,own p.2.1 3 1 nE p.2.2),(21,mp b21 smE smD smV mm1),(24,own v24 3 1 nE nx)]) (fun p=>(p.1≤(ix m.sT k1).length)∧(p.2.2=sZ cl.length cl (edg m k1) p.1)) (fun p=>(ix m.sT k1).length- p.1) ⟨0,(.slice none 0 0),([]:List Int)⟩ ⟨hI2_0,hI2_1⟩ ⟨id,id,id,id,id,id,id,id,id,id,id,id,id,id,tV⟩ ⟨rI,rI,rI,rI,tV⟩ ?_
  intro⟨k2,v2,row⟩ hG2
  obtain⟨hk2,hrw⟩:(k2≤(ix m.sT k1).length)∧(row=sZ cl.length cl (edg m k1) k2):=hG2
  show Ct _ _ _ _ [(1,ptr 1 b1 0),(3,sl 1 nE cl),(4,int (kk:Int)),(5,mpv 21 b21),(6,osl 24 v24),(7,int (k1:Int)),(9,osl 9 v2),(26,sl 1 gE m.sT),(27,int (m.sT.length:Int)),(28,int (k1:Int)),(33,sl 2 pE (ix m.sT k1)),(34,int ((ix m.sT k1).length:Int)),(35,int (k2:Int)),(9999,tab)] [(1,cell b1 [sl 1 rE_ m.aC,sl 1 gE m.sT]),(9,own v2 3 1 nE row),(21,mp b21 smE smD smV mm1),(24,own v24 3 1 nE nx)] _
  have hrl:row.length≤k2:=by rw[hrw];exact Qx
  have hmny:=hm.many k1 O
  have hmn2:(ix m.sT k1).length≤400000:=hmny
  refine sq (rg (bi J J aZ (nl (th (sq ?_)))))
  refine cd J (fun hc1=> ?_) (fun hc1=> ?_)
  ·try simp at hc1
   have hed:=hm.ed k1 O _ (aO (l:=(ix m.sT k1)) O)
   have hed2:0≤(ix (ix m.sT k1) k2).1∧(ix (ix m.sT k1) k2).1<(m.aC.length:Int)∧0≤(ix (ix m.sT k1) k2).2∧(ix (ix m.sT k1) k2).2<(m.sT.length:Int):=hed
   have hlb:=hcr.lab.bd (ix (ix m.sT k1) k2).2.toNat O
   have hkw:=hcr.few
   have hmb:=Ww (a:=(ix (ix m.sT k1) k2).1) (n:=(cl.length:Int)) O O O O
   refine sk (th (sq (bk (sq (rg (iF J J T.dU O gB (lFA J T.dP (Nat.le_of_ble_eq_true J) (al (key:=11) T.z94 (eC (eC eZ)) fun b11=>(sPA (cs':= [int ((ix (ix m.sT k1) k2).1),int ((ix (ix m.sT k1) k2).2)]) J J J T.dP J J (nl (th (dr (nh:=14) [0,0,2,0,8,24,62,0,0,256,896,1920,4094,8190,16383,32767] T.mixed kR ?_))))))))))))
   refine st_ J (fun _ _ _ gq kq=>mv' (gq.1.trans J) kq) ?_
   refine st_ J (fun _ _ _ gq kq=>fP (gq.1.trans J) T.eE kq) ?_
   refine st_ J (fun _ _ _ gq kq=>lP (gq.1.trans J) J J T.aH kq) ?_
   refine st_ J (fun _ _ _ gq kq=>mv' (gq.1.trans J) kq) ?_
   refine st_ J (fun _ _ _ gq kq=>lnF (gq.1.trans J) T.aT kq) ?_
   refine st_ J (fun _ _ _ gq kq=>bi (gq.1.trans J) J (aM i6) kq) ?_
   refine st_ J (fun _ _ _ gq kq=>bi (gq.1.trans J) (gq.2.1.trans J) (Xe i6) kq) ?_
   refine st_ J (fun _ _ _ gq kq=>mv' (gq.1.trans J) kq) ?_
   refine st_ J (fun _ _ _ gq kq=>fP (gq.1.trans J) T.eY kq) ?_
   refine st_ J (fun _ _ _ gq kq=>lP (gq.1.trans J) J J T.aH kq) ?_
   refine st_ J (fun _ _ _ gq kq=>iF (gq.1.trans J) (gq.2.1.trans J) T.aT O gB kq) ?_
   refine st_ J (fun _ _ _ gq kq=>lF (gq.1.trans J) J T.aH kq) ?_
   refine st_ J (fun _ _ _ gq kq=>bi (gq.1.trans J) (gq.2.1.trans J) (aM i6) kq) ?_
   refine st_ J (fun _ _ _ gq kq=>bsE (enc:=nE) (xs:= [((((ix (ix m.sT k1) k2).1)*((cl.length+1:Nat):Int))+(ix cl ((ix (ix m.sT k1) k2).2).toNat))]) (css:= [[int ((((ix (ix m.sT k1) k2).1)*((cl.length+1:Nat):Int))+(ix cl ((ix (ix m.sT k1) k2).2).toNat))]]) T.cQ ⟨J,J,p1 (φ:=int ((((ix (ix m.sT k1) k2).1)*((cl.length+1:Nat):Int))+(ix cl ((ix (ix m.sT k1) k2).2).toNat))) (by exact(gq.1.trans J)),tV⟩ J J J J kq) ?_
   refine pn (ap (key:=9) (zs:= [((((ix (ix m.sT k1) k2).1)*((cl.length+1:Nat):Int))+(ix cl ((ix (ix m.sT k1) k2).2).toNat))]) cB J J J T.cQ (by unfold aN at*;simp;omega) (by unfold aN at*;simp;omega) fun v53=>(ag (nl (eb (th (rg (bi J J (aM i6) (mv (nl ?_)))))))))
   have hN0:(k2+1)≤(ix m.sT k1).length:=by
    first|omega|simp_all
   have hN1:(row++ [((((ix (ix m.sT k1) k2).1)*((cl.length+1:Nat):Int))+(ix cl ((ix (ix m.sT k1) k2).2).toNat))])=sZ cl.length cl (edg m k1) (k2+1):=by
    rw[NM (by show k2<(ix m.sT k1).length;omega),hrw];rfl
   exact ln (⟨k2+1,v53,row++ [((((ix (ix m.sT k1) k2).1)*((cl.length+1:Nat):Int))+(ix cl ((ix (ix m.sT k1) k2).2).toNat))]⟩:Nat × Value × (List Int)) ⟨hN0,hN1⟩ dO ⟨id,id,id,id,id,id,id,id,id,id,id,id,id,id,tV⟩ ⟨rI,rI,rI,rI,tV⟩
  ·try simp at hc1
   refine ex (xt_ (xt_ (xb (th (sq (rg (mv (cal (Hi:= [(9,own v2 3 1 nE row)]) (φs:= [osl 9 v2]) ⟨J,tV⟩ (nM 5 9 (shelfI.Qa _ v2 row)) T.Wy ⟨rI,tV⟩ fun _ _=>(nl (th (sq (rg ?_))))))))))))
   have hrow:Lib.compact (fC row)=pN cl.length cl (edg m k1):=by
    rw[hrw];exact Qy (by show(ix m.sT k1).length≤k2;omega)
   have hrb:=NN hm hcr.lab hcr.few (x:=k1) O
   have hrf:=Uc hm (n:=cl.length) (cl:=cl) (x:=k1) O
   rw[←hrow] at hrb hrf
   have hlb:=hcr.lab.bd k1 O
   have hkw:=hcr.few
   refine mv (mv (iF rfl rfl T.aT O gB (lF rfl rfl T.aH (tbU (ψ:=tab) 60 9999 rfl rfl (bI (φs:= [both (int (ix cl k1)) tab]) (φ:=str (lM (ix cl k1))) ⟨rfl,tV⟩ (Itoa.IX (ix cl k1) O O) T.NP (ag (nl (th (sq (sq (rg (mv (cal (Hi:= [(9,own v2 3 1 nE (fC row))]) (φs:= [osl 9 v2]) ⟨rfl,tV⟩ (Dy 5 9 (shelfI.Qb _ v2 (fC row))) T.Wz ⟨rI,tV⟩ fun _ v63=>(lnO rfl rfl T.aT (mv (nl (th (bk ?_))))))))))))))))))
   have hI3_0:0≤(Lib.compact (fC row)).length:=by
    first|omega|simp
   have hI3_1:(lM (ix cl k1))=mV (ix cl k1) ((Lib.compact (fC row)).take 0):=by
    exact Pd _
   refine lp (κ:=Nat × ByteArray) (fun p=> [(1,ptr 1 b1 0),(3,sl 1 nE cl),(4,int (kk:Int)),(5,mpv 21 b21),(6,osl 24 v24),(7,int (k1:Int)),(12,str p.2),(26,sl 1 gE m.sT),(27,int (m.sT.length:Int)),(28,int (k1:Int)),(63,osl 9 v63),(64,int ((Lib.compact (fC row)).length:Int)),(65,int (p.1:Int)),(9999,tab)]) (fun p=> [(1,cell b1 [sl 1 rE_ m.aC,sl 1 gE m.sT]),(9,own v63 3 1 nE (Lib.compact (fC row))),(21,mp b21 smE smD smV mm1),(24,own v24 3 1 nE nx)]) (fun p=>(p.1≤(Lib.compact (fC row)).length)∧(p.2=mV (ix cl k1) ((Lib.compact (fC row)).take p.1))) (fun p=>(Lib.compact (fC row)).length- p.1) ⟨0,lM (ix cl k1)⟩ ⟨hI3_0,hI3_1⟩ ⟨id,id,id,id,id,id,id,id,id,id,id,id,id,id,tV⟩ ⟨rI,rI,rI,rI,tV⟩ ?_
   intro⟨k3,acc⟩ hG3
   obtain⟨hk3,hacc⟩:(k3≤(Lib.compact (fC row)).length)∧(acc=mV (ix cl k1) ((Lib.compact (fC row)).take k3)):=hG3
   show Ct _ _ _ _ [(1,ptr 1 b1 0),(3,sl 1 nE cl),(4,int (kk:Int)),(5,mpv 21 b21),(6,osl 24 v24),(7,int (k1:Int)),(12,str acc),(26,sl 1 gE m.sT),(27,int (m.sT.length:Int)),(28,int (k1:Int)),(63,osl 9 v63),(64,int ((Lib.compact (fC row)).length:Int)),(65,int (k3:Int)),(9999,tab)] [(1,cell b1 [sl 1 rE_ m.aC,sl 1 gE m.sT]),(9,own v63 3 1 nE (Lib.compact (fC row))),(21,mp b21 smE smD smV mm1),(24,own v24 3 1 nE nx)] _
   refine sq (rg (bi J J aZ (nl (th (sq ?_)))))
   refine cd J (fun hc2=> ?_) (fun hc2=> ?_)
   ·try simp at hc2
    have hrk:=hrb _ (aO hc2)
    have hz:=Er (ix cl k1) ((Lib.compact (fC row)).take k3) O (fun y hy=>by have:=hrb y (List.mem_of_mem_take hy);omega)
    rw[List.length_take] at hz
    refine sk (th (sq (bk (sq (rg (iO J J J T.aT O O (lO J J gB J T.aH (ag (nl (th (rg (mv (mv (tbU (ψ:=tab) 70 9999 J J (bI (φs:= [both (int (ix (Lib.compact (fC row)) k3)) tab]) (φ:=str (lM (ix (Lib.compact (fC row)) k3))) ⟨J,tV⟩ (Itoa.IX (ix (Lib.compact (fC row)) k3) O O) T.NP (bi J J (Lw (by have h9:=En (n:=ix (Lib.compact (fC row)) k3) O O;show 1+(lM _).size≤aN;unfold aN;omega)) (bi J J (Lw (by have h9:=En (n:=ix (Lib.compact (fC row)) k3) O O;rw[ByteArray.size_append,hacc];show _+(1+_)≤aN;unfold aN;omega)) (ag (nl (eb (th (rg (bi J J (aM i6) (mv (nl ?_)))))))))))))))))))))))))
    have hN0:(k3+1)≤(Lib.compact (fC row)).length:=by
     first|omega|simp_all
    have hN1:(acc++(({ data:= #[32] })++(lM (ix (Lib.compact (fC row)) k3))))=mV (ix cl k1) ((Lib.compact (fC row)).take (k3+1)):=by
     rw[hacc,Mn,bN hc2]
    exact ln (⟨k3+1,acc++(({ data:= #[32] })++(lM (ix (Lib.compact (fC row)) k3)))⟩:Nat × ByteArray) ⟨hN0,hN1⟩ dO ⟨id,id,id,id,id,id,id,id,id,id,id,id,id,id,tV⟩ ⟨rI,rI,rI,rI,tV⟩
   ·try simp at hc2
    refine ex (xt_ (xt_ (xb (th (sq (rg ?_))))))
    have hky:acc=kyB (dY m cl k1):=by rw[hacc,show k3=(Lib.compact (fC row)).length by omega,List.take_length,hrow];rfl
    have hok:=Ud hm hcr.lab hcr.few (x:=k1) O
    have hks:acc.size≤aN:=by
     have:=Er (ix cl k1) (Lib.compact (fC row)) O (fun y hy=>by have:=hrb y hy;omega)
     rw[hky];show(mV (ix cl k1) (pN cl.length cl (edg m k1))).size≤_;rw[←hrow];unfold aN;omega
    refine mv (mv (uQ (z:=0) (q:=acc) rfl rfl jX T.qM hks T.zv3 (mv (xt rfl rfl (xt rfl rfl (ag (ag (nl (th (sq (sq (rg (mv (no rfl (nl (th ?_))))))))))))))))
    refine cd J (fun hc3=> ?_) (fun hc3=> ?_)
    ·try simp at hc3
     have hnw:=Ua (m:=m) (cl:=cl) (k:=k1) O hkm hok (by rw[←hky];simpa using hc3)
     rw[←hky] at hnw
     refine sq (rg (mv (FI J J T.qM (ag (nl (th (rg (mv (mv (mv (mapUpdate (q:=acc) (u:=(mm1.length:Int)) J J jX J T.qM hks (nl (th (rg (mv (mv (mv (iO J J J T.aT O O (sO (φ:=int (mm1.length:Int)) J J J T.aH (gN O) J (y':=(mm1.length:Int)) J (nl (eb (th (rg (bi J J (aM i6) (mv (nl ?_))))))))))))))))))))))))))
     have hN0:(k1+1)≤m.sT.length:=by
      first|omega|simp_all
     have hN1:pO (bQ mm1 acc (mm1.length:Int)) (eT m cl (k1+1))∧(nx.set k1 (mm1.length:Int))=gM m cl (k1+1):=by
      exact⟨hnw.1,by rw[hnx];exact hnw.2⟩
     exact ln (⟨k1+1,bQ mm1 acc (mm1.length:Int),nx.set k1 (mm1.length:Int)⟩:Nat × (List (ByteArray × Int)) × (List Int)) ⟨hN0,hN1⟩ dO ⟨id,id,id,id,id,id,id,id,id,tV⟩ ⟨rI,rI,rI,tV⟩
    ·try simp at hc3
     have hod:=Ub (m:=m) (cl:=cl) (k:=k1) O hkm hok (by rw[←hky];simpa using hc3)
     rw[←hky] at hod
     refine sk (th (rg (mv (mv (mv (iO J J J T.aT O O (sO (φ:=int ((bJ mm1 acc).getD 0)) J J J T.aH (gN O) J (y':=((bJ mm1 acc).getD 0)) J (nl (eb (th (rg (bi J J (aM i6) (mv (nl ?_))))))))))))))
     have hN0:(k1+1)≤m.sT.length:=by
      first|omega|simp_all
     have hN1:pO mm1 (eT m cl (k1+1))∧(nx.set k1 ((bJ mm1 acc).getD 0))=gM m cl (k1+1):=by
      exact⟨hod.1,by rw[hnx];exact hod.2⟩
     exact ln (⟨k1+1,mm1,nx.set k1 ((bJ mm1 acc).getD 0)⟩:Nat × (List (ByteArray × Int)) × (List Int)) ⟨hN0,hN1⟩ dO ⟨id,id,id,id,id,id,id,id,id,tV⟩ ⟨rI,rI,rI,tV⟩
 ·try simp at hc0
  have hk1:k1=m.sT.length:=by omega
  have hml:mm1.length=gH m cl:=Qw (by rw[←hk1];exact hkm)
  have hne:nx=dX m cl:=by rw[hnx,hk1];exact NL m cl
  refine ex (xt_ (xt_ (xb (th (sq (rg (fz 24 6 J J (mv (ag (nl (th (sq (sq (rg (mv (FI J J T.qM (mv (bi J J jA (nl (th ?_))))))))))))))))))))
  refine cd J (fun hc4=> ?_) (fun hc4=> ?_)
  ·try simp at hc4
   refine sq (rg (mv (FI J J T.qM (ag (nl (th (ex (xt_ (xb ?_)))))))))
   have hN0:CR m f1 mm1.length nx:=by
    rw[hml,hne];exact Uf hcr O
   exact ln (⟨f1,mm1.length,nx⟩:Nat × Nat × (List Int)) hN0 (by show f1<f1+1;omega) ⟨id,id,id,id,tV⟩ ⟨rI,tV⟩
  ·try simp at hc4
   have hfin:nx=aI m:=by rw[hne];exact Wx hcr O
   refine sk (th (sq (rg (mv (ag (nl (th (rt (rb (rt_ (rb (scR ?_))))))))))))
   have hr0:nx=(aI m):=by
    exact hfin
   exact rE () [.tmp 2] J [sl 1 nE nx] ⟨.tmp J,tV⟩ (cA1 (fun x0=>rV [sl 1 nE x0]) hr0) trivial eX
end mkc
end
section
namespace LstM
open ref01 ref03 ref04 ref06 Part Rungs LeftM TrimM RoundM MergeM BisM BisM3 BisM4 BisM5 BisM6 Itoa Keys WalkM WitM JudgM JudgM2 LevM divr divs divd dive divf divv judg sysw satj ChsM BisS TrimI QuoM FailM DivM RefM GenW CompM CrossM FitM TogM KeepK GuardM MakeM LsysM LsysM2 KeepB AtM ClsM
structure oJ (cl:List Int) (n K:Nat) (f:Nat→Nat):Prop where
 z:f 0=0
 e:f n=K
 st:∀k,k<n→(0≤ix cl k∧ix cl k<(f k:Int)∧f (k+1)=f k)∨(ix cl k=(f k:Int)∧f (k+1)=f k+1)
theorem Be {cl:List Int} {n K:Nat} {f:Nat→Nat} (h:oJ cl n K f):∀{j k:Nat},j≤k→k≤n→f j≤f k
 |j,0,hj,_=>by rw[show j=0 by omega];exact Nat.le_refl _
 |j,k+1,hj,hk=>by
  by_cases e:j=k+1
  ·rw[e];exact Nat.le_refl _
  ·have:=Be h (j:=j) (k:=k) O O
   rcases h.st k O with g|g<;>omega
theorem WA {cl:List Int} {n K:Nat} {f:Nat→Nat} (h:oJ cl n K f) {j k:Nat} (hj:j<k) (hk:k≤n):0≤ix cl j∧ix cl j<(f k:Int):=by
 have:=Be h (j:=j+1) (k:=k) O hk
 rcases h.st j O with g|g<;>omega
theorem nZ {cl:List Int} {n K:Nat} {f:Nat→Nat} (h:oJ cl n K f) {k:Nat} (hk:k≤n):f k≤K:=by rw[←h.e];exact Be h hk (Nat.le_refl _)
theorem NQ {cl:List Int} {n K:Nat} {f:Nat→Nat} (h:oJ cl n K f) (hl:cl.length=n) {k:Nat} (hk:k<n) (e:ix cl k=(f k:Int)):cl.idxOf (f k:Int)=k:=by
 have h1:cl.idxOf (f k:Int)≤k:=QuoM.MV O e
 rcases Nat.lt_or_ge (cl.idxOf (f k:Int)) k with g|g
 ·have h2:=WA h g (Nat.le_of_lt hk)
  have hin:(f k:Int)∈cl:=by rw[←e];exact aO O
  have h3:=QuoM.vD hin
  have h3:ix cl (cl.idxOf (f k:Int))=(f k:Int):=h3
  omega
 ·omega
theorem Qz (m:aA) (cl:List Int):oJ (dX m cl) m.sT.length (gH m cl) (fun k=>(eT m cl k).length):=by
 refine⟨rfl,by rw[Bd];rfl,fun k hk=> ?_⟩
 by_cases c:dY m cl k∈eT m cl k
 ·left
  have e:eT m cl (k+1)=eT m cl k:=by rw[nQ hk];unfold eS;rw[if_pos c]
  have h1:pxa (eT m cl k) (dY m cl k)<(eT m cl k).length:=QuoM.yI c
  rw[wY hk,e]
  exact⟨O,O,rfl⟩
 ·right
  have e:eT m cl (k+1)=eT m cl k++ [dY m cl k]:=by rw[nQ hk];unfold eS;rw[if_neg c]
  rw[wY hk,e,sS c]
  exact⟨rfl,by simp⟩
theorem Hu {m:aA} (hm:bC m):∀(f k:Nat) (cl:List Int),Lab m.sT.length k cl→k≤m.sT.length→yP m cl→m.sT.length- k<f→∃k' g,pX m k' (wX m f k cl)∧oJ (wX m f k cl) m.sT.length k' g
 |0,k,cl,_,_,_,hf=>absurd hf O
 |f+1,k,cl,h,hk,hc,hf=>by
  have hle:=DN m cl
  show ∃k' g,pX m k' (if k<gH m cl then wX m f (gH m cl) (dX m cl) else dX m cl)∧oJ (if k<gH m cl then wX m f (gH m cl) (dX m cl) else dX m cl) m.sT.length k' g
  by_cases g:k<gH m cl
  ·rw[if_pos g]
   exact Hu hm f _ _ (Bc m cl) hle (Ag hm h hk hc) O
  ·rw[if_neg g]
   exact⟨_,_,TQ hm h hk hc O,Qz m cl⟩
theorem JL {m:aA} (hm:bC m):∃k g,pX m k (aI m)∧oJ (aI m) m.sT.length k g:=by
 have f:=hm.few0
 refine Hu hm _ _ _ (GZ hm) f (fun R hR x y hx hy _=> ?_) O
 have e1:ix (sW m) x=0:=Cx 0 hx
 have e2:ix (sW m) y=0:=Cx 0 hy
 rw[e1,e2]
open Classical in
noncomputable def kY (m:aA):Nat:=if h:bC m then Classical.choose (JL h) else 0
theorem Fj {m:aA} (hm:bC m):∃g,pX m (kY m) (aI m)∧oJ (aI m) m.sT.length (kY m) g:=by
 unfold kY
 rw[dif_pos hm]
 exact Classical.choose_spec (JL hm)
noncomputable def fD (m:aA):aA:=jK (aF m) (kY (aF m)) (aI (aF m))
def nA (mm:List (Int × Int)) (j:Nat):Prop:=mm.length=j∧∀c,bJ mm c=if 0≤c∧c<(j:Int) then some c else none
theorem NR:nA [] 0:=⟨rfl,fun c=>by rw[if_neg O];rfl⟩
theorem NS {mm:List (Int × Int)} {j:Nat} (h:nA mm j):nA (bQ mm (j:Int) (mm.length:Int)) (j+1):=by
 have hn:bJ mm (j:Int)=none:=by rw[h.2,if_neg O]
 refine⟨by rw[FF,hn];simp[h.1],fun c=> ?_⟩
 rw[kO,h.2 c,h.1]
 by_cases e:(j:Int)=c
 ·subst e;rw[if_pos rfl,if_pos O]
 ·rw[if_neg e]
  by_cases g:0≤c∧c<(j:Int)
  ·rw[if_pos g,if_pos O]
  ·rw[if_neg g,if_neg O]
theorem Hv {mm:List (Int × Int)} {j:Nat} (h:nA mm j) {c:Int} (h0:0≤c) (h1:c<(j:Int)):(bJ mm c).getD 0=c:=by rw[h.2,if_pos ⟨h0,h1⟩];rfl
theorem Hw {mm:List (Int × Int)} {j:Nat} (h:nA mm j) (c:Int):(bJ mm c).isSome=decide (0≤c∧c<(j:Int)):=by
 rw[h.2]
 by_cases g:0≤c∧c<(j:Int)
 ·rw[if_pos g,decide_eq_true g];rfl
 ·rw[if_neg g,decide_eq_false g];rfl
theorem NT {cl:List Int} {n K:Nat} {f:Nat→Nat} (h:oJ cl n K f) {k:Nat} (hk:k<n) {mm:List (Int × Int)} (hm:nA mm (f k)) (hs:(bJ mm (ix cl k)).isSome=false):nA (bQ mm (ix cl k) (mm.length:Int)) (f (k+1)):=by
 rw[Hw hm] at hs
 have hs:=of_decide_eq_false hs
 rcases h.st k hk with g|g
 ·exact absurd ⟨g.1,g.2.1⟩ hs
 ·rw[g.1,g.2];exact NS hm
theorem NU {cl:List Int} {n K:Nat} {f:Nat→Nat} (h:oJ cl n K f) {k:Nat} (hk:k<n) {mm:List (Int × Int)} (hm:nA mm (f k)) (hs:(bJ mm (ix cl k)).isSome=true):nA mm (f (k+1)):=by
 rw[Hw hm] at hs
 have hs:=of_decide_eq_true hs
 rcases h.st k hk with g|g
 ·rw[g.2.2];exact hm
 ·omega
def jU (K j:Nat):List Bool:=(List.range K).map fun c=>decide (c<j)
theorem Bf (K j:Nat):(jU K j).length=K:=by simp[jU]
theorem JM {K j c:Nat} (h:c<K):ix (jU K j) c=decide (c<j):=cG h
theorem Bg {K j c:Nat} (h:c<(jU K j).length):(jU K j)[c]=decide (c<j):=by simp[jU]
theorem NV (K:Nat):List.replicate K false=jU K 0:=by
 apply List.ext_getElem (by simp[jU])
 intro i a1 a2
 rw[Bg a2];simp
theorem QA {K j:Nat}:(jU K j).set j true=jU K (j+1):=by
 apply List.ext_getElem (by simp[jU])
 intro i a1 a2
 have hi:i<(jU K j).length:=by rw[Bf];rw[Bf] at a2;exact a2
 rw[List.getElem_set,Bg a2]
 by_cases e:j=i
 ·subst e;rw[if_pos rfl];simp
 ·rw[if_neg e,Bg hi]
  rw[decide_eq_decide];omega
theorem Ug {cl:List Int} {n K:Nat} {f:Nat→Nat} (h:oJ cl n K f) {k:Nat} (hk:k<n) (hb:ix cl k<(K:Int)) (e:ix (jU K (f k)) (ix cl k).toNat=true):f (k+1)=f k:=by
 rcases h.st k hk with g|g
 ·exact g.2.2
 ·rw[g.1,Int.toNat_natCast,JM O] at e
  exact absurd (of_decide_eq_true e) O
theorem Uh {cl:List Int} {n K:Nat} {f:Nat→Nat} (h:oJ cl n K f) {k:Nat} (hk:k<n) (hb:ix cl k<(K:Int)) (e:ix (jU K (f k)) (ix cl k).toNat=false):ix cl k=(f k:Int)∧f (k+1)=f k+1:=by
 rcases h.st k hk with g|g
 ·rw[JM O] at e
  exact absurd (of_decide_eq_false e) O
 ·exact g
def tA (p:aA) (nx:List Int) (j:Nat):List (List PP):=(List.range j).map fun(c:Nat)=>qE nx (edg p (nx.idxOf (c:Int)))
theorem QB (p:aA) (nx:List Int) (j:Nat):(tA p nx j).length=j:=by simp[tA]
theorem NW (p:aA) (nx:List Int) (j:Nat):tA p nx (j+1)=tA p nx j++ [qE nx (edg p (nx.idxOf (j:Int)))]:=by
 unfold tA
 rw[List.range_succ,List.map_append];rfl
theorem QC (p:aA) (nx:List Int) (K:Nat):tA p nx K=(jK p K nx).sT:=rfl
def qH (nx:List Int) (es:List PP) (k:Nat):List PP:=(es.take k).map fun e=>(e.1,ix nx e.2.toNat)
theorem Ui {nx:List Int} {es:List PP} {k:Nat} (h:k<es.length):qH nx es (k+1)=qH nx es k++ [((ix es k).1,ix nx (ix es k).2.toNat)]:=by
 unfold qH
 rw[bN h,List.map_append];rfl
theorem WB {nx:List Int} {es:List PP} {k:Nat}:(qH nx es k).length≤k:=by unfold qH;rw[List.length_map,List.length_take];omega
theorem WC {nx:List Int} {es:List PP} {k:Nat} (h:es.length≤k):Lib.compact (bT (qH nx es k))=qE nx es:=by
 unfold qH qE
 rw[List.take_of_length_le h]
end LstM
end
section
open ref01 ref03 ref04 ref06 prog prog2 prog3 prog4 prog5 prog6 prog7 prog8 prog9 Part Rungs LeftM TrimM RoundM MergeM BisM BisM4 BisM5 Itoa Keys WalkM StepM WitM JudgM JudgM2 refw judg wit refj sysw satj divr divs divd dive TrimI QuoM FailM DivM CompM CrossM KeepK GuardM MakeM LsysM LsysM2 KeepB AtM ClsM LstM mkk mkp mkl mkc
namespace T
theorem oL:jN Tryz.prog 200 3 3 kI lI:=Hg kR kR
theorem WE:Ent Tryz.prog 150:=aR kR
theorem WF:Ent Tryz.prog 151:=aR kR
theorem WG:Ent Tryz.prog 152:=aR kR
end T
namespace mkq
theorem QD (m:aA) (hv:bM m=true):
 AL.Fn Tryz.prog 121 [mE (sys m)] [] (ι:=List Int) (fun N i=>tup [Pw N (fD m),ints i,int 0]) (fun _=> []):=by
 refine fnI Tryz.func121 rfl rfl (fun w0 F0=> ?_)
 have hm:=cU hv;have f0:=hm.few0;have f1:=hm.few1;have hn8:=hm.n8;have hle:=rJ hm;have hp:=qJ hm;have hpl:=lG m;have pf0:=hp.few0;have pf1:=hp.few1;have pf8:=hp.n8
 obtain⟨g,hcl,hor⟩:=Fj hp
 have hkf:=hcl.few;have hll:=hcl.lab.len
 have hrep:(List.replicate m.sT.length (0:Int)).length=m.sT.length:=by simp
 refine tbI 0 9999 rfl ?_
 refine Dm (ψ:=tab) 9999 997 rfl ?_
 refine fcC (bW 0 J) (fun hS0=> ?_)
 obtain⟨hma0,hms0,hme0⟩:=cJ hS0
 refine sq (rg (bx (key:=1) (cs:= [sl 1 rE_ m.aC,sl 1 gE m.sT]) J fun b1=>(al (key:=2) T.z25 (eC (eC eZ)) fun b2=>(ag (ag (nl (th (sq (sq (rg (lPA J J T.aU J (bI (φs:= [agg [sl 1 rE_ m.aC,sl 1 gE m.sT]]) (φ:=bl (bM m)) ⟨J,tV⟩ (sysw.iB m) T.wP (no J (nl (th ?_)))))))))))))))
 refine cd J (fun hc0=> ?_) (fun hc0=> ?_)
 ·try simp at hc0
  rw[hv] at hc0;cases hc0
 ·try simp at hc0
  refine sk (th (sq (rg (lPA J J T.aU J (bI (φs:= [agg [sl 1 rE_ m.aC,sl 1 gE m.sT],int 0]) (φ:=tup [agg [sl 1 rE_ (aF m).aC,sl 1 gE (aF m).sT],sl 1 nE (bD m)]) ⟨J,J,tV⟩ (mkl.TX m aS) T.WE (mv (xt J J (xt J J (al (key:=5) T.z25 (eC (eC eZ)) fun b5=>(sPA (cs':= [sl 1 rE_ (aF m).aC,sl 1 gE (aF m).sT]) J J J T.aU J J (ag (nl (th (sq (rg (lPA J J T.aU J (tbU (ψ:=tab) 31 9999 J J (bI (φs:= [both (agg [sl 1 rE_ (aF m).aC,sl 1 gE (aF m).sT]) tab]) (φ:=sl 1 nE (aI (aF m))) ⟨J,tV⟩ (mkc.Lh (aF m) aS) T.WF (ag (nl (th (sq (rg (mkm (key:=33) (kE:=kI) (dom:=lI) (vE:=iC) fun b33=>(ag (nl (th (sq (rg (fP J T.hU (lP J J J T.dE (eI (φs:= [sl 1 rE_ m.aC]) (φ:=fre w0.heap.size (sl 1 rE_ m.aC)) ⟨J,tV⟩ (prog.fI _ O) T.rA (fun N hN=>fun h=>iW hN h) (bd (css:= [(0,_)]) T.mW (eC (eC eZ)) ⟨J,J,p1 (φ:=fre w0.heap.size (sl 1 rE_ m.aC)) J,tV⟩ (al (key:=9) T.z25 (eC (eC eZ)) fun b9=>(sPA (cs':= [fre w0.heap.size (sl 1 rE_ m.aC),eqv (.slice none 0 0)]) J J J T.aU J J (nl (th (sq (rg (fP J T.bY (lP J J J T.dA (fc (bL 39 J) fun hm39=>(lnF J T.gY (mk (key:=41) (m:=m.sT.length) (enc:=nE) (y:=(0:Int)) J J T.cQ (eC eZ) mL mL fun v41=>(ag (nl (th (sq (sq (rg (mv (lnO J J T.aT (mv (nl (th (bk ?_))))))))))))))))))))))))))))))))))))))))))))))))))))))))
  have hI0_0:0≤(List.replicate m.sT.length (0:Int)).length:=by
   first|omega|simp
  have hI0_1:(List.replicate m.sT.length (0:Int)).length=m.sT.length:=by
   exact hrep
  refine lp (κ:=Nat × (List Int)) (fun p=> [(2,ptr 2 b2 0),(3,eqv (.slice none 0 0)),(4,int 0),(5,ptr 5 b5 0),(6,sl 1 nE (bD m)),(7,sl 1 nE (aI (aF m))),(8,mpv 33 b33),(9,ptr 9 b9 0),(10,osl 41 v41),(43,int ((List.replicate m.sT.length (0:Int)).length:Int)),(44,int (p.1:Int)),(9999,tab)]) (fun p=> [(1,cell b1 [sl 1 rE_ m.aC,sl 1 gE m.sT]),(2,cell b2 [eqv (.slice none 0 0),eqv (.slice none 0 0)]),(5,cell b5 [sl 1 rE_ (aF m).aC,sl 1 gE (aF m).sT]),(9,cell b9 [fre w0.heap.size (sl 1 rE_ m.aC),eqv (.slice none 0 0)]),(33,mp b33 kI lI iC ([]:List (Int × Int))),(41,own v41 3 1 nE p.2),(997,dS tab)]) (fun p=>(p.1≤(List.replicate m.sT.length (0:Int)).length)∧(p.2.length=m.sT.length)) (fun p=>(List.replicate m.sT.length (0:Int)).length- p.1) ⟨0,List.replicate m.sT.length (0:Int)⟩ ⟨hI0_0,hI0_1⟩ ⟨id,id,id,id,id,id,id,id,id,id,id,id,tV⟩ ⟨rI,rI,rI,rI,rI,rI,rI,tV⟩ ?_
  intro⟨k,of0⟩ hG0
  obtain⟨hk0,hof0⟩:(k≤(List.replicate m.sT.length (0:Int)).length)∧(of0.length=m.sT.length):=hG0
  show Ct _ _ _ _ [(2,ptr 2 b2 0),(3,eqv (.slice none 0 0)),(4,int 0),(5,ptr 5 b5 0),(6,sl 1 nE (bD m)),(7,sl 1 nE (aI (aF m))),(8,mpv 33 b33),(9,ptr 9 b9 0),(10,osl 41 v41),(43,int ((List.replicate m.sT.length (0:Int)).length:Int)),(44,int (k:Int)),(9999,tab)] [(1,cell b1 [sl 1 rE_ m.aC,sl 1 gE m.sT]),(2,cell b2 [eqv (.slice none 0 0),eqv (.slice none 0 0)]),(5,cell b5 [sl 1 rE_ (aF m).aC,sl 1 gE (aF m).sT]),(9,cell b9 [fre w0.heap.size (sl 1 rE_ m.aC),eqv (.slice none 0 0)]),(33,mp b33 kI lI iC ([]:List (Int × Int))),(41,own v41 3 1 nE of0),(997,dS tab)] _
  refine sq (rg (bi J J aZ (nl (th (sq ?_)))))
  refine cd J (fun hc1=> ?_) (fun hc1=> ?_)
  ·try simp at hc1
   refine sk (th (sq (bk (sq (rg (mv (ag (nl (th (rg (mv (mv (iO J J J T.aT O O (sO (φ:=int (-1)) J J J T.aH gB J (y':=(-1)) J (nl (eb (th (rg (bi J J (aM i6) (mv (nl ?_)))))))))))))))))))))
   have hN0:(k+1)≤(List.replicate m.sT.length (0:Int)).length:=by
    first|omega|simp_all
   have hN1:(of0.set k (-1)).length=m.sT.length:=by
    rw[List.length_set];exact hof0
   exact ln (⟨k+1,of0.set k (-1)⟩:Nat × (List Int)) ⟨hN0,hN1⟩ dO ⟨id,id,id,id,id,id,id,id,id,id,id,id,tV⟩ ⟨rI,rI,rI,rI,rI,rI,rI,tV⟩
  ·try simp at hc1
   refine ex (xt_ (xt_ (xb (th (sq (sq (rg (mv (fc (bL 51 J) fun hm51=>(lnF J T.aT (mv (nl (th (bk ?_))))))))))))))
   have hI1_0:0≤(aI (aF m)).length:=by
    first|omega|simp
   have hI1_1:nA ([]:List (Int × Int)) (g 0)∧of0.length=m.sT.length:=by
    exact⟨by rw[hor.z];exact NR,hof0⟩
   refine lp (κ:=Nat × (List (Int × Int)) × (List Int)) (fun p=> [(2,ptr 2 b2 0),(3,eqv (.slice none 0 0)),(4,int 0),(5,ptr 5 b5 0),(6,sl 1 nE (bD m)),(7,sl 1 nE (aI (aF m))),(8,mpv 33 b33),(9,ptr 9 b9 0),(10,osl 41 v41),(51,sl 1 nE (aI (aF m))),(52,int ((aI (aF m)).length:Int)),(53,int (p.1:Int)),(9999,tab)]) (fun p=> [(1,cell b1 [sl 1 rE_ m.aC,sl 1 gE m.sT]),(2,cell b2 [eqv (.slice none 0 0),eqv (.slice none 0 0)]),(5,cell b5 [sl 1 rE_ (aF m).aC,sl 1 gE (aF m).sT]),(9,cell b9 [fre w0.heap.size (sl 1 rE_ m.aC),eqv (.slice none 0 0)]),(33,mp b33 kI lI iC p.2.1),(41,own v41 3 1 nE p.2.2),(997,dS tab)]) (fun p=>(p.1≤(aI (aF m)).length)∧(nA p.2.1 (g p.1)∧p.2.2.length=m.sT.length)) (fun p=>(aI (aF m)).length- p.1) ⟨0,([]:List (Int × Int)),of0⟩ ⟨hI1_0,hI1_1⟩ ⟨id,id,id,id,id,id,id,id,id,id,id,id,id,tV⟩ ⟨rI,rI,rI,rI,rI,rI,rI,tV⟩ ?_
   intro⟨k1,mm,of1⟩ hG1
   obtain⟨hk1,⟨hnI,hof1⟩⟩:(k1≤(aI (aF m)).length)∧(nA mm (g k1)∧of1.length=m.sT.length):=hG1
   show Ct _ _ _ _ [(2,ptr 2 b2 0),(3,eqv (.slice none 0 0)),(4,int 0),(5,ptr 5 b5 0),(6,sl 1 nE (bD m)),(7,sl 1 nE (aI (aF m))),(8,mpv 33 b33),(9,ptr 9 b9 0),(10,osl 41 v41),(51,sl 1 nE (aI (aF m))),(52,int ((aI (aF m)).length:Int)),(53,int (k1:Int)),(9999,tab)] [(1,cell b1 [sl 1 rE_ m.aC,sl 1 gE m.sT]),(2,cell b2 [eqv (.slice none 0 0),eqv (.slice none 0 0)]),(5,cell b5 [sl 1 rE_ (aF m).aC,sl 1 gE (aF m).sT]),(9,cell b9 [fre w0.heap.size (sl 1 rE_ m.aC),eqv (.slice none 0 0)]),(33,mp b33 kI lI iC mm),(41,own v41 3 1 nE of1),(997,dS tab)] _
   refine sq (rg (bi J J aZ (nl (th (sq ?_)))))
   refine cd J (fun hc2=> ?_) (fun hc2=> ?_)
   ·try simp at hc2
    have hlb:=hcl.lab.bd k1 O
    have hxb:=(lD hm).bd _ (aO (l:=bD m) (i:=k1) O)
    have hk1n:k1<(aF m).sT.length:=by omega
    refine sk (th (sq (bk (sq (rg (mv (iF J J T.aT O gB (lF J J T.aH (ag (ag (nl (th (sq (sq (rg (mv (mv (uQ (z:=(0:Int)) (q:=ix (aI (aF m)) k1) J J jX T.oL ⟨O,O⟩ T.yF (mv (xt J J (xt J J (ag (ag (nl (th (sq (rg (mv (no J (nl (th ?_)))))))))))))))))))))))))))))))
    refine cd J (fun hc3=> ?_) (fun hc3=> ?_)
    ·try simp at hc3
     have hst:=NT hor hk1n hnI (by simpa using hc3)
     refine rg (mv (mv (mv (FI J J T.oL (mapUpdate (q:=ix (aI (aF m)) k1) (u:=(mm.length:Int)) J J jX J T.oL ⟨O,O⟩ (nl (th (dr (nh:=9) [0,0,0,6,14,0,0,96,255,511] T.mixed kR ?_))))))))
     refine st_ J (fun _ _ _ gq kq=>mv' (gq.1.trans J) kq) ?_
     refine st_ J (fun _ _ _ gq kq=>mv' (gq.1.trans J) kq) ?_
     refine st_ J (fun _ _ _ gq kq=>mv' (gq.1.trans J) kq) ?_
     refine st_ J (fun _ _ _ gq kq=>iF (gq.1.trans J) (gq.2.1.trans J) T.aT O gB kq) ?_
     refine st_ J (fun _ _ _ gq kq=>lF (gq.1.trans J) J T.aH kq) ?_
     refine st_ J (fun _ _ _ gq kq=>mv' (gq.1.trans J) kq) ?_
     refine st_ J (fun _ _ _ gq kq=>mv' (gq.1.trans J) kq) ?_
     refine st_ J (fun _ _ _ gq kq=>lookup (z:=(0:Int)) (q:=ix (aI (aF m)) k1) (gq.1.trans J) J (fun h=>Cj (gq.2.1.trans J) h) T.oL ⟨O,O⟩ T.yF kq) ?_
     refine st_ J (fun _ _ _ gq kq=>iO (gq.1.trans J) J (gq.2.1.trans J) T.aT O O kq) ?_
     refine pn (sO (φ:=int ((bJ (bQ mm (ix (aI (aF m)) k1) (mm.length:Int)) (ix (aI (aF m)) k1)).getD (0:Int))) J J J T.aH gB J (y':=((bJ (bQ mm (ix (aI (aF m)) k1) (mm.length:Int)) (ix (aI (aF m)) k1)).getD (0:Int))) J (nl (eb (th (rg (bi J J (aM i6) (mv (nl ?_))))))))
     have hN0:(k1+1)≤(aI (aF m)).length:=by
      first|omega|simp_all
     have hN1:nA (bQ mm (ix (aI (aF m)) k1) (mm.length:Int)) (g (k1+1))∧(of1.set (ix (bD m) k1).toNat ((bJ (bQ mm (ix (aI (aF m)) k1) (mm.length:Int)) (ix (aI (aF m)) k1)).getD (0:Int))).length=m.sT.length:=by
      exact⟨hst,by rw[List.length_set];exact hof1⟩
     exact ln (⟨k1+1,bQ mm (ix (aI (aF m)) k1) (mm.length:Int),of1.set (ix (bD m) k1).toNat ((bJ (bQ mm (ix (aI (aF m)) k1) (mm.length:Int)) (ix (aI (aF m)) k1)).getD (0:Int))⟩:Nat × (List (Int × Int)) × (List Int)) ⟨hN0,hN1⟩ dO ⟨id,id,id,id,id,id,id,id,id,id,id,id,id,tV⟩ ⟨rI,rI,rI,rI,rI,rI,rI,tV⟩
    ·try simp at hc3
     have hst:=NU hor hk1n hnI (by simpa using hc3)
     refine sk (th (dr (nh:=9) [0,0,0,6,14,0,0,96,255,511] T.mixed kR ?_))
     refine st_ J (fun _ _ _ gq kq=>mv' (gq.1.trans J) kq) ?_
     refine st_ J (fun _ _ _ gq kq=>mv' (gq.1.trans J) kq) ?_
     refine st_ J (fun _ _ _ gq kq=>mv' (gq.1.trans J) kq) ?_
     refine st_ J (fun _ _ _ gq kq=>iF (gq.1.trans J) (gq.2.1.trans J) T.aT O gB kq) ?_
     refine st_ J (fun _ _ _ gq kq=>lF (gq.1.trans J) J T.aH kq) ?_
     refine st_ J (fun _ _ _ gq kq=>mv' (gq.1.trans J) kq) ?_
     refine st_ J (fun _ _ _ gq kq=>mv' (gq.1.trans J) kq) ?_
     refine st_ J (fun _ _ _ gq kq=>lookup (z:=(0:Int)) (q:=ix (aI (aF m)) k1) (gq.1.trans J) J (fun h=>Cj (gq.2.1.trans J) h) T.oL ⟨O,O⟩ T.yF kq) ?_
     refine st_ J (fun _ _ _ gq kq=>iO (gq.1.trans J) J (gq.2.1.trans J) T.aT O O kq) ?_
     refine pn (sO (φ:=int ((bJ mm (ix (aI (aF m)) k1)).getD (0:Int))) J J J T.aH gB J (y':=((bJ mm (ix (aI (aF m)) k1)).getD (0:Int))) J (nl (eb (th (rg (bi J J (aM i6) (mv (nl ?_))))))))
     have hN0:(k1+1)≤(aI (aF m)).length:=by
      first|omega|simp_all
     have hN1:nA mm (g (k1+1))∧(of1.set (ix (bD m) k1).toNat ((bJ mm (ix (aI (aF m)) k1)).getD (0:Int))).length=m.sT.length:=by
      exact⟨hst,by rw[List.length_set];exact hof1⟩
     exact ln (⟨k1+1,mm,of1.set (ix (bD m) k1).toNat ((bJ mm (ix (aI (aF m)) k1)).getD (0:Int))⟩:Nat × (List (Int × Int)) × (List Int)) ⟨hN0,hN1⟩ dO ⟨id,id,id,id,id,id,id,id,id,id,id,id,id,tV⟩ ⟨rI,rI,rI,rI,rI,rI,rI,tV⟩
   ·try simp at hc2
    have hK:nA mm (kY (aF m)):=by
     have h9:=hnI
     rw[show k1=(aF m).sT.length by omega,hor.e] at h9
     exact h9
    have hKl:=hK.1
    refine ex (xt_ (xt_ (xb (th (sq (rg (mv (FI J J T.oL (mk (key:=82) (m:=mm.length) (enc:=blE) (y:=false) J J T.Kt (eC eZ) mL mL fun v82=>(ag (nl (th (sq (sq (rg (mv (lnF J T.aT (mv (nl (th (bk ?_)))))))))))))))))))))
    refine nwC 90 87 1 (fN w0.heap.size) (nS 9 1 (osl 90 (.slice none 0 0)) rfl rfl dR ?_)
    have hI2_0:0≤(aI (aF m)).length:=by
     first|omega|simp
    have hI2_1:(List.replicate mm.length false)=jU (kY (aF m)) (g 0)∧([]:List (List (Int × Int)))=tA (aF m) (aI (aF m)) (g 0):=by
     exact⟨by rw[hor.z,hKl];exact NV _,by rw[hor.z];rfl⟩
    refine lp (κ:=Nat × (List Bool) × Value × (List (List (Int × Int)))) (fun p=> [(2,ptr 2 b2 0),(3,eqv (.slice none 0 0)),(4,int 0),(5,ptr 5 b5 0),(7,sl 1 nE (aI (aF m))),(8,mpv 33 b33),(9,ptr 9 b9 0),(10,osl 41 v41),(16,osl 82 v82),(83,sl 1 nE (aI (aF m))),(84,int ((aI (aF m)).length:Int)),(85,int (p.1:Int)),(9999,tab)]) (fun p=> [(1,cell b1 [sl 1 rE_ m.aC,sl 1 gE m.sT]),(2,cell b2 [eqv (.slice none 0 0),eqv (.slice none 0 0)]),(5,cell b5 [sl 1 rE_ (aF m).aC,sl 1 gE (aF m).sT]),(9,cell b9 [fre w0.heap.size (sl 1 rE_ m.aC),osl 90 p.2.2.1]),(33,mp b33 kI lI iC mm),(41,own v41 3 1 nE of1),(82,own v82 4 1 blE p.2.1),(90,own p.2.2.1 87 1 (fN w0.heap.size) p.2.2.2),(997,dS tab)]) (fun p=>(p.1≤(aI (aF m)).length)∧(p.2.1=jU (kY (aF m)) (g p.1)∧p.2.2.2=tA (aF m) (aI (aF m)) (g p.1))) (fun p=>(aI (aF m)).length- p.1) ⟨0,List.replicate mm.length false,(.slice none 0 0),([]:List (List (Int × Int)))⟩ ⟨hI2_0,hI2_1⟩ ⟨id,id,id,id,id,id,id,id,id,id,id,id,id,tV⟩ ⟨rI,rI,rI,rI,rI,rI,rI,rI,rI,tV⟩ ?_
    intro⟨k2,met,uo,aD⟩ hG2
    obtain⟨hk2,⟨hmet,hout⟩⟩:(k2≤(aI (aF m)).length)∧(met=jU (kY (aF m)) (g k2)∧aD=tA (aF m) (aI (aF m)) (g k2)):=hG2
    show Ct _ _ _ _ [(2,ptr 2 b2 0),(3,eqv (.slice none 0 0)),(4,int 0),(5,ptr 5 b5 0),(7,sl 1 nE (aI (aF m))),(8,mpv 33 b33),(9,ptr 9 b9 0),(10,osl 41 v41),(16,osl 82 v82),(83,sl 1 nE (aI (aF m))),(84,int ((aI (aF m)).length:Int)),(85,int (k2:Int)),(9999,tab)] [(1,cell b1 [sl 1 rE_ m.aC,sl 1 gE m.sT]),(2,cell b2 [eqv (.slice none 0 0),eqv (.slice none 0 0)]),(5,cell b5 [sl 1 rE_ (aF m).aC,sl 1 gE (aF m).sT]),(9,cell b9 [fre w0.heap.size (sl 1 rE_ m.aC),osl 90 uo]),(33,mp b33 kI lI iC mm),(41,own v41 3 1 nE of1),(82,own v82 4 1 blE met),(90,own uo 87 1 (fN w0.heap.size) aD),(997,dS tab)] _
    have hol:aD.length≤10000:=by rw[hout,QB];have:=nZ hor (k:=k2) O;omega
    refine sq (rg (bi J J aZ (nl (th (sq ?_)))))
    refine cd J (fun hc4=> ?_) (fun hc4=> ?_)
    ·try simp at hc4
     have hlb:=hcl.lab.bd k2 O
     have hg5:=Hv hK hlb.1 hlb.2
     have hmtl:met.length=(kY (aF m)):=by rw[hmet];exact Bf _ _
     refine sk (th (sq (bk (sq (rg (mv (iF J J T.aT O gB (lF J J T.aH (ag (ag (nl (th (sq (sq (rg (mv (mv (mv (lookup (z:=(0:Int)) (q:=ix (aI (aF m)) k2) J J jX T.oL ⟨O,O⟩ T.yF (iO J J J T.rS O O (lO J J gB J T.iG (nl (th ?_)))))))))))))))))))))))
     refine cd J (fun hc5=> ?_) (fun hc5=> ?_)
     ·try simp at hc5
      have hsame:=Ug hor (k:=k2) O hlb.2 (by rw[←hmet];rw[hg5] at hc5;exact hc5)
      refine ex (xt_ (xb (th (rg (bi J J (aM i6) (mv (nl ?_)))))))
      have hN0:(k2+1)≤(aI (aF m)).length:=by
       first|omega|simp_all
      have hN1:met=jU (kY (aF m)) (g (k2+1))∧aD=tA (aF m) (aI (aF m)) (g (k2+1)):=by
       rw[hsame];exact⟨hmet,hout⟩
      exact ln (⟨k2+1,met,uo,aD⟩:Nat × (List Bool) × Value × (List (List (Int × Int)))) ⟨hN0,hN1⟩ dO ⟨id,id,id,id,id,id,id,id,id,id,id,id,id,tV⟩ ⟨rI,rI,rI,rI,rI,rI,rI,rI,rI,tV⟩
     ·try simp at hc5
      have hnew:=Uh hor (k:=k2) O hlb.2 (by rw[←hmet];rw[hg5] at hc5;exact hc5)
      have hfst:=NQ hor hll (k:=k2) O hnew.1
      have hmx:=hp.many k2 O
      have hmx2:(ix (aF m).sT k2).length≤400000:=hmx
      refine sk (th (sq (rg (mv (mv (mv (lookup (z:=(0:Int)) (q:=ix (aI (aF m)) k2) J J jX T.oL ⟨O,O⟩ T.yF (iO J J J T.rS O O (sO (φ:=bl true) J J J T.iG gB J (y':=true) J (nl (th (sq (rg (nw 19 94 2 pE (ag (rtg (key:=19) 19 J (nl (th (sq (sq (rg (fP J T.bY (lP J J J T.dA (mv (iF J J T.gY O gB (lF J J T.fK (fc (bL 105 J) fun hm105=>(lnF J T.dU (mv (nl (th (bk ?_))))))))))))))))))))))))))))))))
      have hI3_0:0≤(ix (aF m).sT k2).length:=by
       first|omega|simp
      have hI3_1:([]:List (Int × Int))=qH (aI (aF m)) (ix (aF m).sT k2) 0:=by
       rfl
      refine lp (κ:=Nat × Value × (List (Int × Int))) (fun p=> [(2,ptr 2 b2 0),(3,eqv (.slice none 0 0)),(4,int 0),(5,ptr 5 b5 0),(7,sl 1 nE (aI (aF m))),(8,mpv 33 b33),(9,ptr 9 b9 0),(10,osl 41 v41),(16,osl 82 v82),(19,osl 19 p.2.1),(83,sl 1 nE (aI (aF m))),(84,int ((aI (aF m)).length:Int)),(85,int (k2:Int)),(105,sl 2 pE (ix (aF m).sT k2)),(106,int ((ix (aF m).sT k2).length:Int)),(107,int (p.1:Int)),(9999,tab)]) (fun p=> [(1,cell b1 [sl 1 rE_ m.aC,sl 1 gE m.sT]),(2,cell b2 [eqv (.slice none 0 0),eqv (.slice none 0 0)]),(5,cell b5 [sl 1 rE_ (aF m).aC,sl 1 gE (aF m).sT]),(9,cell b9 [fre w0.heap.size (sl 1 rE_ m.aC),osl 90 uo]),(19,own p.2.1 94 2 pE p.2.2),(33,mp b33 kI lI iC mm),(41,own v41 3 1 nE of1),(82,own v82 4 1 blE (met.set ((bJ mm (ix (aI (aF m)) k2)).getD (0:Int)).toNat true)),(90,own uo 87 1 (fN w0.heap.size) aD),(997,dS tab)]) (fun p=>(p.1≤(ix (aF m).sT k2).length)∧(p.2.2=qH (aI (aF m)) (ix (aF m).sT k2) p.1)) (fun p=>(ix (aF m).sT k2).length- p.1) ⟨0,(.slice none 0 0),([]:List (Int × Int))⟩ ⟨hI3_0,hI3_1⟩ ⟨id,id,id,id,id,id,id,id,id,id,id,id,id,id,id,id,id,tV⟩ ⟨rI,rI,rI,rI,rI,rI,rI,rI,rI,rI,tV⟩ ?_
      intro⟨k3,w1,l1⟩ hG3
      obtain⟨hk3,hl1⟩:(k3≤(ix (aF m).sT k2).length)∧(l1=qH (aI (aF m)) (ix (aF m).sT k2) k3):=hG3
      show Ct _ _ _ _ [(2,ptr 2 b2 0),(3,eqv (.slice none 0 0)),(4,int 0),(5,ptr 5 b5 0),(7,sl 1 nE (aI (aF m))),(8,mpv 33 b33),(9,ptr 9 b9 0),(10,osl 41 v41),(16,osl 82 v82),(19,osl 19 w1),(83,sl 1 nE (aI (aF m))),(84,int ((aI (aF m)).length:Int)),(85,int (k2:Int)),(105,sl 2 pE (ix (aF m).sT k2)),(106,int ((ix (aF m).sT k2).length:Int)),(107,int (k3:Int)),(9999,tab)] [(1,cell b1 [sl 1 rE_ m.aC,sl 1 gE m.sT]),(2,cell b2 [eqv (.slice none 0 0),eqv (.slice none 0 0)]),(5,cell b5 [sl 1 rE_ (aF m).aC,sl 1 gE (aF m).sT]),(9,cell b9 [fre w0.heap.size (sl 1 rE_ m.aC),osl 90 uo]),(19,own w1 94 2 pE l1),(33,mp b33 kI lI iC mm),(41,own v41 3 1 nE of1),(82,own v82 4 1 blE (met.set ((bJ mm (ix (aI (aF m)) k2)).getD (0:Int)).toNat true)),(90,own uo 87 1 (fN w0.heap.size) aD),(997,dS tab)] _
      have hl1l:l1.length≤k3:=by rw[hl1];exact WB
      refine sq (rg (bi J J aZ (nl (th (sq ?_)))))
      refine cd J (fun hc6=> ?_) (fun hc6=> ?_)
      ·try simp at hc6
       have hed:=hp.ed k2 O _ (aO (l:=(ix (aF m).sT k2)) O)
       have hed2:0≤(ix (ix (aF m).sT k2) k3).1∧(ix (ix (aF m).sT k2) k3).1<((aF m).aC.length:Int)∧0≤(ix (ix (aF m).sT k2) k3).2∧(ix (ix (aF m).sT k2) k3).2<((aF m).sT.length:Int):=hed
       have hle3:=hcl.lab.bd (ix (ix (aF m).sT k2) k3).2.toNat O
       have hg6:=Hv hK hle3.1 hle3.2
       refine sk (th (sq (bk (sq (rg (iF J J T.dU O gB (lFA J T.dP (Nat.le_of_ble_eq_true J) (al (key:=21) T.z94 (eC (eC eZ)) fun b21=>(sPA (cs':= [int ((ix (ix (aF m).sT k2) k3).1),int ((ix (ix (aF m).sT k2) k3).2)]) J J J T.dP J J (nl (th (dr (nh:=12) [0,0,2,0,0,0,32,112,240,504,1022,2046,4095,8191] T.mixed kR ?_))))))))))))
       refine st_ J (fun _ _ _ gq kq=>mv' (gq.1.trans J) kq) ?_
       refine st_ J (fun _ _ _ gq kq=>fP (gq.1.trans J) T.eE kq) ?_
       refine st_ J (fun _ _ _ gq kq=>lP (gq.1.trans J) J J T.aH kq) ?_
       refine st_ J (fun _ _ _ gq kq=>mv' (gq.1.trans J) kq) ?_
       refine st_ J (fun _ _ _ gq kq=>mv' (gq.1.trans J) kq) ?_
       refine st_ J (fun _ _ _ gq kq=>fP (gq.1.trans J) T.eY kq) ?_
       refine st_ J (fun _ _ _ gq kq=>lP (gq.1.trans J) J J T.aH kq) ?_
       refine st_ J (fun _ _ _ gq kq=>iF (gq.1.trans J) (gq.2.1.trans J) T.aT O gB kq) ?_
       refine st_ J (fun _ _ _ gq kq=>lF (gq.1.trans J) J T.aH kq) ?_
       refine st_ J (fun _ _ _ gq kq=>lookup (z:=(0:Int)) (q:=ix (aI (aF m)) ((ix (ix (aF m).sT k2) k3).2).toNat) (gq.1.trans J) J (fun h=>Cj (gq.2.1.trans J) h) T.oL ⟨O,O⟩ T.yF kq) ?_
       refine st_ J (fun _ _ _ gq kq=>bd (css:= [(0,_),(1,_)]) T.wN (eC (eC eZ)) ⟨J,J,p1 (φ:=int ((ix (ix (aF m).sT k2) k3).1)) (by exact(gq.1.trans J)),⟨J,J,p1 (φ:=int ((bJ mm (ix (aI (aF m)) ((ix (ix (aF m).sT k2) k3).2).toNat)).getD (0:Int))) (by exact(gq.2.1.trans J)),tV⟩⟩ kq) ?_
       refine st_ J (fun _ _ _ gq kq=>bsE (enc:=pE) (xs:= [((ix (ix (aF m).sT k2) k3).1,(bJ mm (ix (aI (aF m)) ((ix (ix (aF m).sT k2) k3).2).toNat)).getD (0:Int))]) (css:= [[int ((ix (ix (aF m).sT k2) k3).1),int ((bJ mm (ix (aI (aF m)) ((ix (ix (aF m).sT k2) k3).2).toNat)).getD (0:Int))]]) T.kW ⟨J,J,pA (cs:= [int ((ix (ix (aF m).sT k2) k3).1),int ((bJ mm (ix (aI (aF m)) ((ix (ix (aF m).sT k2) k3).2).toNat)).getD (0:Int))]) (by exact(gq.1.trans J)),tV⟩ J J J J kq) ?_
       refine pn (ap (key:=19) (zs:= [((ix (ix (aF m).sT k2) k3).1,(bJ mm (ix (aI (aF m)) ((ix (ix (aF m).sT k2) k3).2).toNat)).getD (0:Int))]) cB J J J T.kW (by unfold aN at*;simp;omega) (by unfold aN at*;simp;omega) fun v123=>(ag (nl (eb (th (rg (bi J J (aM i6) (mv (nl ?_)))))))))
       have hN0:(k3+1)≤(ix (aF m).sT k2).length:=by
        first|omega|simp_all
       have hN1:(l1++ [((ix (ix (aF m).sT k2) k3).1,(bJ mm (ix (aI (aF m)) ((ix (ix (aF m).sT k2) k3).2).toNat)).getD (0:Int))])=qH (aI (aF m)) (ix (aF m).sT k2) (k3+1):=by
        rw[Ui O,hl1,hg6]
       exact ln (⟨k3+1,v123,l1++ [((ix (ix (aF m).sT k2) k3).1,(bJ mm (ix (aI (aF m)) ((ix (ix (aF m).sT k2) k3).2).toNat)).getD (0:Int))]⟩:Nat × Value × (List (Int × Int))) ⟨hN0,hN1⟩ dO ⟨id,id,id,id,id,id,id,id,id,id,id,id,id,id,id,id,id,tV⟩ ⟨rI,rI,rI,rI,rI,rI,rI,rI,rI,rI,tV⟩
      ·try simp at hc6
       refine ex (xt_ (xt_ (xb (th (sq (rg (mv ?_)))))))
       have hsl:(bT l1).length=l1.length:=(fJ l1).length_eq
       have hbd:∀p∈l1,bdP p:=fun p hp9=>by
        rw[hl1] at hp9
        obtain⟨e,he,rfl⟩:=List.mem_map.1 hp9
        have h9:=hp.ed k2 O e (List.mem_of_mem_take he)
        have h8:=hcl.lab.bd e.2.toNat O
        unfold bdP;dsimp only;omega
       refine cal (Hi:= [(19,own w1 94 2 pE l1)]) (φs:= [osl 5 w1,eqv (.func (.func 114) #[] #[])]) ⟨dV.trans dV.symm,rfl,tV⟩ (nM 5 19 (sortE.uF w1 l1 aS)) T.Cp ⟨rI,tV⟩ fun _ _=>(nl (th ?_))
       refine drH (nh:=5) [0,1,0,4,12,31,63,127] [(none,[]),(none,[9]),(none,[]),(some 19,[19]),(none,[])] T.mixed kR kR ?_
       refine stv (d:=127) (fun β0=>ptr 9 b9 1) [] J bH (fun β0 _ _ _ _ gq gh kq=>fP (gq.1.trans J) T.bY kq) ?_
       refine stv (d:=128) (fun β0=>osl 90 uo) [9] J bH (fun β0 _ _ _ _ gq gh kq=>lP (gq.1.trans J) (gh.1.trans J) J T.dA kq) ?_
       refine stv (d:=129) (fun β0=>osl 19 w1) [] J bH (fun β0 _ _ _ _ gq gh kq=>mv' (gq.1.trans J) kq) ?_
       refine sty (d:=130) (e:=94) (n:=2) (enc:=pE) (xs:=Lib.compact (bT l1)) 19 [19] (fun v=>osl 19 v) rfl (fun β0 _ _ _ _ gq gh kq=>cal (Hi:= [(19,own w1 94 2 pE (bT l1))]) (φs:= [osl 19 w1]) ⟨(gq.1.trans rfl),tV⟩ (Dy 55 19 (comp2.NH 19 w1 (bT l1) O)) T.WG (Xy (gh.1.trans rfl)) fun N v=>Wg (kq v)) ?_
       refine stv (d:=131) (fun β0=>sl 1 id [[osl 19 (sv (β0 3))]]) [] J (fun β β' hb=>by first|rw[hb 3 J]|(dsimp only;rw[hb 3 J])) (fun β0 _ _ _ _ gq gh kq=>bs (css:= [[osl 19 (sv (β0 3))]]) T.pF ⟨J,J,p1 (φ:=osl 19 (sv (β0 3))) (by exact(gq.1.trans J)),tV⟩ J J J kq) ?_
       refine pnH fun β0=>(fzL pE (fN w0.heap.size) 19 130 131 noM flat J J J (by decide) J (ap (key:=90) (zs:= [Lib.compact (bT l1)]) cB J J J T.pF (by unfold aN at*;simp;omega) (by unfold aN at*;simp;omega) fun v132=>(fP J T.bY (cK J J J J T.dA J (nl (eb (th (rg (bi J J (aM i6) (mv (nl ?_)))))))))))
       have hN0:(k2+1)≤(aI (aF m)).length:=by
        first|omega|simp_all
       have hN1:(met.set ((bJ mm (ix (aI (aF m)) k2)).getD (0:Int)).toNat true)=jU (kY (aF m)) (g (k2+1))∧(aD++ [Lib.compact (bT l1)])=tA (aF m) (aI (aF m)) (g (k2+1)):=by
        rw[hnew.2,hg5,hnew.1,Int.toNat_natCast]
        exact⟨by rw[hmet];exact QA,by rw[NW,hout,hfst,hl1,WC (by show(ix (aF m).sT k2).length≤k3;omega)]⟩
       exact ln (⟨k2+1,met.set ((bJ mm (ix (aI (aF m)) k2)).getD (0:Int)).toNat true,v132,aD++ [Lib.compact (bT l1)]⟩:Nat × (List Bool) × Value × (List (List (Int × Int)))) ⟨hN0,hN1⟩ dO ⟨id,id,id,id,id,id,id,id,id,id,id,id,id,tV⟩ ⟨rI,rI,rI,rI,rI,rI,rI,rI,rI,tV⟩
    ·try simp at hc4
     refine ex (xt_ (xt_ (xb (th (sq (rg (Ke gE 9 90 1 noM (fun _=>J) J J J (by decide) (lPA J J T.aU J (mv (sPA (cs':= [fre w0.heap.size (sl 1 rE_ m.aC),fre w0.heap.size (sl 1 gE aD)]) J J J T.aU J J (ag (ag (nl (th (rt ?_)))))))))))))))
     refine fzA 41 3 rfl rfl ?_
     have hr0:aD=(fD m).sT:=by
      rw[hout,show k2=(aF m).sT.length by omega,hor.e];exact QC _ _ _
     exact rE of1 [.cell 2 25,.tmp 3,.tmp 4] J [agg [fre w0.heap.size (sl 1 rE_ m.aC),fre w0.heap.size (sl 1 gE aD)],sl 1 nE of1,int 0] ⟨.agg J J T.aU J J,.tmp J,.tmp J,tV⟩ (cA1 (fun x0=>rV [agg [fre w0.heap.size (sl 1 rE_ m.aC),fre w0.heap.size (sl 1 gE x0)],sl 1 nE of1,int 0]) hr0) trivial eX
end mkq
end
section
namespace MakeM2
open ref01 ref03 ref04 ref06 Part Rungs LeftM TrimM RoundM MergeM BisM BisM3 BisM4 BisM5 BisM6 Keys WalkM WitM JudgM JudgM2 LevM divr divs divd dive divf divv judg sysw satj ChsM BisS TrimI ValidM WitSat WitVal QuoM FailM DivM RefM GenW CompM CrossM FitM TogM KeepK GuardM MakeM LsysM LsysM2
theorem EL {m:aA} {s:SS} (hs:oK s):eR m (tR s).1↔eR m s:=by
 unfold eR
 rw[nK (nN hs) (qF m),nK hs (qF m)]
 exact⟨fun h=>vB h (pI hs),fun h=>vB h (pI hs).symm⟩
def WH (s:SS) (y:Nat):Int:=ix (acc s y) 0
theorem NX {s:SS} (h:∀x,x<s.sT.length→acc s x≠[]):∀y,y<s.sT.length→WH s y∈acc s y:=fun y hy=>aO (List.length_pos_iff.2 (h y hy))
theorem wZ {s:SS} (hs:oK s):ix (hOl s) 0=false↔∃x:aA,eR x s:=by
 constructor
 ·intro e
  exact⟨_,(EL hs).1 (JC (nN hs) (NX (OrdM.EB hs e)))⟩
 ·rintro⟨x,R,hR,h0⟩
  exact zJ hs (qF x) hR h0
section
variable {s:SS} (hs:oK s) {ch:Nat→Int} (hc:∀y,y<s.sT.length→ch y∈acc s y)
include hs hc
theorem JN (n:Nat) (u:Int) (nx:List Int):(mkE n u nx).length≤n:=by
 unfold mkE
 rw[List.length_map]
 unfold aL
 first
  |(refine Nat.le_trans (List.length_filterMap_le _ _) ?_;simp)
  |(rw[List.length_map];exact Nat.le_trans (List.length_filter_le _ _) (by simp))
  |(exact Nat.le_trans (List.length_filter_le _ _) (by simp))
theorem Hy {k:Nat} {nx:List Int} (h:pX (aF (mkM ch s)) k nx) {c:Nat} (hk:c<k):(edg (jK (aF (mkM ch s)) k nx) c).length≤8:=by
 have hm:=vJ hs hc
 have e1:(mkM ch s).sT.length=s.sT.length:=by simp[mkM]
 rw[vN hk]
 obtain⟨r1,_⟩:=yQ h.lab hk
 refine Nat.le_trans (Nx _ _) ?_
 have r2:=r1
 rw[lG] at r2
 rw[vL r2]
 unfold uK
 rw[(fJ _).length_eq,List.length_map]
 have hb:=(lD hm).bd _ (aO r2)
 rw[vI O]
 exact Nat.le_trans (JN hs hc _ _ _) hs.n8
theorem Li (hf:s.sT.length≤500) {k:Nat} {nx:List Int} (h:pX (aF (mkM ch s)) k nx):bM (jK (aF (mkM ch s)) k nx)=true:=by
 have hm:=vJ hs hc
 have hp:=qJ hm
 have ho:=Ny hp h
 have e1:(mkM ch s).sT.length=s.sT.length:=by simp[mkM]
 have e2:=rJ hm
 have e3:=h.few
 rw[lG] at e3
 have hl:=rL (aF (mkM ch s)) k nx
 have f0:=ho.few0
 have hmem:∀l∈(jK (aF (mkM ch s)) k nx).sT,∃c,c<k∧l=edg (jK (aF (mkM ch s)) k nx) c:=fun l hl2=>by
  obtain⟨c,hc2,rfl⟩:=List.getElem_of_mem hl2
  exact⟨c,O,(aG hc2).symm⟩
 have hac:(jK (aF (mkM ch s)) k nx).aC=s.aC:=rfl
 unfold bM
 rw[hac,hs.acts,decide_eq_true (show 1≤(jK (aF (mkM ch s)) k nx).sT.length by omega),decide_eq_true (show(jK (aF (mkM ch s)) k nx).sT.length≤5000 by omega),decide_eq_true (show bP (jK (aF (mkM ch s)) k nx).sT≤400000 from by
  refine Nat.le_trans (Gs (K:=8) fun l hl2=> ?_) O
  obtain⟨c,hc2,rfl⟩:=hmem l hl2
  exact Hy hs hc h hc2)]
 simp only [Bool.true_and,Bool.and_true]
 refine List.all_eq_true.2 fun l hl2=> ?_
 obtain⟨c,hc2,rfl⟩:=hmem l hl2
 refine wO (fun j hj=> ?_) (fun j hj=> ?_)
 ·have:=ho.ed c O _ (aO hj)
  exact gU.2 this
 ·have hr:(edg (jK (aF (mkM ch s)) k nx) c).Pairwise uJ:=by rw[vN hc2];exact TR _ _
  rw[aG (show j<(edg (jK (aF (mkM ch s)) k nx) c).length by omega),aG hj]
  have g1:=(List.pairwise_iff_getElem.1 hr) j (j+1) O hj O
  rw[pH]
  exact g1
end
theorem NY {m:aA} {t:SS} (hq:(aY m t).2=true):(gL m t).length≤500∧(aY m t).1=(tR (gD m t)).1:=by
 unfold aY at hq ⊢
 split at hq
 ·next g=>rw[if_pos g];exact⟨g,rfl⟩
 ·cases hq
theorem oM {m:aA} {t:SS} (hm:bC m) (ht:oK t) (hq:(aY m t).2=true):oK (aY m t).1∧(aY m t).1.sT.length≤500∧(aY m t).1.aC=t.aC:=by
 obtain⟨g,e⟩:=NY hq
 have hok:=DI ht (CE hm ht) O
 rw[e]
 have:=AK hok
 have e2:(gD m t).sT.length=(gL m t).length:=by simp[gD]
 exact⟨nN hok,O,by rw[qI];rfl⟩
theorem DR {m x:aA} {t:SS} (hm:bC m) (hx:bC x) (ht:oK t) (hxt:x.aC=t.aC) (hq:(aY m t).2=true):eR x (aY m t).1↔oG m x t:=by
 obtain⟨g,e⟩:=NY hq
 rw[e,EL (DI ht (CE hm ht) O)]
 exact Nv hm hx ht hxt (CE hm ht)
theorem QE {x:aA} {s:SS} (hs:oK s) {u:Int} (h:ix (hOl (aW u s)) 0=true):¬(eR x s∧oI x u):=fun g=>by
 have:=(wZ (iM hs u)).2 ⟨x,yN.2 g⟩
 rw[h] at this;cases this
end MakeM2
end
section
namespace MakeM3
open ref01 ref03 ref04 ref06 Part Rungs LeftM TrimM RoundM MergeM BisM BisM3 BisM4 BisM5 BisM6 Keys WalkM WitM JudgM JudgM2 LevM divr divs divd dive divf divv judg sysw satj ChsM BisS TrimI ValidM WitSat WitVal QuoM FailM DivM RefM GenW CompM CrossM FitM TogM KeepK GuardM MakeM LsysM LsysM2 MakeM2 LstM
theorem IC (n:Nat) (t:Int):(aL n t).Pairwise (· < ·):=by
 unfold aL
 rw[List.pairwise_map]
 exact(List.pairwise_lt_range.filter _).imp fun {a b} h=>by omega
theorem QG (n:Nat) (u:Int) (nx:List Int):(mkE n u nx).Pairwise uJ:=by
 unfold mkE
 rw[List.pairwise_map]
 exact(IC n u).imp fun {a b} h=> .inl h
section
variable {s:SS} (hs:oK s) {ch:Nat→Int} (hc:∀y,y<s.sT.length→ch y∈acc s y)
include hs hc
theorem NZ (hf:s.sT.length≤500):bM (mkM ch s)=true:=by
 have hm:=vJ hs hc
 have e1:(mkM ch s).sT.length=s.sT.length:=by simp[mkM]
 have f0:=hs.few0
 have hmem:∀l∈(mkM ch s).sT,∃c,c<s.sT.length∧l=edg (mkM ch s) c:=fun l hl2=>by
  obtain⟨c,hc2,rfl⟩:=List.getElem_of_mem hl2
  exact⟨c,by rw[←e1];exact hc2,(aG hc2).symm⟩
 have hac:(mkM ch s).aC=s.aC:=rfl
 unfold bM
 rw[hac,hs.acts,decide_eq_true (show 1≤(mkM ch s).sT.length by omega),decide_eq_true (show(mkM ch s).sT.length≤5000 by omega),decide_eq_true (show bP (mkM ch s).sT≤400000 from by
  refine Nat.le_trans (Gs (K:=8) fun l hl2=> ?_) O
  obtain⟨c,hc2,rfl⟩:=hmem l hl2
  rw[vI hc2];exact Nat.le_trans (JN hs hc _ _ _) hs.n8)]
 simp only [Bool.true_and,Bool.and_true]
 refine List.all_eq_true.2 fun l hl2=> ?_
 obtain⟨c,hc2,rfl⟩:=hmem l hl2
 refine wO (fun j hj=> ?_) (fun j hj=> ?_)
 ·have:=hm.ed c O _ (aO hj)
  rw[e1] at this ⊢
  exact gU.2 this
 ·have hr:(edg (mkM ch s) c).Pairwise uJ:=by rw[vI hc2];exact QG _ _ _
  rw[aG (show j<(edg (mkM ch s) c).length by omega),aG hj]
  have g1:=(List.pairwise_iff_getElem.1 hr) j (j+1) O hj O
  rw[pH]
  exact g1
end
def lgC (s:SS) (y:Nat):Int:=gJ (acc s y)
theorem Oa {s:SS} (h:∀x,x<s.sT.length→acc s x≠[]):∀y,y<s.sT.length→lgC s y∈acc s y:=fun y hy=>TU (List.length_pos_iff.2 (h y hy))
def mkO (ch:Nat→Int) (s:SS) (k:Nat):List (List PP):=(List.range k).map fun y=>mkE s.aC.length (ch y) (nxt s y)
theorem QH (ch:Nat→Int) (s:SS) (k:Nat):mkO ch s (k+1)=mkO ch s k++ [mkE s.aC.length (ch k) (nxt s k)]:=by
 unfold mkO
 rw[List.range_succ,List.map_append];rfl
theorem Uj (ch:Nat→Int) (s:SS) (k:Nat):(mkO ch s k).length=k:=by simp[mkO]
theorem Uk (ch:Nat→Int) (s:SS):mkO ch s s.sT.length=(mkM ch s).sT:=rfl
theorem Ul {s:SS} (hs:oK s) {y:Nat} (hy:y<s.sT.length) {u:Int} (hu:u∈acc s y):aL 63 u=aL s.aC.length u:=by
 have hl:(nxt s y).length=s.aC.length:=(hs.st y hy).len
 have hn:=hs.n8
 have hl2:(ix s.sT y).next.length=s.aC.length:=hl
 rw[←hl2]
 refine BZ O fun a ha=> ?_
 rw[hl2]
 exact(oD hs hy ((cO _ _).2 ⟨u,hu,ha⟩)).1
noncomputable def iN (ch:SS→Nat→Int) (s:SS):aA:=fD (mkM (ch s) s)
noncomputable def cT (s:SS) (ok:Bool) (u:Int):aA × Int:=
 if ok=true then(if ix (hOl (tR (aW u s)).1) 0=true then(⟨[],[]⟩,3) else(iN lgC (tR (aW u s)).1,0)) else(⟨[],[]⟩,2)
theorem yS {s:SS} (hs:oK s) (hf:s.sT.length≤500) (u:Int):ix (hOl (tR (aW u s)).1) 0=ix (hOl (aW u s)) 0:=KP (yM hs hf u) (iM hs u)
theorem CO {s:SS} (hs:oK s) (hf:s.sT.length≤500) {u:Int} (h:ix (hOl (tR (aW u s)).1) 0=false):∀x,x<(tR (aW u s)).1.sT.length→acc (tR (aW u s)).1 x≠[]:=
 OrdM.EB (iM hs u) (by rw[←yS hs hf u];exact h)
theorem EM {s:SS} (hs:oK s) (hf:s.sT.length≤500) (u:Int):oK (tR (aW u s)).1∧(tR (aW u s)).1.sT.length≤500:=⟨(yM hs hf u).ok,(yM hs hf u).few⟩
theorem WJ {cl:List Int} {n K:Nat} {f:Nat→Nat} (h:oJ cl n K f) (hn:0<n):ix cl 0=0:=by
 have z:=h.z
 rcases h.st 0 hn with g|g<;>omega
section
variable {s:SS} (hs:oK s) {ch:SS→Nat→Int} (hc:∀y,y<s.sT.length→ch s y∈acc s y)
include hs hc
theorem Ob (hf:s.sT.length≤500):bM (iN ch s)=true:=by
 obtain⟨g,hk,_⟩:=Fj (qJ (vJ hs hc))
 exact Li hs hc hf hk
theorem Um:eR (iN ch s) s:=by
 have hm:=vJ hs hc
 obtain⟨g,hk,ho⟩:=Fj (qJ hm)
 have f:=(qJ hm).few0
 exact Nz hm hk (WJ ho O) (JC hs hc)
theorem QI:(iN ch s).aC=s.aC:=rfl
end
end MakeM3
end
section
namespace GuaW
open ref01 ref03 ref04 ref06 Part Rungs LeftM TrimM RoundM MergeM BisM BisM3 BisM4 BisM5 BisM6 Keys WalkM WitM JudgM JudgM2 LevM divr divs divd dive divf divv judg sysw satj ChsM BisS TrimI QuoM FailM DivM RefM GenW CompM CrossM FitM TogM KeepK GuardM MakeM LsysM LsysM2
def gT (m:aA) (t:SS) (l:LP) (u:Int):Bool:=l.all fun p=>decide (bS u (bR m p.1.toNat)∈acc t p.2.toNat)
def gAH (m:aA) (t:SS) (l:LP) (k:Nat):List Int:=((cH t.aC.length).take k).filter (gT m t l)
theorem Un {m:aA} {t:SS} {l:LP} {k:Nat} (hk:k<(cH t.aC.length).length) (h:gT m t l (ix (cH t.aC.length) k)=true):gAH m t l (k+1)=gAH m t l k++ [ix (cH t.aC.length) k]:=by
 unfold gAH
 rw[bN hk,List.filter_append]
 simp[h]
theorem WL {m:aA} {t:SS} {l:LP} {k:Nat} (hk:k<(cH t.aC.length).length) (h:gT m t l (ix (cH t.aC.length) k)=false):gAH m t l (k+1)=gAH m t l k:=by
 unfold gAH
 rw[bN hk,List.filter_append]
 simp[h]
theorem Uo {m:aA} {t:SS} {l:LP} {k:Nat} (hk:(cH t.aC.length).length≤k):gAH m t l k=gA m t l:=by
 unfold gAH
 rw[List.take_of_length_le hk];rfl
theorem Up {m:aA} {t:SS} {l:LP} {k:Nat}:(gAH m t l k).length≤k:=by
 unfold gAH
 refine Nat.le_trans (List.length_filter_le _ _) ?_
 rw[List.length_take];omega
theorem JO (m:aA) (t:SS) (l:LP) (u:Int):(!l.any fun p=> !decide (bS u (bR m p.1.toNat)∈acc t p.2.toNat))=gT m t l u:=by
 unfold gT
 rw[List.all_eq_not_any_not]
def jV (t:SS) (a:Nat) (p:PP) (es:List PP):LP:=(es.filter fun e=>decide (e.1=(a:Int))).map fun e=>((e.2,ix (nxt t p.2.toNat) a):PP)
def lJ (m:aA) (t:SS) (a:Nat) (l:LP):LP:=l.flatMap fun p=>jV t a p (edg m p.1.toNat)
theorem QK {t:SS} {a:Nat} {p:PP} {es:List PP} {k:Nat} (hk:k<es.length) (h:(ix es k).1=(a:Int)):jV t a p (es.take (k+1))=jV t a p (es.take k)++ [((ix es k).2,ix (nxt t p.2.toNat) a)]:=by
 unfold jV
 rw[bN hk,List.filter_append,List.map_append]
 simp[h]
theorem Uq {t:SS} {a:Nat} {p:PP} {es:List PP} {k:Nat} (hk:k<es.length) (h:¬(ix es k).1=(a:Int)):jV t a p (es.take (k+1))=jV t a p (es.take k):=by
 unfold jV
 rw[bN hk,List.filter_append]
 simp[h]
theorem QL {t:SS} {a:Nat} {p:PP} {es:List PP} {k:Nat}:(jV t a p (es.take k)).length≤k:=by
 unfold jV
 rw[List.length_map]
 refine Nat.le_trans (List.length_filter_le _ _) ?_
 rw[List.length_take];omega
theorem Oc {m:aA} {t:SS} {a:Nat} {l:LP} {k:Nat} (hk:k<l.length):lJ m t a (l.take (k+1))=lJ m t a (l.take k)++jV t a (ix l k) (edg m (ix l k).1.toNat):=by
 unfold lJ
 rw[bN hk,List.flatMap_append];simp
theorem Hz {m:aA} (hm:bC m) {t:SS} {a:Nat} {l:LP} (hl:∀p∈l,p.1.toNat<m.sT.length):(lJ m t a l).length≤l.length*400000:=by
 induction l with
 |nil=>simp[lJ]
 |cons p l ih=>
  have h1:=ih fun q hq=>hl q (List.mem_cons_of_mem _ hq)
  have h2:(jV t a p (edg m p.1.toNat)).length≤(edg m p.1.toNat).length:=by
   unfold jV;rw[List.length_map];exact List.length_filter_le _ _
  have h3:=hm.many p.1.toNat (hl p (by simp))
  have e:lJ m t a (p::l)=jV t a p (edg m p.1.toNat)++lJ m t a l:=rfl
  rw[e,List.length_append,List.length_cons,Nat.succ_mul]
  omega
theorem Bh {m:aA} {t:SS} {a:Nat} {l:LP} {q:PP}:q∈lJ m t a l↔∃p∈l,∃e∈edg m p.1.toNat,e.1=(a:Int)∧e.2=q.1∧ix (nxt t p.2.toNat) a=q.2:=by
 unfold lJ jV
 rw[List.mem_flatMap]
 constructor
 ·rintro⟨p,hp,h⟩
  obtain⟨e,he,rfl⟩:=List.mem_map.1 h
  obtain⟨h1,h2⟩:=List.mem_filter.1 he
  exact⟨p,hp,e,h1,of_decide_eq_true h2,rfl,rfl⟩
 ·rintro⟨p,hp,e,he,h1,h2,h3⟩
  exact⟨p,hp,List.mem_map.2 ⟨e,List.mem_filter.2 ⟨he,decide_eq_true h1⟩,Prod.ext h2 h3⟩⟩
theorem Yo {m:aA} {t:SS} (ht:oK t) {l:LP} (hl:gOk m t l) {a:Nat} (hh:has (aV (gA m t l)) (a:Int)=true) {p:PP} (hp:p∈l) {e:PP} (he:e∈edg m p.1.toNat) (h1:e.1=(a:Int)):a<t.aC.length∧0≤ix (nxt t p.2.toNat) a∧ix (nxt t p.2.toNat) a<(t.sT.length:Int):=by
 obtain⟨u,hu,hua⟩:=(cO _ _).1 hh
 have hin:=(yO.1 hu).2 p hp
 have hb:=nP hl hp
 refine oD ht (x:=p.2.toNat) O ((cO _ _).2 ⟨_,hin,?_⟩)
 rw[QuoM.oV,hua,Bool.true_and]
 exact gQ.2 ⟨e,he,O⟩
theorem WM {m:aA} {t:SS} (hm:bC m) (ht:oK t) {l:LP} (hl:gOk m t l) {a:Nat} (hh:has (aV (gA m t l)) (a:Int)=true) {q:PP} (hq:q∈lJ m t a l):q∈qU m.sT.length t.sT.length:=by
 obtain⟨p,hp,e,he,h1,h2,h3⟩:=Bh.1 hq
 have hb:=nP hl hp
 have hg:=Yo ht hl hh hp he h1
 have:=hm.ed p.1.toNat O e he
 rw[h3] at hg
 rw[h2] at this
 exact pM.2 ⟨this.2.2.1,this.2.2.2,hg.2.1,hg.2.2⟩
theorem QM {m:aA} {t:SS} (hm:bC m) (ht:oK t) {l:LP} (hl:gOk m t l) {a:Nat} (hh:has (aV (gA m t l)) (a:Int)=true):Lib.compact (bT (lJ m t a l))=gN m t l a:=by
 refine EC Nr (CF (sB _)) ((IB _ _).filter _) fun q=> ?_
 rw[ED,(fJ _).mem_iff]
 show _↔q∈gN m t l a
 rw[GR,Bh]
 exact⟨fun h=>⟨WM hm ht hl hh (Bh.2 h),h⟩,fun h=>h.2⟩
theorem XB {m:aA} {t:SS} (hm:bC m) (ht:oK t) {l:LP} (hl:gOk m t l) {a:Nat} (hh:has (aV (gA m t l)) (a:Int)=true) {q:PP} (hq:q∈lJ m t a l):bdP q:=by
 have:=pM.1 (WM hm ht hl hh hq)
 have f1:=hm.few1
 have f2:=ht.few1
 unfold bdP
 omega
theorem DT {m:aA} {t:SS} (hm:bC m) (ht:oK t) {l:LP} (hl:gOk m t l):l.length≤100000000:=by
 have h1:=hl.length_le
 rw[Ba] at h1
 have:=Nat.mul_le_mul hm.few1 ht.few1
 omega
theorem JP {m:aA} {t:SS} (hm:bC m) (ht:oK t) {l:LP} (hl:gOk m t l):∀p∈l,0≤p.1∧p.1<10000∧0≤p.2∧p.2<10000:=fun p hp=>by
 have:=nP hl hp
 have f1:=hm.few1
 have f2:=ht.few1
 omega
theorem EN {n:Int} (h0:0≤n) (h1:n<10000):(Lib.itoa n).length≤21:=Lib.itoa_length_le n O O
theorem HB:∀{l:LP},(∀p∈l,0≤p.1∧p.1<10000∧0≤p.2∧p.2<10000)→(pk_ l).length≤l.length*44
 | [],_=>by simp[pk_]
 |p::l,h=>by
  have ih:=HB (l:=l) fun q hq=>h q (List.mem_cons_of_mem _ hq)
  have hp:=h p (by simp)
  have h1:=EN hp.1 hp.2.1
  have h2:=EN hp.2.2.1 hp.2.2.2
  show(Lib.itoa p.1++32::(Lib.itoa p.2++32::pk_ l)).length≤(l.length+1)*44
  simp only [List.length_append,List.length_cons]
  omega
theorem Ur (l:LP) (p:PP):pk_ (l++ [p])=pk_ l++(Lib.itoa p.1++32::(Lib.itoa p.2++ [32])):=by
 induction l with
 |nil=>simp[pk_]
 |cons q l ih=>
  show Lib.itoa q.1++32::(Lib.itoa q.2++32::pk_ (l++ [p]))=(Lib.itoa q.1++32::(Lib.itoa q.2++32::pk_ l))++_
  rw[ih];simp
theorem HC {l:LP} (h:∀p∈l,0≤p.1∧p.1<10000∧0≤p.2∧p.2<10000) (hl:l.length≤100000000):(pkB l).size≤aN:=by
 have h1:=HB h
 show(pk_ l).toArray.size≤_
 unfold aN
 rw[List.size_toArray]
 omega
end GuaW
end
section
open Go.Shelf Go.RowKit Itoa Rungs GuardM GuaW MergeM RoundM BisM BisM4 BisM5 WalkM LevM QuoM
namespace pkey
def IE:Go.Shelf.Ren:=⟨fun|176=>133|249=>160|288=>194|283=>205|284=>206|285=>207|286=>208|129=>174|317=>220|318=>221|319=>222|320=>223|337=>227|338=>228|n=>n,fun|37=>181|2=>2|3=>3|53=>219|4=>4|9=>9|171=>251|0=>0|173=>253|212=>267|51=>216|5=>5|20=>20|213=>268|46=>183|232=>272|233=>273|n=>n,fun|17=>0|18=>1|19=>2|n=>n⟩
theorem Us:LaysM.n176 Tryz.prog IE where
 mixed:=by kernel_rfl
 f129:=Tryz.func174.trans (congrArg some kR)
 f176:=Tryz.func133.trans (congrArg some kR)
 f249:=Tryz.func160.trans (congrArg some kR)
 f283:=Tryz.func205.trans (congrArg some kR)
 f284:=Tryz.func206.trans (congrArg some kR)
 f285:=Tryz.func207.trans (congrArg some kR)
 f286:=Tryz.func208.trans (congrArg some kR)
 f288:=Tryz.func194.trans (congrArg some kR)
 f317:=Tryz.func220.trans (congrArg some kR)
 f318:=Tryz.func221.trans (congrArg some kR)
 f319:=Tryz.func222.trans (congrArg some kR)
 f320:=Tryz.func223.trans (congrArg some kR)
 f337:=Tryz.func227.trans (congrArg some kR)
 f338:=Tryz.func228.trans (congrArg some kR)
 t0:=Tryz.underlying0
 a0:=Tryz.isAgg0
 z0:=Tryz.sizeOf0
 v0:=Tryz.zeroValue0
 t2:=Tryz.underlying2
 a2:=Tryz.isAgg2
 z2:=Tryz.sizeOf2
 v2:=Tryz.zeroValue2
 t3:=Tryz.underlying3
 a3:=Tryz.isAgg3
 z3:=Tryz.sizeOf3
 v3:=Tryz.zeroValue3
 t4:=Tryz.underlying4
 a4:=Tryz.isAgg4
 z4:=Tryz.sizeOf4
 v4:=Tryz.zeroValue4
 t5:=Tryz.underlying5
 a5:=Tryz.isAgg5
 z5:=Tryz.sizeOf5
 v5:=Tryz.zeroValue5
 t9:=Tryz.underlying9
 a9:=Tryz.isAgg9
 z9:=Tryz.sizeOf9
 v9:=Tryz.zeroValue9
 t20:=Tryz.underlying20
 a20:=Tryz.isAgg20
 z20:=Tryz.sizeOf20
 v20:=Tryz.zeroValue20
 t37:=Tryz.underlying181
 a37:=Tryz.isAgg181
 z37:=Tryz.sizeOf181
 v37:=Tryz.zeroValue181
 t46:=Tryz.underlying183
 a46:=Tryz.isAgg183
 z46:=Tryz.sizeOf183
 v46:=Tryz.zeroValue183
 t51:=Tryz.underlying216
 a51:=Tryz.isAgg216
 z51:=Tryz.sizeOf216
 v51:=Tryz.zeroValue216
 t53:=Tryz.underlying219
 a53:=Tryz.isAgg219
 z53:=Tryz.sizeOf219
 v53:=Tryz.zeroValue219
 t171:=Tryz.underlying251
 a171:=Tryz.isAgg251
 z171:=Tryz.sizeOf251
 v171:=Tryz.zeroValue251
 t173:=Tryz.underlying253
 a173:=Tryz.isAgg253
 z173:=Tryz.sizeOf253
 v173:=Tryz.zeroValue253
 t212:=Tryz.underlying267
 a212:=Tryz.isAgg267
 z212:=Tryz.sizeOf267
 v212:=Tryz.zeroValue267
 t213:=Tryz.underlying268
 a213:=Tryz.isAgg268
 z213:=Tryz.sizeOf268
 t232:=Tryz.underlying272
 a232:=Tryz.isAgg272
 z232:=Tryz.sizeOf272
 v232:=Tryz.zeroValue272
 t233:=Tryz.underlying273
 a233:=Tryz.isAgg273
 z233:=Tryz.sizeOf273
 v233:=Tryz.zeroValue273
 g17:=by kernel_rfl
 g18:=by kernel_rfl
 g19:=by kernel_rfl
 i0:=by kernel_rfl
 i2:=by kernel_rfl
 i3:=by kernel_rfl
 i4:=by kernel_rfl
 i5:=by kernel_rfl
 i9:=by kernel_rfl
 i20:=by kernel_rfl
 i37:=by kernel_rfl
 i46:=by kernel_rfl
 i51:=by kernel_rfl
 i53:=by kernel_rfl
 i171:=by kernel_rfl
 i173:=by kernel_rfl
 i212:=by kernel_rfl
 i232:=by kernel_rfl
 i233:=by kernel_rfl
 m17:=by kernel_rfl
 m18:=by kernel_rfl
 m19:=by kernel_rfl
theorem JQ (B n:Nat) (i:Int) (h0: -9223372036854775808≤i) (h1:i≤9223372036854775807) (sv:Value) (xs:List Value) (w:World) (hown:w.ownsRow B 5 1 sv n xs) (hBw:B≤w.heap.size) (hlim:n+21≤140737488355328) (htab:Lib.TabBelow Tryz.prog B w "internal/strconv.uint64pow10" .u64 Lib.pow10Tab):
 Calls Tryz.prog 133 #[sv,.int .i64 i,.int .i64 10] w fun e w'=> ∃v',e= .returned v'∧w'.ownsRow B 5 1 v' (n+(Lib.itoa i).length) (xs++Lib.byteCells (Lib.itoa i))∧Below B w w'∧Lib.OthersKept 5 none w w':=Any.strconv_AppendInt_10 Us B n i h0 h1 sv xs w hown hBw hlim htab
theorem XC:(Tryz.prog.info? 5).map (fun i=>(i.zero,i.size,i.bytes))=some (some (.int .u8 0),1,1):=by kernel_rfl
set_option maxHeartbeats 6400000 in
theorem ET (l:List (Int × Int)) (hb:∀p∈l,0≤p.1∧p.1<10000∧0≤p.2∧p.2<10000) (hl:l.length≤100000000) (ab off cap:Nat) (w:World)
 (hc:∀k,k<l.length→w.cell? ⟨ab,off+k*2,none⟩=some (.int .i64 (ix l k).1)∧w.cell? ⟨ab,off+k*2+1,none⟩=some (.int .i64 (ix l k).2)) (hbk:ab<w.heap.size)
 (htab:Lib.TabIs Tryz.prog w "internal/strconv.uint64pow10" .u64 Lib.pow10Tab):
 Calls Tryz.prog 93 #[.slice (some ⟨ab,off,none⟩) l.length cap] w fun e w'=>e= .returned (.string (pkB l))∧Below w.heap.size w w':=by
 obtain⟨i0,hi,hz0,hz1,hz2⟩:=info_parts XC
 have hT:=Lib.tabBelow_of_tabIs htab
 have mixed:Tryz.prog.follows .mixedOrders=true:=by kernel_rfl
 go_enter Tryz.func93,Tryz.ntmps93
 go_wp2
 go_loopw [3,8] (fun v i wr=> ∃k:Nat,k≤l.length∧i= .int .i64 k∧wr.ownsRow w.heap.size 5 1 v (pk_ (l.take k)).length (Lib.byteCells (pk_ (l.take k)))∧Below w.heap.size w wr)
  (fun _ i _=>l.length- (intOf i).toNat)
 case atStart=>exact⟨0,Nat.zero_le _,rfl,World.ownsRow_nil _ _ _ _,Below.refl _ _⟩
 case round=>
  obtain⟨k,hk,rfl,hown,hnx⟩:=hrel
  have hcx:k<l.length→wr.cell? ⟨ab,off+k*2,none⟩=some (.int .i64 (ix l k).1):=fun h=>(hnx.cell (by exact hbk)).trans (hc k h).1
  have hcy:k<l.length→wr.cell? ⟨ab,off+k*2+1,none⟩=some (.int .i64 (ix l k).2):=fun h=>(hnx.cell (by exact hbk)).trans (hc k h).2
  have hbx:k<l.length→0≤(ix l k).1∧(ix l k).1<10000∧0≤(ix l k).2∧(ix l k).2<10000:=fun h=>hb _ (aO h)
  have hpl:(pk_ (l.take k)).length≤l.length*44:=by
   have h1:=HB (l:=l.take k) fun p hp=>hb p (List.mem_of_mem_take hp)
   rw[List.length_take] at h1
   have h2:min k l.length*44≤l.length*44:=Nat.mul_le_mul_right _ (Nat.min_le_right _ _)
   omega
  have hsz:=hnx.size
  go_wp2_with (first
   |(go_at_call 133;refine(JQ w.heap.size _ (ix l k).1 (by have:=hbx aS;omega) (by have:=hbx aS;omega) _ _ _ (hown.alloc _) (by simp;omega) O (hT.on (hnx.alloc hsz _))).mono ?_;rintro e w1 ⟨v1,rfl,hown1,hnx1,hok1⟩;refine Hid.out ?_))
  ·refine Lib.hid ?_
   have hkl:k<l.length:=by assumption
   have hx:=hbx hkl
   have la:=Lib.itoa_length_le (ix l k).1 O O
   have lb:=Lib.itoa_length_le (ix l k).2 O O
   have hsz1:=hnx1.size
   have hxa:w.heap.size≤w1.heap.size:=Nat.le_trans (by simp;omega) hsz1
   go_wp2_with (at_builtin;refine wpList_append_own _ rfl _ _ 181 rfl w.heap.size 5 i0 (.int .u8 0) 1 1 Tryz.underlying181 hi hz0 hz1 hz2 rfl (by decide) _ _ _ rfl (hown1.alloc _) ⟨w1.heap.size,0,none⟩ 1 1 [Value.int .u8 32] rfl rfl (by intro j u' hj;match j,hj with|0,hj=>simp at hj;subst hj;simp[Addr.add]) (by intro u' hu';simp at hu';subst hu';rfl) (by unfold maxLen;omega) O (by simp;omega) ?_)
   intro v2 w2 hown2 hgrow2 _
   have hnx2:Below w.heap.size w w2:=(((hnx.alloc hsz _).trans hnx1).alloc hxa _).grown hgrow2 (by simp;omega) (fun q hq=>(hown1.lt q hq).1)
   have hok2:=(hok1.alloc _).grown hgrow2 (Lib.ownsRow_kind (hown1.alloc _))
   have hbox:=hok2 wr.heap.size _ (heap_alloc_new wr _) (by simp) (by intro c fz h;cases h)
   have hcell:w2.cell? ⟨wr.heap.size,1,none⟩=some (.int .i64 (ix l k).2):=by simp[World.cell?,hbox]
   clear hbox
   have hsz2:=hnx2.size
   go_wp2_with (first
    |(go_at_call 133;refine(JQ w.heap.size _ (ix l k).2 O O _ _ _ hown2 O O (hT.on hnx2)).mono ?_;rintro e w3 ⟨v3,rfl,hown3,hnx3,hok3⟩;refine Hid.out ?_))
   refine Lib.hid ?_
   have hsz3:=hnx3.size
   go_wp2_with (at_builtin;refine wpList_append_own _ rfl _ _ 181 rfl w.heap.size 5 i0 (.int .u8 0) 1 1 Tryz.underlying181 hi hz0 hz1 hz2 rfl (by decide) _ _ _ rfl (hown3.alloc _) ⟨w3.heap.size,0,none⟩ 1 1 [Value.int .u8 32] rfl rfl (by intro j u' hj;match j,hj with|0,hj=>simp at hj;subst hj;simp[Addr.add]) (by intro u' hu';simp at hu';subst hu';rfl) (by unfold maxLen;omega) O (by simp;omega) ?_)
   intro v4 w4 hown4 hgrow4 _
   have hnx4:Below w.heap.size w w4:=((hnx2.trans hnx3).alloc O _).grown hgrow4 (by simp;omega) (fun q hq=>(hown3.lt q hq).1)
   have he:pk_ (l.take (k+1))=pk_ (l.take k)++(Lib.itoa (ix l k).1++32::(Lib.itoa (ix l k).2++ [32])):=by rw[bN hkl,Ur]
   have hown5:w4.ownsRow w.heap.size 5 1 v4 (pk_ (l.take (k+1))).length (Lib.byteCells (pk_ (l.take (k+1)))):=by
    have e1:(pk_ (l.take (k+1))).length=(pk_ (l.take k)).length+(Lib.itoa (ix l k).1).length+1+(Lib.itoa (ix l k).2).length+1:=by rw[he];simp;omega
    have e2:Lib.byteCells (pk_ (l.take (k+1)))=Lib.byteCells (pk_ (l.take k))++(Lib.byteCells (Lib.itoa (ix l k).1)++Value.int .u8 32::(Lib.byteCells (Lib.itoa (ix l k).2)++ [Value.int .u8 32])):=by rw[he];simp[Lib.byteCells]
    rw[e1,e2];exact hown4
   clear hown hown1 hown2 hown3 hown4 hgrow2 hgrow4 hok1 hok2 hok3 hcell
   go_wp2
   go_roundw
   case rel=>exact⟨k+1,O,by simp,hown5,hnx4⟩
   case measure=>simp[intOf];omega
  ·have hkl:¬k<l.length:=by assumption
   have hke:l.take k=l:=List.take_of_length_le O
   rw[hke] at hown
   have hcv:(convert 181 9 u3).run Tryz.prog wr= .ok (.string ⟨(pk_ l).toArray⟩) wr:=by
    rcases hown.2 with⟨e1,e2⟩|⟨g,cp,cur,e1,_⟩
    ·subst e1
     rw[run_convert_bytes_nil wr 181 5 Tryz.underlying181 Tryz.underlying5 0 0 9 Tryz.underlying9,List.eq_nil_of_length_eq_zero e2];rfl
    ·subst e1
     exact run_convert_bytes_back wr 181 9 5 ⟨g,0,none⟩ cp (pk_ l) Tryz.underlying181 Tryz.underlying5 Tryz.underlying9 (fun j hj=>hown.cells (g:=g) rfl j _ (by simp[Lib.byteCells,hj]))
   clear hown
   go_wp2
   rw[hcv]
   go_wp2
   go_ret
   exact⟨rfl,hnx⟩
theorem IG (A:Option Addr) (cap:Nat) (w:World):Calls Tryz.prog 93 #[.slice A 0 cap] w fun e w'=>e= .returned (.string (pkB []))∧Below w.heap.size w w':=by
 have hcv:(convert 181 9 (.slice none 0 0)).run Tryz.prog w= .ok (.string (pkB [])) w:=by
  rw[run_convert_bytes_nil w 181 5 Tryz.underlying181 Tryz.underlying5 0 0 9 Tryz.underlying9];rfl
 go_enter Tryz.func93,Tryz.ntmps93
 go_wp2
 refine wp_loop_rounds 1 ?_
 rw[rounds_succ]
 go_wp2
 go_ret
 exact⟨rfl,Below.refl _ _⟩
attribute [local semireducible] eqv sl agg in
theorem pair_cells {w:World} {F:Fz} {l:List (Int × Int)} {b off:Nat} {vs:List Value} (hr:rdAt w b off vs) (he:Els w F 2 pE l vs) {k:Nat} (hk:k<l.length):w.cell? ⟨b,off+k*2,none⟩=some (.int .i64 (ix l k).1)∧w.cell? ⟨b,off+k*2+1,none⟩=some (.int .i64 (ix l k).2):=by
 have h1:=he.el k (ix l k) (by rw[aG hk];simp[hk])
 obtain⟨c,ty,fr,hc,hv⟩:=hr
 match hw:(vs.drop (k*2)).take 2,h1 with
 | [x,y],⟨hx,hy,_⟩=>
   have hx:x= .int .i64 (ix l k).1:=hx
   have hy:y= .int .i64 (ix l k).2:=hy
   have g0:vs[k*2]?=some x:=by
     have:((vs.drop (k*2)).take 2)[0]?=some x:=by rw[hw];rfl
     rw[List.getElem?_take,if_pos O,List.getElem?_drop] at this
     simpa using this
   have g1:vs[k*2+1]?=some y:=by
     have:((vs.drop (k*2)).take 2)[1]?=some y:=by rw[hw];rfl
     rw[List.getElem?_take,if_pos O,List.getElem?_drop] at this
     exact this
   have c0:=hv _ _ g0
   have c1:=hv _ _ g1
   rw[←Nat.add_assoc] at c1
   subst hx;subst hy
   simp only [World.cell?,hc]
   exact⟨c0,c1⟩
attribute [local semireducible] eqv sl emp in
theorem CP (l:List (Int × Int)) (hb:∀p∈l,0≤p.1∧p.1<10000∧0≤p.2∧p.2<10000) (hl:l.length≤100000000):Fn0 Tryz.prog 93 [mE (sl 2 pE l)] (str (pkB l)):=by
 intro w F vs hvs hb2 hH
 match vs,hvs with
 | [v],⟨⟨⟨A,cap,hv,_,_,hsl⟩,g,hg,hF,ht⟩,_⟩=>
   subst hv
   have key:Calls Tryz.prog 93 #[.slice A l.length cap] w fun e w'=>e= .returned (.string (pkB l))∧Below w.heap.size w w':=by
     by_cases h0:l= []
     ·subst h0;exact IG A cap w
     ·obtain⟨b,off,us,hA,hFb,hr,he⟩:=hsl h0
      subst hA
      exact ET l hb hl b off cap w (fun k hk=>pair_cells hr he hk) (hb2 b hFb) ht
   refine key.mono ?_
   rintro e w' ⟨rfl,hbl⟩
   exact⟨(),_,F,rfl,{ res:=rfl,ok:=vU _ _,sub:=fun _ h=>h,new:=fun b h=> .inl h,foot:=fun b h=>by obtain⟨k,h⟩:=h;exact(show False from h).elim,old:=fun b hb' _=>hbl.block b hb',size:=hbl.size,os:=hbl.os,tape:=hbl.tape,out:=hbl.output }⟩
end pkey
end
section
open ref01 ref03 ref04 ref06 prog prog2 prog3 prog4 prog5 prog6 prog7 prog8 prog9 prog15 Part Rungs LeftM TrimM RoundM MergeM BisM BisM4 BisM5 Itoa Keys WalkM StepM WitM JudgM JudgM2 search refw judg wit refj sysw satj divr divs divd dive divv TrimI QuoM FailM DivM GenW CompM CrossM KeepK GuardM MakeM LsysM LsysM2 MakeM2 KeepB AtM ClsM LstM MakeM3 GuaW ValidM mkk mkp mkl mkc mkq
theorem QO {key:Nat} {x v:Value} {w:World} {F:Fz} (h:(osl key x).p w F v):(eqv x).p w F v:=by rw[dV] at h;exact h
theorem Od {m:aA} (h:bM m=true):m.sT.length≤5000:=by
 unfold bM at h
 simp only [Bool.and_eq_true,decide_eq_true_eq] at h
 exact h.1.1.2
theorem HE {m:aA} {t:SS} (h:500<(gL m t).length):aY m t=(⟨[],[]⟩,false):=by unfold aY;rw[if_neg O]
theorem Ut {m:aA} {t:SS} (h:(gL m t).length≤500):aY m t=((tR (gD m t)).1,true):=by unfold aY;rw[if_pos h]
theorem QP {m:aA} {t:SS} (hm:bC m) (ht:oK t):∀p∈([(0,0)]:List (Int × Int)),0≤p.1∧p.1<10000∧0≤p.2∧p.2<10000:=JP hm ht (GU hm ht)
def mP (p:Int × Int→Bool) (l:List (Int × Int)):Int:=if l.any p=true then(l.findIdx p:Int) else-1
theorem Oe {p:Int × Int→Bool} {l:List (Int × Int)} (h:∀k,k<l.length→p (ix l k)=false):mP p l= -1:=by
 unfold mP
 rw[if_neg]
 intro h2
 obtain⟨x,hx,hp⟩:=List.any_eq_true.1 h2
 obtain⟨k,hk,rfl⟩:=List.getElem_of_mem hx
 have:=h k hk
 rw[aG hk,hp] at this
 cases this
theorem Uu {p:Int × Int→Bool} {l:List (Int × Int)} {k:Nat} (hk:k<l.length) (hp:p (ix l k)=true) (h:∀j,j<k→p (ix l j)=false):mP p l=(k:Int):=by
 unfold mP
 rw[aG hk] at hp
 rw[if_pos (List.any_eq_true.2 ⟨_,List.getElem_mem hk,hp⟩),(List.findIdx_eq hk).2 ⟨hp,fun j hj=>by have:=h j hj;rwa [aG O] at this⟩]
theorem QQ {p:Int × Int→Bool} {l:List (Int × Int)}:decide (0≤mP p l)=l.any p:=by
 unfold mP
 split
 ·next h=>rw[h];simp
 ·next h=>simp at h ⊢;exact h
namespace T
theorem XD:Ent Tryz.prog 96:=aR kR
theorem WO:Ent Tryz.prog 135:=aR kR
theorem XE:Ent Tryz.prog 91:=aR kR
theorem Uv:Gj Tryz.prog 28 1 1 26:=Je kR
theorem RP:Ent Tryz.prog 93:=aR kR
theorem Yp:dM Tryz.prog 125 [.map none]:=cE kR
theorem HF:dI Tryz.prog 125:=eH kR
theorem z81:dM Tryz.prog 81 [.slice none 0 0]:=cE kR
theorem xA:dI Tryz.prog 81:=eH kR
theorem z65:dM Tryz.prog 65 [.slice none 0 0]:=cE kR
theorem XF:Ent Tryz.prog 95:=aR kR
theorem WP:Ent Tryz.prog 103:=aR kR
theorem RR:Ent Tryz.prog 55:=aR kR
end T
namespace mkg
theorem Og (m:aA) (hm:bC m) (t:SS) (ht:oK t) (u:Int) (hu:0≤u∧u<256) (p:Int × Int) (hp:p∈qU m.sT.length t.sT.length):
 Fn0 Tryz.prog 96 [agg [int p.1,int p.2],fp [strs t.aC,sl 2 sE t.sT],fp [int u],fp [strs m.aC,sl 1 gE m.sT]] (bl (!decide (bS u (bR m p.1.toNat)∈acc t p.2.toNat))):=by
 refine fnI Tryz.func96 rfl rfl (fun w0 F0=> ?_)
 obtain⟨hp1,hp2,hp3,hp4⟩:=pM.1 hp
 have hst:=ht.st p.2.toNat O
 have hrs:=hst.rise
 have hm1:=hm.few1;have ht1:=ht.few1;have hn8:=hm.n8
 have hmany:(ix m.sT p.1.toNat).length≤400000:=hm.many p.1.toNat O
 have hob:0≤cX (ix m.sT p.1.toNat)∧cX (ix m.sT p.1.toNat)<256:=DD hm (x:=p.1.toNat) O
 have hoff:∀e∈ix m.sT p.1.toNat,0≤e.1∧e.1<8:=fun e he=>by have:=hm.ed p.1.toNat O e he;omega
 refine sq (rg (bx (key:=4) (cs:= [int p.1,int p.2]) J fun b4=>(ag (nl (th (sq (dr (nh:=18) [0,1,0,4,15,31,0,0,128,0,512,1920,3968,8064,16320,32767,65535,131071] T.mixed kR ?_)))))))
 refine st_ J (fun _ _ _ gq kq=>fF (gq.1.trans J) T.bO kq) ?_
 refine st_ J (fun _ _ _ gq kq=>lF (gq.1.trans J) J T.cM kq) ?_
 refine st_ J (fun _ _ _ gq kq=>iPA (gq.1.trans J) J T.kL T.aH J kq) ?_
 refine st_ J (fun _ _ _ gq kq=>lP (gq.1.trans J) J J T.aH kq) ?_
 refine st_ J (fun _ _ _ gq kq=>iF (gq.1.trans J) (gq.2.1.trans J) T.dB O gB kq) ?_
 refine st_ J (fun _ _ _ gq kq=>lFA (gq.1.trans J) T.eO (Nat.le_of_ble_eq_true J) kq) ?_
 refine st_ J (fun _ _ _ gq kq=>lF (gq.1.trans J) J T.aH kq) ?_
 refine st_ J (fun _ _ _ gq kq=>fF (gq.1.trans J) T.bY kq) ?_
 refine st_ J (fun _ _ _ gq kq=>lF (gq.1.trans J) J T.dA kq) ?_
 refine st_ J (fun _ _ _ gq kq=>iPA (gq.1.trans J) J T.kL T.aH J kq) ?_
 refine st_ J (fun _ _ _ gq kq=>lP (gq.1.trans J) J J T.aH kq) ?_
 refine st_ J (fun _ _ _ gq kq=>iF (gq.1.trans J) (gq.2.1.trans J) T.gY O gB kq) ?_
 refine st_ J (fun _ _ _ gq kq=>lF (gq.1.trans J) J T.fK kq) ?_
 refine st_ J (fun _ _ _ gq kq=>bI (φs:= [sl 2 pE (ix m.sT p.1.toNat)]) (φ:=int (cX (ix m.sT p.1.toNat))) ⟨(gq.1.trans J),tV⟩ (sysw.tU (ix m.sT p.1.toNat) aS) T.Fh kq) ?_
 refine st_ J (fun _ _ _ gq kq=>bi (gq.1.trans J) (gq.2.1.trans J) (Bv O O O O) kq) ?_
 refine st_ J (fun _ _ _ gq kq=>bI (φs:= [agg [sl 1 nE (ix t.sT p.2.toNat).aP,sl 1 nE (ix t.sT p.2.toNat).next],int ((u.toNat&&&(cX (ix m.sT p.1.toNat)).toNat:Nat):Int)]) (φ:=bl (decide (((u.toNat&&&(cX (ix m.sT p.1.toNat)).toNat:Nat):Int)∈(ix t.sT p.2.toNat).aP))) ⟨(gq.1.trans J),(gq.2.1.trans J),tV⟩ (search.rC (ix t.sT p.2.toNat) aS ((u.toNat&&&(cX (ix m.sT p.1.toNat)).toNat:Nat):Int)) T.EZ kq) ?_
 refine st_ J (fun _ _ _ gq kq=>no (gq.1.trans J) kq) ?_
 refine st_ J (fun _ _ _ gq kq=>ag' (gq.1.trans J) kq) ?_
 refine pn (nl (th (rt ?_)))
 have hr0:(!(decide (((u.toNat&&&(cX (ix m.sT p.1.toNat)).toNat:Nat):Int)∈(ix t.sT p.2.toNat).aP)))=(!decide (bS u (bR m p.1.toNat)∈acc t p.2.toNat)):=by
  rfl
 exact rE () [.tmp 5] J [bl (!(decide (((u.toNat&&&(cX (ix m.sT p.1.toNat)).toNat:Nat):Int)∈(ix t.sT p.2.toNat).aP)))] ⟨.tmp J,tV⟩ (cA1 (fun x0=>rV [bl x0]) hr0) trivial eX
theorem EU (l:List (Int × Int)) (dom:Int × Int→Prop) (pq:Int × Int→Bool) (hd:∀k,k<l.length→dom (ix l k)) (hl:l.length≤100000000):
 Fn0 Tryz.prog 135 [sl 2 pE l,pf Tryz.prog dom (fun p:Int × Int=> [agg [int p.1,int p.2]]) (fun x=>bl (pq x))] (int (mP pq l)):=by
 refine fnI Tryz.func135 rfl rfl (fun w0 F0=> ?_)
 refine fcC (bL 0 J) (fun hm0=> ?_)
 refine sq (rg (ag (nl (th (sq (sq (rg (mv (lnF J T.jE (mv (nl (th (bk ?_)))))))))))))
 have hI0_0:0≤l.length:=by
  first|omega|simp
 have hI0_1:∀j,j<0→pq (ix l j)=false:=by
  exact fun j hj=>absurd hj O
 refine lp (κ:=Nat) (fun p=> [(0,sl 2 pE l),(1,pf Tryz.prog dom (fun p:Int × Int=> [agg [int p.1,int p.2]]) (fun x=>bl (pq x))),(7,int (l.length:Int)),(8,int (p:Int))]) (fun p=> []) (fun p=>(p≤l.length)∧(∀j,j<p→pq (ix l j)=false)) (fun p=>l.length- p) 0 ⟨hI0_0,hI0_1⟩ ⟨id,id,id,id,tV⟩ trivial ?_
 intro k hG0
 obtain⟨hk0,hI0⟩:(k≤l.length)∧(∀j,j<k→pq (ix l j)=false):=hG0
 refine sq (rg (bi J J aZ (nl (th (sq ?_)))))
 refine cd J (fun hc0=> ?_) (fun hc0=> ?_)
 ·try simp at hc0
  refine sk (th (sq (bk (sq (rg (mv (ag (nl (th (sq (rg (mv (mv (mv (iF J J T.jE O gB (lFA J T.fS (Nat.le_of_ble_eq_true J) (Rq J (ix l k) (hd k O) J (nl (th ?_)))))))))))))))))))
  refine cd J (fun hc1=> ?_) (fun hc1=> ?_)
  ·try simp at hc1
   refine sq (rg (mv (ag (nl (th (rt (rb (rt_ (rt_ (rb (rt_ ?_)))))))))))
   have hr0:((k:Int):Int)=(mP pq l):=by
    exact(Uu O hc1 hI0).symm
   exact rE () [.tmp 4] J [int (k:Int)] ⟨.tmp J,tV⟩ (cA1 (fun x0=>rV [int x0]) hr0) trivial eX
  ·try simp at hc1
   refine sk (eb (th (rg (bi J J (aM i6) (mv (nl ?_))))))
   have hN0:(k+1)≤l.length:=by
    first|omega|simp_all
   have hN1:∀j,j<(k+1)→pq (ix l j)=false:=by
    intro j hj
    by_cases e:j=k
    ·subst e;simpa using hc1
    ·exact hI0 j O
   exact ln (k+1) ⟨hN0,hN1⟩ dO ⟨id,id,id,id,tV⟩ trivial
 ·try simp at hc0
  refine ex (xt_ (xt_ (xb (th (sq (rg (ag (nl (th (rt ?_))))))))))
  have hr0:((-1):Int)=(mP pq l):=by
   exact(Oe (fun j hj=>hI0 j O)).symm
  exact rE () [.tmp 4] J [int (-1)] ⟨.tmp J,tV⟩ (cA1 (fun x0=>rV [int x0]) hr0) trivial eX
theorem Bi (l:List (Int × Int)) (dom:Int × Int→Prop) (pq:Int × Int→Bool) (hd:∀k,k<l.length→dom (ix l k)) (hl:l.length≤100000000):
 Fn0 Tryz.prog 95 [sl 2 pE l,pf Tryz.prog dom (fun p:Int × Int=> [agg [int p.1,int p.2]]) (fun x=>bl (pq x))] (bl (l.any pq)):=by
 refine fnI Tryz.func95 rfl rfl (fun w0 F0=> ?_)
 refine fcC (bL 0 J) (fun hm0=> ?_)
 refine sq (rg (ag (nl (th (sq (rg (mv (mv (bI (φs:= [sl 2 pE l,pf Tryz.prog dom (fun p:Int × Int=> [agg [int p.1,int p.2]]) (fun x=>bl (pq x))]) (φ:=int (mP pq l)) ⟨J,J,tV⟩ (EU l dom pq hd hl) T.WO (bi J J jG (ag (nl (th (rt ?_))))))))))))))
 have hr0:(decide (0≤(mP pq l)))=(l.any pq):=by
  rw[QQ]
 exact rE () [.tmp 4] J [bl (decide (0≤(mP pq l)))] ⟨.tmp J,tV⟩ (cA1 (fun x0=>rV [bl x0]) hr0) trivial eX
theorem QR (m:aA) (hm:bC m) (t:SS) (ht:oK t) (l:List (Int × Int)) (u:Int) (hl:gOk m t l) (hu:0≤u∧u<256):Fn0 Tryz.prog 95 [sl 2 pE l,clo 96 [fp [strs t.aC,sl 2 sE t.sT],fp [int u],fp [strs m.aC,sl 1 gE m.sT]]] (bl (l.any (fun p:Int × Int=> !decide (bS u (bR m p.1.toNat)∈acc t p.2.toNat)))):=by
 refine IR (fun {w F vs} h=> ?_) (Bi l (fun p=>p∈qU m.sT.length t.sT.length) (fun p:Int × Int=> !decide (bS u (bR m p.1.toNat)∈acc t p.2.toNat)) (fun k hk=>hl.subset (aO hk)) (DT hm ht hl))
 match vs,h with
 | [_,_],⟨h1,h2,_⟩=>exact⟨h1,Lz T.XD (fun p hp=>Og m hm t ht u hu p hp) h2,tV⟩
theorem HG (m:aA) (hmv:bM m=true) (t:SS) (htv:cC t=true) (hmt:m.aC=t.aC):
 Fn0 Tryz.prog 55 [mE (sys m),spec t] (tup [spec (aY m t).1,bl (aY m t).2]):=by
 refine fnI Tryz.func55 rfl rfl (fun w0 F0=> ?_)
 have hm:=cU hmv;have ht:=eJ htv;have hm5:=Od hmv;have ht5:=KJ htv;have f1:=hm.few1;have f2:=ht.few1;have f3:=hm.few0;have f4:=ht.few0;have hn8:=ht.n8;have hm8:=hm.n8;have hG:=Lb (m:=m) ht;have hz:=GU hm ht
 have hsl:(cH t.aC.length).length≤256:=by unfold cH;rw[List.length_map,List.length_range];exact Nat.pow_le_pow_right O hn8
 have hk0:=QP hm ht
 have hl0:([(0,0)]:List (Int × Int)).length≤100000000:=by decide
 have hks0:(pkB [(0,0)]).size≤aN:=HC hk0 hl0
 refine tbI 0 9999 rfl ?_
 refine Dm (ψ:=tab) 9999 997 rfl ?_
 refine fcC (bW 0 J) (fun hS0=> ?_)
 obtain⟨hma0,hms0,hme0⟩:=cJ hS0
 refine fcC (bW 1 J) (fun hS1=> ?_)
 obtain⟨hsa1,hss1,hse1⟩:=sLn hS1
 refine sq (rg (bx (key:=2) (cs:= [sl 1 rE_ m.aC,sl 1 gE m.sT]) J fun b2=>(bx (key:=3) (cs:= [sl 1 rE_ t.aC,sl 2 sE t.sT]) J fun b3=>(al (key:=4) T.z28 (eC (eC eZ)) fun b4=>(al (key:=5) T.z4 (eC eZ) fun b5=>(nl (th (sq (rg (fzv 2 2 J J (fzv 3 3 J J (fF J T.eD (lF J J T.dE (fc (bL 28 J) fun hm28=>(lnF J T.iL (ag (nl (th (sq (rg (fF J T.eD (lF J J T.dE (bI (φs:= [sl 1 rE_ t.aC]) (φ:=agg [sl 1 rE_ (qG t.aC).aC,sl 2 sE (qG t.aC).sT]) ⟨J,tV⟩ (divv.PL t.aC O) T.XE (Vw J T.Uv T.cM J (iF J J T.dB O (gK (k:=0) (by show 0<1;omega)) (fF J T.cY (lF J J T.bF (kn 36 (ints (cH t.aC.length)) J (fun h=>h) (ag (nl (th (sq (rg (fF J T.eD (lF J J T.dE (eI (φs:= [sl 1 rE_ t.aC]) (φ:=sl 1 rE_ t.aC) ⟨J,tV⟩ (prog.fI _ O) T.rA (fun N hN=>fun h=>bV h) (bd (css:= [(0,_)]) T.uB (eC (eC eZ)) ⟨J,J,p1 (φ:=sl 1 rE_ t.aC) J,tV⟩ (al (key:=8) T.z28 (eC (eC eZ)) fun b8=>(sPA (cs':= [sl 1 rE_ t.aC,eqv (.slice none 0 0)]) J J J T.bA J J (nl (th (sq (rg (bd (css:= []) T.xU (eC (eC eZ)) trivial (bsE (enc:=pE) (xs:= [(0,0)]) (css:= [[int 0,int 0]]) T.rT ⟨J,J,pA (cs:= [int 0,int 0]) J,tV⟩ J J J J (ag (nl (th (sq (rg (mkm (key:=43) (kE:=smE) (dom:=smD) (vE:=smV) fun b43=>(mv (tbU (ψ:=tab) 44 9999 J J (bI (φs:= [both (sl 2 pE [(0,0)]) tab]) (φ:=str (pkB [(0,0)])) ⟨J,tV⟩ (pkey.CP [(0,0)] aS aS) T.RP (AL.insert (q:=pkB [(0,0)]) (u:=0) J J jX J T.qM hks0 (mv (al (key:=10) T.Yp (eC eZ) fun b10=>(sP (φ:=mpv 43 b43) J J J T.HF J (nl (th (sq (rg (mv (bsO 48 (enc:=gE) (xs:= [[(0,0)]]) (css:= [[sl 2 pE [(0,0)]]]) T.Kr ⟨J,J,p1 (φ:=sl 2 pE [(0,0)]) J,tV⟩ J J J J fun v48=>(al (key:=11) T.z81 (eC eZ) fun b11=>(cK J J J J T.xA J (nl (th (sq (sq (rg (ag (nl (th (bk ?_)))))))))))))))))))))))))))))))))))))))))))))))))))))))))))))))))))))))))))
 refine nwC 100 79 2 sE (nS 8 1 (osl 100 (.slice none 0 0)) rfl rfl dR ?_)
 have hI0_0:GW (gA m t) (gN m t) (gOk m t) pkB t.aC.length (2^ (m.sT.length*t.sT.length)) (gL m t) 0 ([[(0,0)]]:List (List (Int × Int))) (bQ ([]:List (ByteArray × Int)) (pkB [(0,0)]) 0) ([]:List SA):=by
  exact Tt hG hz
 refine lp (κ:=Nat × Value × (List (List (Int × Int))) × (List (ByteArray × Int)) × Value × (List SA)) (fun p=> [(2,fp [sl 1 rE_ m.aC,sl 1 gE m.sT]),(3,fp [sl 1 rE_ t.aC,sl 2 sE t.sT]),(4,ptr 4 b4 0),(5,ptr 5 b5 0),(6,int (t.aC.length:Int)),(7,sl 1 nE (cH t.aC.length)),(8,ptr 8 b8 0),(10,ptr 10 b10 0),(11,ptr 11 b11 0),(12,int (p.1:Int)),(9999,tab)]) (fun p=> [(4,cell b4 [eqv (.slice none 0 0),eqv (.slice none 0 0)]),(5,cell b5 [bl false]),(8,cell b8 [sl 1 rE_ t.aC,osl 100 p.2.2.2.2.1]),(10,cell b10 [mpv 43 b43]),(11,cell b11 [osl 48 p.2.1]),(43,mp b43 smE smD smV p.2.2.2.1),(48,own p.2.1 65 1 gE p.2.2.1),(100,own p.2.2.2.2.1 79 2 sE p.2.2.2.2.2),(997,dS tab)]) (fun p=>GW (gA m t) (gN m t) (gOk m t) pkB t.aC.length (2^ (m.sT.length*t.sT.length)) (gL m t) p.1 p.2.2.1 p.2.2.2.1 p.2.2.2.2.2) (fun p=>501- p.1) ⟨0,v48,([[(0,0)]]:List (List (Int × Int))),bQ ([]:List (ByteArray × Int)) (pkB [(0,0)]) 0,(.slice none 0 0),([]:List SA)⟩ hI0_0 ⟨id,id,id,id,id,id,id,id,id,id,id,tV⟩ ⟨rI,rI,rI,rI,rI,rI,rI,rI,rI,tV⟩ ?_
 intro⟨i,v,ql,mm,v14,aD⟩ hG0
 have hQW:GW (gA m t) (gN m t) (gOk m t) pkB t.aC.length (2^ (m.sT.length*t.sT.length)) (gL m t) i ql mm aD:=hG0
 show Ct _ _ _ _ [(2,fp [sl 1 rE_ m.aC,sl 1 gE m.sT]),(3,fp [sl 1 rE_ t.aC,sl 2 sE t.sT]),(4,ptr 4 b4 0),(5,ptr 5 b5 0),(6,int (t.aC.length:Int)),(7,sl 1 nE (cH t.aC.length)),(8,ptr 8 b8 0),(10,ptr 10 b10 0),(11,ptr 11 b11 0),(12,int (i:Int)),(9999,tab)] [(4,cell b4 [eqv (.slice none 0 0),eqv (.slice none 0 0)]),(5,cell b5 [bl false]),(8,cell b8 [sl 1 rE_ t.aC,osl 100 v14]),(10,cell b10 [mpv 43 b43]),(11,cell b11 [osl 48 v]),(43,mp b43 smE smD smV mm),(48,own v 65 1 gE ql),(100,own v14 79 2 sE aD),(997,dS tab)] _
 have hlf:=hQW.few
 have hil:=hQW.il
 have hol:aD.length≤i:=by rw[hQW.out];simp;omega
 refine sq (sq (rg (mv (lP J J J T.xA (lnO J J T.Ay (bi J J aZ (nl (th ?_))))))))
 refine cd J (fun hc0=> ?_) (fun hc0=> ?_)
 ·try simp at hc0
  have hPm:=aO hc0
  have hokP:=hQW.okl _ hPm
  have hPl:=DT hm ht hokP
  have hPl2:(ix ql i).length≤2500000:=by
   have h1:=hokP.length_le
   rw[Ba] at h1
   have:=Nat.mul_le_mul hm5 ht5
   omega
  refine sk (th (sq (bk (sq (rg (lP J J J T.xA (mv (iO J J J T.Ay O O (lO J J gB J T.pS (al (key:=13) T.z65 (eC eZ) fun b13=>(sP (φ:=sl 2 pE (ix ql i)) J J J T.pS J (nl (th (sq (rg (bsE (enc:=nE) (xs:= [(-1)]) (css:= [[int (-1)]]) T.cQ ⟨J,J,p1 (φ:=int (-1)) J,tV⟩ J J J J (mv (cl (Wd 30 300 (prog8.xX t.aC.length O)) T.Kx trivial fun N61 v61=>(fc (svI 300 J) fun hsv300=> ?_)))))))))))))))))))
  rw[←hsv300]
  refine kn 61 (eqv (sv v61)) rfl QO (bd (css:= [(1,_)]) T.Aq (eC (eC eZ)) ⟨rfl,rfl,p1 (φ:=eqv (sv v61)) rfl,tV⟩ (al (key:=14) T.z79 (eC (eC eZ)) fun b14=>(sPA (cs':= [eqv (.slice none 0 0),eqv (sv v61)]) rfl rfl rfl T.eO rfl rfl (knc 14 1 (osl 300 (sv v61)) rfl rfl dR (nl (th (sq (rg (ag (nl (th (sq (sq (rg (mv (fc (bL 63 rfl) fun hm63=>(lnF rfl T.aT (mv (nl (th (bk ?_)))))))))))))))))))))
  refine nwC 140 3 1 nE (nS 14 0 (osl 140 (.slice none 0 0)) rfl rfl dR ?_)
  have hI1_0:0≤(cH t.aC.length).length:=by
   first|omega|simp
  have hI1_1:([]:List Int)=gAH m t (ix ql i) 0∧(0:Int)=aV ([]:List Int)∧0≤(0:Int)∧(0:Int)<256:=by
   exact⟨rfl,rfl,O,O⟩
  refine lp (κ:=Nat × Value × (List Int) × Int) (fun p=> [(2,fp [sl 1 rE_ m.aC,sl 1 gE m.sT]),(3,fp [sl 1 rE_ t.aC,sl 2 sE t.sT]),(4,ptr 4 b4 0),(5,ptr 5 b5 0),(6,int (t.aC.length:Int)),(7,sl 1 nE (cH t.aC.length)),(8,ptr 8 b8 0),(10,ptr 10 b10 0),(11,ptr 11 b11 0),(12,int (i:Int)),(13,ptr 13 b13 0),(14,ptr 14 b14 0),(15,int p.2.2.2),(63,sl 1 nE (cH t.aC.length)),(64,int ((cH t.aC.length).length:Int)),(65,int (p.1:Int)),(9999,tab)]) (fun p=> [(4,cell b4 [eqv (.slice none 0 0),eqv (.slice none 0 0)]),(5,cell b5 [bl false]),(8,cell b8 [sl 1 rE_ t.aC,osl 100 v14]),(10,cell b10 [mpv 43 b43]),(11,cell b11 [osl 48 v]),(13,cell b13 [sl 2 pE (ix ql i)]),(14,cell b14 [osl 140 p.2.1,osl 300 (sv v61)]),(43,mp b43 smE smD smV mm),(48,own v 65 1 gE ql),(100,own v14 79 2 sE aD),(140,own p.2.1 3 1 nE p.2.2.1),(300,own (sv v61) 3 1 nE (List.replicate t.aC.length (-1))),(997,dS tab)]) (fun p=>(p.1≤(cH t.aC.length).length)∧(p.2.2.1=gAH m t (ix ql i) p.1∧p.2.2.2=aV p.2.2.1∧0≤p.2.2.2∧p.2.2.2<256)) (fun p=>(cH t.aC.length).length- p.1) ⟨0,(.slice none 0 0),([]:List Int),(0:Int)⟩ ⟨hI1_0,hI1_1⟩ ⟨id,id,id,id,id,id,id,id,id,id,id,id,id,id,id,id,id,tV⟩ ⟨rI,rI,rI,rI,rI,rI,rI,rI,rI,rI,rI,rI,rI,tV⟩ ?_
  intro⟨k1,u14,ac,cn⟩ hG1
  obtain⟨hk1,⟨hac,hcn,hcn0,hcn1⟩⟩:(k1≤(cH t.aC.length).length)∧(ac=gAH m t (ix ql i) k1∧cn=aV ac∧0≤cn∧cn<256):=hG1
  show Ct _ _ _ _ [(2,fp [sl 1 rE_ m.aC,sl 1 gE m.sT]),(3,fp [sl 1 rE_ t.aC,sl 2 sE t.sT]),(4,ptr 4 b4 0),(5,ptr 5 b5 0),(6,int (t.aC.length:Int)),(7,sl 1 nE (cH t.aC.length)),(8,ptr 8 b8 0),(10,ptr 10 b10 0),(11,ptr 11 b11 0),(12,int (i:Int)),(13,ptr 13 b13 0),(14,ptr 14 b14 0),(15,int cn),(63,sl 1 nE (cH t.aC.length)),(64,int ((cH t.aC.length).length:Int)),(65,int (k1:Int)),(9999,tab)] [(4,cell b4 [eqv (.slice none 0 0),eqv (.slice none 0 0)]),(5,cell b5 [bl false]),(8,cell b8 [sl 1 rE_ t.aC,osl 100 v14]),(10,cell b10 [mpv 43 b43]),(11,cell b11 [osl 48 v]),(13,cell b13 [sl 2 pE (ix ql i)]),(14,cell b14 [osl 140 u14,osl 300 (sv v61)]),(43,mp b43 smE smD smV mm),(48,own v 65 1 gE ql),(100,own v14 79 2 sE aD),(140,own u14 3 1 nE ac),(300,own (sv v61) 3 1 nE (List.replicate t.aC.length (-1))),(997,dS tab)] _
  have hacl:ac.length≤k1:=by rw[hac];exact Up
  refine sq (rg (bi J J aZ (nl (th (sq ?_)))))
  refine cd J (fun hc1=> ?_) (fun hc1=> ?_)
  ·try simp at hc1
   have hkb0:=wQ.1 (aO (l:=(cH t.aC.length)) (by omega:k1<(cH t.aC.length).length))
   have hkb:=JB hn8 (aO (l:=(cH t.aC.length)) (by omega:k1<(cH t.aC.length).length))
   refine sk (th (sq (bk (sq (rg (iF J J T.aT O gB (lF J J T.aH (al (key:=17) T.z3 (eC eZ) fun b17=>(sP (φ:=int (ix (cH t.aC.length) k1)) J J J T.aH J (nl (th (sq (rg (lP J J J T.pS (fzv 17 17 J J (mkf (bI (φs:= [sl 2 pE (ix ql i),clo 96 [fp [sl 1 rE_ t.aC,sl 2 sE t.sT],fp [int (ix (cH t.aC.length) k1)],fp [sl 1 rE_ m.aC,sl 1 gE m.sT]]]) (φ:=bl ((ix ql i).any (fun p:Int × Int=> !decide (bS (ix (cH t.aC.length) k1) (bR m p.1.toNat)∈acc t p.2.toNat)))) ⟨J,J,tV⟩ (QR m hm t ht (ix ql i) (ix (cH t.aC.length) k1) aS aS) T.XF (no J (nl (th ?_))))))))))))))))))))
   refine cd J (fun hc2=> ?_) (fun hc2=> ?_)
   ·skip
    have hgt:gT m t (ix ql i) (ix (cH t.aC.length) k1)=true:=by rw[←JO];exact hc2
    refine sq (rg (fP J T.cY (lP J J J T.bF (lF J J T.aH (bsE (enc:=nE) (xs:= [(ix (cH t.aC.length) k1)]) (css:= [[int (ix (cH t.aC.length) k1)]]) T.cQ ⟨J,J,p1 (φ:=int (ix (cH t.aC.length) k1)) J,tV⟩ J J J J (ap (key:=140) (zs:= [(ix (cH t.aC.length) k1)]) cB J J J T.cQ (by unfold aN at*;simp;omega) (by unfold aN at*;simp;omega) fun v77=>(fP J T.cY (cK J J J J T.bF J (nl (th (rg (mv (lF J J T.aH (bi J J (Bw O O O O) (ag (nl (eb (th (rg (bi J J (aM i6) (mv (nl ?_))))))))))))))))))))))
    have hN0:(k1+1)≤(cH t.aC.length).length:=by
     first|omega|simp_all
    have hN1:(ac++ [(ix (cH t.aC.length) k1)])=gAH m t (ix ql i) (k1+1)∧((cn.toNat|||(ix (cH t.aC.length) k1).toNat:Nat):Int)=aV (ac++ [(ix (cH t.aC.length) k1)])∧0≤((cn.toNat|||(ix (cH t.aC.length) k1).toNat:Nat):Int)∧((cn.toNat|||(ix (cH t.aC.length) k1).toNat:Nat):Int)<256:=by
     exact⟨by rw[Un O hgt,hac],by rw[jP,←hcn],O,oR hcn1 hkb.2⟩
    exact ln (⟨k1+1,v77,ac++ [(ix (cH t.aC.length) k1)],((cn.toNat|||(ix (cH t.aC.length) k1).toNat:Nat):Int)⟩:Nat × Value × (List Int) × Int) ⟨hN0,hN1⟩ dO ⟨id,id,id,id,id,id,id,id,id,id,id,id,id,id,id,id,id,tV⟩ ⟨rI,rI,rI,rI,rI,rI,rI,rI,rI,rI,rI,rI,rI,tV⟩
   ·skip
    have hgt:gT m t (ix ql i) (ix (cH t.aC.length) k1)=false:=by rw[←JO];exact hc2
    refine sk (eb (th (rg (bi J J (aM i6) (mv (nl ?_))))))
    have hN0:(k1+1)≤(cH t.aC.length).length:=by
     first|omega|simp_all
    have hN1:ac=gAH m t (ix ql i) (k1+1)∧cn=aV ac∧0≤cn∧cn<256:=by
     exact⟨by rw[WL O hgt,hac],hcn,hcn0,hcn1⟩
    exact ln (⟨k1+1,u14,ac,cn⟩:Nat × Value × (List Int) × Int) ⟨hN0,hN1⟩ dO ⟨id,id,id,id,id,id,id,id,id,id,id,id,id,id,id,id,id,tV⟩ ⟨rI,rI,rI,rI,rI,rI,rI,rI,rI,rI,rI,rI,rI,tV⟩
  ·try simp at hc1
   refine ex (xt_ (xt_ (xb (th (sq (sq (rg (mv (bI (φs:= [int cn]) (φ:=clo 137 [fp [int cn]]) ⟨J,tV⟩ (prog3.vY cn) T.wA (nl (th (bk ?_))))))))))))
   have hac2:ac=(gA m t (ix ql i)):=by rw[hac];exact Uo O
   have hcn3:aL 63 cn=dQ (gA m t) (ix ql i):=by unfold dQ;rw[hcn,hac2]
   have hR0:GN (gA m t) (gN m t) (gOk m t) pkB t.aC.length (gL m t) i ql 0 ql mm (List.replicate t.aC.length (-1)):=by
    exact Tu hQW
   refine rf (κ:=Value × (List (List (Int × Int))) × (List (ByteArray × Int)) × (List Int)) 900 (fun p=> [(4,cell b4 [eqv (.slice none 0 0),eqv (.slice none 0 0)]),(5,cell b5 [bl false]),(8,cell b8 [sl 1 rE_ t.aC,osl 100 v14]),(10,cell b10 [mpv 43 b43]),(11,cell b11 [osl 48 p.1]),(13,cell b13 [sl 2 pE (ix ql i)]),(14,cell b14 [osl 140 u14,osl 300 (sv v61)]),(43,mp b43 smE smD smV p.2.2.1),(48,own p.1 65 1 gE p.2.1),(100,own v14 79 2 sE aD),(140,own u14 3 1 nE ac),(300,own (sv v61) 3 1 nE p.2.2.2),(997,dS tab)]) (fun iR p=>GN (gA m t) (gN m t) (gOk m t) pkB t.aC.length (gL m t) i ql iR p.2.1 p.2.2.1 p.2.2.2) (fun c p=>c= .ret∧(500<(gL m t).length)) J (Au cn O O) T.rW J (fun _=>J) (fun _=>J) ⟨v,ql,mm,List.replicate t.aC.length (-1)⟩ hR0 ⟨rI,rI,rI,rI,rI,rI,rI,rI,rI,rI,rI,rI,rI,tV⟩ ?_ ?_ ?_ (fun id k h=>nomatch h.1) (fun c k h=> .inl h.1)
   ·intro m0 ⟨v4,l2,mm2,nx⟩ x0 hG0 hx0 l R w1 M1 F1 hRd
    have hR0:GN (gA m t) (gN m t) (gOk m t) pkB t.aC.length (gL m t) i ql m0 l2 mm2 nx:=hG0
    show Ct _ _ _ _ _ ((900,obj l (.loop R)):: [(4,cell b4 [eqv (.slice none 0 0),eqv (.slice none 0 0)]),(5,cell b5 [bl false]),(8,cell b8 [sl 1 rE_ t.aC,osl 100 v14]),(10,cell b10 [mpv 43 b43]),(11,cell b11 [osl 48 v4]),(13,cell b13 [sl 2 pE (ix ql i)]),(14,cell b14 [osl 140 u14,osl 300 (sv v61)]),(43,mp b43 smE smD smV mm2),(48,own v4 65 1 gE l2),(100,own v14 79 2 sE aD),(140,own u14 3 1 nE ac),(300,own (sv v61) 3 1 nE nx),(997,dS tab)]) _
    have hx2:(dQ (gA m t) (ix ql i))[m0]?=some x0:=by rw[←hcn3];exact hx0
    obtain⟨a,rfl,ha63,hha⟩:=lL hx0
    have hha2:has (aV (gA m t (ix ql i))) (a:Int)=true:=by rw[←hac2,←hcn];exact hha
    have hal8:a<t.aC.length:=hG.hasn _ hokP a hha2
    have hnl:nx.length=t.aC.length:=by rw[hR0.nx];simp
    have hl2f:=hR0.few
    have hkN:=JP hm ht (zV m t (ix ql i) a)
    have hlN:=DT hm ht (zV m t (ix ql i) a)
    have hks:(pkB (gN m t (ix ql i) a)).size≤aN:=HC hkN hlN
    refine rg (ag (nl (aq hRd J (bk (sq (rg (nw 19 80 2 pE (ag (rtg (key:=19) 19 J (nl (th (sq (sq (rg (lP J J J T.pS (fc (bL 86 J) fun hm86=>(lnF J T.jE (mv (nl (th (bk ?_)))))))))))))))))))))
    have hI2_0:0≤(ix ql i).length:=by
     first|omega|simp
    have hI2_1:([]:List (Int × Int))=lJ m t a ((ix ql i).take 0):=by
     rfl
    refine lp (κ:=Nat × Value × (List (Int × Int))) (fun p=> [(2,fp [sl 1 rE_ m.aC,sl 1 gE m.sT]),(3,fp [sl 1 rE_ t.aC,sl 2 sE t.sT]),(4,ptr 4 b4 0),(5,ptr 5 b5 0),(10,ptr 10 b10 0),(11,ptr 11 b11 0),(14,ptr 14 b14 0),(18,int (a:Int)),(19,osl 19 p.2.1),(86,sl 2 pE (ix ql i)),(87,int ((ix ql i).length:Int)),(88,int (p.1:Int)),(9999,tab)]) (fun p=> [(4,cell b4 [eqv (.slice none 0 0),eqv (.slice none 0 0)]),(5,cell b5 [bl false]),(8,cell b8 [sl 1 rE_ t.aC,osl 100 v14]),(10,cell b10 [mpv 43 b43]),(11,cell b11 [osl 48 v4]),(13,cell b13 [sl 2 pE (ix ql i)]),(14,cell b14 [osl 140 u14,osl 300 (sv v61)]),(19,own p.2.1 80 2 pE p.2.2),(43,mp b43 smE smD smV mm2),(48,own v4 65 1 gE l2),(100,own v14 79 2 sE aD),(140,own u14 3 1 nE ac),(300,own (sv v61) 3 1 nE nx),(900,obj l (.loop { R with state:= .busy })),(997,dS tab)]) (fun p=>(p.1≤(ix ql i).length)∧(p.2.2=lJ m t a ((ix ql i).take p.1))) (fun p=>(ix ql i).length- p.1) ⟨0,(.slice none 0 0),([]:List (Int × Int))⟩ ⟨hI2_0,hI2_1⟩ ⟨id,id,id,id,id,id,id,id,id,id,id,id,id,tV⟩ ⟨rI,rI,rI,rI,rI,rI,rI,rI,rI,rI,rI,rI,rI,rI,rI,tV⟩ ?_
    intro⟨k2,v2,raw⟩ hG2
    obtain⟨hk2,hraw2⟩:(k2≤(ix ql i).length)∧(raw=lJ m t a ((ix ql i).take k2)):=hG2
    show Ct _ _ _ _ [(2,fp [sl 1 rE_ m.aC,sl 1 gE m.sT]),(3,fp [sl 1 rE_ t.aC,sl 2 sE t.sT]),(4,ptr 4 b4 0),(5,ptr 5 b5 0),(10,ptr 10 b10 0),(11,ptr 11 b11 0),(14,ptr 14 b14 0),(18,int (a:Int)),(19,osl 19 v2),(86,sl 2 pE (ix ql i)),(87,int ((ix ql i).length:Int)),(88,int (k2:Int)),(9999,tab)] [(4,cell b4 [eqv (.slice none 0 0),eqv (.slice none 0 0)]),(5,cell b5 [bl false]),(8,cell b8 [sl 1 rE_ t.aC,osl 100 v14]),(10,cell b10 [mpv 43 b43]),(11,cell b11 [osl 48 v4]),(13,cell b13 [sl 2 pE (ix ql i)]),(14,cell b14 [osl 140 u14,osl 300 (sv v61)]),(19,own v2 80 2 pE raw),(43,mp b43 smE smD smV mm2),(48,own v4 65 1 gE l2),(100,own v14 79 2 sE aD),(140,own u14 3 1 nE ac),(300,own (sv v61) 3 1 nE nx),(900,obj l (.loop { R with state:= .busy })),(997,dS tab)] _
    have hrl2:raw.length≤2500000*400000:=by
     rw[hraw2];refine Nat.le_trans (Hz hm fun p hp=>by have:=nP hokP (List.mem_of_mem_take hp);omega) (Nat.mul_le_mul_right _ ?_)
     rw[List.length_take];omega
    refine sq (rg (bi J J aZ (nl (th (sq ?_)))))
    refine cd J (fun hc3=> ?_) (fun hc3=> ?_)
    ·try simp at hc3
     have hpb:=nP hokP (aO (l:=(ix ql i)) (by omega:k2<(ix ql i).length))
     have hem:=hm.many (ix (ix ql i) k2).1.toNat O
     have hem2:(ix m.sT (ix (ix ql i) k2).1.toNat).length≤400000:=hem
     have htst:=ht.st (ix (ix ql i) k2).2.toNat O
     have htnl:=htst.len
     refine sk (th (sq (bk (sq (rg (iF J J T.jE O gB (lFA J T.fS (Nat.le_of_ble_eq_true J) (al (key:=21) T.z80 (eC (eC eZ)) fun b21=>(sPA (cs':= [int ((ix (ix ql i) k2).1),int ((ix (ix ql i) k2).2)]) J J J T.fS J J (nl (th (sq (rg (fF J T.bY (lF J J T.dA (iPA J J T.kL T.aH J (lP J J J T.aH (iF J J T.gY O gB (lF J J T.fK (fc (bL 97 J) fun hm97=>(lnF J T.dU (mv (nl (th (bk ?_)))))))))))))))))))))))))
     have hI3_0:0≤(ix m.sT ((ix (ix ql i) k2).1).toNat).length:=by
      first|omega|simp
     have hI3_1:raw=raw++jV t a (ix (ix ql i) k2) ((ix m.sT (ix (ix ql i) k2).1.toNat).take 0):=by
      exact(List.append_nil _).symm
     refine lp (κ:=Nat × Value × (List (Int × Int))) (fun p=> [(2,fp [sl 1 rE_ m.aC,sl 1 gE m.sT]),(3,fp [sl 1 rE_ t.aC,sl 2 sE t.sT]),(4,ptr 4 b4 0),(5,ptr 5 b5 0),(10,ptr 10 b10 0),(11,ptr 11 b11 0),(14,ptr 14 b14 0),(18,int (a:Int)),(19,osl 19 p.2.1),(21,ptr 21 b21 0),(86,sl 2 pE (ix ql i)),(87,int ((ix ql i).length:Int)),(88,int (k2:Int)),(97,sl 2 pE (ix m.sT ((ix (ix ql i) k2).1).toNat)),(98,int ((ix m.sT ((ix (ix ql i) k2).1).toNat).length:Int)),(99,int (p.1:Int)),(9999,tab)]) (fun p=> [(4,cell b4 [eqv (.slice none 0 0),eqv (.slice none 0 0)]),(5,cell b5 [bl false]),(8,cell b8 [sl 1 rE_ t.aC,osl 100 v14]),(10,cell b10 [mpv 43 b43]),(11,cell b11 [osl 48 v4]),(13,cell b13 [sl 2 pE (ix ql i)]),(14,cell b14 [osl 140 u14,osl 300 (sv v61)]),(19,own p.2.1 80 2 pE p.2.2),(21,cell b21 [int ((ix (ix ql i) k2).1),int ((ix (ix ql i) k2).2)]),(43,mp b43 smE smD smV mm2),(48,own v4 65 1 gE l2),(100,own v14 79 2 sE aD),(140,own u14 3 1 nE ac),(300,own (sv v61) 3 1 nE nx),(900,obj l (.loop { R with state:= .busy })),(997,dS tab)]) (fun p=>(p.1≤(ix m.sT ((ix (ix ql i) k2).1).toNat).length)∧(p.2.2=raw++jV t a (ix (ix ql i) k2) ((ix m.sT (ix (ix ql i) k2).1.toNat).take p.1))) (fun p=>(ix m.sT ((ix (ix ql i) k2).1).toNat).length- p.1) ⟨0,v2,raw⟩ ⟨hI3_0,hI3_1⟩ ⟨id,id,id,id,id,id,id,id,id,id,id,id,id,id,id,id,id,tV⟩ ⟨rI,rI,rI,rI,rI,rI,rI,rI,rI,rI,rI,rI,rI,rI,rI,rI,tV⟩ ?_
     intro⟨k3,v3,rw3⟩ hG3
     obtain⟨hk3,hraw3⟩:(k3≤(ix m.sT ((ix (ix ql i) k2).1).toNat).length)∧(rw3=raw++jV t a (ix (ix ql i) k2) ((ix m.sT (ix (ix ql i) k2).1.toNat).take k3)):=hG3
     show Ct _ _ _ _ [(2,fp [sl 1 rE_ m.aC,sl 1 gE m.sT]),(3,fp [sl 1 rE_ t.aC,sl 2 sE t.sT]),(4,ptr 4 b4 0),(5,ptr 5 b5 0),(10,ptr 10 b10 0),(11,ptr 11 b11 0),(14,ptr 14 b14 0),(18,int (a:Int)),(19,osl 19 v3),(21,ptr 21 b21 0),(86,sl 2 pE (ix ql i)),(87,int ((ix ql i).length:Int)),(88,int (k2:Int)),(97,sl 2 pE (ix m.sT ((ix (ix ql i) k2).1).toNat)),(98,int ((ix m.sT ((ix (ix ql i) k2).1).toNat).length:Int)),(99,int (k3:Int)),(9999,tab)] [(4,cell b4 [eqv (.slice none 0 0),eqv (.slice none 0 0)]),(5,cell b5 [bl false]),(8,cell b8 [sl 1 rE_ t.aC,osl 100 v14]),(10,cell b10 [mpv 43 b43]),(11,cell b11 [osl 48 v4]),(13,cell b13 [sl 2 pE (ix ql i)]),(14,cell b14 [osl 140 u14,osl 300 (sv v61)]),(19,own v3 80 2 pE rw3),(21,cell b21 [int ((ix (ix ql i) k2).1),int ((ix (ix ql i) k2).2)]),(43,mp b43 smE smD smV mm2),(48,own v4 65 1 gE l2),(100,own v14 79 2 sE aD),(140,own u14 3 1 nE ac),(300,own (sv v61) 3 1 nE nx),(900,obj l (.loop { R with state:= .busy })),(997,dS tab)] _
     have hrl3:rw3.length≤2500000*400000+k3:=by
      rw[hraw3,List.length_append]
      have:=QL (t:=t) (a:=a) (p:=(ix (ix ql i) k2)) (es:=(ix m.sT (ix (ix ql i) k2).1.toNat)) (k:=k3)
      omega
     refine sq (rg (bi J J aZ (nl (th (sq ?_)))))
     refine cd J (fun hc4=> ?_) (fun hc4=> ?_)
     ·try simp at hc4
      have hed:=hm.ed (ix (ix ql i) k2).1.toNat O _ (aO (l:=(ix m.sT (ix (ix ql i) k2).1.toNat)) (by omega:k3<(ix m.sT (ix (ix ql i) k2).1.toNat).length))
      refine sk (th (sq (bk (sq (rg (iF J J T.dU O gB (lFA J T.dP (Nat.le_of_ble_eq_true J) (al (key:=23) T.z94 (eC (eC eZ)) fun b23=>(sPA (cs':= [int ((ix (ix m.sT ((ix (ix ql i) k2).1).toNat) k3).1),int ((ix (ix m.sT ((ix (ix ql i) k2).1).toNat) k3).2)]) J J J T.dP J J (nl (th (sq (rg (fP J T.eE (lP J J J T.aH (mv (bi J J gF (nl (th ?_)))))))))))))))))))
      refine cd J (fun hc5=> ?_) (fun hc5=> ?_)
      ·try simp at hc5
       refine dr (nh:=15) [0,0,2,0,8,0,32,120,248,504,0,2040,4088,8190,16382,32767,65535] T.mixed kR ?_
       refine st_ J (fun _ _ _ gq kq=>mv' (gq.1.trans J) kq) ?_
       refine st_ J (fun _ _ _ gq kq=>fP (gq.1.trans J) T.eY kq) ?_
       refine st_ J (fun _ _ _ gq kq=>lP (gq.1.trans J) J J T.aH kq) ?_
       refine st_ J (fun _ _ _ gq kq=>fF (gq.1.trans J) T.bO kq) ?_
       refine st_ J (fun _ _ _ gq kq=>lF (gq.1.trans J) J T.cM kq) ?_
       refine st_ J (fun _ _ _ gq kq=>iPA (gq.1.trans J) J T.kL T.aH J kq) ?_
       refine st_ J (fun _ _ _ gq kq=>lP (gq.1.trans J) J J T.aH kq) ?_
       refine st_ J (fun _ _ _ gq kq=>iF (gq.1.trans J) (gq.2.1.trans J) T.dB O gB kq) ?_
       refine st_ J (fun _ _ _ gq kq=>fF (gq.1.trans J) T.eM kq) ?_
       refine st_ J (fun _ _ _ gq kq=>lF (gq.1.trans J) J T.bF kq) ?_
       refine st_ J (fun _ _ _ gq kq=>mv' (gq.1.trans J) kq) ?_
       refine st_ J (fun _ _ _ gq kq=>iF (gq.1.trans J) (gq.2.1.trans J) T.aT O gB kq) ?_
       refine st_ J (fun _ _ _ gq kq=>lF (gq.1.trans J) J T.aH kq) ?_
       refine st_ J (fun _ _ _ gq kq=>bd (css:= [(0,_),(1,_)]) T.xU (eC (eC eZ)) ⟨J,J,p1 (φ:=int ((ix (ix m.sT ((ix (ix ql i) k2).1).toNat) k3).2)) (by exact(gq.1.trans J)),⟨J,J,p1 (φ:=int (ix (ix t.sT ((ix (ix ql i) k2).2).toNat).next a)) (by exact(gq.2.1.trans J)),tV⟩⟩ kq) ?_
       refine st_ J (fun _ _ _ gq kq=>bsE (enc:=pE) (xs:= [((ix (ix m.sT ((ix (ix ql i) k2).1).toNat) k3).2,ix (ix t.sT ((ix (ix ql i) k2).2).toNat).next a)]) (css:= [[int ((ix (ix m.sT ((ix (ix ql i) k2).1).toNat) k3).2),int (ix (ix t.sT ((ix (ix ql i) k2).2).toNat).next a)]]) T.rT ⟨J,J,pA (cs:= [int ((ix (ix m.sT ((ix (ix ql i) k2).1).toNat) k3).2),int (ix (ix t.sT ((ix (ix ql i) k2).2).toNat).next a)]) (by exact(gq.1.trans J)),tV⟩ J J J J kq) ?_
       refine pn (ap (key:=19) (zs:= [((ix (ix m.sT ((ix (ix ql i) k2).1).toNat) k3).2,ix (ix t.sT ((ix (ix ql i) k2).2).toNat).next a)]) cB J J J T.rT (by unfold aN at*;simp;omega) (by unfold aN at*;simp;omega) fun v122=>(ag (nl (eb (th (rg (bi J J (aM i6) (mv (nl ?_)))))))))
       have hN0:(k3+1)≤(ix m.sT ((ix (ix ql i) k2).1).toNat).length:=by
        first|omega|simp_all
       have hN1:(rw3++ [((ix (ix m.sT ((ix (ix ql i) k2).1).toNat) k3).2,ix (ix t.sT ((ix (ix ql i) k2).2).toNat).next a)])=raw++jV t a (ix (ix ql i) k2) ((ix m.sT (ix (ix ql i) k2).1.toNat).take (k3+1)):=by
        rw[QK O (by simpa using hc5),hraw3,List.append_assoc]
       exact ln (⟨k3+1,v122,rw3++ [((ix (ix m.sT ((ix (ix ql i) k2).1).toNat) k3).2,ix (ix t.sT ((ix (ix ql i) k2).2).toNat).next a)]⟩:Nat × Value × (List (Int × Int))) ⟨hN0,hN1⟩ dO ⟨id,id,id,id,id,id,id,id,id,id,id,id,id,id,id,id,id,tV⟩ ⟨rI,rI,rI,rI,rI,rI,rI,rI,rI,rI,rI,rI,rI,rI,rI,rI,tV⟩
      ·try simp at hc5
       refine sk (eb (th (rg (bi J J (aM i6) (mv (nl ?_))))))
       have hN0:(k3+1)≤(ix m.sT ((ix (ix ql i) k2).1).toNat).length:=by
        first|omega|simp_all
       have hN1:rw3=raw++jV t a (ix (ix ql i) k2) ((ix m.sT (ix (ix ql i) k2).1.toNat).take (k3+1)):=by
        rw[Uq O (by simpa using hc5),hraw3]
       exact ln (⟨k3+1,v3,rw3⟩:Nat × Value × (List (Int × Int))) ⟨hN0,hN1⟩ dO ⟨id,id,id,id,id,id,id,id,id,id,id,id,id,id,id,id,id,tV⟩ ⟨rI,rI,rI,rI,rI,rI,rI,rI,rI,rI,rI,rI,rI,rI,rI,rI,tV⟩
     ·try simp at hc4
      refine ex (xt_ (xt_ (xb (eb (th (rg (bi J J (aM i6) (mv (nl ?_)))))))))
      have hN0:(k2+1)≤(ix ql i).length:=by
       first|omega|simp_all
      have hN1:rw3=lJ m t a ((ix ql i).take (k2+1)):=by
       rw[Oc O,←hraw2,hraw3,List.take_of_length_le O]
      exact ln (⟨k2+1,v3,rw3⟩:Nat × Value × (List (Int × Int))) ⟨hN0,hN1⟩ dO ⟨id,id,id,id,id,id,id,id,id,id,id,id,id,tV⟩ ⟨rI,rI,rI,rI,rI,rI,rI,rI,rI,rI,rI,rI,rI,rI,rI,tV⟩
    ·try simp at hc3
     refine ex (xt_ (xt_ (xb (th (sq (rg (mv ?_)))))))
     have hraw:raw=lJ m t a (ix ql i):=by rw[hraw2,List.take_of_length_le O]
     have hbd:∀p∈raw,bdP p:=fun p hp=>by rw[hraw] at hp;exact XB hm ht hokP hha2 hp
     have hrl:raw.length≤2500000*400000:=by
      rw[hraw];exact Nat.le_trans (Hz hm fun p hp=>by have:=nP hokP hp;omega) (Nat.mul_le_mul_right _ hPl2)
     have hsr:(bT raw).length=raw.length:=(fJ raw).length_eq
     refine cal (Hi:= [(19,own v2 80 2 pE raw)]) (φs:= [osl 5 v2,eqv (.func (.func 101) #[] #[])]) ⟨dV.trans dV.symm,rfl,tV⟩ (nM 5 19 (sortE.Ip v2 raw aS)) T.Nk ⟨rI,tV⟩ fun _ _=>(nl (th (sq (rg (mv ?_)))))
     have hcz:Lib.compact (bT raw)=(gN m t (ix ql i) a):=by rw[hraw];exact QM hm ht hokP hha2
     refine cal (Hi:= [(19,own v2 80 2 pE (bT raw))]) (φs:= [osl 19 v2]) ⟨rfl,tV⟩ (Dy 55 19 (comp2.NI 19 v2 (bT raw) O)) T.WP ⟨rI,tV⟩ fun _ v128=>(ag (nl (th (sq (rg (fz 19 19 rfl rfl (kn 19 (sl 2 pE (gN m t (ix ql i) a)) rfl (by rw[hcz];exact fun h=>h) (mv (tbU (ψ:=tab) 129 9999 rfl rfl (bI (φs:= [both (sl 2 pE (gN m t (ix ql i) a)) tab]) (φ:=str (pkB (gN m t (ix ql i) a))) ⟨rfl,tV⟩ (pkey.CP (gN m t (ix ql i) a) aS aS) T.RP (ag (nl (th (sq (rg (lP rfl rfl rfl T.HF (mv (uQ (z:=0) (q:=pkB (gN m t (ix ql i) a)) rfl rfl jX T.qM hks T.zv3 (mv (xt rfl rfl (xt rfl rfl (ag (ag (nl (th (sq (sq (rg (mv (no rfl (nl (th ?_))))))))))))))))))))))))))))))))
     refine cd J (fun hc6=> ?_) (fun hc6=> ?_)
     ·skip
      have h5:(bJ mm2 (pkB (gN m t (ix ql i) a))).isSome=false:=by simpa using hc6
      refine sq (sq (rg (lP J J J T.xA (lnO J J T.Ay (bi J J gF (nl (th ?_)))))))
      refine cd J (fun hc7=> ?_) (fun hc7=> ?_)
      ·try simp at hc7
       have h6:(l2.length:Int)=500:=by omega
       refine sq (rg (bd (css:= []) T.uB (eC (eC eZ)) trivial (sPA (cs':= [eqv (.slice none 0 0),eqv (.slice none 0 0)]) J J J T.bA J J (sP (φ:=bl false) J J J T.iG J (nl (th (rt (rt_ (rt_ (rb ?_))))))))))
       have hRr:500<(gL m t).length:=by
        exact Tw hG hQW hR0 hc0 (zV m t _ a) hx2 rfl h5 h6
       exact rqR ⟨v4,l2,mm2,nx⟩ ⟨rfl,hRr⟩ ⟨rI,rI,rI,rI,rI,rI,rI,rI,rI,rI,rI,rI,rI,rI,tV⟩
      ·try simp at hc7
       refine sk (th (sq (rg (lP J J J T.xA (lnO J J T.Ay (ag (nl (th (sq (rg (lP J J J T.HF (mv (mv (mapUpdate (q:=pkB (gN m t (ix ql i) a)) (u:=(l2.length:Int)) J J jX J T.qM hks (nl (th (rg (lP J J J T.xA (mv (bsE (enc:=gE) (xs:= [(gN m t (ix ql i) a)]) (css:= [[sl 2 pE (gN m t (ix ql i) a)]]) T.Kr ⟨J,J,p1 (φ:=sl 2 pE (gN m t (ix ql i) a)) J,tV⟩ J J J J (ap (key:=48) (zs:= [(gN m t (ix ql i) a)]) cB J J J T.Kr (by unfold aN at*;simp;omega) (by unfold aN at*;simp;omega) fun v151=>(cK J J J J T.xA J (nl (th (rg (fP J T.eM (lP J J J T.bF (mv (mv (iO J J J T.aT O O (sO (φ:=int (l2.length:Int)) J J J T.aH gB J (y':=(l2.length:Int)) J (nl (eb ?_)))))))))))))))))))))))))))))))))
       have hN0:GN (gA m t) (gN m t) (gOk m t) pkB t.aC.length (gL m t) i ql (m0+1) (l2++ [(gN m t (ix ql i) a)]) (bQ mm2 (pkB (gN m t (ix ql i) a)) (l2.length:Int)) (nx.set a (l2.length:Int)):=by
        exact VT hG hQW hR0 hc0 (zV m t _ a) hx2 hal8 rfl h5 O
       exact rqN ⟨v151,l2++ [(gN m t (ix ql i) a)],bQ mm2 (pkB (gN m t (ix ql i) a)) (l2.length:Int),nx.set a (l2.length:Int)⟩ hN0 ⟨rI,rI,rI,rI,rI,rI,rI,rI,rI,rI,rI,rI,rI,rI,tV⟩
     ·skip
      have h5:(bJ mm2 (pkB (gN m t (ix ql i) a))).isSome=true:=by simpa using hc6
      refine sk (th (rg (fP J T.eM (lP J J J T.bF (mv (mv (iO J J J T.aT O O (sO (φ:=int ((bJ mm2 (pkB (gN m t (ix ql i) a))).getD 0)) J J J T.aH gB J (y':=((bJ mm2 (pkB (gN m t (ix ql i) a))).getD 0)) J (nl (eb ?_))))))))))
      have hN0:GN (gA m t) (gN m t) (gOk m t) pkB t.aC.length (gL m t) i ql (m0+1) l2 mm2 (nx.set a ((bJ mm2 (pkB (gN m t (ix ql i) a))).getD 0)):=by
       exact VS hG hQW hR0 hc0 (zV m t _ a) hx2 hal8 rfl h5
      exact rqN ⟨v4,l2,mm2,nx.set a ((bJ mm2 (pkB (gN m t (ix ql i) a))).getD 0)⟩ hN0 ⟨rI,rI,rI,rI,rI,rI,rI,rI,rI,rI,rI,rI,rI,rI,tV⟩
   ·intro⟨v4,l2,mm2,nx⟩ hG0
    have hR0:GN (gA m t) (gN m t) (gOk m t) pkB t.aC.length (gL m t) i ql (aL 63 cn).length l2 mm2 nx:=hG0
    show At _ _ _ _ [(4,cell b4 [eqv (.slice none 0 0),eqv (.slice none 0 0)]),(5,cell b5 [bl false]),(8,cell b8 [sl 1 rE_ t.aC,osl 100 v14]),(10,cell b10 [mpv 43 b43]),(11,cell b11 [osl 48 v4]),(13,cell b13 [sl 2 pE (ix ql i)]),(14,cell b14 [osl 140 u14,osl 300 (sv v61)]),(43,mp b43 smE smD smV mm2),(48,own v4 65 1 gE l2),(100,own v14 79 2 sE aD),(140,own u14 3 1 nE ac),(300,own (sv v61) 3 1 nE nx),(997,dS tab)]
    refine eb (th (rg (fP rfl T.bO (lP rfl rfl rfl T.cM (fzc 14 140 0 rfl rfl rfl rfl (fzc 14 300 1 rfl rfl rfl rfl (lPA rfl rfl T.eO rfl (bsE (enc:=sE) (xs:= [(⟨ac,nx⟩)]) (css:= [[sl 1 nE ac,sl 1 nE nx]]) T.rP ⟨rfl,rfl,pA (cs:= [sl 1 nE ac,sl 1 nE nx]) rfl,tV⟩ rfl rfl rfl rfl (ap (key:=100) (zs:= [(⟨ac,nx⟩)]) cB rfl rfl rfl T.rP (by unfold aN at*;simp;omega) (by unfold aN at*;simp;omega) fun v161=>(fP rfl T.bO (cK rfl rfl rfl rfl T.cM rfl (nl (eb (th (rg (mv (bi rfl rfl (aM i6) (ag (nl ?_)))))))))))))))))))
    have hN0:GW (gA m t) (gN m t) (gOk m t) pkB t.aC.length (2^ (m.sT.length*t.sT.length)) (gL m t) (i+1) l2 mm2 (aD++ [(⟨ac,nx⟩)]):=by
     rw[show aL 63 cn=dQ (gA m t) (ix ql i) from hcn3] at hR0
     rw[hac2]
     exact VU hG hQW hR0 hc0
    exact ln (⟨i+1,v4,l2,mm2,v161,aD++ [(⟨ac,nx⟩)]⟩:Nat × Value × (List (List (Int × Int))) × (List (ByteArray × Int)) × Value × (List SA)) hN0 (by have:=hQW.few;show 501- (i+1)<501- i;omega) ⟨id,id,id,id,id,id,id,id,id,id,id,tV⟩ ⟨rI,rI,rI,rI,rI,rI,rI,rI,rI,tV⟩
   ·intro⟨v4,l2,mm2,nx⟩ hS0
    have hRt0:500<(gL m t).length:=hS0.2
    show At _ _ _ _ [(4,cell b4 [eqv (.slice none 0 0),eqv (.slice none 0 0)]),(5,cell b5 [bl false]),(8,cell b8 [sl 1 rE_ t.aC,osl 100 v14]),(10,cell b10 [mpv 43 b43]),(11,cell b11 [osl 48 v4]),(13,cell b13 [sl 2 pE (ix ql i)]),(14,cell b14 [osl 140 u14,osl 300 (sv v61)]),(43,mp b43 smE smD smV mm2),(48,own v4 65 1 gE l2),(100,own v14 79 2 sE aD),(140,own u14 3 1 nE ac),(300,own (sv v61) 3 1 nE nx),(997,dS tab)]
    refine rb (rt_ (rb (rt_ (rt_ (rb (rt_ ?_))))))
    refine eB 4 0 (sl 1 rE_ []) rfl rfl slnil ?_
    refine eB 4 1 (sl 2 sE []) rfl rfl slnil ?_
    have hr0: []=((aY m t).1).aC:=by
     rw[HE hRt0]
    have hr1: []=((aY m t).1).sT:=by
     rw[HE hRt0]
    have hr2:false=((aY m t).2):=by
     rw[HE hRt0]
    exact rE () [.cell 4 28,.cell 5 4] J [agg [sl 1 rE_ [],sl 2 sE []],bl false] ⟨.agg J J T.bA J J,.one J J T.iG J,tV⟩ (cA3 (fun x0 x1 x2=>rV [agg [sl 1 rE_ x0,sl 2 sE x1],bl x2]) hr0 hr1 hr2) trivial eX
 ·try simp at hc0
  have hdn:=Jv hQW O
  have hq5:(gL m t).length≤500:=VV hQW O
  have hq1:=Ut hq5
  have hqok:oK (gD m t):=DI ht (CE hm ht) O
  refine ex (xt_ (xt_ (xb (th (sq (rg (fzc 8 100 1 J J J J (lPA J J T.bA J (kn 164 (spec (gD m t)) J (by rw[show aD=(gD m t).sT from hdn.2];exact fun h=>h) (eI (φs:= [agg [sl 1 rE_ (gD m t).aC,sl 2 sE (gD m t).sT]]) (φ:=tup [agg [sl 1 rE_ ((tR (gD m t)).1.aC),sl 2 sE ((tR (gD m t)).1.sT)],sl 1 nE ((tR (gD m t)).2)]) ⟨J,tV⟩ (prog9.wB (gD m t) aS) T.KZ (fun N hN=>fun h=>pZ (cs:= [agg [fre N (sl 1 rE_ ((tR (gD m t)).1.aC)),frb (ix (hOl (gD m t)) 0) N (sl 2 sE ((tR (gD m t)).1.sT))],sl 1 nE ((tR (gD m t)).2)]) (ds:= [agg [sl 1 rE_ ((tR (gD m t)).1.aC),sl 2 sE ((tR (gD m t)).1.sT)],sl 1 nE ((tR (gD m t)).2)]) ⟨fun h=>cV (cs:= [fre N (sl 1 rE_ ((tR (gD m t)).1.aC)),frb (ix (hOl (gD m t)) 0) N (sl 2 sE ((tR (gD m t)).1.sT))]) (ds:= [sl 1 rE_ ((tR (gD m t)).1.aC),sl 2 sE ((tR (gD m t)).1.sT)]) ⟨fun h=>bV h,fun h=>BK h,tV⟩ h,fun h=>h,tV⟩ h) (mv (xt J J (xt J J (sPA (cs':= [sl 1 rE_ ((tR (gD m t)).1.aC),sl 2 sE ((tR (gD m t)).1.sT)]) J J J T.bA J J (nl (th (sq (rg (lPA J J T.bA J (sPA (cs':= [sl 1 rE_ ((tR (gD m t)).1.aC),sl 2 sE ((tR (gD m t)).1.sT)]) J J J T.bA J J (sP (φ:=bl true) J J J T.iG J (nl (th (rt ?_))))))))))))))))))))))))
  have hr0:((tR (gD m t)).1.aC)=((aY m t).1).aC:=by
   rw[hq1]
  have hr1:((tR (gD m t)).1.sT)=((aY m t).1).sT:=by
   rw[hq1]
  have hr2:true=((aY m t).2):=by
   rw[hq1]
  exact rE () [.cell 4 28,.cell 5 4] J [agg [sl 1 rE_ ((tR (gD m t)).1.aC),sl 2 sE ((tR (gD m t)).1.sT)],bl true] ⟨.agg J J T.bA J J,.one J J T.iG J,tV⟩ (cA3 (fun x0 x1 x2=>rV [agg [sl 1 rE_ x0,sl 2 sE x1],bl x2]) hr0 hr1 hr2) trivial eX
theorem HH (m:aA) (t:SS) (hts:dH t):
 Fn0 Tryz.prog 16 [mE (sys m),spec t] (tup [spec (gdS m t).1,int (gdS m t).2]):=by
 refine fnI Tryz.func16 rfl rfl (fun w0 F0=> ?_)
 refine tbI 0 9999 rfl ?_
 refine fcC (bW 0 J) (fun hS0=> ?_)
 obtain⟨hma0,hms0,hme0⟩:=cJ hS0
 refine fcC (bW 1 J) (fun hS1=> ?_)
 obtain⟨hsa1,hss1,hse1⟩:=sLn hS1
 refine sq (rg (bx (key:=2) (cs:= [sl 1 rE_ m.aC,sl 1 gE m.sT]) J fun b2=>(bx (key:=3) (cs:= [sl 1 rE_ t.aC,sl 2 sE t.sT]) J fun b3=>(al (key:=4) T.z28 (eC (eC eZ)) fun b4=>(ag (nl (th (sq (sq (rg (lPA J J T.aU J (lPA J J T.bA J (bI (φs:= [agg [sl 1 rE_ m.aC,sl 1 gE m.sT],agg [sl 1 rE_ t.aC,sl 2 sE t.sT]]) (φ:=int (bK m t)) ⟨J,J,tV⟩ (satj.vA m t aS) T.KU (ag (nl (th (sq (rg (mv (bi J J fV (nl (th ?_))))))))))))))))))))))
 refine cd J (fun hc0=> ?_) (fun hc0=> ?_)
 ·try simp at hc0
  have hd:gdS m t=(⟨[],[]⟩,bK m t):=by unfold gdS;rw[if_neg hc0]
  refine sq (rg (bd (css:= []) T.uB (eC (eC eZ)) trivial (mv (sPA (cs':= [eqv (.slice none 0 0),eqv (.slice none 0 0)]) J J J T.bA J J (ag (nl (th (rt (rt_ ?_)))))))))
  refine eB 4 0 (sl 1 rE_ []) rfl rfl slnil ?_
  refine eB 4 1 (sl 2 sE []) rfl rfl slnil ?_
  have hr0: []=((gdS m t).1).aC:=by
   rw[hd]
  have hr1: []=((gdS m t).1).sT:=by
   rw[hd]
  have hr2:((bK m t):Int)=((gdS m t).2):=by
   rw[hd]
  exact rE () [.cell 4 28,.tmp 5] J [agg [sl 1 rE_ [],sl 2 sE []],int (bK m t)] ⟨.agg J J T.bA J J,.tmp J,tV⟩ (cA3 (fun x0 x1 x2=>rV [agg [sl 1 rE_ x0,sl 2 sE x1],int x2]) hr0 hr1 hr2) trivial eX
 ·try simp at hc0
  obtain⟨hmv,htv,hmt⟩:=lB hc0
  have hm:=cU hmv
  have ht:=eJ htv
  refine sk (th (sq (rg (lPA J J T.aU J (lPA J J T.bA J (tbU (ψ:=tab) 17 9999 J J (bI (φs:= [both (agg [sl 1 rE_ m.aC,sl 1 gE m.sT]) tab,agg [sl 1 rE_ t.aC,sl 2 sE t.sT]]) (φ:=tup [agg [sl 1 rE_ ((aY m t).1).aC,sl 2 sE ((aY m t).1).sT],bl ((aY m t).2)]) ⟨J,J,tV⟩ (mkg.HG m aS t aS aS) T.RR (mv (xt J J (xt J J (al (key:=7) T.z28 (eC (eC eZ)) fun b7=>(sPA (cs':= [sl 1 rE_ ((aY m t).1).aC,sl 2 sE ((aY m t).1).sT]) J J J T.bA J J (ag (nl (th (sq (sq (rg (mv (no J (nl (th ?_))))))))))))))))))))))
  refine cd J (fun hc1=> ?_) (fun hc1=> ?_)
  ·try simp at hc1
   have hd:gdS m t=(⟨[],[]⟩,2):=by unfold gdS;rw[if_pos hc0,if_neg (by simpa using hc1)]
   refine sq (rg (bd (css:= []) T.uB (eC (eC eZ)) trivial (sPA (cs':= [eqv (.slice none 0 0),eqv (.slice none 0 0)]) J J J T.bA J J (ag (nl (th (rt (rt_ ?_))))))))
   refine eB 4 0 (sl 1 rE_ []) rfl rfl slnil ?_
   refine eB 4 1 (sl 2 sE []) rfl rfl slnil ?_
   have hr0: []=((gdS m t).1).aC:=by
    rw[hd]
   have hr1: []=((gdS m t).1).sT:=by
    rw[hd]
   have hr2:(2:Int)=((gdS m t).2):=by
    rw[hd]
   exact rE () [.cell 4 28,.tmp 5] J [agg [sl 1 rE_ [],sl 2 sE []],int 2] ⟨.agg J J T.bA J J,.tmp J,tV⟩ (cA3 (fun x0 x1 x2=>rV [agg [sl 1 rE_ x0,sl 2 sE x1],int x2]) hr0 hr1 hr2) trivial eX
  ·try simp at hc1
   have hd:gdS m t=((aY m t).1,0):=by unfold gdS;rw[if_pos hc0,if_pos (by simpa using hc1)]
   refine sk (th (sq (rg (lPA J J T.bA J (sPA (cs':= [sl 1 rE_ ((aY m t).1).aC,sl 2 sE ((aY m t).1).sT]) J J J T.bA J J (ag (nl (th (rt ?_)))))))))
   have hr0:((aY m t).1).aC=((gdS m t).1).aC:=by
    rw[hd]
   have hr1:((aY m t).1).sT=((gdS m t).1).sT:=by
    rw[hd]
   have hr2:(0:Int)=((gdS m t).2):=by
    rw[hd]
   exact rE () [.cell 4 28,.tmp 5] J [agg [sl 1 rE_ ((aY m t).1).aC,sl 2 sE ((aY m t).1).sT],int 0] ⟨.agg J J T.bA J J,.tmp J,tV⟩ (cA3 (fun x0 x1 x2=>rV [agg [sl 1 rE_ x0,sl 2 sE x1],int x2]) hr0 hr1 hr2) trivial eX
end mkg
end
section
open ref01 ref03 ref04 ref06 prog prog2 prog3 prog6 prog13 starts Part Rungs LeftM TrimM RoundM BisM BisM5 WalkM WitM JudgM refw judg wit refj sysw FailM FitM PartM QuoM TogM ProdM satj
noncomputable def dK (m n:aA):Int:=if bM m=true then(if bM n=true then(if m.aC=n.aC then 0 else 10) else 20) else 20
theorem xB {m n:aA} (h:dK m n=0):bM m=true∧bM n=true∧m.aC=n.aC:=by
 unfold dK at h
 split at h
 ·next g1=>
  split at h
  ·next g2=>
   split at h
   ·next g3=>exact⟨g1,g2,g3⟩
   ·exact absurd h (by decide)
  ·exact absurd h (by decide)
 ·exact absurd h (by decide)
namespace T
theorem HI:jN Tryz.prog 149 80 3 cD eQ:=Gy Tryz.underlying149 Tryz.underlying80 kR (by decide+kernel) kR kR ⟨Tryz.underlying3,by kernel_rfl⟩ kR
theorem WR:Ent Tryz.prog 115:=aR kR
end T
namespace prodw
theorem Uw (m n:aA):
 Fn0 Tryz.prog 115 [sys m,sys n] (int (dK m n)):=by
 refine fnI Tryz.func115 rfl rfl (fun w0 F0=> ?_)
 refine fcC (bW 0 J) (fun hS0=> ?_)
 obtain⟨hma0,hms0,hme0⟩:=cJ hS0
 refine fcC (bW 1 J) (fun hS1=> ?_)
 obtain⟨hma1,hms1,hme1⟩:=cJ hS1
 refine sq (rg (bx (key:=2) (cs:= [sl 1 rE_ m.aC,sl 1 gE m.sT]) J fun b2=>(bx (key:=3) (cs:= [sl 1 rE_ n.aC,sl 1 gE n.sT]) J fun b3=>(ag (nl (th (sq (bk (sq (rg (lPA J J T.aU J (bI (φs:= [agg [sl 1 rE_ m.aC,sl 1 gE m.sT]]) (φ:=bl (bM m)) ⟨J,tV⟩ (sysw.iB m) T.wP (no J (mv ?_))))))))))))))
 apply gOr (t:=9) (pd:=13) rfl
 rotate_left
 ·intro hg0 fin
  have hg0':=hg0
  try simp at hg0'
  exact gy J J J hg0 (lPA J J T.aU J (gy J J J hg0 (bI (φs:= [agg [sl 1 rE_ n.aC,sl 1 gE n.sT]]) (φ:=bl (bM n)) ⟨J,tV⟩ (sysw.iB n) T.wP (gy J J J hg0 (no J (pkF J hg0 J (drp (X:= [(12,_),(11,_),(10,_)]) ⟨J,J,J,tV⟩ fin)))))))
 ·intro hg0 fin
  exact gn J J J hg0 J J (gn J J J hg0 J J (gn J J J hg0 J J (pkT J hg0 J (drp (X:= [(12,_),(11,_),(10,_)]) ⟨J,J,J,tV⟩ fin))))
 refine ag (nl (th ?_))
 refine cd J (fun hc0=> ?_) (fun hc0=> ?_)
 ·try simp at hc0
  refine sq (rg (ag (nl (th (rt (rb (rt_ ?_)))))))
  have hr0:(20:Int)=(dK m n):=by
   unfold dK;cases h1:bM m<;>cases h2:bM n<;>simp_all
  exact rE () [.tmp 4] J [int 20] ⟨.tmp J,tV⟩ (cA1 (fun x0=>rV [int x0]) hr0) trivial eX
 ·try simp at hc0
  refine sq (rg (fP J T.hU (lP J J J T.dE (fP J T.hU (lP J J J T.dE (bI (φs:= [sl 1 rE_ m.aC,sl 1 rE_ n.aC]) (φ:=bl (decide (m.aC=n.aC))) ⟨J,J,tV⟩ (prog.iY _ _) T.zI (no J (ag (nl (th ?_))))))))))
  refine cd J (fun hc1=> ?_) (fun hc1=> ?_)
  ·try simp at hc1
   refine sq (rg (ag (nl (th (rt (rb (rt_ ?_)))))))
   have hr0:(10:Int)=(dK m n):=by
    unfold dK;cases h1:bM m<;>cases h2:bM n<;>simp_all
   exact rE () [.tmp 4] J [int 10] ⟨.tmp J,tV⟩ (cA1 (fun x0=>rV [int x0]) hr0) trivial eX
  ·try simp at hc1
   refine sk (eb (th (sq (rg (ag (nl (th (rt ?_))))))))
   have hr0:(0:Int)=(dK m n):=by
    unfold dK;cases h1:bM m<;>cases h2:bM n<;>simp_all
   exact rE () [.tmp 4] J [int 0] ⟨.tmp J,tV⟩ (cA1 (fun x0=>rV [int x0]) hr0) trivial eX
theorem CQ (m n:aA) (hz:m.sT.length*n.sT.length<5000) (hz2:bP m.sT*bP n.sT≤400000):
 AL.Fn Tryz.prog 69 [sys m,sys n] [] (ι:= { z:aA × List (Int × Int)//(dK m n≠0→z=(⟨[],[]⟩,[]))∧(dK m n=0→jC m n z.1 z.2) }) (fun _ i=>tup [agg [strs i.1.1.aC,sl 1 gE i.1.1.sT],sl 2 pE i.1.2,int (dK m n)]) (fun _=> []):=by
 refine fnI Tryz.func69 rfl rfl (fun w0 F0=> ?_)
 refine fcC (bW 0 J) (fun hS0=> ?_)
 obtain⟨hma0,hms0,hme0⟩:=cJ hS0
 refine fcC (bW 1 J) (fun hS1=> ?_)
 obtain⟨hma1,hms1,hme1⟩:=cJ hS1
 refine sq (rg (bx (key:=2) (cs:= [sl 1 rE_ m.aC,sl 1 gE m.sT]) J fun b2=>(bx (key:=3) (cs:= [sl 1 rE_ n.aC,sl 1 gE n.sT]) J fun b3=>(al (key:=4) T.z25 (eC (eC eZ)) fun b4=>(ag (ag (nl (th (sq (sq (rg (lPA J J T.aU J (lPA J J T.aU J (bI (φs:= [agg [sl 1 rE_ m.aC,sl 1 gE m.sT],agg [sl 1 rE_ n.aC,sl 1 gE n.sT]]) (φ:=int (dK m n)) ⟨J,J,tV⟩ (prodw.Uw m n) T.WR (ag (nl (th (sq (rg (mv (bi J J fV (nl (th ?_)))))))))))))))))))))))
 refine cd J (fun hc0=> ?_) (fun hc0=> ?_)
 ·try simp at hc0
  refine sq (rg (bd (css:= []) T.mW (eC (eC eZ)) trivial (mv (sPA (cs':= [eqv (.slice none 0 0),eqv (.slice none 0 0)]) J J J T.aU J J (ag (ag (nl (th (rt (rt_ ?_))))))))))
  refine eB 4 0 (sl 1 rE_ []) rfl rfl slnil ?_
  refine eB 4 1 (sl 1 gE []) rfl rfl slnil ?_
  refine knA 5 (sl 2 pE []) rfl slnil ?_
  exact rE ⟨(⟨[],[]⟩,[]),⟨fun _=>J,fun h=>absurd h hc0⟩⟩ [.cell 4 25,.tmp 5,.tmp 6] J [agg [sl 1 rE_ [],sl 1 gE []],sl 2 pE [],int (dK m n)] ⟨.agg J J T.aU J J,.tmp J,.tmp J,tV⟩ J trivial eX
 ·try simp at hc0
  obtain⟨hmv,hnv,hmn⟩:=xB hc0
  have hm:=cU hmv
  have hn:=cU hnv
  have f0:=hm.few0
  have f1:=hn.few0
  have f2:=hm.few1
  have f3:=hn.few1
  have hm8:=hm.n8
  refine sk (th (sq (rg (mkm (key:=29) (kE:=cD) (dom:=eQ) (vE:=iC) fun b29=>(bd (css:= [(0,_),(1,_)]) T.xU (eC (eC eZ)) ⟨J,J,p1 (φ:=int 0) J,⟨J,J,p1 (φ:=int 0) J,tV⟩⟩ (AL.insert (q:=(0,0)) (u:=0) J J eK J T.HI ⟨⟨O,O⟩,⟨O,O⟩⟩ (mv (ag (nl (th (sq (rg (bd (css:= [(0,_),(1,_)]) T.xU (eC (eC eZ)) ⟨J,J,p1 (φ:=int 0) J,⟨J,J,p1 (φ:=int 0) J,tV⟩⟩ (bsO 33 (enc:=pE) (xs:= [(0,0)]) (css:= [[int 0,int 0]]) T.rT ⟨J,J,pA (cs:= [int 0,int 0]) J,tV⟩ J J J J fun v33=>(ag (nl (th (sq (rg (fP J T.hU (lP J J J T.dE (eI (φs:= [sl 1 rE_ m.aC]) (φ:=sl 1 rE_ m.aC) ⟨J,tV⟩ (prog.fI _ O) T.rA (fun N hN=>fun h=>bV h) (bd (css:= [(0,_)]) T.mW (eC (eC eZ)) ⟨J,J,p1 (φ:=sl 1 rE_ m.aC) J,tV⟩ (al (key:=10) T.z25 (eC (eC eZ)) fun b10=>(sPA (cs':= [sl 1 rE_ m.aC,eqv (.slice none 0 0)]) J J J T.aU J J (nl (th (sq (rg (ag (nl (th (sq (sq (rg (ag (nl (th (bk ?_)))))))))))))))))))))))))))))))))))))))
  refine nwC 130 87 1 gE (nS 10 1 (osl 130 (.slice none 0 0)) rfl rfl dR ?_)
  have hI0_0:PI m n 0 ([(0,0)]:List (Int × Int)) (bQ ([]:List ((Int × Int) × Int)) (0,0) 0) ([]:List (List (Int × Int)))∧0≤gZ m n ([(0,0)]:List (Int × Int)) 0:=by
   exact⟨TC f0 f1,by simp[gZ]⟩
  refine lp (κ:=Nat × Nat × Value × (List (Int × Int)) × (List ((Int × Int) × Int)) × Value × (List (List (Int × Int)))) (fun p=> [(2,ptr 2 b2 0),(3,ptr 3 b3 0),(4,ptr 4 b4 0),(8,mpv 29 b29),(9,osl 33 p.2.2.1),(10,ptr 10 b10 0),(11,int (p.2.1:Int)),(12,int (p.1:Int))]) (fun p=> [(2,cell b2 [sl 1 rE_ m.aC,sl 1 gE m.sT]),(3,cell b3 [sl 1 rE_ n.aC,sl 1 gE n.sT]),(4,cell b4 [eqv (.slice none 0 0),eqv (.slice none 0 0)]),(10,cell b10 [sl 1 rE_ m.aC,osl 130 p.2.2.2.2.2.1]),(29,mp b29 cD eQ iC p.2.2.2.2.1),(33,own p.2.2.1 80 2 pE p.2.2.2.1),(130,own p.2.2.2.2.2.1 87 1 gE p.2.2.2.2.2.2)]) (fun p=>PI m n p.1 p.2.2.2.1 p.2.2.2.2.1 p.2.2.2.2.2.2∧p.2.1≤gZ m n p.2.2.2.1 p.1) (fun p=>m.sT.length*n.sT.length- p.1) ⟨0,0,v33,([(0,0)]:List (Int × Int)),bQ ([]:List ((Int × Int) × Int)) (0,0) 0,(.slice none 0 0),([]:List (List (Int × Int)))⟩ hI0_0 ⟨id,id,id,id,id,id,id,id,tV⟩ ⟨rI,rI,rI,rI,rI,rI,rI,tV⟩ ?_
  intro⟨i,c,v,q,mm,uo,aD⟩ hG0
  obtain⟨hPI,hcn⟩:PI m n i q mm aD∧c≤gZ m n q i:=hG0
  show Ct _ _ _ _ [(2,ptr 2 b2 0),(3,ptr 3 b3 0),(4,ptr 4 b4 0),(8,mpv 29 b29),(9,osl 33 v),(10,ptr 10 b10 0),(11,int (c:Int)),(12,int (i:Int))] [(2,cell b2 [sl 1 rE_ m.aC,sl 1 gE m.sT]),(3,cell b3 [sl 1 rE_ n.aC,sl 1 gE n.sT]),(4,cell b4 [eqv (.slice none 0 0),eqv (.slice none 0 0)]),(10,cell b10 [sl 1 rE_ m.aC,osl 130 uo]),(29,mp b29 cD eQ iC mm),(33,own v 80 2 pE q),(130,own uo 87 1 gE aD)] _
  have hql:=GM hPI
  have hil:=hPI.il
  have hol:aD.length=i:=by rw[hPI.out];simp
  have hcl0:=GP hPI i
  refine sq (sq (rg (mv (mv (lnO J J T.jE (bi J J aZ (nl (th ?_))))))))
  refine cd J (fun hc1=> ?_) (fun hc1=> ?_)
  ·try simp at hc1
   obtain⟨hb0,hb1,hb2,hb3⟩:=hPI.box _ (aO hc1)
   have hml:=hm.many (ix q i).1.toNat O
   have hnl:=hn.many (ix q i).2.toNat O
   have hml2:(ix m.sT (ix q i).1.toNat).length≤400000:=hml
   have hnl2:(ix n.sT (ix q i).2.toNat).length≤400000:=hnl
   refine sk (th (sq (bk (sq (rg (nw 13 94 2 pE (ag (rtg (key:=13) 13 J (nl (th (sq (rg (mv (mv (iO J J J T.jE O O (lOA J J gB T.fS (by decide) (al (key:=14) T.z80 (eC (eC eZ)) fun b14=>(sPA (cs':= [int ((ix q i).1),int ((ix q i).2)]) J J J T.fS J J (nl (th (sq (sq (rg (fP J T.bY (lP J J J T.dA (iPA J J T.kL T.aH J (lP J J J T.aH (iF J J T.gY O gB (lF J J T.fK (fc (bL 53 J) fun hm53=>(lnF J T.dU (mv (nl (th (bk ?_)))))))))))))))))))))))))))))))))))
   have hI1_0:0≤(ix m.sT ((ix q i).1).toNat).length:=by
    first|omega|simp
   have hI1_1:PN m n i (ix q i) q mm aD 0 0 ([]:List (Int × Int))∧c≤gZ m n q i+0*(ix n.sT (ix q i).2.toNat).length:=by
    exact⟨TE hPI hc1,O⟩
   refine lp (κ:=Nat × Nat × Value × (List (Int × Int)) × (List ((Int × Int) × Int)) × Value × (List (Int × Int))) (fun p=> [(2,ptr 2 b2 0),(3,ptr 3 b3 0),(4,ptr 4 b4 0),(8,mpv 29 b29),(9,osl 33 p.2.2.1),(10,ptr 10 b10 0),(11,int (p.2.1:Int)),(12,int (i:Int)),(13,osl 13 p.2.2.2.2.2.1),(14,ptr 14 b14 0),(53,sl 2 pE (ix m.sT ((ix q i).1).toNat)),(54,int ((ix m.sT ((ix q i).1).toNat).length:Int)),(55,int (p.1:Int))]) (fun p=> [(2,cell b2 [sl 1 rE_ m.aC,sl 1 gE m.sT]),(3,cell b3 [sl 1 rE_ n.aC,sl 1 gE n.sT]),(4,cell b4 [eqv (.slice none 0 0),eqv (.slice none 0 0)]),(10,cell b10 [sl 1 rE_ m.aC,osl 130 uo]),(13,own p.2.2.2.2.2.1 94 2 pE p.2.2.2.2.2.2),(14,cell b14 [int ((ix q i).1),int ((ix q i).2)]),(29,mp b29 cD eQ iC p.2.2.2.2.1),(33,own p.2.2.1 80 2 pE p.2.2.2.1),(130,own uo 87 1 gE aD)]) (fun p=>(p.1≤(ix m.sT ((ix q i).1).toNat).length)∧(PN m n i (ix q i) p.2.2.2.1 p.2.2.2.2.1 aD p.1 0 p.2.2.2.2.2.2∧p.2.1≤gZ m n p.2.2.2.1 i+p.1*(ix n.sT (ix q i).2.toNat).length)) (fun p=>(ix m.sT ((ix q i).1).toNat).length- p.1) ⟨0,c,v,q,mm,(.slice none 0 0),([]:List (Int × Int))⟩ ⟨hI1_0,hI1_1⟩ ⟨id,id,id,id,id,id,id,id,id,id,id,id,id,tV⟩ ⟨rI,rI,rI,rI,rI,rI,rI,rI,rI,tV⟩ ?_
   intro⟨k1,c1,v1,q1,mm1,w1,l1⟩ hG1
   obtain⟨hk1,⟨hPN1,hcn1⟩⟩:(k1≤(ix m.sT ((ix q i).1).toNat).length)∧(PN m n i (ix q i) q1 mm1 aD k1 0 l1∧c1≤gZ m n q1 i+k1*(ix n.sT (ix q i).2.toNat).length):=hG1
   show Ct _ _ _ _ [(2,ptr 2 b2 0),(3,ptr 3 b3 0),(4,ptr 4 b4 0),(8,mpv 29 b29),(9,osl 33 v1),(10,ptr 10 b10 0),(11,int (c1:Int)),(12,int (i:Int)),(13,osl 13 w1),(14,ptr 14 b14 0),(53,sl 2 pE (ix m.sT ((ix q i).1).toNat)),(54,int ((ix m.sT ((ix q i).1).toNat).length:Int)),(55,int (k1:Int))] [(2,cell b2 [sl 1 rE_ m.aC,sl 1 gE m.sT]),(3,cell b3 [sl 1 rE_ n.aC,sl 1 gE n.sT]),(4,cell b4 [eqv (.slice none 0 0),eqv (.slice none 0 0)]),(10,cell b10 [sl 1 rE_ m.aC,osl 130 uo]),(13,own w1 94 2 pE l1),(14,cell b14 [int ((ix q i).1),int ((ix q i).2)]),(29,mp b29 cD eQ iC mm1),(33,own v1 80 2 pE q1),(130,own uo 87 1 gE aD)] _
   have hql1:=GM hPN1.pi
   have hcl1:=GP hPN1.pi (i+1)
   have hll1:l1.length≤k1*(ix n.sT (ix q i).2.toNat).length+0:=Nl hPN1
   have hcs1:=wW (m:=m) (n:=n) hPN1.hi
   rw[hPN1.pe] at hcs1
   have hw1:wgt m n (ix q i)=(ix m.sT (ix q i).1.toNat).length*(ix n.sT (ix q i).2.toNat).length:=rfl
   have hk8:k1*(ix n.sT (ix q i).2.toNat).length≤(ix m.sT (ix q i).1.toNat).length*(ix n.sT (ix q i).2.toNat).length:=Nat.mul_le_mul_right _ O
   refine sq (rg (bi J J aZ (nl (th (sq ?_)))))
   refine cd J (fun hc2=> ?_) (fun hc2=> ?_)
   ·try simp at hc2
    have hdd:0≤(ix (ix m.sT (ix q i).1.toNat) k1).1∧(ix (ix m.sT (ix q i).1.toNat) k1).1<(m.aC.length:Int)∧0≤(ix (ix m.sT (ix q i).1.toNat) k1).2∧(ix (ix m.sT (ix q i).1.toNat) k1).2<(m.sT.length:Int):=hm.ed _ O _ (aO hc2)
    refine sk (th (sq (bk (sq (rg (iF J J T.dU O gB (lFA J T.dP (Nat.le_of_ble_eq_true J) (al (key:=16) T.z94 (eC (eC eZ)) fun b16=>(sPA (cs':= [int ((ix (ix m.sT ((ix q i).1).toNat) k1).1),int ((ix (ix m.sT ((ix q i).1).toNat) k1).2)]) J J J T.dP J J (nl (th (sq (rg (fP J T.bY (lP J J J T.dA (iPA J J T.kL T.aH J (lP J J J T.aH (iF J J T.gY O gB (lF J J T.fK (fc (bL 64 J) fun hm64=>(lnF J T.dU (mv (nl (th (bk ?_)))))))))))))))))))))))))
    have hI2_0:0≤(ix n.sT ((ix q i).2).toNat).length:=by
     first|omega|simp
    have hI2_1:PN m n i (ix q i) q1 mm1 aD k1 0 l1∧c1≤gZ m n q1 i+k1*(ix n.sT (ix q i).2.toNat).length+0:=by
     exact⟨hPN1,O⟩
    refine lp (κ:=Nat × Nat × Value × (List (Int × Int)) × (List ((Int × Int) × Int)) × Value × (List (Int × Int))) (fun p=> [(2,ptr 2 b2 0),(3,ptr 3 b3 0),(4,ptr 4 b4 0),(8,mpv 29 b29),(9,osl 33 p.2.2.1),(10,ptr 10 b10 0),(11,int (p.2.1:Int)),(12,int (i:Int)),(13,osl 13 p.2.2.2.2.2.1),(14,ptr 14 b14 0),(16,ptr 16 b16 0),(53,sl 2 pE (ix m.sT ((ix q i).1).toNat)),(54,int ((ix m.sT ((ix q i).1).toNat).length:Int)),(55,int (k1:Int)),(64,sl 2 pE (ix n.sT ((ix q i).2).toNat)),(65,int ((ix n.sT ((ix q i).2).toNat).length:Int)),(66,int (p.1:Int))]) (fun p=> [(2,cell b2 [sl 1 rE_ m.aC,sl 1 gE m.sT]),(3,cell b3 [sl 1 rE_ n.aC,sl 1 gE n.sT]),(4,cell b4 [eqv (.slice none 0 0),eqv (.slice none 0 0)]),(10,cell b10 [sl 1 rE_ m.aC,osl 130 uo]),(13,own p.2.2.2.2.2.1 94 2 pE p.2.2.2.2.2.2),(14,cell b14 [int ((ix q i).1),int ((ix q i).2)]),(16,cell b16 [int ((ix (ix m.sT ((ix q i).1).toNat) k1).1),int ((ix (ix m.sT ((ix q i).1).toNat) k1).2)]),(29,mp b29 cD eQ iC p.2.2.2.2.1),(33,own p.2.2.1 80 2 pE p.2.2.2.1),(130,own uo 87 1 gE aD)]) (fun p=>(p.1≤(ix n.sT ((ix q i).2).toNat).length)∧(PN m n i (ix q i) p.2.2.2.1 p.2.2.2.2.1 aD k1 p.1 p.2.2.2.2.2.2∧p.2.1≤gZ m n p.2.2.2.1 i+k1*(ix n.sT (ix q i).2.toNat).length+p.1)) (fun p=>(ix n.sT ((ix q i).2).toNat).length- p.1) ⟨0,c1,v1,q1,mm1,w1,l1⟩ ⟨hI2_0,hI2_1⟩ ⟨id,id,id,id,id,id,id,id,id,id,id,id,id,id,id,id,id,tV⟩ ⟨rI,rI,rI,rI,rI,rI,rI,rI,rI,rI,tV⟩ ?_
    intro⟨k2,c2,v2,q2,mm2,w2,l2⟩ hG2
    obtain⟨hk2,⟨hPN2,hcn2⟩⟩:(k2≤(ix n.sT ((ix q i).2).toNat).length)∧(PN m n i (ix q i) q2 mm2 aD k1 k2 l2∧c2≤gZ m n q2 i+k1*(ix n.sT (ix q i).2.toNat).length+k2):=hG2
    show Ct _ _ _ _ [(2,ptr 2 b2 0),(3,ptr 3 b3 0),(4,ptr 4 b4 0),(8,mpv 29 b29),(9,osl 33 v2),(10,ptr 10 b10 0),(11,int (c2:Int)),(12,int (i:Int)),(13,osl 13 w2),(14,ptr 14 b14 0),(16,ptr 16 b16 0),(53,sl 2 pE (ix m.sT ((ix q i).1).toNat)),(54,int ((ix m.sT ((ix q i).1).toNat).length:Int)),(55,int (k1:Int)),(64,sl 2 pE (ix n.sT ((ix q i).2).toNat)),(65,int ((ix n.sT ((ix q i).2).toNat).length:Int)),(66,int (k2:Int))] [(2,cell b2 [sl 1 rE_ m.aC,sl 1 gE m.sT]),(3,cell b3 [sl 1 rE_ n.aC,sl 1 gE n.sT]),(4,cell b4 [eqv (.slice none 0 0),eqv (.slice none 0 0)]),(10,cell b10 [sl 1 rE_ m.aC,osl 130 uo]),(13,own w2 94 2 pE l2),(14,cell b14 [int ((ix q i).1),int ((ix q i).2)]),(16,cell b16 [int ((ix (ix m.sT ((ix q i).1).toNat) k1).1),int ((ix (ix m.sT ((ix q i).1).toNat) k1).2)]),(29,mp b29 cD eQ iC mm2),(33,own v2 80 2 pE q2),(130,own uo 87 1 gE aD)] _
    have hql2:=GM hPN2.pi
    have hll2:l2.length≤k1*(ix n.sT (ix q i).2.toNat).length+k2:=Nl hPN2
    refine sq (rg (bi J J aZ (nl (th (sq ?_)))))
    refine cd J (fun hc3=> ?_) (fun hc3=> ?_)
    ·try simp at hc3
     have hee:0≤(ix (ix n.sT (ix q i).2.toNat) k2).1∧(ix (ix n.sT (ix q i).2.toNat) k2).1<(n.aC.length:Int)∧0≤(ix (ix n.sT (ix q i).2.toNat) k2).2∧(ix (ix n.sT (ix q i).2.toNat) k2).2<(n.sT.length:Int):=hn.ed _ O _ (aO hc3)
     have hi2:=hPN2.hi
     have hcs:=wW (m:=m) (n:=n) hi2
     have hcl:=GP hPN2.pi (i+1)
     rw[hPN2.pe] at hcs
     have hw:wgt m n (ix q i)=(ix m.sT (ix q i).1.toNat).length*(ix n.sT (ix q i).2.toNat).length:=rfl
     have hk9:(k1+1)*(ix n.sT (ix q i).2.toNat).length≤(ix m.sT (ix q i).1.toNat).length*(ix n.sT (ix q i).2.toNat).length:=Nat.mul_le_mul_right _ hc2
     rw[Nat.add_mul] at hk9
     have hc9:c2+1≤400000:=by omega
     refine sk (th (sq (bk (sq (rg (iF J J T.dU O gB (lFA J T.dP (Nat.le_of_ble_eq_true J) (al (key:=18) T.z94 (eC (eC eZ)) fun b18=>(sPA (cs':= [int ((ix (ix n.sT ((ix q i).2).toNat) k2).1),int ((ix (ix n.sT ((ix q i).2).toNat) k2).2)]) J J J T.dP J J (nl (th (sq (sq (rg (fP J T.eE (lP J J J T.aH (fP J T.eE (lP J J J T.aH (bi J J fV (nl (th ?_)))))))))))))))))))))
     refine cd J (fun hc4=> ?_) (fun hc4=> ?_)
     ·try simp at hc4
      refine ex (xt_ (xb (th (rg (bi J J (aM i6) (mv (nl ?_)))))))
      have hN0:(k2+1)≤(ix n.sT ((ix q i).2).toNat).length:=by
       first|omega|simp_all
      have hN1:PN m n i (ix q i) q2 mm2 aD k1 (k2+1) l2∧c2≤gZ m n q2 i+k1*(ix n.sT (ix q i).2.toNat).length+(k2+1):=by
       exact⟨TF hPN2 hc3 (by simpa using hc4),O⟩
      exact ln (⟨k2+1,c2,v2,q2,mm2,w2,l2⟩:Nat × Nat × Value × (List (Int × Int)) × (List ((Int × Int) × Int)) × Value × (List (Int × Int))) ⟨hN0,hN1⟩ dO ⟨id,id,id,id,id,id,id,id,id,id,id,id,id,id,id,id,id,tV⟩ ⟨rI,rI,rI,rI,rI,rI,rI,rI,rI,rI,tV⟩
     ·try simp at hc4
      have hde:(ix (ix m.sT (ix q i).1.toNat) k1).1=(ix (ix n.sT (ix q i).2.toNat) k2).1:=by simpa using hc4
      refine sk (th (sq (rg (fP J T.eY (lP J J J T.aH (fP J T.eY (lP J J J T.aH (bd (css:= [(0,_),(1,_)]) T.xU (eC (eC eZ)) ⟨J,J,p1 (φ:=int ((ix (ix m.sT ((ix q i).1).toNat) k1).2)) J,⟨J,J,p1 (φ:=int ((ix (ix n.sT ((ix q i).2).toNat) k2).2)) J,tV⟩⟩ (al (key:=19) T.z80 (eC (eC eZ)) fun b19=>(sPA (cs':= [int ((ix (ix m.sT ((ix q i).1).toNat) k1).2),int ((ix (ix n.sT ((ix q i).2).toNat) k2).2)]) J J J T.fS J J (nl (th (sq (rg (mv (lPA J J T.fS J (uQ (z:=(0:Int)) (q:=((ix (ix m.sT ((ix q i).1).toNat) k1).2,(ix (ix n.sT ((ix q i).2).toNat) k2).2)) J J eK T.HI ⟨⟨O,O⟩,⟨O,O⟩⟩ T.yF (mv (xt J J (xt J J (ag (ag (nl (th (sq (sq (rg (mv (no J (nl (th ?_)))))))))))))))))))))))))))))))
      refine cd J (fun hc5=> ?_) (fun hc5=> ?_)
      ·try simp at hc5
       refine sq (rg (mv (lnO J J T.jE (ag (nl (th (sq (sq (rg (mv (bi J J gF (nl (th ?_)))))))))))))
       refine cd J (fun hc6=> ?_) (fun hc6=> ?_)
       ·try simp at hc6
        have hff:False:=by omega
        refine sq (rg (bd (css:= []) T.mW (eC (eC eZ)) trivial (sPA (cs':= [eqv (.slice none 0 0),eqv (.slice none 0 0)]) J J J T.aU J J (ag (ag (nl (th (rt (rt_ (rt_ (rb (rt_ (rt_ (rb (rb (rt_ (rt_ (rb (rt_ (rb (rt_ (rt_ (rb (rt_ ?_))))))))))))))))))))))))
        refine eB 4 0 (sl 1 rE_ []) rfl rfl slnil ?_
        refine eB 4 1 (sl 1 gE []) rfl rfl slnil ?_
        refine knA 5 (sl 2 pE []) rfl slnil ?_
        have hr0:(2:Int)=(dK m n):=by
         exact hff.elim
        exact rE ⟨(⟨[],[]⟩,[]),⟨fun _=>J,fun _=>hff.elim⟩⟩ [.cell 4 25,.tmp 5,.tmp 6] J [agg [sl 1 rE_ [],sl 1 gE []],sl 2 pE [],int 2] ⟨.agg J J T.aU J J,.tmp J,.tmp J,tV⟩ (cA1 (fun x0=>rV [agg [sl 1 rE_ [],sl 1 gE []],sl 2 pE [],int x0]) hr0) trivial eX
       ·try simp at hc6
        refine sk (th (sq (rg (mv (lPA J J T.fS J (mv (mapUpdate (q:=((ix (ix m.sT ((ix q i).1).toNat) k1).2,(ix (ix n.sT ((ix q i).2).toNat) k2).2)) (u:=(q2.length:Int)) J J eK J T.HI ⟨⟨O,O⟩,⟨O,O⟩⟩ (nl (th (rg (mv (lPA J J T.fS J (bsE (enc:=pE) (xs:= [((ix (ix m.sT ((ix q i).1).toNat) k1).2,(ix (ix n.sT ((ix q i).2).toNat) k2).2)]) (css:= [[int ((ix (ix m.sT ((ix q i).1).toNat) k1).2),int ((ix (ix n.sT ((ix q i).2).toNat) k2).2)]]) T.rT ⟨J,J,pA (cs:= [int ((ix (ix m.sT ((ix q i).1).toNat) k1).2),int ((ix (ix n.sT ((ix q i).2).toNat) k2).2)]) J,tV⟩ J J J J (ap (key:=33) (zs:= [((ix (ix m.sT ((ix q i).1).toNat) k1).2,(ix (ix n.sT ((ix q i).2).toNat) k2).2)]) cB J J J T.rT (by unfold aN at*;simp;omega) (by unfold aN at*;simp;omega) fun v99=>(ag (nl (th (sq (sq (rg (mv (bi J J (aM i6) (ag (nl (th (sq (rg (mv (bi J J jA (nl (th ?_)))))))))))))))))))))))))))))))
        refine cd J (fun hc7=> ?_) (fun hc7=> ?_)
        ·try simp at hc7
         have hff:False:=by omega
         refine sq (rg (bd (css:= []) T.mW (eC (eC eZ)) trivial (sPA (cs':= [eqv (.slice none 0 0),eqv (.slice none 0 0)]) J J J T.aU J J (ag (ag (nl (th (rt (rt_ (rb (rt_ (rt_ (rb (rb (rt_ (rt_ (rb (rt_ (rb (rt_ (rt_ (rb (rt_ ?_)))))))))))))))))))))))
         refine eB 4 0 (sl 1 rE_ []) rfl rfl slnil ?_
         refine eB 4 1 (sl 1 gE []) rfl rfl slnil ?_
         refine knA 5 (sl 2 pE []) rfl slnil ?_
         have hr0:(2:Int)=(dK m n):=by
                    exact hff.elim
         exact rE ⟨(⟨[],[]⟩,[]),⟨fun _=>J,fun _=>hff.elim⟩⟩ [.cell 4 25,.tmp 5,.tmp 6] J [agg [sl 1 rE_ [],sl 1 gE []],sl 2 pE [],int 2] ⟨.agg J J T.aU J J,.tmp J,.tmp J,tV⟩ (cA1 (fun x0=>rV [agg [sl 1 rE_ [],sl 1 gE []],sl 2 pE [],int x0]) hr0) trivial eX
        ·try simp at hc7
         refine sk (th (rg (mv (fP J T.eE (lP J J J T.aH (mv (bd (css:= [(0,_),(1,_)]) T.wN (eC (eC eZ)) ⟨J,J,p1 (φ:=int ((ix (ix m.sT ((ix q i).1).toNat) k1).1)) J,⟨J,J,p1 (φ:=int (q2.length:Int)) J,tV⟩⟩ (bsE (enc:=pE) (xs:= [((ix (ix m.sT ((ix q i).1).toNat) k1).1,(q2.length:Int))]) (css:= [[int ((ix (ix m.sT ((ix q i).1).toNat) k1).1),int (q2.length:Int)]]) T.kW ⟨J,J,pA (cs:= [int ((ix (ix m.sT ((ix q i).1).toNat) k1).1),int (q2.length:Int)]) J,tV⟩ J J J J (ap (key:=13) (zs:= [((ix (ix m.sT ((ix q i).1).toNat) k1).1,(q2.length:Int))]) cB J J J T.kW (by unfold aN at*;simp;omega) (by unfold aN at*;simp;omega) fun v111=>(ag (nl (eb (th (rg (bi J J (aM i6) (mv (nl ?_)))))))))))))))))
         have hN0:(k2+1)≤(ix n.sT (((ix q i).2).toNat)).length:=by
                    first|omega|simp_all
         have hN1:PN m n i (ix q i) (q2++ [((ix (ix m.sT (((ix q i).1).toNat)) k1).2,(ix (ix n.sT (((ix q i).2).toNat)) k2).2)]) (bQ mm2 ((ix (ix m.sT (((ix q i).1).toNat)) k1).2,(ix (ix n.sT (((ix q i).2).toNat)) k2).2) (q2.length:Int)) aD k1 (k2+1) (l2++ [((ix (ix m.sT (((ix q i).1).toNat)) k1).1,(q2.length:Int))])∧(c2+1)≤gZ m n (q2++ [((ix (ix m.sT (((ix q i).1).toNat)) k1).2,(ix (ix n.sT (((ix q i).2).toNat)) k2).2)]) i+k1*(ix n.sT (ix q i).2.toNat).length+(k2+1):=by
                    refine⟨Wl hPN2 hc3 hde ⟨hdd.2.2.1,hdd.2.2.2,hee.2.2.1,hee.2.2.2⟩ (by simpa using hc5),?_⟩
                    rw[TH O]
                    omega
         exact ln (⟨k2+1,c2+1,v99,q2++ [((ix (ix m.sT ((ix q i).1).toNat) k1).2,(ix (ix n.sT ((ix q i).2).toNat) k2).2)],bQ mm2 ((ix (ix m.sT ((ix q i).1).toNat) k1).2,(ix (ix n.sT ((ix q i).2).toNat) k2).2) (q2.length:Int),v111,l2++ [((ix (ix m.sT ((ix q i).1).toNat) k1).1,(q2.length:Int))]⟩:Nat × Nat × Value × (List (Int × Int)) × (List ((Int × Int) × Int)) × Value × (List (Int × Int))) ⟨hN0,hN1⟩ dO ⟨id,id,id,id,id,id,id,id,id,id,id,id,id,id,id,id,id,tV⟩ ⟨rI,rI,rI,rI,rI,rI,rI,rI,rI,rI,tV⟩
      ·try simp at hc5
       refine sk (th (sq (sq (rg (mv (bi J J (aM i6) (ag (nl (th (sq (rg (mv (bi J J jA (nl (th ?_)))))))))))))))
       refine cd J (fun hc8=> ?_) (fun hc8=> ?_)
       ·try simp at hc8
        have hff:False:=by omega
        refine sq (rg (bd (css:= []) T.mW (eC (eC eZ)) trivial (sPA (cs':= [eqv (.slice none 0 0),eqv (.slice none 0 0)]) J J J T.aU J J (ag (ag (nl (th (rt (rt_ (rb (rt_ (rt_ (rb (rb (rt_ (rt_ (rb (rt_ (rb (rt_ (rt_ (rb (rt_ ?_)))))))))))))))))))))))
        refine eB 4 0 (sl 1 rE_ []) rfl rfl slnil ?_
        refine eB 4 1 (sl 1 gE []) rfl rfl slnil ?_
        refine knA 5 (sl 2 pE []) rfl slnil ?_
        have hr0:(2:Int)=(dK m n):=by
         exact hff.elim
        exact rE ⟨(⟨[],[]⟩,[]),⟨fun _=>J,fun _=>hff.elim⟩⟩ [.cell 4 25,.tmp 5,.tmp 6] J [agg [sl 1 rE_ [],sl 1 gE []],sl 2 pE [],int 2] ⟨.agg J J T.aU J J,.tmp J,.tmp J,tV⟩ (cA1 (fun x0=>rV [agg [sl 1 rE_ [],sl 1 gE []],sl 2 pE [],int x0]) hr0) trivial eX
       ·try simp at hc8
        refine sk (th (rg (mv (fP J T.eE (lP J J J T.aH (mv (bd (css:= [(0,_),(1,_)]) T.wN (eC (eC eZ)) ⟨J,J,p1 (φ:=int ((ix (ix m.sT ((ix q i).1).toNat) k1).1)) J,⟨J,J,p1 (φ:=int ((bJ mm2 ((ix (ix m.sT ((ix q i).1).toNat) k1).2,(ix (ix n.sT ((ix q i).2).toNat) k2).2)).getD (0:Int))) J,tV⟩⟩ (bsE (enc:=pE) (xs:= [((ix (ix m.sT ((ix q i).1).toNat) k1).1,(bJ mm2 ((ix (ix m.sT ((ix q i).1).toNat) k1).2,(ix (ix n.sT ((ix q i).2).toNat) k2).2)).getD (0:Int))]) (css:= [[int ((ix (ix m.sT ((ix q i).1).toNat) k1).1),int ((bJ mm2 ((ix (ix m.sT ((ix q i).1).toNat) k1).2,(ix (ix n.sT ((ix q i).2).toNat) k2).2)).getD (0:Int))]]) T.kW ⟨J,J,pA (cs:= [int ((ix (ix m.sT ((ix q i).1).toNat) k1).1),int ((bJ mm2 ((ix (ix m.sT ((ix q i).1).toNat) k1).2,(ix (ix n.sT ((ix q i).2).toNat) k2).2)).getD (0:Int))]) J,tV⟩ J J J J (ap (key:=13) (zs:= [((ix (ix m.sT ((ix q i).1).toNat) k1).1,(bJ mm2 ((ix (ix m.sT ((ix q i).1).toNat) k1).2,(ix (ix n.sT ((ix q i).2).toNat) k2).2)).getD (0:Int))]) cB J J J T.kW (by unfold aN at*;simp;omega) (by unfold aN at*;simp;omega) fun v111=>(ag (nl (eb (th (rg (bi J J (aM i6) (mv (nl ?_)))))))))))))))))
        have hN0:(k2+1)≤(ix n.sT ((ix q i).2).toNat).length:=by
         first|omega|simp_all
        have hN1:PN m n i (ix q i) q2 mm2 aD k1 (k2+1) (l2++ [((ix (ix m.sT ((ix q i).1).toNat) k1).1,(bJ mm2 ((ix (ix m.sT ((ix q i).1).toNat) k1).2,(ix (ix n.sT ((ix q i).2).toNat) k2).2)).getD (0:Int))])∧(c2+1)≤gZ m n q2 i+k1*(ix n.sT (ix q i).2.toNat).length+(k2+1):=by
         exact⟨Wk hPN2 hc3 hde (by simpa using hc5),O⟩
        exact ln (⟨k2+1,c2+1,v2,q2,mm2,v111,l2++ [((ix (ix m.sT ((ix q i).1).toNat) k1).1,(bJ mm2 ((ix (ix m.sT ((ix q i).1).toNat) k1).2,(ix (ix n.sT ((ix q i).2).toNat) k2).2)).getD (0:Int))]⟩:Nat × Nat × Value × (List (Int × Int)) × (List ((Int × Int) × Int)) × Value × (List (Int × Int))) ⟨hN0,hN1⟩ dO ⟨id,id,id,id,id,id,id,id,id,id,id,id,id,id,id,id,id,tV⟩ ⟨rI,rI,rI,rI,rI,rI,rI,rI,rI,rI,tV⟩
    ·try simp at hc3
     refine ex (xt_ (xt_ (xb (eb (th (rg (bi J J (aM i6) (mv (nl ?_)))))))))
     have hN0:(k1+1)≤(ix m.sT ((ix q i).1).toNat).length:=by
      first|omega|simp_all
     have hN1:PN m n i (ix q i) q2 mm2 aD (k1+1) 0 l2∧c2≤gZ m n q2 i+(k1+1)*(ix n.sT (ix q i).2.toNat).length:=by
      refine⟨Wm hPN2 hc2 (by show(ix n.sT (ix q i).2.toNat).length≤k2;omega),?_⟩
      rw[Nat.add_mul]
      omega
     exact ln (⟨k1+1,c2,v2,q2,mm2,w2,l2⟩:Nat × Nat × Value × (List (Int × Int)) × (List ((Int × Int) × Int)) × Value × (List (Int × Int))) ⟨hN0,hN1⟩ dO ⟨id,id,id,id,id,id,id,id,id,id,id,id,id,tV⟩ ⟨rI,rI,rI,rI,rI,rI,rI,rI,rI,tV⟩
   ·try simp at hc2
    refine ex (xt_ (xt_ (xb (th (sq (rg (mv ?_)))))))
    have hbd:∀p∈l1,bdP p:=fun p hp=>by
     have:=XA hm hPN1 p hp
     unfold bdP;omega
    refine cal (Hi:= [(13,own w1 94 2 pE l1)]) (φs:= [osl 5 w1,eqv (.func (.func 114) #[] #[])]) ⟨dV.trans dV.symm,rfl,tV⟩ (nM 5 13 (sortE.uF w1 l1 aS)) T.Cp ⟨rI,tV⟩ fun _ _=>(nl (th (rg (fP rfl T.bY (lP rfl rfl rfl T.dA (mv (fz 13 118 rfl rfl (bsE (enc:=gE) (xs:= [(bT l1)]) (css:= [[sl 2 pE (bT l1)]]) T.pF ⟨rfl,rfl,p1 (φ:=sl 2 pE (bT l1)) rfl,tV⟩ rfl rfl rfl rfl (ap (key:=130) (zs:= [(bT l1)]) cB rfl rfl rfl T.pF (by unfold aN at*;simp;omega) (by unfold aN at*;simp;omega) fun v120=>(fP rfl T.bY (cK rfl rfl rfl rfl T.dA rfl (nl (eb (th (rg (mv (bi rfl rfl (aM i6) (ag (nl ?_)))))))))))))))))))
    have hN0:PI m n (i+1) q1 mm1 (aD++ [(bT l1)])∧c1≤gZ m n q1 (i+1):=by
     refine⟨Wn hPN1 rfl (by show(ix m.sT (ix q i).1.toNat).length≤k1;omega),?_⟩
     have hcs:=wW (m:=m) (n:=n) hPN1.hi
     rw[hPN1.pe] at hcs
     have hw:wgt m n (ix q i)=(ix m.sT (ix q i).1.toNat).length*(ix n.sT (ix q i).2.toNat).length:=rfl
     have hk9:k1*(ix n.sT (ix q i).2.toNat).length≤(ix m.sT (ix q i).1.toNat).length*(ix n.sT (ix q i).2.toNat).length:=Nat.mul_le_mul_right _ O
     omega
    exact ln (⟨i+1,c1,v1,q1,mm1,v120,aD++ [(bT l1)]⟩:Nat × Nat × Value × (List (Int × Int)) × (List ((Int × Int) × Int)) × Value × (List (List (Int × Int)))) hN0 dO ⟨id,id,id,id,id,id,id,id,tV⟩ ⟨rI,rI,rI,rI,rI,rI,rI,tV⟩
  ·try simp at hc1
   refine ex (xt_ (xt_ (xb (th (sq (rg (fzc 10 130 1 J J J J (lPA J J T.aU J (mv (sPA (cs':= [sl 1 rE_ m.aC,sl 1 gE aD]) J J J T.aU J J (ag (ag (nl (th (rt ?_)))))))))))))))
   refine fzA 33 5 rfl rfl ?_
   have hr0:(0:Int)=(dK m n):=by
    exact hc0.symm
   exact rE ⟨(⟨m.aC,aD⟩,q),⟨fun h=>absurd hc0 h,fun _=>TG hPI O⟩⟩ [.cell 4 25,.tmp 5,.tmp 6] J [agg [sl 1 rE_ m.aC,sl 1 gE aD],sl 2 pE q,int 0] ⟨.agg J J T.aU J J,.tmp J,.tmp J,tV⟩ (cA1 (fun x0=>rV [agg [sl 1 rE_ m.aC,sl 1 gE aD],sl 2 pE q,int x0]) hr0) trivial eX
end prodw
end
end Go.Proofs.YtnlfjojfgghchaaGreatDoor
