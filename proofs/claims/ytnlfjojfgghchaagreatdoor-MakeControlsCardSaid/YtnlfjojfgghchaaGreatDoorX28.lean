/- The walks of the functions and the plain laws. Own texts of this claim, packed: Mkmkc, MkLstM, Mkmkq, MkMakeM2, MkMakeM3, MkGuaW, Mkpkey, Mkmkg, Mkprodw. -/
import Derived.Test.YtnlfjojfgghchaaGreatDoorX26
import Derived.Test.YtnlfjojfgghchaaGreatDoorX18
import Derived.Test.YtnlfjojfgghchaaGreatDoorX04
import Derived.Test.YtnlfjojfgghchaaGreatDoorX27
import Derived.Test.YtnlfjojfgghchaaGreatDoorX19
import Derived.Test.YtnlfjojfgghchaaGreatDoorX22
import Derived.Test.YtnlfjojfgghchaaGreatDoorX24
import Derived.Shelf.Strconv.AppendIntPublic10
import Derived.Lib.AppendIntMem
import Derived.Lib.ItoaLen
import Derived.Lib.Slices
import Derived.Lib.Hide
import Derived.Laws.IdiomStrings
import Derived.OwnWalk
import Derived.WalkKit
import Derived.BigCall
import Derived.Test.YtnlfjojfgghchaaGreatDoorX14
import Derived.Test.YtnlfjojfgghchaaGreatDoorX06
set_option linter.all false
namespace Go.Proofs.YtnlfjojfgghchaaGreatDoor
open AL Go
set_option maxRecDepth 100000
section
open ref01 ref03 ref04 ref06 prog prog2 prog3 prog4 prog5 prog6 prog7 prog8 prog9 Part Rungs LeftM TrimM RoundM MergeM BisM BisM4 BisM5 Itoa Keys WalkM StepM WitM JudgM JudgM2 refw judg wit refj sysw satj divr divs divd dive TrimI QuoM FailM DivM CompM CrossM KeepK GuardM MakeM LsysM LsysM2 KeepB AtM ClsM mkk mkp mkl
namespace T
theorem qF:mP Tryz.prog 125 9 3 smE smD:=Nx kR kR
theorem zv3:∀w F,∃u,(zeroValue 3).run Tryz.prog w= .ok u w∧(int 0).p w F u:=zV (v:= .int .i64 0) kR _ (fun _ _=>Cu)
theorem Wq:Ent Tryz.prog 188:=aN kR
theorem MN:Ent Tryz.prog 189:=aN kR
theorem Wr:Ent Tryz.prog 190:=aN kR
end T
namespace mkc
theorem Kk (m:aA) (hm:bA m):
 Fn0 Tryz.prog 151 [mC (sys m)] (ints (aJ m)):=by
 refine fnI Tryz.func151 rfl rfl (fun w0 F0=> ?_)
 have f0:=hm.few0;have f1:=hm.few1;have hn8:=hm.n8
 refine tbI 0 9999 rfl ?_
 refine fcC (bW 0 J) (fun hS0=> ?_)
 obtain⟨hma0,hms0,hme0⟩:=bU hS0
 refine sq (rg (bx (key:=1) (cs:= [sl 1 rE_ m.aC,sl 1 gE m.sT]) J fun b1=>(ag (nl (th (sc (sq (rg (fP J T.bO (lP J J J T.cF (fc (aV 18 J) fun hm18=>(lnF J T.dQ (mk (key:=20) (m:=m.sT.length) (enc:=nE) (y:=(0:Int)) J J T.bZ (eC eZ) mL mL fun v20=>(ag (nl (th (sq (rg (ag (nl (th (sq (lb (th (bk ?_)))))))))))))))))))))))))
 refine fzC 20 3 rfl rfl ?_
 have hI0_0:CR m (m.sT.length+1) 1 (List.replicate m.sT.length (0:Int)):=by
  exact TK hm
 refine lp (κ:=Nat × Nat × (List Int)) (fun p=> [(1,ptr 1 b1 0),(3,sl 1 nE p.2.2),(4,int (p.2.1:Int)),(9999,tab)]) (fun p=> [(1,cell b1 [sl 1 rE_ m.aC,sl 1 gE m.sT])]) (fun p=>CR m p.1 p.2.1 p.2.2) (fun p=>p.1) ⟨m.sT.length+1,1,List.replicate m.sT.length (0:Int)⟩ hI0_0 ⟨id,id,id,id,tV⟩ ⟨rI,tV⟩ ?_
 intro⟨f,kk,cl⟩ hG0
 have hcr0:CR m f kk cl:=hG0
 show Ct _ _ _ _ [(1,ptr 1 b1 0),(3,sl 1 nE cl),(4,int (kk:Int)),(9999,tab)] [(1,cell b1 [sl 1 rE_ m.aC,sl 1 gE m.sT])] _
 obtain⟨f1,rfl⟩:∃f1,f=f1+1:=⟨f- 1,by have:=hcr0.fuel;omega⟩
 have hcr:=hcr0
 have hcl:=hcr.lab.len
 refine bk (sq (rg (mkm (key:=21) (kE:=smE) (dom:=smD) (vE:=smV) fun b21=>(ag (nl (th (sq (rg (mv (fc (aV 22 rfl) fun hm22=>(lnF rfl T.aX (mk (key:=24) (m:=cl.length) (enc:=nE) (y:=(0:Int)) rfl rfl T.bZ (eC eZ) mL mL fun v24=>(ag (nl (th (sq (sq (rg (fP rfl T.bO (lP rfl rfl rfl T.cF (lnF rfl T.dQ (mv (nl (th (bk ?_)))))))))))))))))))))))))
 have hI1_0:0≤m.sT.length:=by
  first|omega|simp
 have hI1_1:pM ([]:List (ByteArray × Int)) (eY m cl 0)∧(List.replicate cl.length (0:Int))=gS m cl 0:=by
  exact⟨MI,by rw[hcl];exact Ki m cl⟩
 refine lp (κ:=Nat × (List (ByteArray × Int)) × (List Int)) (fun p=> [(1,ptr 1 b1 0),(3,sl 1 nE cl),(4,int (kk:Int)),(5,mpv 21 b21),(6,osl 24 v24),(26,sl 1 gE m.sT),(27,int (m.sT.length:Int)),(28,int (p.1:Int)),(9999,tab)]) (fun p=> [(1,cell b1 [sl 1 rE_ m.aC,sl 1 gE m.sT]),(21,mp b21 smE smD smV p.2.1),(24,own v24 3 1 nE p.2.2)]) (fun p=>(p.1≤m.sT.length)∧(pM p.2.1 (eY m cl p.1)∧p.2.2=gS m cl p.1)) (fun p=>m.sT.length- p.1) ⟨0,([]:List (ByteArray × Int)),List.replicate cl.length (0:Int)⟩ ⟨hI1_0,hI1_1⟩ ⟨id,id,id,id,id,id,id,id,id,tV⟩ ⟨rI,rI,rI,tV⟩ ?_
 intro⟨k1,mm1,nx⟩ hG1
 obtain⟨hk1,⟨hkm,hnx⟩⟩:(k1≤m.sT.length)∧(pM mm1 (eY m cl k1)∧nx=gS m cl k1):=hG1
 show Ct _ _ _ _ [(1,ptr 1 b1 0),(3,sl 1 nE cl),(4,int (kk:Int)),(5,mpv 21 b21),(6,osl 24 v24),(26,sl 1 gE m.sT),(27,int (m.sT.length:Int)),(28,int (k1:Int)),(9999,tab)] [(1,cell b1 [sl 1 rE_ m.aC,sl 1 gE m.sT]),(21,mp b21 smE smD smV mm1),(24,own v24 3 1 nE nx)] _
 have hnl:nx.length=m.sT.length:=by rw[hnx];exact qD m cl k1
 refine sq (rg (bi J J aO (nl (th (sq ?_)))))
 refine cd J (fun hc0=> ?_) (fun hc0=> ?_)
 ·try simp at hc0
  refine sk (th (sq (bk (sq (rg (mv (iF J J T.dQ O gB (lF J J T.gF (ag (ag (nl (th (sq (rg (nw 9 3 1 nE (ag (rtg (key:=9) 9 J (nl (th (sq (sq (rg (mv (fc (aV 33 J) fun hm33=>(lnF J T.cQ (mv (nl (th (bk ?_)))))))))))))))))))))))))))))
  have hI2_0:0≤(ix m.sT k1).length:=by
   first|omega|simp
  have hI2_1:([]:List Int)=sU cl.length cl (edg m k1) 0:=by
   rfl
  refine lp (κ:=Nat × Value × (List Int)) (fun p=> [(1,ptr 1 b1 0),(3,sl 1 nE cl),(4,int (kk:Int)),(5,mpv 21 b21),(6,osl 24 v24),(7,int (k1:Int)),(9,osl 9 p.2.1),(26,sl 1 gE m.sT),(27,int (m.sT.length:Int)),(28,int (k1:Int)),(33,sl 2 pE (ix m.sT k1)),(34,int ((ix m.sT k1).length:Int)),(35,int (p.1:Int)),(9999,tab)]) (fun p=> [(1,cell b1 [sl 1 rE_ m.aC,sl 1 gE m.sT]),(9,own p.2.1 3 1 nE p.2.2),(21,mp b21 smE smD smV mm1),(24,own v24 3 1 nE nx)]) (fun p=>(p.1≤(ix m.sT k1).length)∧(p.2.2=sU cl.length cl (edg m k1) p.1)) (fun p=>(ix m.sT k1).length- p.1) ⟨0,(.slice none 0 0),([]:List Int)⟩ ⟨hI2_0,hI2_1⟩ ⟨id,id,id,id,id,id,id,id,id,id,id,id,id,id,tV⟩ ⟨rI,rI,rI,rI,tV⟩ ?_
  intro⟨k2,v2,row⟩ hG2
  obtain⟨hk2,hrw⟩:(k2≤(ix m.sT k1).length)∧(row=sU cl.length cl (edg m k1) k2):=hG2
  show Ct _ _ _ _ [(1,ptr 1 b1 0),(3,sl 1 nE cl),(4,int (kk:Int)),(5,mpv 21 b21),(6,osl 24 v24),(7,int (k1:Int)),(9,osl 9 v2),(26,sl 1 gE m.sT),(27,int (m.sT.length:Int)),(28,int (k1:Int)),(33,sl 2 pE (ix m.sT k1)),(34,int ((ix m.sT k1).length:Int)),(35,int (k2:Int)),(9999,tab)] [(1,cell b1 [sl 1 rE_ m.aC,sl 1 gE m.sT]),(9,own v2 3 1 nE row),(21,mp b21 smE smD smV mm1),(24,own v24 3 1 nE nx)] _
  have hrl:row.length≤k2:=by rw[hrw];exact Pz
  have hmny:=hm.many k1 O
  have hmn2:(ix m.sT k1).length≤400000:=hmny
  refine sq (rg (bi J J aO (nl (th (sq ?_)))))
  refine cd J (fun hc1=> ?_) (fun hc1=> ?_)
  ·try simp at hc1
   have hed:=hm.ed k1 O _ (aQ (l:=(ix m.sT k1)) O)
   have hed2:0≤(ix (ix m.sT k1) k2).1∧(ix (ix m.sT k1) k2).1<(m.aC.length:Int)∧0≤(ix (ix m.sT k1) k2).2∧(ix (ix m.sT k1) k2).2<(m.sT.length:Int):=hed
   have hlb:=hcr.lab.bd (ix (ix m.sT k1) k2).2.toNat O
   have hkw:=hcr.few
   have hmb:=Wo (a:=(ix (ix m.sT k1) k2).1) (n:=(cl.length:Int)) O O O O
   refine sk (th (sq (bk (sq (rg (iF J J T.cQ O gB (lFA J T.cJ (Nat.le_of_ble_eq_true J) (al (key:=11) T.z94 (eC (eC eZ)) fun b11=>(sPA (cs':= [int ((ix (ix m.sT k1) k2).1),int ((ix (ix m.sT k1) k2).2)]) J J J T.cJ J J (nl (th (dr (nh:=14) [0,0,2,0,8,24,62,0,0,256,896,1920,4094,8190,16383,32767] T.mixed kR ?_))))))))))))
   refine st_ J (fun _ _ _ gq kq=>mv' (gq.1.trans J) kq) ?_
   refine st_ J (fun _ _ _ gq kq=>fP (gq.1.trans J) T.cT kq) ?_
   refine st_ J (fun _ _ _ gq kq=>lP (gq.1.trans J) J J T.aF kq) ?_
   refine st_ J (fun _ _ _ gq kq=>mv' (gq.1.trans J) kq) ?_
   refine st_ J (fun _ _ _ gq kq=>lnF (gq.1.trans J) T.aX kq) ?_
   refine st_ J (fun _ _ _ gq kq=>bi (gq.1.trans J) J (aG i6) kq) ?_
   refine st_ J (fun _ _ _ gq kq=>bi (gq.1.trans J) (gq.2.1.trans J) (yN i6) kq) ?_
   refine st_ J (fun _ _ _ gq kq=>mv' (gq.1.trans J) kq) ?_
   refine st_ J (fun _ _ _ gq kq=>fP (gq.1.trans J) T.cX kq) ?_
   refine st_ J (fun _ _ _ gq kq=>lP (gq.1.trans J) J J T.aF kq) ?_
   refine st_ J (fun _ _ _ gq kq=>iF (gq.1.trans J) (gq.2.1.trans J) T.aX O gB kq) ?_
   refine st_ J (fun _ _ _ gq kq=>lF (gq.1.trans J) J T.aF kq) ?_
   refine st_ J (fun _ _ _ gq kq=>bi (gq.1.trans J) (gq.2.1.trans J) (aG i6) kq) ?_
   refine st_ J (fun _ _ _ gq kq=>bsE (enc:=nE) (xs:= [((((ix (ix m.sT k1) k2).1)*((cl.length+1:Nat):Int))+(ix cl ((ix (ix m.sT k1) k2).2).toNat))]) (css:= [[int ((((ix (ix m.sT k1) k2).1)*((cl.length+1:Nat):Int))+(ix cl ((ix (ix m.sT k1) k2).2).toNat))]]) T.bZ ⟨J,J,p1 (φ:=int ((((ix (ix m.sT k1) k2).1)*((cl.length+1:Nat):Int))+(ix cl ((ix (ix m.sT k1) k2).2).toNat))) (by exact(gq.1.trans J)),tV⟩ J J J J kq) ?_
   refine pn (ap (key:=9) (zs:= [((((ix (ix m.sT k1) k2).1)*((cl.length+1:Nat):Int))+(ix cl ((ix (ix m.sT k1) k2).2).toNat))]) bX J J J T.bZ (by unfold aT at*;simp;omega) (by unfold aT at*;simp;omega) fun v53=>(ag (nl (eb (th (rg (bi J J (aG i6) (mv (nl ?_)))))))))
   have hN0:(k2+1)≤(ix m.sT k1).length:=by
    first|omega|simp_all
   have hN1:(row++ [((((ix (ix m.sT k1) k2).1)*((cl.length+1:Nat):Int))+(ix cl ((ix (ix m.sT k1) k2).2).toNat))])=sU cl.length cl (edg m k1) (k2+1):=by
    rw[ML (by show k2<(ix m.sT k1).length;omega),hrw];rfl
   exact ln (⟨k2+1,v53,row++ [((((ix (ix m.sT k1) k2).1)*((cl.length+1:Nat):Int))+(ix cl ((ix (ix m.sT k1) k2).2).toNat))]⟩:Nat × Value × (List Int)) ⟨hN0,hN1⟩ dO ⟨id,id,id,id,id,id,id,id,id,id,id,id,id,id,tV⟩ ⟨rI,rI,rI,rI,tV⟩
  ·try simp at hc1
   refine ex (xt_ (xt_ (xb (th (sq (rg (mv (cal (Hi:= [(9,own v2 3 1 nE row)]) (φs:= [osl 9 v2]) ⟨J,tV⟩ (rJ 5 9 (shelfI.OV _ v2 row)) T.Wq ⟨rI,tV⟩ fun _ _=>(nl (th (sq (rg ?_))))))))))))
   have hrow:Lib.compact (fE row)=pL cl.length cl (edg m k1):=by
    rw[hrw];exact PD (by show(ix m.sT k1).length≤k2;omega)
   have hrb:=MM hm hcr.lab hcr.few (x:=k1) O
   have hrf:=TI hm (n:=cl.length) (cl:=cl) (x:=k1) O
   rw[←hrow] at hrb hrf
   have hlb:=hcr.lab.bd k1 O
   have hkw:=hcr.few
   refine mv (mv (iF rfl rfl T.aX O gB (lF rfl rfl T.aF (tbU (ψ:=tab) 60 9999 rfl rfl (bB (φs:= [both (int (ix cl k1)) tab]) (φ:=str (lR (ix cl k1))) ⟨rfl,tV⟩ (Itoa.HU (ix cl k1) O O) T.MN (ag (nl (th (sq (sq (rg (mv (cal (Hi:= [(9,own v2 3 1 nE (fE row))]) (φs:= [osl 9 v2]) ⟨rfl,tV⟩ (CO 5 9 (shelfI.OW _ v2 (fE row))) T.Wr ⟨rI,tV⟩ fun _ v63=>(lnO rfl rfl T.aX (mv (nl (th (bk ?_))))))))))))))))))
   have hI3_0:0≤(Lib.compact (fE row)).length:=by
    first|omega|simp
   have hI3_1:(lR (ix cl k1))=mW (ix cl k1) ((Lib.compact (fE row)).take 0):=by
    exact Od _
   refine lp (κ:=Nat × ByteArray) (fun p=> [(1,ptr 1 b1 0),(3,sl 1 nE cl),(4,int (kk:Int)),(5,mpv 21 b21),(6,osl 24 v24),(7,int (k1:Int)),(12,str p.2),(26,sl 1 gE m.sT),(27,int (m.sT.length:Int)),(28,int (k1:Int)),(63,osl 9 v63),(64,int ((Lib.compact (fE row)).length:Int)),(65,int (p.1:Int)),(9999,tab)]) (fun p=> [(1,cell b1 [sl 1 rE_ m.aC,sl 1 gE m.sT]),(9,own v63 3 1 nE (Lib.compact (fE row))),(21,mp b21 smE smD smV mm1),(24,own v24 3 1 nE nx)]) (fun p=>(p.1≤(Lib.compact (fE row)).length)∧(p.2=mW (ix cl k1) ((Lib.compact (fE row)).take p.1))) (fun p=>(Lib.compact (fE row)).length- p.1) ⟨0,lR (ix cl k1)⟩ ⟨hI3_0,hI3_1⟩ ⟨id,id,id,id,id,id,id,id,id,id,id,id,id,id,tV⟩ ⟨rI,rI,rI,rI,tV⟩ ?_
   intro⟨k3,acc⟩ hG3
   obtain⟨hk3,hacc⟩:(k3≤(Lib.compact (fE row)).length)∧(acc=mW (ix cl k1) ((Lib.compact (fE row)).take k3)):=hG3
   show Ct _ _ _ _ [(1,ptr 1 b1 0),(3,sl 1 nE cl),(4,int (kk:Int)),(5,mpv 21 b21),(6,osl 24 v24),(7,int (k1:Int)),(12,str acc),(26,sl 1 gE m.sT),(27,int (m.sT.length:Int)),(28,int (k1:Int)),(63,osl 9 v63),(64,int ((Lib.compact (fE row)).length:Int)),(65,int (k3:Int)),(9999,tab)] [(1,cell b1 [sl 1 rE_ m.aC,sl 1 gE m.sT]),(9,own v63 3 1 nE (Lib.compact (fE row))),(21,mp b21 smE smD smV mm1),(24,own v24 3 1 nE nx)] _
   refine sq (rg (bi J J aO (nl (th (sq ?_)))))
   refine cd J (fun hc2=> ?_) (fun hc2=> ?_)
   ·try simp at hc2
    have hrk:=hrb _ (aQ hc2)
    have hz:=Dy (ix cl k1) ((Lib.compact (fE row)).take k3) O (fun y hy=>by have:=hrb y (List.mem_of_mem_take hy);omega)
    rw[List.length_take] at hz
    refine sk (th (sq (bk (sq (rg (iO J J J T.aX O O (lO J J gB J T.aF (ag (nl (th (rg (mv (mv (tbU (ψ:=tab) 70 9999 J J (bB (φs:= [both (int (ix (Lib.compact (fE row)) k3)) tab]) (φ:=str (lR (ix (Lib.compact (fE row)) k3))) ⟨J,tV⟩ (Itoa.HU (ix (Lib.compact (fE row)) k3) O O) T.MN (bi J J (KA (by have h9:=Dv (n:=ix (Lib.compact (fE row)) k3) O O;show 1+(lR _).size≤aT;unfold aT;omega)) (bi J J (KA (by have h9:=Dv (n:=ix (Lib.compact (fE row)) k3) O O;rw[ByteArray.size_append,hacc];show _+(1+_)≤aT;unfold aT;omega)) (ag (nl (eb (th (rg (bi J J (aG i6) (mv (nl ?_)))))))))))))))))))))))))
    have hN0:(k3+1)≤(Lib.compact (fE row)).length:=by
     first|omega|simp_all
    have hN1:(acc++(({ data:= #[32] })++(lR (ix (Lib.compact (fE row)) k3))))=mW (ix cl k1) ((Lib.compact (fE row)).take (k3+1)):=by
     rw[hacc,Ly,bM hc2]
    exact ln (⟨k3+1,acc++(({ data:= #[32] })++(lR (ix (Lib.compact (fE row)) k3)))⟩:Nat × ByteArray) ⟨hN0,hN1⟩ dO ⟨id,id,id,id,id,id,id,id,id,id,id,id,id,id,tV⟩ ⟨rI,rI,rI,rI,tV⟩
   ·try simp at hc2
    refine ex (xt_ (xt_ (xb (th (sq (rg ?_))))))
    have hky:acc=kyB (eK m cl k1):=by rw[hacc,show k3=(Lib.compact (fE row)).length by omega,List.take_length,hrow];rfl
    have hok:=TJ hm hcr.lab hcr.few (x:=k1) O
    have hks:acc.size≤aT:=by
     have:=Dy (ix cl k1) (Lib.compact (fE row)) O (fun y hy=>by have:=hrb y hy;omega)
     rw[hky];show(mW (ix cl k1) (pL cl.length cl (edg m k1))).size≤_;rw[←hrow];unfold aT;omega
    refine mv (mv (yQ (z:=0) (q:=acc) rfl rfl jZ T.qF hks T.zv3 (mv (xt rfl rfl (xt rfl rfl (ag (ag (nl (th (sq (sq (rg (mv (no rfl (nl (th ?_))))))))))))))))
    refine cd J (fun hc3=> ?_) (fun hc3=> ?_)
    ·try simp at hc3
     have hnw:=TG (m:=m) (cl:=cl) (k:=k1) O hkm hok (by rw[←hky];simpa using hc3)
     rw[←hky] at hnw
     refine sq (rg (mv (EV J J T.qF (ag (nl (th (rg (mv (mv (mv (mapUpdate (q:=acc) (u:=(mm1.length:Int)) J J jZ J T.qF hks (nl (th (rg (mv (mv (mv (iO J J J T.aX O O (sO (φ:=int (mm1.length:Int)) J J J T.aF (gN O) J (y':=(mm1.length:Int)) J (nl (eb (th (rg (bi J J (aG i6) (mv (nl ?_))))))))))))))))))))))))))
     have hN0:(k1+1)≤m.sT.length:=by
      first|omega|simp_all
     have hN1:pM (cD mm1 acc (mm1.length:Int)) (eY m cl (k1+1))∧(nx.set k1 (mm1.length:Int))=gS m cl (k1+1):=by
      exact⟨hnw.1,by rw[hnx];exact hnw.2⟩
     exact ln (⟨k1+1,cD mm1 acc (mm1.length:Int),nx.set k1 (mm1.length:Int)⟩:Nat × (List (ByteArray × Int)) × (List Int)) ⟨hN0,hN1⟩ dO ⟨id,id,id,id,id,id,id,id,id,tV⟩ ⟨rI,rI,rI,tV⟩
    ·try simp at hc3
     have hod:=TH (m:=m) (cl:=cl) (k:=k1) O hkm hok (by rw[←hky];simpa using hc3)
     rw[←hky] at hod
     refine sk (th (rg (mv (mv (mv (iO J J J T.aX O O (sO (φ:=int ((bP mm1 acc).getD 0)) J J J T.aF (gN O) J (y':=((bP mm1 acc).getD 0)) J (nl (eb (th (rg (bi J J (aG i6) (mv (nl ?_))))))))))))))
     have hN0:(k1+1)≤m.sT.length:=by
      first|omega|simp_all
     have hN1:pM mm1 (eY m cl (k1+1))∧(nx.set k1 ((bP mm1 acc).getD 0))=gS m cl (k1+1):=by
      exact⟨hod.1,by rw[hnx];exact hod.2⟩
     exact ln (⟨k1+1,mm1,nx.set k1 ((bP mm1 acc).getD 0)⟩:Nat × (List (ByteArray × Int)) × (List Int)) ⟨hN0,hN1⟩ dO ⟨id,id,id,id,id,id,id,id,id,tV⟩ ⟨rI,rI,rI,tV⟩
 ·try simp at hc0
  have hk1:k1=m.sT.length:=by omega
  have hml:mm1.length=gQ m cl:=Py (by rw[←hk1];exact hkm)
  have hne:nx=eI m cl:=by rw[hnx,hk1];exact MK m cl
  refine ex (xt_ (xt_ (xb (th (sq (rg (fz 24 6 J J (mv (ag (nl (th (sq (sq (rg (mv (EV J J T.qF (mv (bi J J fN (nl (th ?_))))))))))))))))))))
  refine cd J (fun hc4=> ?_) (fun hc4=> ?_)
  ·try simp at hc4
   refine sq (rg (mv (EV J J T.qF (ag (nl (th (ex (xt_ (xb ?_)))))))))
   have hN0:CR m f1 mm1.length nx:=by
    rw[hml,hne];exact TL hcr O
   exact ln (⟨f1,mm1.length,nx⟩:Nat × Nat × (List Int)) hN0 (by show f1<f1+1;omega) ⟨id,id,id,id,tV⟩ ⟨rI,tV⟩
  ·try simp at hc4
   have hfin:nx=aJ m:=by rw[hne];exact Wp hcr O
   refine sk (th (sq (rg (mv (ag (nl (th (rt (rb (rt_ (rb (scR ?_))))))))))))
   have hr0:nx=(aJ m):=by
    exact hfin
   exact rE () [.tmp 2] J [sl 1 nE nx] ⟨.tmp J,tV⟩ (cA1 (fun x0=>rV [sl 1 nE x0]) hr0) trivial eX
end mkc
end
section
namespace LstM
open ref01 ref03 ref04 ref06 Part Rungs LeftM TrimM RoundM MergeM BisM BisM3 BisM4 BisM5 BisM6 Itoa Keys WalkM WitM JudgM JudgM2 LevM divr divs divd dive divf divv judg sysw satj ChsM BisS TrimI QuoM FailM DivM RefM GenW CompM CrossM FitM TogM KeepK GuardM MakeM LsysM LsysM2 KeepB AtM ClsM
structure oH (cl:List Int) (n K:Nat) (f:Nat→Nat):Prop where
 z:f 0=0
 e:f n=K
 st:∀k,k<n→(0≤ix cl k∧ix cl k<(f k:Int)∧f (k+1)=f k)∨(ix cl k=(f k:Int)∧f (k+1)=f k+1)
theorem AE {cl:List Int} {n K:Nat} {f:Nat→Nat} (h:oH cl n K f):∀{j k:Nat},j≤k→k≤n→f j≤f k
 |j,0,hj,_=>by rw[show j=0 by omega];exact Nat.le_refl _
 |j,k+1,hj,hk=>by
  by_cases e:j=k+1
  ·rw[e];exact Nat.le_refl _
  ·have:=AE h (j:=j) (k:=k) O O
   rcases h.st k O with g|g<;>omega
theorem Ws {cl:List Int} {n K:Nat} {f:Nat→Nat} (h:oH cl n K f) {j k:Nat} (hj:j<k) (hk:k≤n):0≤ix cl j∧ix cl j<(f k:Int):=by
 have:=AE h (j:=j+1) (k:=k) O hk
 rcases h.st j O with g|g<;>omega
theorem nZ {cl:List Int} {n K:Nat} {f:Nat→Nat} (h:oH cl n K f) {k:Nat} (hk:k≤n):f k≤K:=by rw[←h.e];exact AE h hk (Nat.le_refl _)
theorem MO {cl:List Int} {n K:Nat} {f:Nat→Nat} (h:oH cl n K f) (hl:cl.length=n) {k:Nat} (hk:k<n) (e:ix cl k=(f k:Int)):cl.idxOf (f k:Int)=k:=by
 have h1:cl.idxOf (f k:Int)≤k:=QuoM.FM O e
 rcases Nat.lt_or_ge (cl.idxOf (f k:Int)) k with g|g
 ·have h2:=Ws h g (Nat.le_of_lt hk)
  have hin:(f k:Int)∈cl:=by rw[←e];exact aQ O
  have h3:=QuoM.sJ hin
  have h3:ix cl (cl.idxOf (f k:Int))=(f k:Int):=h3
  omega
 ·omega
theorem PF (m:aA) (cl:List Int):oH (eI m cl) m.sT.length (gQ m cl) (fun k=>(eY m cl k).length):=by
 refine⟨rfl,by rw[AC];rfl,fun k hk=> ?_⟩
 by_cases c:eK m cl k∈eY m cl k
 ·left
  have e:eY m cl (k+1)=eY m cl k:=by rw[nM hk];unfold dL;rw[if_pos c]
  have h1:pxa (eY m cl k) (eK m cl k)<(eY m cl k).length:=QuoM.uX c
  rw[wM hk,e]
  exact⟨O,O,rfl⟩
 ·right
  have e:eY m cl (k+1)=eY m cl k++ [eK m cl k]:=by rw[nM hk];unfold dL;rw[if_neg c]
  rw[wM hk,e,pG c]
  exact⟨rfl,by simp⟩
theorem Gv {m:aA} (hm:bA m):∀(f k:Nat) (cl:List Int),Lab m.sT.length k cl→k≤m.sT.length→yE m cl→m.sT.length- k<f→∃k' g,pT m k' (wL m f k cl)∧oH (wL m f k cl) m.sT.length k' g
 |0,k,cl,_,_,_,hf=>absurd hf O
 |f+1,k,cl,h,hk,hc,hf=>by
  have hle:=CZ m cl
  show ∃k' g,pT m k' (if k<gQ m cl then wL m f (gQ m cl) (eI m cl) else eI m cl)∧oH (if k<gQ m cl then wL m f (gQ m cl) (eI m cl) else eI m cl) m.sT.length k' g
  by_cases g:k<gQ m cl
  ·rw[if_pos g]
   exact Gv hm f _ _ (Az m cl) hle (zP hm h hk hc) O
  ·rw[if_neg g]
   exact⟨_,_,Tx hm h hk hc O,PF m cl⟩
theorem IU {m:aA} (hm:bA m):∃k g,pT m k (aJ m)∧oH (aJ m) m.sT.length k g:=by
 have f:=hm.few0
 refine Gv hm _ _ _ (Gg hm) f (fun R hR x y hx hy _=> ?_) O
 have e1:ix (sQ m) x=0:=BQ 0 hx
 have e2:ix (sQ m) y=0:=BQ 0 hy
 rw[e1,e2]
open Classical in
noncomputable def kY (m:aA):Nat:=if h:bA m then Classical.choose (IU h) else 0
theorem EB {m:aA} (hm:bA m):∃g,pT m (kY m) (aJ m)∧oH (aJ m) m.sT.length (kY m) g:=by
 unfold kY
 rw[dif_pos hm]
 exact Classical.choose_spec (IU hm)
noncomputable def fG (m:aA):aA:=jQ (aH m) (kY (aH m)) (aJ (aH m))
def mZ (mm:List (Int × Int)) (j:Nat):Prop:=mm.length=j∧∀c,bP mm c=if 0≤c∧c<(j:Int) then some c else none
theorem MP:mZ [] 0:=⟨rfl,fun c=>by rw[if_neg O];rfl⟩
theorem MQ {mm:List (Int × Int)} {j:Nat} (h:mZ mm j):mZ (cD mm (j:Int) (mm.length:Int)) (j+1):=by
 have hn:bP mm (j:Int)=none:=by rw[h.2,if_neg O]
 refine⟨by rw[ES,hn];simp[h.1],fun c=> ?_⟩
 rw[nA,h.2 c,h.1]
 by_cases e:(j:Int)=c
 ·subst e;rw[if_pos rfl,if_pos O]
 ·rw[if_neg e]
  by_cases g:0≤c∧c<(j:Int)
  ·rw[if_pos g,if_pos O]
  ·rw[if_neg g,if_neg O]
theorem Gw {mm:List (Int × Int)} {j:Nat} (h:mZ mm j) {c:Int} (h0:0≤c) (h1:c<(j:Int)):(bP mm c).getD 0=c:=by rw[h.2,if_pos ⟨h0,h1⟩];rfl
theorem Gx {mm:List (Int × Int)} {j:Nat} (h:mZ mm j) (c:Int):(bP mm c).isSome=decide (0≤c∧c<(j:Int)):=by
 rw[h.2]
 by_cases g:0≤c∧c<(j:Int)
 ·rw[if_pos g,decide_eq_true g];rfl
 ·rw[if_neg g,decide_eq_false g];rfl
theorem MR {cl:List Int} {n K:Nat} {f:Nat→Nat} (h:oH cl n K f) {k:Nat} (hk:k<n) {mm:List (Int × Int)} (hm:mZ mm (f k)) (hs:(bP mm (ix cl k)).isSome=false):mZ (cD mm (ix cl k) (mm.length:Int)) (f (k+1)):=by
 rw[Gx hm] at hs
 have hs:=of_decide_eq_false hs
 rcases h.st k hk with g|g
 ·exact absurd ⟨g.1,g.2.1⟩ hs
 ·rw[g.1,g.2];exact MQ hm
theorem MS {cl:List Int} {n K:Nat} {f:Nat→Nat} (h:oH cl n K f) {k:Nat} (hk:k<n) {mm:List (Int × Int)} (hm:mZ mm (f k)) (hs:(bP mm (ix cl k)).isSome=true):mZ mm (f (k+1)):=by
 rw[Gx hm] at hs
 have hs:=of_decide_eq_true hs
 rcases h.st k hk with g|g
 ·rw[g.2.2];exact hm
 ·omega
def jX (K j:Nat):List Bool:=(List.range K).map fun c=>decide (c<j)
theorem AF (K j:Nat):(jX K j).length=K:=by simp[jX]
theorem IV {K j c:Nat} (h:c<K):ix (jX K j) c=decide (c<j):=bS h
theorem AG {K j c:Nat} (h:c<(jX K j).length):(jX K j)[c]=decide (c<j):=by simp[jX]
theorem MU (K:Nat):List.replicate K false=jX K 0:=by
 apply List.ext_getElem (by simp[jX])
 intro i a1 a2
 rw[AG a2];simp
theorem PG {K j:Nat}:(jX K j).set j true=jX K (j+1):=by
 apply List.ext_getElem (by simp[jX])
 intro i a1 a2
 have hi:i<(jX K j).length:=by rw[AF];rw[AF] at a2;exact a2
 rw[List.getElem_set,AG a2]
 by_cases e:j=i
 ·subst e;rw[if_pos rfl];simp
 ·rw[if_neg e,AG hi]
  rw[decide_eq_decide];omega
theorem TM {cl:List Int} {n K:Nat} {f:Nat→Nat} (h:oH cl n K f) {k:Nat} (hk:k<n) (hb:ix cl k<(K:Int)) (e:ix (jX K (f k)) (ix cl k).toNat=true):f (k+1)=f k:=by
 rcases h.st k hk with g|g
 ·exact g.2.2
 ·rw[g.1,Int.toNat_natCast,IV O] at e
  exact absurd (of_decide_eq_true e) O
theorem TP {cl:List Int} {n K:Nat} {f:Nat→Nat} (h:oH cl n K f) {k:Nat} (hk:k<n) (hb:ix cl k<(K:Int)) (e:ix (jX K (f k)) (ix cl k).toNat=false):ix cl k=(f k:Int)∧f (k+1)=f k+1:=by
 rcases h.st k hk with g|g
 ·rw[IV O] at e
  exact absurd (of_decide_eq_false e) O
 ·exact g
def sV (p:aA) (nx:List Int) (j:Nat):List (List PP):=(List.range j).map fun(c:Nat)=>qE nx (edg p (nx.idxOf (c:Int)))
theorem PK (p:aA) (nx:List Int) (j:Nat):(sV p nx j).length=j:=by simp[sV]
theorem MV (p:aA) (nx:List Int) (j:Nat):sV p nx (j+1)=sV p nx j++ [qE nx (edg p (nx.idxOf (j:Int)))]:=by
 unfold sV
 rw[List.range_succ,List.map_append];rfl
theorem PL (p:aA) (nx:List Int) (K:Nat):sV p nx K=(jQ p K nx).sT:=rfl
def qH (nx:List Int) (es:List PP) (k:Nat):List PP:=(es.take k).map fun e=>(e.1,ix nx e.2.toNat)
theorem TQ {nx:List Int} {es:List PP} {k:Nat} (h:k<es.length):qH nx es (k+1)=qH nx es k++ [((ix es k).1,ix nx (ix es k).2.toNat)]:=by
 unfold qH
 rw[bM h,List.map_append];rfl
theorem Wt {nx:List Int} {es:List PP} {k:Nat}:(qH nx es k).length≤k:=by unfold qH;rw[List.length_map,List.length_take];omega
theorem Wu {nx:List Int} {es:List PP} {k:Nat} (h:es.length≤k):Lib.compact (cG (qH nx es k))=qE nx es:=by
 unfold qH qE
 rw[List.take_of_length_le h]
end LstM
end
section
open ref01 ref03 ref04 ref06 prog prog2 prog3 prog4 prog5 prog6 prog7 prog8 prog9 Part Rungs LeftM TrimM RoundM MergeM BisM BisM4 BisM5 Itoa Keys WalkM StepM WitM JudgM JudgM2 refw judg wit refj sysw satj divr divs divd dive TrimI QuoM FailM DivM CompM CrossM KeepK GuardM MakeM LsysM LsysM2 KeepB AtM ClsM LstM mkk mkp mkl mkc
namespace T
theorem AH:∀w F,∃u,(zeroValue 3).run Tryz.prog w= .ok u w∧(kZ 0).p w F u:=zV (v:= .int .i64 0) kR _ (fun _ _=>Cu)
theorem oI:mP Tryz.prog 200 3 3 kN lI:=Gk kR kR
theorem Wv:Ent Tryz.prog 150:=aN kR
theorem Ww:Ent Tryz.prog 151:=aN kR
theorem Wx:Ent Tryz.prog 152:=aN kR
end T
namespace mkq
theorem PM (m:aA) (hv:bN m=true):
 AL.Fn Tryz.prog 121 [mC (sys m)] [] (ι:=List Int) (fun N i=>tup [Vs N (fG m),ints i,int 0]) (fun _=> []):=by
 refine fnI Tryz.func121 rfl rfl (fun w0 F0=> ?_)
 have hm:=eF hv;have f0:=hm.few0;have f1:=hm.few1;have hn8:=hm.n8;have hle:=nL hm;have hp:=qC hm;have hpl:=lG m;have pf0:=hp.few0;have pf1:=hp.few1;have pf8:=hp.n8
 obtain⟨g,hcl,hor⟩:=EB hp
 have hkf:=hcl.few;have hll:=hcl.lab.len
 have hrep:(List.replicate m.sT.length (0:Int)).length=m.sT.length:=by simp
 refine tbI 0 9999 rfl ?_
 refine CF (ψ:=tab) 9999 997 rfl ?_
 refine fcC (bW 0 J) (fun hS0=> ?_)
 obtain⟨hma0,hms0,hme0⟩:=bU hS0
 refine sq (rg (bx (key:=1) (cs:= [sl 1 rE_ m.aC,sl 1 gE m.sT]) J fun b1=>(al (key:=2) T.z25 (eC (eC eZ)) fun b2=>(ag (ag (nl (th (sq (sq (rg (lPA J J T.bE J (bB (φs:= [agg [sl 1 rE_ m.aC,sl 1 gE m.sT]]) (φ:=bl (bN m)) ⟨J,tV⟩ (sysw.jT m) T.zD (no J (nl (th ?_)))))))))))))))
 refine cd J (fun hc0=> ?_) (fun hc0=> ?_)
 ·try simp at hc0
  rw[hv] at hc0;cases hc0
 ·try simp at hc0
  refine sk (th (sq (rg (lPA J J T.bE J (bB (φs:= [agg [sl 1 rE_ m.aC,sl 1 gE m.sT],int 0]) (φ:=tup [agg [sl 1 rE_ (aH m).aC,sl 1 gE (aH m).sT],sl 1 nE (aY m)]) ⟨J,J,tV⟩ (mkl.TD m aS) T.Wv (mv (xt J J (xt J J (al (key:=5) T.z25 (eC (eC eZ)) fun b5=>(sPA (cs':= [sl 1 rE_ (aH m).aC,sl 1 gE (aH m).sT]) J J J T.bE J J (ag (nl (th (sq (rg (lPA J J T.bE J (tbU (ψ:=tab) 31 9999 J J (bB (φs:= [both (agg [sl 1 rE_ (aH m).aC,sl 1 gE (aH m).sT]) tab]) (φ:=sl 1 nE (aJ (aH m))) ⟨J,tV⟩ (mkc.Kk (aH m) aS) T.Ww (ag (nl (th (sq (rg (mkm (key:=33) (kE:=kN) (dom:=lI) (vE:=kZ) fun b33=>(ag (nl (th (sq (rg (fP J T.fB (lP J J J T.cM (kK (φs:= [sl 1 rE_ m.aC]) (φ:=fre w0.heap.size (sl 1 rE_ m.aC)) ⟨J,tV⟩ (prog.gJ _ O) T.tJ (fun N hN=>fun h=>jN hN h) (bd (css:= [(0,_)]) T.oD (eC (eC eZ)) ⟨J,J,p1 (φ:=fre w0.heap.size (sl 1 rE_ m.aC)) J,tV⟩ (al (key:=9) T.z25 (eC (eC eZ)) fun b9=>(sPA (cs':= [fre w0.heap.size (sl 1 rE_ m.aC),eqv (.slice none 0 0)]) J J J T.bE J J (nl (th (sq (rg (fP J T.bO (lP J J J T.cF (fc (aV 39 J) fun hm39=>(lnF J T.dQ (mk (key:=41) (m:=m.sT.length) (enc:=nE) (y:=(0:Int)) J J T.bZ (eC eZ) mL mL fun v41=>(ag (nl (th (sq (sq (rg (mv (lnO J J T.aX (mv (nl (th (bk ?_))))))))))))))))))))))))))))))))))))))))))))))))))))))))
  have hI0_0:0≤(List.replicate m.sT.length (0:Int)).length:=by
   first|omega|simp
  have hI0_1:(List.replicate m.sT.length (0:Int)).length=m.sT.length:=by
   exact hrep
  refine lp (κ:=Nat × (List Int)) (fun p=> [(2,ptr 2 b2 0),(3,eqv (.slice none 0 0)),(4,int 0),(5,ptr 5 b5 0),(6,sl 1 nE (aY m)),(7,sl 1 nE (aJ (aH m))),(8,mpv 33 b33),(9,ptr 9 b9 0),(10,osl 41 v41),(43,int ((List.replicate m.sT.length (0:Int)).length:Int)),(44,int (p.1:Int)),(9999,tab)]) (fun p=> [(1,cell b1 [sl 1 rE_ m.aC,sl 1 gE m.sT]),(2,cell b2 [eqv (.slice none 0 0),eqv (.slice none 0 0)]),(5,cell b5 [sl 1 rE_ (aH m).aC,sl 1 gE (aH m).sT]),(9,cell b9 [fre w0.heap.size (sl 1 rE_ m.aC),eqv (.slice none 0 0)]),(33,mp b33 kN lI kZ ([]:List (Int × Int))),(41,own v41 3 1 nE p.2),(997,eB tab)]) (fun p=>(p.1≤(List.replicate m.sT.length (0:Int)).length)∧(p.2.length=m.sT.length)) (fun p=>(List.replicate m.sT.length (0:Int)).length- p.1) ⟨0,List.replicate m.sT.length (0:Int)⟩ ⟨hI0_0,hI0_1⟩ ⟨id,id,id,id,id,id,id,id,id,id,id,id,tV⟩ ⟨rI,rI,rI,rI,rI,rI,rI,tV⟩ ?_
  intro⟨k,of0⟩ hG0
  obtain⟨hk0,hof0⟩:(k≤(List.replicate m.sT.length (0:Int)).length)∧(of0.length=m.sT.length):=hG0
  show Ct _ _ _ _ [(2,ptr 2 b2 0),(3,eqv (.slice none 0 0)),(4,int 0),(5,ptr 5 b5 0),(6,sl 1 nE (aY m)),(7,sl 1 nE (aJ (aH m))),(8,mpv 33 b33),(9,ptr 9 b9 0),(10,osl 41 v41),(43,int ((List.replicate m.sT.length (0:Int)).length:Int)),(44,int (k:Int)),(9999,tab)] [(1,cell b1 [sl 1 rE_ m.aC,sl 1 gE m.sT]),(2,cell b2 [eqv (.slice none 0 0),eqv (.slice none 0 0)]),(5,cell b5 [sl 1 rE_ (aH m).aC,sl 1 gE (aH m).sT]),(9,cell b9 [fre w0.heap.size (sl 1 rE_ m.aC),eqv (.slice none 0 0)]),(33,mp b33 kN lI kZ ([]:List (Int × Int))),(41,own v41 3 1 nE of0),(997,eB tab)] _
  refine sq (rg (bi J J aO (nl (th (sq ?_)))))
  refine cd J (fun hc1=> ?_) (fun hc1=> ?_)
  ·try simp at hc1
   refine sk (th (sq (bk (sq (rg (mv (ag (nl (th (rg (mv (mv (iO J J J T.aX O O (sO (φ:=int (-1)) J J J T.aF gB J (y':=(-1)) J (nl (eb (th (rg (bi J J (aG i6) (mv (nl ?_)))))))))))))))))))))
   have hN0:(k+1)≤(List.replicate m.sT.length (0:Int)).length:=by
    first|omega|simp_all
   have hN1:(of0.set k (-1)).length=m.sT.length:=by
    rw[List.length_set];exact hof0
   exact ln (⟨k+1,of0.set k (-1)⟩:Nat × (List Int)) ⟨hN0,hN1⟩ dO ⟨id,id,id,id,id,id,id,id,id,id,id,id,tV⟩ ⟨rI,rI,rI,rI,rI,rI,rI,tV⟩
  ·try simp at hc1
   refine ex (xt_ (xt_ (xb (th (sq (sq (rg (mv (fc (aV 51 J) fun hm51=>(lnF J T.aX (mv (nl (th (bk ?_))))))))))))))
   have hI1_0:0≤(aJ (aH m)).length:=by
    first|omega|simp
   have hI1_1:mZ ([]:List (Int × Int)) (g 0)∧of0.length=m.sT.length:=by
    exact⟨by rw[hor.z];exact MP,hof0⟩
   refine lp (κ:=Nat × (List (Int × Int)) × (List Int)) (fun p=> [(2,ptr 2 b2 0),(3,eqv (.slice none 0 0)),(4,int 0),(5,ptr 5 b5 0),(6,sl 1 nE (aY m)),(7,sl 1 nE (aJ (aH m))),(8,mpv 33 b33),(9,ptr 9 b9 0),(10,osl 41 v41),(51,sl 1 nE (aJ (aH m))),(52,int ((aJ (aH m)).length:Int)),(53,int (p.1:Int)),(9999,tab)]) (fun p=> [(1,cell b1 [sl 1 rE_ m.aC,sl 1 gE m.sT]),(2,cell b2 [eqv (.slice none 0 0),eqv (.slice none 0 0)]),(5,cell b5 [sl 1 rE_ (aH m).aC,sl 1 gE (aH m).sT]),(9,cell b9 [fre w0.heap.size (sl 1 rE_ m.aC),eqv (.slice none 0 0)]),(33,mp b33 kN lI kZ p.2.1),(41,own v41 3 1 nE p.2.2),(997,eB tab)]) (fun p=>(p.1≤(aJ (aH m)).length)∧(mZ p.2.1 (g p.1)∧p.2.2.length=m.sT.length)) (fun p=>(aJ (aH m)).length- p.1) ⟨0,([]:List (Int × Int)),of0⟩ ⟨hI1_0,hI1_1⟩ ⟨id,id,id,id,id,id,id,id,id,id,id,id,id,tV⟩ ⟨rI,rI,rI,rI,rI,rI,rI,tV⟩ ?_
   intro⟨k1,mm,of1⟩ hG1
   obtain⟨hk1,⟨hnI,hof1⟩⟩:(k1≤(aJ (aH m)).length)∧(mZ mm (g k1)∧of1.length=m.sT.length):=hG1
   show Ct _ _ _ _ [(2,ptr 2 b2 0),(3,eqv (.slice none 0 0)),(4,int 0),(5,ptr 5 b5 0),(6,sl 1 nE (aY m)),(7,sl 1 nE (aJ (aH m))),(8,mpv 33 b33),(9,ptr 9 b9 0),(10,osl 41 v41),(51,sl 1 nE (aJ (aH m))),(52,int ((aJ (aH m)).length:Int)),(53,int (k1:Int)),(9999,tab)] [(1,cell b1 [sl 1 rE_ m.aC,sl 1 gE m.sT]),(2,cell b2 [eqv (.slice none 0 0),eqv (.slice none 0 0)]),(5,cell b5 [sl 1 rE_ (aH m).aC,sl 1 gE (aH m).sT]),(9,cell b9 [fre w0.heap.size (sl 1 rE_ m.aC),eqv (.slice none 0 0)]),(33,mp b33 kN lI kZ mm),(41,own v41 3 1 nE of1),(997,eB tab)] _
   refine sq (rg (bi J J aO (nl (th (sq ?_)))))
   refine cd J (fun hc2=> ?_) (fun hc2=> ?_)
   ·try simp at hc2
    have hlb:=hcl.lab.bd k1 O
    have hxb:=(kD hm).bd _ (aQ (l:=aY m) (i:=k1) O)
    have hk1n:k1<(aH m).sT.length:=by omega
    refine sk (th (sq (bk (sq (rg (mv (iF J J T.aX O gB (lF J J T.aF (ag (ag (nl (th (sq (sq (rg (mv (mv (yQ (z:=(0:Int)) (q:=ix (aJ (aH m)) k1) J J jZ T.oI ⟨O,O⟩ T.AH (mv (xt J J (xt J J (ag (ag (nl (th (sq (rg (mv (no J (nl (th ?_)))))))))))))))))))))))))))))))
    refine cd J (fun hc3=> ?_) (fun hc3=> ?_)
    ·try simp at hc3
     have hst:=MR hor hk1n hnI (by simpa using hc3)
     refine rg (mv (mv (mv (EV J J T.oI (mapUpdate (q:=ix (aJ (aH m)) k1) (u:=(mm.length:Int)) J J jZ J T.oI ⟨O,O⟩ (nl (th (dr (nh:=9) [0,0,0,6,14,0,0,96,255,511] T.mixed kR ?_))))))))
     refine st_ J (fun _ _ _ gq kq=>mv' (gq.1.trans J) kq) ?_
     refine st_ J (fun _ _ _ gq kq=>mv' (gq.1.trans J) kq) ?_
     refine st_ J (fun _ _ _ gq kq=>mv' (gq.1.trans J) kq) ?_
     refine st_ J (fun _ _ _ gq kq=>iF (gq.1.trans J) (gq.2.1.trans J) T.aX O gB kq) ?_
     refine st_ J (fun _ _ _ gq kq=>lF (gq.1.trans J) J T.aF kq) ?_
     refine st_ J (fun _ _ _ gq kq=>mv' (gq.1.trans J) kq) ?_
     refine st_ J (fun _ _ _ gq kq=>mv' (gq.1.trans J) kq) ?_
     refine st_ J (fun _ _ _ gq kq=>lookup (z:=(0:Int)) (q:=ix (aJ (aH m)) k1) (gq.1.trans J) J (fun h=>FC (gq.2.1.trans J) h) T.oI ⟨O,O⟩ T.AH kq) ?_
     refine st_ J (fun _ _ _ gq kq=>iO (gq.1.trans J) J (gq.2.1.trans J) T.aX O O kq) ?_
     refine pn (sO (φ:=int ((bP (cD mm (ix (aJ (aH m)) k1) (mm.length:Int)) (ix (aJ (aH m)) k1)).getD (0:Int))) J J J T.aF gB J (y':=((bP (cD mm (ix (aJ (aH m)) k1) (mm.length:Int)) (ix (aJ (aH m)) k1)).getD (0:Int))) J (nl (eb (th (rg (bi J J (aG i6) (mv (nl ?_))))))))
     have hN0:(k1+1)≤(aJ (aH m)).length:=by
      first|omega|simp_all
     have hN1:mZ (cD mm (ix (aJ (aH m)) k1) (mm.length:Int)) (g (k1+1))∧(of1.set (ix (aY m) k1).toNat ((bP (cD mm (ix (aJ (aH m)) k1) (mm.length:Int)) (ix (aJ (aH m)) k1)).getD (0:Int))).length=m.sT.length:=by
      exact⟨hst,by rw[List.length_set];exact hof1⟩
     exact ln (⟨k1+1,cD mm (ix (aJ (aH m)) k1) (mm.length:Int),of1.set (ix (aY m) k1).toNat ((bP (cD mm (ix (aJ (aH m)) k1) (mm.length:Int)) (ix (aJ (aH m)) k1)).getD (0:Int))⟩:Nat × (List (Int × Int)) × (List Int)) ⟨hN0,hN1⟩ dO ⟨id,id,id,id,id,id,id,id,id,id,id,id,id,tV⟩ ⟨rI,rI,rI,rI,rI,rI,rI,tV⟩
    ·try simp at hc3
     have hst:=MS hor hk1n hnI (by simpa using hc3)
     refine sk (th (dr (nh:=9) [0,0,0,6,14,0,0,96,255,511] T.mixed kR ?_))
     refine st_ J (fun _ _ _ gq kq=>mv' (gq.1.trans J) kq) ?_
     refine st_ J (fun _ _ _ gq kq=>mv' (gq.1.trans J) kq) ?_
     refine st_ J (fun _ _ _ gq kq=>mv' (gq.1.trans J) kq) ?_
     refine st_ J (fun _ _ _ gq kq=>iF (gq.1.trans J) (gq.2.1.trans J) T.aX O gB kq) ?_
     refine st_ J (fun _ _ _ gq kq=>lF (gq.1.trans J) J T.aF kq) ?_
     refine st_ J (fun _ _ _ gq kq=>mv' (gq.1.trans J) kq) ?_
     refine st_ J (fun _ _ _ gq kq=>mv' (gq.1.trans J) kq) ?_
     refine st_ J (fun _ _ _ gq kq=>lookup (z:=(0:Int)) (q:=ix (aJ (aH m)) k1) (gq.1.trans J) J (fun h=>FC (gq.2.1.trans J) h) T.oI ⟨O,O⟩ T.AH kq) ?_
     refine st_ J (fun _ _ _ gq kq=>iO (gq.1.trans J) J (gq.2.1.trans J) T.aX O O kq) ?_
     refine pn (sO (φ:=int ((bP mm (ix (aJ (aH m)) k1)).getD (0:Int))) J J J T.aF gB J (y':=((bP mm (ix (aJ (aH m)) k1)).getD (0:Int))) J (nl (eb (th (rg (bi J J (aG i6) (mv (nl ?_))))))))
     have hN0:(k1+1)≤(aJ (aH m)).length:=by
      first|omega|simp_all
     have hN1:mZ mm (g (k1+1))∧(of1.set (ix (aY m) k1).toNat ((bP mm (ix (aJ (aH m)) k1)).getD (0:Int))).length=m.sT.length:=by
      exact⟨hst,by rw[List.length_set];exact hof1⟩
     exact ln (⟨k1+1,mm,of1.set (ix (aY m) k1).toNat ((bP mm (ix (aJ (aH m)) k1)).getD (0:Int))⟩:Nat × (List (Int × Int)) × (List Int)) ⟨hN0,hN1⟩ dO ⟨id,id,id,id,id,id,id,id,id,id,id,id,id,tV⟩ ⟨rI,rI,rI,rI,rI,rI,rI,tV⟩
   ·try simp at hc2
    have hK:mZ mm (kY (aH m)):=by
     have h9:=hnI
     rw[show k1=(aH m).sT.length by omega,hor.e] at h9
     exact h9
    have hKl:=hK.1
    refine ex (xt_ (xt_ (xb (th (sq (rg (mv (EV J J T.oI (mk (key:=82) (m:=mm.length) (enc:=blE) (y:=false) J J T.vT (eC eZ) mL mL fun v82=>(ag (nl (th (sq (sq (rg (mv (lnF J T.aX (mv (nl (th (bk ?_)))))))))))))))))))))
    refine nwC 90 87 1 (kX w0.heap.size) (jS 9 1 (osl 90 (.slice none 0 0)) rfl rfl dM ?_)
    have hI2_0:0≤(aJ (aH m)).length:=by
     first|omega|simp
    have hI2_1:(List.replicate mm.length false)=jX (kY (aH m)) (g 0)∧([]:List (List (Int × Int)))=sV (aH m) (aJ (aH m)) (g 0):=by
     exact⟨by rw[hor.z,hKl];exact MU _,by rw[hor.z];rfl⟩
    refine lp (κ:=Nat × (List Bool) × Value × (List (List (Int × Int)))) (fun p=> [(2,ptr 2 b2 0),(3,eqv (.slice none 0 0)),(4,int 0),(5,ptr 5 b5 0),(7,sl 1 nE (aJ (aH m))),(8,mpv 33 b33),(9,ptr 9 b9 0),(10,osl 41 v41),(16,osl 82 v82),(83,sl 1 nE (aJ (aH m))),(84,int ((aJ (aH m)).length:Int)),(85,int (p.1:Int)),(9999,tab)]) (fun p=> [(1,cell b1 [sl 1 rE_ m.aC,sl 1 gE m.sT]),(2,cell b2 [eqv (.slice none 0 0),eqv (.slice none 0 0)]),(5,cell b5 [sl 1 rE_ (aH m).aC,sl 1 gE (aH m).sT]),(9,cell b9 [fre w0.heap.size (sl 1 rE_ m.aC),osl 90 p.2.2.1]),(33,mp b33 kN lI kZ mm),(41,own v41 3 1 nE of1),(82,own v82 4 1 blE p.2.1),(90,own p.2.2.1 87 1 (kX w0.heap.size) p.2.2.2),(997,eB tab)]) (fun p=>(p.1≤(aJ (aH m)).length)∧(p.2.1=jX (kY (aH m)) (g p.1)∧p.2.2.2=sV (aH m) (aJ (aH m)) (g p.1))) (fun p=>(aJ (aH m)).length- p.1) ⟨0,List.replicate mm.length false,(.slice none 0 0),([]:List (List (Int × Int)))⟩ ⟨hI2_0,hI2_1⟩ ⟨id,id,id,id,id,id,id,id,id,id,id,id,id,tV⟩ ⟨rI,rI,rI,rI,rI,rI,rI,rI,rI,tV⟩ ?_
    intro⟨k2,met,uo,aI⟩ hG2
    obtain⟨hk2,⟨hmet,hout⟩⟩:(k2≤(aJ (aH m)).length)∧(met=jX (kY (aH m)) (g k2)∧aI=sV (aH m) (aJ (aH m)) (g k2)):=hG2
    show Ct _ _ _ _ [(2,ptr 2 b2 0),(3,eqv (.slice none 0 0)),(4,int 0),(5,ptr 5 b5 0),(7,sl 1 nE (aJ (aH m))),(8,mpv 33 b33),(9,ptr 9 b9 0),(10,osl 41 v41),(16,osl 82 v82),(83,sl 1 nE (aJ (aH m))),(84,int ((aJ (aH m)).length:Int)),(85,int (k2:Int)),(9999,tab)] [(1,cell b1 [sl 1 rE_ m.aC,sl 1 gE m.sT]),(2,cell b2 [eqv (.slice none 0 0),eqv (.slice none 0 0)]),(5,cell b5 [sl 1 rE_ (aH m).aC,sl 1 gE (aH m).sT]),(9,cell b9 [fre w0.heap.size (sl 1 rE_ m.aC),osl 90 uo]),(33,mp b33 kN lI kZ mm),(41,own v41 3 1 nE of1),(82,own v82 4 1 blE met),(90,own uo 87 1 (kX w0.heap.size) aI),(997,eB tab)] _
    have hol:aI.length≤10000:=by rw[hout,PK];have:=nZ hor (k:=k2) O;omega
    refine sq (rg (bi J J aO (nl (th (sq ?_)))))
    refine cd J (fun hc4=> ?_) (fun hc4=> ?_)
    ·try simp at hc4
     have hlb:=hcl.lab.bd k2 O
     have hg5:=Gw hK hlb.1 hlb.2
     have hmtl:met.length=(kY (aH m)):=by rw[hmet];exact AF _ _
     refine sk (th (sq (bk (sq (rg (mv (iF J J T.aX O gB (lF J J T.aF (ag (ag (nl (th (sq (sq (rg (mv (mv (mv (lookup (z:=(0:Int)) (q:=ix (aJ (aH m)) k2) J J jZ T.oI ⟨O,O⟩ T.AH (iO J J J T.gV O O (lO J J gB J T.eT (nl (th ?_)))))))))))))))))))))))
     refine cd J (fun hc5=> ?_) (fun hc5=> ?_)
     ·try simp at hc5
      have hsame:=TM hor (k:=k2) O hlb.2 (by rw[←hmet];rw[hg5] at hc5;exact hc5)
      refine ex (xt_ (xb (th (rg (bi J J (aG i6) (mv (nl ?_)))))))
      have hN0:(k2+1)≤(aJ (aH m)).length:=by
       first|omega|simp_all
      have hN1:met=jX (kY (aH m)) (g (k2+1))∧aI=sV (aH m) (aJ (aH m)) (g (k2+1)):=by
       rw[hsame];exact⟨hmet,hout⟩
      exact ln (⟨k2+1,met,uo,aI⟩:Nat × (List Bool) × Value × (List (List (Int × Int)))) ⟨hN0,hN1⟩ dO ⟨id,id,id,id,id,id,id,id,id,id,id,id,id,tV⟩ ⟨rI,rI,rI,rI,rI,rI,rI,rI,rI,tV⟩
     ·try simp at hc5
      have hnew:=TP hor (k:=k2) O hlb.2 (by rw[←hmet];rw[hg5] at hc5;exact hc5)
      have hfst:=MO hor hll (k:=k2) O hnew.1
      have hmx:=hp.many k2 O
      have hmx2:(ix (aH m).sT k2).length≤400000:=hmx
      refine sk (th (sq (rg (mv (mv (mv (lookup (z:=(0:Int)) (q:=ix (aJ (aH m)) k2) J J jZ T.oI ⟨O,O⟩ T.AH (iO J J J T.gV O O (sO (φ:=bl true) J J J T.eT gB J (y':=true) J (nl (th (sq (rg (nw 19 94 2 pE (ag (rtg (key:=19) 19 J (nl (th (sq (sq (rg (fP J T.bO (lP J J J T.cF (mv (iF J J T.dQ O gB (lF J J T.gF (fc (aV 105 J) fun hm105=>(lnF J T.cQ (mv (nl (th (bk ?_))))))))))))))))))))))))))))))))
      have hI3_0:0≤(ix (aH m).sT k2).length:=by
       first|omega|simp
      have hI3_1:([]:List (Int × Int))=qH (aJ (aH m)) (ix (aH m).sT k2) 0:=by
       rfl
      refine lp (κ:=Nat × Value × (List (Int × Int))) (fun p=> [(2,ptr 2 b2 0),(3,eqv (.slice none 0 0)),(4,int 0),(5,ptr 5 b5 0),(7,sl 1 nE (aJ (aH m))),(8,mpv 33 b33),(9,ptr 9 b9 0),(10,osl 41 v41),(16,osl 82 v82),(19,osl 19 p.2.1),(83,sl 1 nE (aJ (aH m))),(84,int ((aJ (aH m)).length:Int)),(85,int (k2:Int)),(105,sl 2 pE (ix (aH m).sT k2)),(106,int ((ix (aH m).sT k2).length:Int)),(107,int (p.1:Int)),(9999,tab)]) (fun p=> [(1,cell b1 [sl 1 rE_ m.aC,sl 1 gE m.sT]),(2,cell b2 [eqv (.slice none 0 0),eqv (.slice none 0 0)]),(5,cell b5 [sl 1 rE_ (aH m).aC,sl 1 gE (aH m).sT]),(9,cell b9 [fre w0.heap.size (sl 1 rE_ m.aC),osl 90 uo]),(19,own p.2.1 94 2 pE p.2.2),(33,mp b33 kN lI kZ mm),(41,own v41 3 1 nE of1),(82,own v82 4 1 blE (met.set ((bP mm (ix (aJ (aH m)) k2)).getD (0:Int)).toNat true)),(90,own uo 87 1 (kX w0.heap.size) aI),(997,eB tab)]) (fun p=>(p.1≤(ix (aH m).sT k2).length)∧(p.2.2=qH (aJ (aH m)) (ix (aH m).sT k2) p.1)) (fun p=>(ix (aH m).sT k2).length- p.1) ⟨0,(.slice none 0 0),([]:List (Int × Int))⟩ ⟨hI3_0,hI3_1⟩ ⟨id,id,id,id,id,id,id,id,id,id,id,id,id,id,id,id,id,tV⟩ ⟨rI,rI,rI,rI,rI,rI,rI,rI,rI,rI,tV⟩ ?_
      intro⟨k3,w1,l1⟩ hG3
      obtain⟨hk3,hl1⟩:(k3≤(ix (aH m).sT k2).length)∧(l1=qH (aJ (aH m)) (ix (aH m).sT k2) k3):=hG3
      show Ct _ _ _ _ [(2,ptr 2 b2 0),(3,eqv (.slice none 0 0)),(4,int 0),(5,ptr 5 b5 0),(7,sl 1 nE (aJ (aH m))),(8,mpv 33 b33),(9,ptr 9 b9 0),(10,osl 41 v41),(16,osl 82 v82),(19,osl 19 w1),(83,sl 1 nE (aJ (aH m))),(84,int ((aJ (aH m)).length:Int)),(85,int (k2:Int)),(105,sl 2 pE (ix (aH m).sT k2)),(106,int ((ix (aH m).sT k2).length:Int)),(107,int (k3:Int)),(9999,tab)] [(1,cell b1 [sl 1 rE_ m.aC,sl 1 gE m.sT]),(2,cell b2 [eqv (.slice none 0 0),eqv (.slice none 0 0)]),(5,cell b5 [sl 1 rE_ (aH m).aC,sl 1 gE (aH m).sT]),(9,cell b9 [fre w0.heap.size (sl 1 rE_ m.aC),osl 90 uo]),(19,own w1 94 2 pE l1),(33,mp b33 kN lI kZ mm),(41,own v41 3 1 nE of1),(82,own v82 4 1 blE (met.set ((bP mm (ix (aJ (aH m)) k2)).getD (0:Int)).toNat true)),(90,own uo 87 1 (kX w0.heap.size) aI),(997,eB tab)] _
      have hl1l:l1.length≤k3:=by rw[hl1];exact Wt
      refine sq (rg (bi J J aO (nl (th (sq ?_)))))
      refine cd J (fun hc6=> ?_) (fun hc6=> ?_)
      ·try simp at hc6
       have hed:=hp.ed k2 O _ (aQ (l:=(ix (aH m).sT k2)) O)
       have hed2:0≤(ix (ix (aH m).sT k2) k3).1∧(ix (ix (aH m).sT k2) k3).1<((aH m).aC.length:Int)∧0≤(ix (ix (aH m).sT k2) k3).2∧(ix (ix (aH m).sT k2) k3).2<((aH m).sT.length:Int):=hed
       have hle3:=hcl.lab.bd (ix (ix (aH m).sT k2) k3).2.toNat O
       have hg6:=Gw hK hle3.1 hle3.2
       refine sk (th (sq (bk (sq (rg (iF J J T.cQ O gB (lFA J T.cJ (Nat.le_of_ble_eq_true J) (al (key:=21) T.z94 (eC (eC eZ)) fun b21=>(sPA (cs':= [int ((ix (ix (aH m).sT k2) k3).1),int ((ix (ix (aH m).sT k2) k3).2)]) J J J T.cJ J J (nl (th (dr (nh:=12) [0,0,2,0,0,0,32,112,240,504,1022,2046,4095,8191] T.mixed kR ?_))))))))))))
       refine st_ J (fun _ _ _ gq kq=>mv' (gq.1.trans J) kq) ?_
       refine st_ J (fun _ _ _ gq kq=>fP (gq.1.trans J) T.cT kq) ?_
       refine st_ J (fun _ _ _ gq kq=>lP (gq.1.trans J) J J T.aF kq) ?_
       refine st_ J (fun _ _ _ gq kq=>mv' (gq.1.trans J) kq) ?_
       refine st_ J (fun _ _ _ gq kq=>mv' (gq.1.trans J) kq) ?_
       refine st_ J (fun _ _ _ gq kq=>fP (gq.1.trans J) T.cX kq) ?_
       refine st_ J (fun _ _ _ gq kq=>lP (gq.1.trans J) J J T.aF kq) ?_
       refine st_ J (fun _ _ _ gq kq=>iF (gq.1.trans J) (gq.2.1.trans J) T.aX O gB kq) ?_
       refine st_ J (fun _ _ _ gq kq=>lF (gq.1.trans J) J T.aF kq) ?_
       refine st_ J (fun _ _ _ gq kq=>lookup (z:=(0:Int)) (q:=ix (aJ (aH m)) ((ix (ix (aH m).sT k2) k3).2).toNat) (gq.1.trans J) J (fun h=>FC (gq.2.1.trans J) h) T.oI ⟨O,O⟩ T.AH kq) ?_
       refine st_ J (fun _ _ _ gq kq=>bd (css:= [(0,_),(1,_)]) T.AB (eC (eC eZ)) ⟨J,J,p1 (φ:=int ((ix (ix (aH m).sT k2) k3).1)) (by exact(gq.1.trans J)),⟨J,J,p1 (φ:=int ((bP mm (ix (aJ (aH m)) ((ix (ix (aH m).sT k2) k3).2).toNat)).getD (0:Int))) (by exact(gq.2.1.trans J)),tV⟩⟩ kq) ?_
       refine st_ J (fun _ _ _ gq kq=>bsE (enc:=pE) (xs:= [((ix (ix (aH m).sT k2) k3).1,(bP mm (ix (aJ (aH m)) ((ix (ix (aH m).sT k2) k3).2).toNat)).getD (0:Int))]) (css:= [[int ((ix (ix (aH m).sT k2) k3).1),int ((bP mm (ix (aJ (aH m)) ((ix (ix (aH m).sT k2) k3).2).toNat)).getD (0:Int))]]) T.oY ⟨J,J,pA (cs:= [int ((ix (ix (aH m).sT k2) k3).1),int ((bP mm (ix (aJ (aH m)) ((ix (ix (aH m).sT k2) k3).2).toNat)).getD (0:Int))]) (by exact(gq.1.trans J)),tV⟩ J J J J kq) ?_
       refine pn (ap (key:=19) (zs:= [((ix (ix (aH m).sT k2) k3).1,(bP mm (ix (aJ (aH m)) ((ix (ix (aH m).sT k2) k3).2).toNat)).getD (0:Int))]) bX J J J T.oY (by unfold aT at*;simp;omega) (by unfold aT at*;simp;omega) fun v123=>(ag (nl (eb (th (rg (bi J J (aG i6) (mv (nl ?_)))))))))
       have hN0:(k3+1)≤(ix (aH m).sT k2).length:=by
        first|omega|simp_all
       have hN1:(l1++ [((ix (ix (aH m).sT k2) k3).1,(bP mm (ix (aJ (aH m)) ((ix (ix (aH m).sT k2) k3).2).toNat)).getD (0:Int))])=qH (aJ (aH m)) (ix (aH m).sT k2) (k3+1):=by
        rw[TQ O,hl1,hg6]
       exact ln (⟨k3+1,v123,l1++ [((ix (ix (aH m).sT k2) k3).1,(bP mm (ix (aJ (aH m)) ((ix (ix (aH m).sT k2) k3).2).toNat)).getD (0:Int))]⟩:Nat × Value × (List (Int × Int))) ⟨hN0,hN1⟩ dO ⟨id,id,id,id,id,id,id,id,id,id,id,id,id,id,id,id,id,tV⟩ ⟨rI,rI,rI,rI,rI,rI,rI,rI,rI,rI,tV⟩
      ·try simp at hc6
       refine ex (xt_ (xt_ (xb (th (sq (rg (mv ?_)))))))
       have hsl:(cG l1).length=l1.length:=(fJ l1).length_eq
       have hbd:∀p∈l1,bdP p:=fun p hp9=>by
        rw[hl1] at hp9
        obtain⟨e,he,rfl⟩:=List.mem_map.1 hp9
        have h9:=hp.ed k2 O e (List.mem_of_mem_take he)
        have h8:=hcl.lab.bd e.2.toNat O
        unfold bdP;dsimp only;omega
       refine cal (Hi:= [(19,own w1 94 2 pE l1)]) (φs:= [osl 5 w1,eqv (.func (.func 114) #[] #[])]) ⟨eV.trans eV.symm,rfl,tV⟩ (rJ 5 19 (sortE.uF w1 l1 aS)) T.Gs ⟨rI,tV⟩ fun _ _=>(nl (th ?_))
       refine drH (nh:=5) [0,1,0,4,12,31,63,127] [(none,[]),(none,[9]),(none,[]),(some 19,[19]),(none,[])] T.mixed kR kR ?_
       refine stv (d:=127) (fun β0=>ptr 9 b9 1) [] J bH (fun β0 _ _ _ _ gq gh kq=>fP (gq.1.trans J) T.bO kq) ?_
       refine stv (d:=128) (fun β0=>osl 90 uo) [9] J bH (fun β0 _ _ _ _ gq gh kq=>lP (gq.1.trans J) (gh.1.trans J) J T.cF kq) ?_
       refine stv (d:=129) (fun β0=>osl 19 w1) [] J bH (fun β0 _ _ _ _ gq gh kq=>mv' (gq.1.trans J) kq) ?_
       refine sty (d:=130) (e:=94) (n:=2) (enc:=pE) (xs:=Lib.compact (cG l1)) 19 [19] (fun v=>osl 19 v) rfl (fun β0 _ _ _ _ gq gh kq=>cal (Hi:= [(19,own w1 94 2 pE (cG l1))]) (φs:= [osl 19 w1]) ⟨(gq.1.trans rfl),tV⟩ (CO 55 19 (comp2.MG 19 w1 (cG l1) O)) T.Wx (Xu (gh.1.trans rfl)) fun N v=>VP (kq v)) ?_
       refine stv (d:=131) (fun β0=>sl 1 id [[osl 19 (sv (β0 3))]]) [] J (fun β β' hb=>by first|rw[hb 3 J]|(dsimp only;rw[hb 3 J])) (fun β0 _ _ _ _ gq gh kq=>bs (css:= [[osl 19 (sv (β0 3))]]) T.sH ⟨J,J,p1 (φ:=osl 19 (sv (β0 3))) (by exact(gq.1.trans J)),tV⟩ J J J kq) ?_
       refine pnH fun β0=>(fzL pE (kX w0.heap.size) 19 130 131 noM flat J J J (by decide) J (ap (key:=90) (zs:= [Lib.compact (cG l1)]) bX J J J T.sH (by unfold aT at*;simp;omega) (by unfold aT at*;simp;omega) fun v132=>(fP J T.bO (cI J J J J T.cF J (nl (eb (th (rg (bi J J (aG i6) (mv (nl ?_)))))))))))
       have hN0:(k2+1)≤(aJ (aH m)).length:=by
        first|omega|simp_all
       have hN1:(met.set ((bP mm (ix (aJ (aH m)) k2)).getD (0:Int)).toNat true)=jX (kY (aH m)) (g (k2+1))∧(aI++ [Lib.compact (cG l1)])=sV (aH m) (aJ (aH m)) (g (k2+1)):=by
        rw[hnew.2,hg5,hnew.1,Int.toNat_natCast]
        exact⟨by rw[hmet];exact PG,by rw[MV,hout,hfst,hl1,Wu (by show(ix (aH m).sT k2).length≤k3;omega)]⟩
       exact ln (⟨k2+1,met.set ((bP mm (ix (aJ (aH m)) k2)).getD (0:Int)).toNat true,v132,aI++ [Lib.compact (cG l1)]⟩:Nat × (List Bool) × Value × (List (List (Int × Int)))) ⟨hN0,hN1⟩ dO ⟨id,id,id,id,id,id,id,id,id,id,id,id,id,tV⟩ ⟨rI,rI,rI,rI,rI,rI,rI,rI,rI,tV⟩
    ·try simp at hc4
     refine ex (xt_ (xt_ (xb (th (sq (rg (NH gE 9 90 1 noM (fun _=>J) J J J (by decide) (lPA J J T.bE J (mv (sPA (cs':= [fre w0.heap.size (sl 1 rE_ m.aC),fre w0.heap.size (sl 1 gE aI)]) J J J T.bE J J (ag (ag (nl (th (rt ?_)))))))))))))))
     refine fzA 41 3 rfl rfl ?_
     have hr0:aI=(fG m).sT:=by
      rw[hout,show k2=(aH m).sT.length by omega,hor.e];exact PL _ _ _
     exact rE of1 [.cell 2 25,.tmp 3,.tmp 4] J [agg [fre w0.heap.size (sl 1 rE_ m.aC),fre w0.heap.size (sl 1 gE aI)],sl 1 nE of1,int 0] ⟨.agg J J T.bE J J,.tmp J,.tmp J,tV⟩ (cA1 (fun x0=>rV [agg [fre w0.heap.size (sl 1 rE_ m.aC),fre w0.heap.size (sl 1 gE x0)],sl 1 nE of1,int 0]) hr0) trivial eX
end mkq
end
section
namespace MakeM2
open ref01 ref03 ref04 ref06 Part Rungs LeftM TrimM RoundM MergeM BisM BisM3 BisM4 BisM5 BisM6 Keys WalkM WitM JudgM JudgM2 LevM divr divs divd dive divf divv judg sysw satj ChsM BisS TrimI ValidM WitSat WitVal QuoM FailM DivM RefM GenW CompM CrossM FitM TogM KeepK GuardM MakeM LsysM LsysM2
theorem Eb {m:aA} {s:SS} (hs:oK s):eW m (tR s).1↔eW m s:=by
 unfold eW
 rw[nJ (oZ hs) (sD m),nJ hs (sD m)]
 exact⟨fun h=>rH h (sI hs),fun h=>rH h (sI hs).symm⟩
def Wy (s:SS) (y:Nat):Int:=ix (acc s y) 0
theorem MW {s:SS} (h:∀x,x<s.sT.length→acc s x≠[]):∀y,y<s.sT.length→Wy s y∈acc s y:=fun y hy=>aQ (List.length_pos_iff.2 (h y hy))
theorem rA {s:SS} (hs:oK s):ix (hOl s) 0=false↔∃x:aA,eW x s:=by
 constructor
 ·intro e
  exact⟨_,(Eb hs).1 (II (oZ hs) (MW (OrdM.DR hs e)))⟩
 ·rintro⟨x,R,hR,h0⟩
  exact CG hs (sD x) hR h0
theorem Hv {s d:SS} (hs:oK s) (hd:oK d) (h:∀x:aA,eW x s↔eW x d):ix (hOl s) 0=ix (hOl d) 0:=by
 have:ix (hOl s) 0=false↔ix (hOl d) 0=false:=by
  rw[rA hs,rA hd]
  exact⟨fun⟨x,g⟩=>⟨x,(h x).1 g⟩,fun⟨x,g⟩=>⟨x,(h x).2 g⟩⟩
 cases e:ix (hOl s) 0 with
 |false=>rw[this.1 e]
 |true=>
  cases e2:ix (hOl d) 0 with
  |true=>rfl
  |false=>rw[this.2 e2] at e;cases e
theorem Hw {s d:SS} (hs:oK s) (hd:oK d) (h:∀x:aA,eW x s↔eW x d) (u:Int):ix (hOl (aU u s)) 0=ix (hOl (aU u d)) 0:=
 Hv (gX hs u) (gX hd u) fun x=>by rw[tU,tU,h x]
section
variable {s:SS} (hs:oK s) {ch:Nat→Int} (hc:∀y,y<s.sT.length→ch y∈acc s y)
include hs hc
theorem IW (n:Nat) (u:Int) (nx:List Int):(mkE n u nx).length≤n:=by
 unfold mkE
 rw[List.length_map]
 unfold aK
 first
  |(refine Nat.le_trans (List.length_filterMap_le _ _) ?_;simp)
  |(rw[List.length_map];exact Nat.le_trans (List.length_filter_le _ _) (by simp))
  |(exact Nat.le_trans (List.length_filter_le _ _) (by simp))
theorem Gy {k:Nat} {nx:List Int} (h:pT (aH (mkM ch s)) k nx) {c:Nat} (hk:c<k):(edg (jQ (aH (mkM ch s)) k nx) c).length≤8:=by
 have hm:=vC hs hc
 have e1:(mkM ch s).sT.length=s.sT.length:=by simp[mkM]
 rw[vG hk]
 obtain⟨r1,_⟩:=yF h.lab hk
 refine Nat.le_trans (Mw _ _) ?_
 have r2:=r1
 rw[lG] at r2
 rw[vD r2]
 unfold uJ
 rw[(fJ _).length_eq,List.length_map]
 have hb:=(kD hm).bd _ (aQ r2)
 rw[vB O]
 exact Nat.le_trans (IW hs hc _ _ _) hs.n8
theorem Kl (hf:s.sT.length≤500) {k:Nat} {nx:List Int} (h:pT (aH (mkM ch s)) k nx):bN (jQ (aH (mkM ch s)) k nx)=true:=by
 have hm:=vC hs hc
 have hp:=qC hm
 have ho:=Mx hp h
 have e1:(mkM ch s).sT.length=s.sT.length:=by simp[mkM]
 have e2:=nL hm
 have e3:=h.few
 rw[lG] at e3
 have hl:=rL (aH (mkM ch s)) k nx
 have f0:=ho.few0
 have hmem:∀l∈(jQ (aH (mkM ch s)) k nx).sT,∃c,c<k∧l=edg (jQ (aH (mkM ch s)) k nx) c:=fun l hl2=>by
  obtain⟨c,hc2,rfl⟩:=List.getElem_of_mem hl2
  exact⟨c,O,(aD hc2).symm⟩
 have hac:(jQ (aH (mkM ch s)) k nx).aC=s.aC:=rfl
 unfold bN
 rw[hac,hs.acts,decide_eq_true (show 1≤(jQ (aH (mkM ch s)) k nx).sT.length by omega),decide_eq_true (show(jQ (aH (mkM ch s)) k nx).sT.length≤5000 by omega),decide_eq_true (show bR (jQ (aH (mkM ch s)) k nx).sT≤400000 from by
  refine Nat.le_trans (FH (K:=8) fun l hl2=> ?_) O
  obtain⟨c,hc2,rfl⟩:=hmem l hl2
  exact Gy hs hc h hc2)]
 simp only [Bool.true_and,Bool.and_true]
 refine List.all_eq_true.2 fun l hl2=> ?_
 obtain⟨c,hc2,rfl⟩:=hmem l hl2
 refine sG (fun j hj=> ?_) (fun j hj=> ?_)
 ·have:=ho.ed c O _ (aQ hj)
  exact eE.2 this
 ·have hr:(edg (jQ (aH (mkM ch s)) k nx) c).Pairwise uI:=by rw[vG hc2];exact Ty _ _
  rw[aD (show j<(edg (jQ (aH (mkM ch s)) k nx) c).length by omega),aD hj]
  have g1:=(List.pairwise_iff_getElem.1 hr) j (j+1) O hj O
  rw[oX]
  exact g1
end
theorem MX {m:aA} {t:SS} (hq:(bC m t).2=true):(gL m t).length≤500∧(bC m t).1=(tR (gD m t)).1:=by
 unfold bC at hq ⊢
 split at hq
 ·next g=>rw[if_pos g];exact⟨g,rfl⟩
 ·cases hq
theorem vJ {m:aA} {t:SS} (hm:bA m) (ht:oK t) (hq:(bC m t).2=true):oK (bC m t).1∧(bC m t).1.sT.length≤500∧(bC m t).1.aC=t.aC:=by
 obtain⟨g,e⟩:=MX hq
 have hok:=pK ht (yD hm ht) O
 rw[e]
 have:=Ai hok
 have e2:(gD m t).sT.length=(gL m t).length:=by simp[gD]
 exact⟨oZ hok,O,by rw[qB];rfl⟩
theorem TR {m x:aA} {t:SS} (hm:bA m) (hx:bA x) (ht:oK t) (hxt:x.aC=t.aC) (hq:(bC m t).2=true):eW x (bC m t).1↔lT m x t:=by
 obtain⟨g,e⟩:=MX hq
 rw[e,Eb (pK ht (yD hm ht) O)]
 exact Mu hm hx ht hxt (yD hm ht)
theorem Gz {m:aA} {t D:SS} (hm:bA m) (ht:oK t) {l:List LP} (h:CV m t l D) (hl:l.length≤10000) (hq:(bC m t).2=true) (u:Int):ix (hOl (aU u (bC m t).1)) 0=ix (hOl (aU u D)) 0:=by
 have hS:=Pm hm ht h hl hq
 have hD:=pK ht h hl
 exact Hw hS.ok hD (fun x=>DivM.OJ hS hD) u
end MakeM2
end
section
namespace MakeM3
open ref01 ref03 ref04 ref06 Part Rungs LeftM TrimM RoundM MergeM BisM BisM3 BisM4 BisM5 BisM6 Keys WalkM WitM JudgM JudgM2 LevM divr divs divd dive divf divv judg sysw satj ChsM BisS TrimI ValidM WitSat WitVal QuoM FailM DivM RefM GenW CompM CrossM FitM TogM KeepK GuardM MakeM LsysM LsysM2 MakeM2 LstM
theorem Hy (n:Nat) (t:Int):(aK n t).Pairwise (· < ·):=by
 unfold aK
 rw[List.pairwise_map]
 exact(List.pairwise_lt_range.filter _).imp fun {a b} h=>by omega
theorem PO (n:Nat) (u:Int) (nx:List Int):(mkE n u nx).Pairwise uI:=by
 unfold mkE
 rw[List.pairwise_map]
 exact(Hy n u).imp fun {a b} h=> .inl h
section
variable {s:SS} (hs:oK s) {ch:Nat→Int} (hc:∀y,y<s.sT.length→ch y∈acc s y)
include hs hc
theorem MY (hf:s.sT.length≤500):bN (mkM ch s)=true:=by
 have hm:=vC hs hc
 have e1:(mkM ch s).sT.length=s.sT.length:=by simp[mkM]
 have f0:=hs.few0
 have hmem:∀l∈(mkM ch s).sT,∃c,c<s.sT.length∧l=edg (mkM ch s) c:=fun l hl2=>by
  obtain⟨c,hc2,rfl⟩:=List.getElem_of_mem hl2
  exact⟨c,by rw[←e1];exact hc2,(aD hc2).symm⟩
 have hac:(mkM ch s).aC=s.aC:=rfl
 unfold bN
 rw[hac,hs.acts,decide_eq_true (show 1≤(mkM ch s).sT.length by omega),decide_eq_true (show(mkM ch s).sT.length≤5000 by omega),decide_eq_true (show bR (mkM ch s).sT≤400000 from by
  refine Nat.le_trans (FH (K:=8) fun l hl2=> ?_) O
  obtain⟨c,hc2,rfl⟩:=hmem l hl2
  rw[vB hc2];exact Nat.le_trans (IW hs hc _ _ _) hs.n8)]
 simp only [Bool.true_and,Bool.and_true]
 refine List.all_eq_true.2 fun l hl2=> ?_
 obtain⟨c,hc2,rfl⟩:=hmem l hl2
 refine sG (fun j hj=> ?_) (fun j hj=> ?_)
 ·have:=hm.ed c O _ (aQ hj)
  rw[e1] at this ⊢
  exact eE.2 this
 ·have hr:(edg (mkM ch s) c).Pairwise uI:=by rw[vB hc2];exact PO _ _ _
  rw[aD (show j<(edg (mkM ch s) c).length by omega),aD hj]
  have g1:=(List.pairwise_iff_getElem.1 hr) j (j+1) O hj O
  rw[oX]
  exact g1
end
def lgC (s:SS) (y:Nat):Int:=gR (acc s y)
theorem MZ {s:SS} (h:∀x,x<s.sT.length→acc s x≠[]):∀y,y<s.sT.length→lgC s y∈acc s y:=fun y hy=>TB (List.length_pos_iff.2 (h y hy))
def mkO (ch:Nat→Int) (s:SS) (k:Nat):List (List PP):=(List.range k).map fun y=>mkE s.aC.length (ch y) (nxt s y)
theorem PR (ch:Nat→Int) (s:SS) (k:Nat):mkO ch s (k+1)=mkO ch s k++ [mkE s.aC.length (ch k) (nxt s k)]:=by
 unfold mkO
 rw[List.range_succ,List.map_append];rfl
theorem TS (ch:Nat→Int) (s:SS) (k:Nat):(mkO ch s k).length=k:=by simp[mkO]
theorem TT (ch:Nat→Int) (s:SS):mkO ch s s.sT.length=(mkM ch s).sT:=rfl
theorem TU {s:SS} (hs:oK s) {y:Nat} (hy:y<s.sT.length) {u:Int} (hu:u∈acc s y):aK 63 u=aK s.aC.length u:=by
 have hl:(nxt s y).length=s.aC.length:=(hs.st y hy).len
 have hn:=hs.n8
 have hl2:(ix s.sT y).next.length=s.aC.length:=hl
 rw[←hl2]
 refine Br O fun a ha=> ?_
 rw[hl2]
 exact(tP hs hy ((dE _ _).2 ⟨u,hu,ha⟩)).1
noncomputable def iW (ch:SS→Nat→Int) (s:SS):aA:=fG (mkM (ch s) s)
noncomputable def cU (s:SS) (ok:Bool) (u:Int):aA × Int:=
 if ok=true then(if ix (hOl (tR (aU u s)).1) 0=true then(⟨[],[]⟩,3) else(iW lgC (tR (aU u s)).1,0)) else(⟨[],[]⟩,2)
theorem yJ {s:SS} (hs:oK s) (hf:s.sT.length≤500) (u:Int):ix (hOl (tR (aU u s)).1) 0=ix (hOl (aU u s)) 0:=JZ (yB hs hf u) (gX hs u)
theorem Cj {s:SS} (hs:oK s) (hf:s.sT.length≤500) {u:Int} (h:ix (hOl (tR (aU u s)).1) 0=false):∀x,x<(tR (aU u s)).1.sT.length→acc (tR (aU u s)).1 x≠[]:=
 OrdM.DR (gX hs u) (by rw[←yJ hs hf u];exact h)
theorem Ec {s:SS} (hs:oK s) (hf:s.sT.length≤500) (u:Int):oK (tR (aU u s)).1∧(tR (aU u s)).1.sT.length≤500:=⟨(yB hs hf u).ok,(yB hs hf u).few⟩
theorem Wz {cl:List Int} {n K:Nat} {f:Nat→Nat} (h:oH cl n K f) (hn:0<n):ix cl 0=0:=by
 have z:=h.z
 rcases h.st 0 hn with g|g<;>omega
section
variable {s:SS} (hs:oK s) {ch:SS→Nat→Int} (hc:∀y,y<s.sT.length→ch s y∈acc s y)
include hs hc
theorem Na (hf:s.sT.length≤500):bN (iW ch s)=true:=by
 obtain⟨g,hk,_⟩:=EB (qC (vC hs hc))
 exact Kl hs hc hf hk
theorem TV:eW (iW ch s) s:=by
 have hm:=vC hs hc
 obtain⟨g,hk,ho⟩:=EB (qC hm)
 have f:=(qC hm).few0
 exact My hm hk (Wz ho O) (II hs hc)
theorem PS:(iW ch s).aC=s.aC:=rfl
end
end MakeM3
end
section
namespace GuaW
open ref01 ref03 ref04 ref06 Part Rungs LeftM TrimM RoundM MergeM BisM BisM3 BisM4 BisM5 BisM6 Keys WalkM WitM JudgM JudgM2 LevM divr divs divd dive divf divv judg sysw satj ChsM BisS TrimI QuoM FailM DivM RefM GenW CompM CrossM FitM TogM KeepK GuardM MakeM LsysM LsysM2
def gT (m:aA) (t:SS) (l:LP) (u:Int):Bool:=l.all fun p=>decide (bQ u (bK m p.1.toNat)∈acc t p.2.toNat)
def gAH (m:aA) (t:SS) (l:LP) (k:Nat):List Int:=((bY t.aC.length).take k).filter (gT m t l)
theorem IX {m:aA} {t:SS} {l:LP} {k:Nat} (hk:k<(bY t.aC.length).length) (h:gT m t l (ix (bY t.aC.length) k)=true):gAH m t l (k+1)=gAH m t l k++ [ix (bY t.aC.length) k]:=by
 unfold gAH
 rw[bM hk,List.filter_append]
 simp[h]
theorem Nb {m:aA} {t:SS} {l:LP} {k:Nat} (hk:k<(bY t.aC.length).length) (h:gT m t l (ix (bY t.aC.length) k)=false):gAH m t l (k+1)=gAH m t l k:=by
 unfold gAH
 rw[bM hk,List.filter_append]
 simp[h]
theorem IY {m:aA} {t:SS} {l:LP} {k:Nat} (hk:(bY t.aC.length).length≤k):gAH m t l k=gA m t l:=by
 unfold gAH
 rw[List.take_of_length_le hk];rfl
theorem IZ {m:aA} {t:SS} {l:LP} {k:Nat}:(gAH m t l k).length≤k:=by
 unfold gAH
 refine Nat.le_trans (List.length_filter_le _ _) ?_
 rw[List.length_take];omega
theorem Ja (m:aA) (t:SS) (l:LP) (u:Int):(!l.any fun p=> !decide (bQ u (bK m p.1.toNat)∈acc t p.2.toNat))=gT m t l u:=by
 unfold gT
 rw[List.all_eq_not_any_not]
def jY (t:SS) (a:Nat) (p:PP) (es:List PP):LP:=(es.filter fun e=>decide (e.1=(a:Int))).map fun e=>((e.2,ix (nxt t p.2.toNat) a):PP)
def lJ (m:aA) (t:SS) (a:Nat) (l:LP):LP:=l.flatMap fun p=>jY t a p (edg m p.1.toNat)
theorem PT {t:SS} {a:Nat} {p:PP} {es:List PP} {k:Nat} (hk:k<es.length) (h:(ix es k).1=(a:Int)):jY t a p (es.take (k+1))=jY t a p (es.take k)++ [((ix es k).2,ix (nxt t p.2.toNat) a)]:=by
 unfold jY
 rw[bM hk,List.filter_append,List.map_append]
 simp[h]
theorem TX {t:SS} {a:Nat} {p:PP} {es:List PP} {k:Nat} (hk:k<es.length) (h:¬(ix es k).1=(a:Int)):jY t a p (es.take (k+1))=jY t a p (es.take k):=by
 unfold jY
 rw[bM hk,List.filter_append]
 simp[h]
theorem PU {t:SS} {a:Nat} {p:PP} {es:List PP} {k:Nat}:(jY t a p (es.take k)).length≤k:=by
 unfold jY
 rw[List.length_map]
 refine Nat.le_trans (List.length_filter_le _ _) ?_
 rw[List.length_take];omega
theorem Nc {m:aA} {t:SS} {a:Nat} {l:LP} {k:Nat} (hk:k<l.length):lJ m t a (l.take (k+1))=lJ m t a (l.take k)++jY t a (ix l k) (edg m (ix l k).1.toNat):=by
 unfold lJ
 rw[bM hk,List.flatMap_append];simp
theorem GA {m:aA} (hm:bA m) {t:SS} {a:Nat} {l:LP} (hl:∀p∈l,p.1.toNat<m.sT.length):(lJ m t a l).length≤l.length*400000:=by
 induction l with
 |nil=>simp[lJ]
 |cons p l ih=>
  have h1:=ih fun q hq=>hl q (List.mem_cons_of_mem _ hq)
  have h2:(jY t a p (edg m p.1.toNat)).length≤(edg m p.1.toNat).length:=by
   unfold jY;rw[List.length_map];exact List.length_filter_le _ _
  have h3:=hm.many p.1.toNat (hl p (by simp))
  have e:lJ m t a (p::l)=jY t a p (edg m p.1.toNat)++lJ m t a l:=rfl
  rw[e,List.length_append,List.length_cons,Nat.succ_mul]
  omega
theorem AJ {m:aA} {t:SS} {a:Nat} {l:LP} {q:PP}:q∈lJ m t a l↔∃p∈l,∃e∈edg m p.1.toNat,e.1=(a:Int)∧e.2=q.1∧ix (nxt t p.2.toNat) a=q.2:=by
 unfold lJ jY
 rw[List.mem_flatMap]
 constructor
 ·rintro⟨p,hp,h⟩
  obtain⟨e,he,rfl⟩:=List.mem_map.1 h
  obtain⟨h1,h2⟩:=List.mem_filter.1 he
  exact⟨p,hp,e,h1,of_decide_eq_true h2,rfl,rfl⟩
 ·rintro⟨p,hp,e,he,h1,h2,h3⟩
  exact⟨p,hp,List.mem_map.2 ⟨e,List.mem_filter.2 ⟨he,decide_eq_true h1⟩,Prod.ext h2 h3⟩⟩
theorem WA {m:aA} {t:SS} (ht:oK t) {l:LP} (hl:gOk m t l) {a:Nat} (hh:has (aZ (gA m t l)) (a:Int)=true) {p:PP} (hp:p∈l) {e:PP} (he:e∈edg m p.1.toNat) (h1:e.1=(a:Int)):a<t.aC.length∧0≤ix (nxt t p.2.toNat) a∧ix (nxt t p.2.toNat) a<(t.sT.length:Int):=by
 obtain⟨u,hu,hua⟩:=(dE _ _).1 hh
 have hin:=(yC.1 hu).2 p hp
 have hb:=jP hl hp
 refine tP ht (x:=p.2.toNat) O ((dE _ _).2 ⟨_,hin,?_⟩)
 rw[QuoM.rF,hua,Bool.true_and]
 exact iG.2 ⟨e,he,O⟩
theorem WB {m:aA} {t:SS} (hm:bA m) (ht:oK t) {l:LP} (hl:gOk m t l) {a:Nat} (hh:has (aZ (gA m t l)) (a:Int)=true) {q:PP} (hq:q∈lJ m t a l):q∈oG m.sT.length t.sT.length:=by
 obtain⟨p,hp,e,he,h1,h2,h3⟩:=AJ.1 hq
 have hb:=jP hl hp
 have hg:=WA ht hl hh hp he h1
 have:=hm.ed p.1.toNat O e he
 rw[h3] at hg
 rw[h2] at this
 exact pJ.2 ⟨this.2.2.1,this.2.2.2,hg.2.1,hg.2.2⟩
theorem PV {m:aA} {t:SS} (hm:bA m) (ht:oK t) {l:LP} (hl:gOk m t l) {a:Nat} (hh:has (aZ (gA m t l)) (a:Int)=true):Lib.compact (cG (lJ m t a l))=gN m t l a:=by
 refine DU Mp (Cb (rY _)) ((Hu _ _).filter _) fun q=> ?_
 rw[DV,(fJ _).mem_iff]
 show _↔q∈gN m t l a
 rw[Gd,AJ]
 exact⟨fun h=>⟨WB hm ht hl hh (AJ.2 h),h⟩,fun h=>h.2⟩
theorem Xy {m:aA} {t:SS} (hm:bA m) (ht:oK t) {l:LP} (hl:gOk m t l) {a:Nat} (hh:has (aZ (gA m t l)) (a:Int)=true) {q:PP} (hq:q∈lJ m t a l):bdP q:=by
 have:=pJ.1 (WB hm ht hl hh hq)
 have f1:=hm.few1
 have f2:=ht.few1
 unfold bdP
 omega
theorem Db {m:aA} {t:SS} (hm:bA m) (ht:oK t) {l:LP} (hl:gOk m t l):l.length≤100000000:=by
 have h1:=hl.length_le
 rw[Av] at h1
 have:=Nat.mul_le_mul hm.few1 ht.few1
 omega
theorem Jb {m:aA} {t:SS} (hm:bA m) (ht:oK t) {l:LP} (hl:gOk m t l):∀p∈l,0≤p.1∧p.1<10000∧0≤p.2∧p.2<10000:=fun p hp=>by
 have:=jP hl hp
 have f1:=hm.few1
 have f2:=ht.few1
 omega
theorem Ed {n:Int} (h0:0≤n) (h1:n<10000):(Lib.itoa n).length≤21:=Lib.itoa_length_le n O O
theorem GD:∀{l:LP},(∀p∈l,0≤p.1∧p.1<10000∧0≤p.2∧p.2<10000)→(pk_ l).length≤l.length*44
 | [],_=>by simp[pk_]
 |p::l,h=>by
  have ih:=GD (l:=l) fun q hq=>h q (List.mem_cons_of_mem _ hq)
  have hp:=h p (by simp)
  have h1:=Ed hp.1 hp.2.1
  have h2:=Ed hp.2.2.1 hp.2.2.2
  show(Lib.itoa p.1++32::(Lib.itoa p.2++32::pk_ l)).length≤(l.length+1)*44
  simp only [List.length_append,List.length_cons]
  omega
theorem TY (l:LP) (p:PP):pk_ (l++ [p])=pk_ l++(Lib.itoa p.1++32::(Lib.itoa p.2++ [32])):=by
 induction l with
 |nil=>simp[pk_]
 |cons q l ih=>
  show Lib.itoa q.1++32::(Lib.itoa q.2++32::pk_ (l++ [p]))=(Lib.itoa q.1++32::(Lib.itoa q.2++32::pk_ l))++_
  rw[ih];simp
theorem GF {l:LP} (h:∀p∈l,0≤p.1∧p.1<10000∧0≤p.2∧p.2<10000) (hl:l.length≤100000000):(pkB l).size≤aT:=by
 have h1:=GD h
 show(pk_ l).toArray.size≤_
 unfold aT
 rw[List.size_toArray]
 omega
end GuaW
end
section
open Go.Shelf Go.RowKit Itoa Rungs GuardM GuaW MergeM RoundM BisM BisM4 BisM5 WalkM LevM QuoM
namespace pkey
def Hz:Go.Shelf.Ren:=⟨fun|176=>133|249=>160|288=>194|283=>205|284=>206|285=>207|286=>208|129=>174|317=>220|318=>221|319=>222|320=>223|337=>227|338=>228|n=>n,fun|37=>181|2=>2|3=>3|53=>219|4=>4|9=>9|171=>251|0=>0|173=>253|212=>267|51=>216|5=>5|20=>20|213=>268|46=>183|232=>272|233=>273|n=>n,fun|17=>0|18=>1|19=>2|n=>n⟩
theorem TZ:LaysM.n176 Tryz.prog Hz where
 mixed:=by kernel_rfl
 f129:=Tryz.func174.trans (congrArg some kR)
 f176:=Tryz.func133.trans (congrArg some kR)
 f249:=Tryz.func160.trans (congrArg some kR)
 f283:=Tryz.func205.trans (congrArg some kR)
 f284:=Tryz.func206.trans (congrArg some kR)
 f285:=Tryz.func207.trans (congrArg some kR)
 f286:=Tryz.func208.trans (congrArg some kR)
 f288:=Tryz.func194.trans (congrArg some kR)
 f317:=Tryz.func220.trans (congrArg some kR)
 f318:=Tryz.func221.trans (congrArg some kR)
 f319:=Tryz.func222.trans (congrArg some kR)
 f320:=Tryz.func223.trans (congrArg some kR)
 f337:=Tryz.func227.trans (congrArg some kR)
 f338:=Tryz.func228.trans (congrArg some kR)
 t0:=Tryz.underlying0
 a0:=Tryz.isAgg0
 z0:=Tryz.sizeOf0
 v0:=Tryz.zeroValue0
 t2:=Tryz.underlying2
 a2:=Tryz.isAgg2
 z2:=Tryz.sizeOf2
 v2:=Tryz.zeroValue2
 t3:=Tryz.underlying3
 a3:=Tryz.isAgg3
 z3:=Tryz.sizeOf3
 v3:=Tryz.zeroValue3
 t4:=Tryz.underlying4
 a4:=Tryz.isAgg4
 z4:=Tryz.sizeOf4
 v4:=Tryz.zeroValue4
 t5:=Tryz.underlying5
 a5:=Tryz.isAgg5
 z5:=Tryz.sizeOf5
 v5:=Tryz.zeroValue5
 t9:=Tryz.underlying9
 a9:=Tryz.isAgg9
 z9:=Tryz.sizeOf9
 v9:=Tryz.zeroValue9
 t20:=Tryz.underlying20
 a20:=Tryz.isAgg20
 z20:=Tryz.sizeOf20
 v20:=Tryz.zeroValue20
 t37:=Tryz.underlying181
 a37:=Tryz.isAgg181
 z37:=Tryz.sizeOf181
 v37:=Tryz.zeroValue181
 t46:=Tryz.underlying183
 a46:=Tryz.isAgg183
 z46:=Tryz.sizeOf183
 v46:=Tryz.zeroValue183
 t51:=Tryz.underlying216
 a51:=Tryz.isAgg216
 z51:=Tryz.sizeOf216
 v51:=Tryz.zeroValue216
 t53:=Tryz.underlying219
 a53:=Tryz.isAgg219
 z53:=Tryz.sizeOf219
 v53:=Tryz.zeroValue219
 t171:=Tryz.underlying251
 a171:=Tryz.isAgg251
 z171:=Tryz.sizeOf251
 v171:=Tryz.zeroValue251
 t173:=Tryz.underlying253
 a173:=Tryz.isAgg253
 z173:=Tryz.sizeOf253
 v173:=Tryz.zeroValue253
 t212:=Tryz.underlying267
 a212:=Tryz.isAgg267
 z212:=Tryz.sizeOf267
 v212:=Tryz.zeroValue267
 t213:=Tryz.underlying268
 a213:=Tryz.isAgg268
 z213:=Tryz.sizeOf268
 t232:=Tryz.underlying272
 a232:=Tryz.isAgg272
 z232:=Tryz.sizeOf272
 v232:=Tryz.zeroValue272
 t233:=Tryz.underlying273
 a233:=Tryz.isAgg273
 z233:=Tryz.sizeOf273
 v233:=Tryz.zeroValue273
 g17:=by kernel_rfl
 g18:=by kernel_rfl
 g19:=by kernel_rfl
 i0:=by kernel_rfl
 i2:=by kernel_rfl
 i3:=by kernel_rfl
 i4:=by kernel_rfl
 i5:=by kernel_rfl
 i9:=by kernel_rfl
 i20:=by kernel_rfl
 i37:=by kernel_rfl
 i46:=by kernel_rfl
 i51:=by kernel_rfl
 i53:=by kernel_rfl
 i171:=by kernel_rfl
 i173:=by kernel_rfl
 i212:=by kernel_rfl
 i232:=by kernel_rfl
 i233:=by kernel_rfl
 m17:=by kernel_rfl
 m18:=by kernel_rfl
 m19:=by kernel_rfl
theorem Jc (B n:Nat) (i:Int) (h0: -9223372036854775808≤i) (h1:i≤9223372036854775807) (sv:Value) (xs:List Value) (w:World) (hown:w.ownsRow B 5 1 sv n xs) (hBw:B≤w.heap.size) (hlim:n+21≤140737488355328) (htab:Lib.TabBelow Tryz.prog B w "internal/strconv.uint64pow10" .u64 Lib.pow10Tab):
 Calls Tryz.prog 133 #[sv,.int .i64 i,.int .i64 10] w fun e w'=> ∃v',e= .returned v'∧w'.ownsRow B 5 1 v' (n+(Lib.itoa i).length) (xs++Lib.byteCells (Lib.itoa i))∧Below B w w'∧Lib.OthersKept 5 none w w':=Any.strconv_AppendInt_10 TZ B n i h0 h1 sv xs w hown hBw hlim htab
theorem Xz:(Tryz.prog.info? 5).map (fun i=>(i.zero,i.size,i.bytes))=some (some (.int .u8 0),1,1):=by kernel_rfl
set_option maxHeartbeats 6400000 in
theorem En (l:List (Int × Int)) (hb:∀p∈l,0≤p.1∧p.1<10000∧0≤p.2∧p.2<10000) (hl:l.length≤100000000) (ab off cap:Nat) (w:World)
 (hc:∀k,k<l.length→w.cell? ⟨ab,off+k*2,none⟩=some (.int .i64 (ix l k).1)∧w.cell? ⟨ab,off+k*2+1,none⟩=some (.int .i64 (ix l k).2)) (hbk:ab<w.heap.size)
 (htab:Lib.TabIs Tryz.prog w "internal/strconv.uint64pow10" .u64 Lib.pow10Tab):
 Calls Tryz.prog 93 #[.slice (some ⟨ab,off,none⟩) l.length cap] w fun e w'=>e= .returned (.string (pkB l))∧Below w.heap.size w w':=by
 obtain⟨i0,hi,hz0,hz1,hz2⟩:=info_parts Xz
 have hT:=Lib.tabBelow_of_tabIs htab
 have mixed:Tryz.prog.follows .mixedOrders=true:=by kernel_rfl
 go_enter Tryz.func93,Tryz.ntmps93
 go_wp2
 go_loopw [3,8] (fun v i wr=> ∃k:Nat,k≤l.length∧i= .int .i64 k∧wr.ownsRow w.heap.size 5 1 v (pk_ (l.take k)).length (Lib.byteCells (pk_ (l.take k)))∧Below w.heap.size w wr)
  (fun _ i _=>l.length- (intOf i).toNat)
 case atStart=>exact⟨0,Nat.zero_le _,rfl,World.ownsRow_nil _ _ _ _,Below.refl _ _⟩
 case round=>
  obtain⟨k,hk,rfl,hown,hnx⟩:=hrel
  have hcx:k<l.length→wr.cell? ⟨ab,off+k*2,none⟩=some (.int .i64 (ix l k).1):=fun h=>(hnx.cell (by exact hbk)).trans (hc k h).1
  have hcy:k<l.length→wr.cell? ⟨ab,off+k*2+1,none⟩=some (.int .i64 (ix l k).2):=fun h=>(hnx.cell (by exact hbk)).trans (hc k h).2
  have hbx:k<l.length→0≤(ix l k).1∧(ix l k).1<10000∧0≤(ix l k).2∧(ix l k).2<10000:=fun h=>hb _ (aQ h)
  have hpl:(pk_ (l.take k)).length≤l.length*44:=by
   have h1:=GD (l:=l.take k) fun p hp=>hb p (List.mem_of_mem_take hp)
   rw[List.length_take] at h1
   have h2:min k l.length*44≤l.length*44:=Nat.mul_le_mul_right _ (Nat.min_le_right _ _)
   omega
  have hsz:=hnx.size
  go_wp2_with (first
   |(go_at_call 133;refine(Jc w.heap.size _ (ix l k).1 (by have:=hbx aS;omega) (by have:=hbx aS;omega) _ _ _ (hown.alloc _) (by simp;omega) O (hT.on (hnx.alloc hsz _))).mono ?_;rintro e w1 ⟨v1,rfl,hown1,hnx1,hok1⟩;refine Hid.out ?_))
  ·refine Lib.hid ?_
   have hkl:k<l.length:=by assumption
   have hx:=hbx hkl
   have la:=Lib.itoa_length_le (ix l k).1 O O
   have lb:=Lib.itoa_length_le (ix l k).2 O O
   have hsz1:=hnx1.size
   have hxa:w.heap.size≤w1.heap.size:=Nat.le_trans (by simp;omega) hsz1
   go_wp2_with (at_builtin;refine wpList_append_own _ rfl _ _ 181 rfl w.heap.size 5 i0 (.int .u8 0) 1 1 Tryz.underlying181 hi hz0 hz1 hz2 rfl (by decide) _ _ _ rfl (hown1.alloc _) ⟨w1.heap.size,0,none⟩ 1 1 [Value.int .u8 32] rfl rfl (by intro j u' hj;match j,hj with|0,hj=>simp at hj;subst hj;simp[Addr.add]) (by intro u' hu';simp at hu';subst hu';rfl) (by unfold maxLen;omega) O (by simp;omega) ?_)
   intro v2 w2 hown2 hgrow2 _
   have hnx2:Below w.heap.size w w2:=(((hnx.alloc hsz _).trans hnx1).alloc hxa _).grown hgrow2 (by simp;omega) (fun q hq=>(hown1.lt q hq).1)
   have hok2:=(hok1.alloc _).grown hgrow2 (Lib.ownsRow_kind (hown1.alloc _))
   have hbox:=hok2 wr.heap.size _ (heap_alloc_new wr _) (by simp) (by intro c fz h;cases h)
   have hcell:w2.cell? ⟨wr.heap.size,1,none⟩=some (.int .i64 (ix l k).2):=by simp[World.cell?,hbox]
   clear hbox
   have hsz2:=hnx2.size
   go_wp2_with (first
    |(go_at_call 133;refine(Jc w.heap.size _ (ix l k).2 O O _ _ _ hown2 O O (hT.on hnx2)).mono ?_;rintro e w3 ⟨v3,rfl,hown3,hnx3,hok3⟩;refine Hid.out ?_))
   refine Lib.hid ?_
   have hsz3:=hnx3.size
   go_wp2_with (at_builtin;refine wpList_append_own _ rfl _ _ 181 rfl w.heap.size 5 i0 (.int .u8 0) 1 1 Tryz.underlying181 hi hz0 hz1 hz2 rfl (by decide) _ _ _ rfl (hown3.alloc _) ⟨w3.heap.size,0,none⟩ 1 1 [Value.int .u8 32] rfl rfl (by intro j u' hj;match j,hj with|0,hj=>simp at hj;subst hj;simp[Addr.add]) (by intro u' hu';simp at hu';subst hu';rfl) (by unfold maxLen;omega) O (by simp;omega) ?_)
   intro v4 w4 hown4 hgrow4 _
   have hnx4:Below w.heap.size w w4:=((hnx2.trans hnx3).alloc O _).grown hgrow4 (by simp;omega) (fun q hq=>(hown3.lt q hq).1)
   have he:pk_ (l.take (k+1))=pk_ (l.take k)++(Lib.itoa (ix l k).1++32::(Lib.itoa (ix l k).2++ [32])):=by rw[bM hkl,TY]
   have hown5:w4.ownsRow w.heap.size 5 1 v4 (pk_ (l.take (k+1))).length (Lib.byteCells (pk_ (l.take (k+1)))):=by
    have e1:(pk_ (l.take (k+1))).length=(pk_ (l.take k)).length+(Lib.itoa (ix l k).1).length+1+(Lib.itoa (ix l k).2).length+1:=by rw[he];simp;omega
    have e2:Lib.byteCells (pk_ (l.take (k+1)))=Lib.byteCells (pk_ (l.take k))++(Lib.byteCells (Lib.itoa (ix l k).1)++Value.int .u8 32::(Lib.byteCells (Lib.itoa (ix l k).2)++ [Value.int .u8 32])):=by rw[he];simp[Lib.byteCells]
    rw[e1,e2];exact hown4
   clear hown hown1 hown2 hown3 hown4 hgrow2 hgrow4 hok1 hok2 hok3 hcell
   go_wp2
   go_roundw
   case rel=>exact⟨k+1,O,by simp,hown5,hnx4⟩
   case measure=>simp[intOf];omega
  ·have hkl:¬k<l.length:=by assumption
   have hke:l.take k=l:=List.take_of_length_le O
   rw[hke] at hown
   have hcv:(convert 181 9 u3).run Tryz.prog wr= .ok (.string ⟨(pk_ l).toArray⟩) wr:=by
    rcases hown.2 with⟨e1,e2⟩|⟨g,cp,cur,e1,_⟩
    ·subst e1
     rw[run_convert_bytes_nil wr 181 5 Tryz.underlying181 Tryz.underlying5 0 0 9 Tryz.underlying9,List.eq_nil_of_length_eq_zero e2];rfl
    ·subst e1
     exact run_convert_bytes_back wr 181 9 5 ⟨g,0,none⟩ cp (pk_ l) Tryz.underlying181 Tryz.underlying5 Tryz.underlying9 (fun j hj=>hown.cells (g:=g) rfl j _ (by simp[Lib.byteCells,hj]))
   clear hown
   go_wp2
   rw[hcv]
   go_wp2
   go_ret
   exact⟨rfl,hnx⟩
theorem HB (A:Option Addr) (cap:Nat) (w:World):Calls Tryz.prog 93 #[.slice A 0 cap] w fun e w'=>e= .returned (.string (pkB []))∧Below w.heap.size w w':=by
 have hcv:(convert 181 9 (.slice none 0 0)).run Tryz.prog w= .ok (.string (pkB [])) w:=by
  rw[run_convert_bytes_nil w 181 5 Tryz.underlying181 Tryz.underlying5 0 0 9 Tryz.underlying9];rfl
 go_enter Tryz.func93,Tryz.ntmps93
 go_wp2
 refine wp_loop_rounds 1 ?_
 rw[rounds_succ]
 go_wp2
 go_ret
 exact⟨rfl,Below.refl _ _⟩
attribute [local semireducible] eqv sl agg in
theorem pair_cells {w:World} {F:Fz} {l:List (Int × Int)} {b off:Nat} {vs:List Value} (hr:rdAt w b off vs) (he:Els w F 2 pE l vs) {k:Nat} (hk:k<l.length):w.cell? ⟨b,off+k*2,none⟩=some (.int .i64 (ix l k).1)∧w.cell? ⟨b,off+k*2+1,none⟩=some (.int .i64 (ix l k).2):=by
 have h1:=he.el k (ix l k) (by rw[aD hk];simp[hk])
 obtain⟨c,ty,fr,hc,hv⟩:=hr
 match hw:(vs.drop (k*2)).take 2,h1 with
 | [x,y],⟨hx,hy,_⟩=>
   have hx:x= .int .i64 (ix l k).1:=hx
   have hy:y= .int .i64 (ix l k).2:=hy
   have g0:vs[k*2]?=some x:=by
     have:((vs.drop (k*2)).take 2)[0]?=some x:=by rw[hw];rfl
     rw[List.getElem?_take,if_pos O,List.getElem?_drop] at this
     simpa using this
   have g1:vs[k*2+1]?=some y:=by
     have:((vs.drop (k*2)).take 2)[1]?=some y:=by rw[hw];rfl
     rw[List.getElem?_take,if_pos O,List.getElem?_drop] at this
     exact this
   have c0:=hv _ _ g0
   have c1:=hv _ _ g1
   rw[←Nat.add_assoc] at c1
   subst hx;subst hy
   simp only [World.cell?,hc]
   exact⟨c0,c1⟩
attribute [local semireducible] eqv sl emp in
theorem Ck (l:List (Int × Int)) (hb:∀p∈l,0≤p.1∧p.1<10000∧0≤p.2∧p.2<10000) (hl:l.length≤100000000):Fn0 Tryz.prog 93 [mC (sl 2 pE l)] (str (pkB l)):=by
 intro w F vs hvs hb2 hH
 match vs,hvs with
 | [v],⟨⟨⟨A,cap,hv,_,_,hsl⟩,g,hg,hF,ht⟩,_⟩=>
   subst hv
   have key:Calls Tryz.prog 93 #[.slice A l.length cap] w fun e w'=>e= .returned (.string (pkB l))∧Below w.heap.size w w':=by
     by_cases h0:l= []
     ·subst h0;exact HB A cap w
     ·obtain⟨b,off,us,hA,hFb,hr,he⟩:=hsl h0
      subst hA
      exact En l hb hl b off cap w (fun k hk=>pair_cells hr he hk) (hb2 b hFb) ht
   refine key.mono ?_
   rintro e w' ⟨rfl,hbl⟩
   exact⟨(),_,F,rfl,{ res:=rfl,ok:=vP _ _,sub:=fun _ h=>h,new:=fun b h=> .inl h,foot:=fun b h=>by obtain⟨k,h⟩:=h;exact(show False from h).elim,old:=fun b hb' _=>hbl.block b hb',size:=hbl.size,os:=hbl.os,tape:=hbl.tape,out:=hbl.output }⟩
end pkey
end
section
open ref01 ref03 ref04 ref06 prog prog2 prog3 prog4 prog5 prog6 prog7 prog8 prog9 prog15 Part Rungs LeftM TrimM RoundM MergeM BisM BisM4 BisM5 Itoa Keys WalkM StepM WitM JudgM JudgM2 search refw judg wit refj sysw satj divr divs divd dive divv TrimI QuoM FailM DivM GenW CompM CrossM KeepK GuardM MakeM LsysM LsysM2 MakeM2 KeepB AtM ClsM LstM MakeM3 GuaW ValidM mkk mkp mkl mkc mkq
theorem PW {key:Nat} {x v:Value} {w:World} {F:Fz} (h:(osl key x).p w F v):(eqv x).p w F v:=by rw[eV] at h;exact h
theorem Nf {m:aA} (h:bN m=true):m.sT.length≤5000:=by
 unfold bN at h
 simp only [Bool.and_eq_true,decide_eq_true_eq] at h
 exact h.1.1.2
theorem GG {m:aA} {t:SS} (h:500<(gL m t).length):bC m t=(⟨[],[]⟩,false):=by unfold bC;rw[if_neg O]
theorem Ua {m:aA} {t:SS} (h:(gL m t).length≤500):bC m t=((tR (gD m t)).1,true):=by unfold bC;rw[if_pos h]
theorem PX {m:aA} {t:SS} (hm:bA m) (ht:oK t):∀p∈([(0,0)]:List (Int × Int)),0≤p.1∧p.1<10000∧0≤p.2∧p.2<10000:=Jb hm ht (BZ hm ht)
def mN (p:Int × Int→Bool) (l:List (Int × Int)):Int:=if l.any p=true then(l.findIdx p:Int) else-1
theorem Ng {p:Int × Int→Bool} {l:List (Int × Int)} (h:∀k,k<l.length→p (ix l k)=false):mN p l= -1:=by
 unfold mN
 rw[if_neg]
 intro h2
 obtain⟨x,hx,hp⟩:=List.any_eq_true.1 h2
 obtain⟨k,hk,rfl⟩:=List.getElem_of_mem hx
 have:=h k hk
 rw[aD hk,hp] at this
 cases this
theorem Ub {p:Int × Int→Bool} {l:List (Int × Int)} {k:Nat} (hk:k<l.length) (hp:p (ix l k)=true) (h:∀j,j<k→p (ix l j)=false):mN p l=(k:Int):=by
 unfold mN
 rw[aD hk] at hp
 rw[if_pos (List.any_eq_true.2 ⟨_,List.getElem_mem hk,hp⟩),(List.findIdx_eq hk).2 ⟨hp,fun j hj=>by have:=h j hj;rwa [aD O] at this⟩]
theorem PY {p:Int × Int→Bool} {l:List (Int × Int)}:decide (0≤mN p l)=l.any p:=by
 unfold mN
 split
 ·next h=>rw[h];simp
 ·next h=>simp at h ⊢;exact h
namespace T
theorem XA:Ent Tryz.prog 96:=aN kR
theorem WC:Ent Tryz.prog 135:=aN kR
theorem XB:Ent Tryz.prog 91:=aN kR
theorem Uc:FB Tryz.prog 28 1 1 26:=Ib kR
theorem Rt:Ent Tryz.prog 93:=aN kR
theorem Yy:eR Tryz.prog 125 [.map none]:=cR kR
theorem GH:eG Tryz.prog 125:=fT kR
theorem z81:eR Tryz.prog 81 [.slice none 0 0]:=cR kR
theorem wN:eG Tryz.prog 81:=fT kR
theorem z65:eR Tryz.prog 65 [.slice none 0 0]:=cR kR
theorem XC:Ent Tryz.prog 95:=aN kR
theorem WE:Ent Tryz.prog 103:=aN kR
theorem Ru:Ent Tryz.prog 54:=aN kR
theorem Rv:Ent Tryz.prog 55:=aN kR
end T
namespace mkg
theorem Nh (m:aA) (hm:bA m) (t:SS) (ht:oK t) (u:Int) (hu:0≤u∧u<256) (p:Int × Int) (hp:p∈oG m.sT.length t.sT.length):
 Fn0 Tryz.prog 96 [agg [int p.1,int p.2],fp [strs t.aC,sl 2 sE t.sT],fp [int u],fp [strs m.aC,sl 1 gE m.sT]] (bl (!decide (bQ u (bK m p.1.toNat)∈acc t p.2.toNat))):=by
 refine fnI Tryz.func96 rfl rfl (fun w0 F0=> ?_)
 obtain⟨hp1,hp2,hp3,hp4⟩:=pJ.1 hp
 have hst:=ht.st p.2.toNat O
 have hrs:=hst.rise
 have hm1:=hm.few1;have ht1:=ht.few1;have hn8:=hm.n8
 have hmany:(ix m.sT p.1.toNat).length≤400000:=hm.many p.1.toNat O
 have hob:0≤dI (ix m.sT p.1.toNat)∧dI (ix m.sT p.1.toNat)<256:=uY hm (x:=p.1.toNat) O
 have hoff:∀e∈ix m.sT p.1.toNat,0≤e.1∧e.1<8:=fun e he=>by have:=hm.ed p.1.toNat O e he;omega
 refine sq (rg (bx (key:=4) (cs:= [int p.1,int p.2]) J fun b4=>(ag (nl (th (sq (dr (nh:=18) [0,1,0,4,15,31,0,0,128,0,512,1920,3968,8064,16320,32767,65535,131071] T.mixed kR ?_)))))))
 refine st_ J (fun _ _ _ gq kq=>fF (gq.1.trans J) T.bL kq) ?_
 refine st_ J (fun _ _ _ gq kq=>lF (gq.1.trans J) J T.bT kq) ?_
 refine st_ J (fun _ _ _ gq kq=>iPA (gq.1.trans J) J T.iM T.aF J kq) ?_
 refine st_ J (fun _ _ _ gq kq=>lP (gq.1.trans J) J J T.aF kq) ?_
 refine st_ J (fun _ _ _ gq kq=>iF (gq.1.trans J) (gq.2.1.trans J) T.cO O gB kq) ?_
 refine st_ J (fun _ _ _ gq kq=>lFA (gq.1.trans J) T.dJ (Nat.le_of_ble_eq_true J) kq) ?_
 refine st_ J (fun _ _ _ gq kq=>lF (gq.1.trans J) J T.aF kq) ?_
 refine st_ J (fun _ _ _ gq kq=>fF (gq.1.trans J) T.bO kq) ?_
 refine st_ J (fun _ _ _ gq kq=>lF (gq.1.trans J) J T.cF kq) ?_
 refine st_ J (fun _ _ _ gq kq=>iPA (gq.1.trans J) J T.iM T.aF J kq) ?_
 refine st_ J (fun _ _ _ gq kq=>lP (gq.1.trans J) J J T.aF kq) ?_
 refine st_ J (fun _ _ _ gq kq=>iF (gq.1.trans J) (gq.2.1.trans J) T.dQ O gB kq) ?_
 refine st_ J (fun _ _ _ gq kq=>lF (gq.1.trans J) J T.gF kq) ?_
 refine st_ J (fun _ _ _ gq kq=>bB (φs:= [sl 2 pE (ix m.sT p.1.toNat)]) (φ:=int (dI (ix m.sT p.1.toNat))) ⟨(gq.1.trans J),tV⟩ (sysw.xX (ix m.sT p.1.toNat) aS) T.Kd kq) ?_
 refine st_ J (fun _ _ _ gq kq=>bi (gq.1.trans J) (gq.2.1.trans J) (rN O O O O) kq) ?_
 refine st_ J (fun _ _ _ gq kq=>bB (φs:= [agg [sl 1 nE (ix t.sT p.2.toNat).aP,sl 1 nE (ix t.sT p.2.toNat).next],int ((u.toNat&&&(dI (ix m.sT p.1.toNat)).toNat:Nat):Int)]) (φ:=bl (decide (((u.toNat&&&(dI (ix m.sT p.1.toNat)).toNat:Nat):Int)∈(ix t.sT p.2.toNat).aP))) ⟨(gq.1.trans J),(gq.2.1.trans J),tV⟩ (search.nY (ix t.sT p.2.toNat) aS ((u.toNat&&&(dI (ix m.sT p.1.toNat)).toNat:Nat):Int)) T.Rn kq) ?_
 refine st_ J (fun _ _ _ gq kq=>no (gq.1.trans J) kq) ?_
 refine st_ J (fun _ _ _ gq kq=>ag' (gq.1.trans J) kq) ?_
 refine pn (nl (th (rt ?_)))
 have hr0:(!(decide (((u.toNat&&&(dI (ix m.sT p.1.toNat)).toNat:Nat):Int)∈(ix t.sT p.2.toNat).aP)))=(!decide (bQ u (bK m p.1.toNat)∈acc t p.2.toNat)):=by
  rfl
 exact rE () [.tmp 5] J [bl (!(decide (((u.toNat&&&(dI (ix m.sT p.1.toNat)).toNat:Nat):Int)∈(ix t.sT p.2.toNat).aP)))] ⟨.tmp J,tV⟩ (cA1 (fun x0=>rV [bl x0]) hr0) trivial eX
theorem Eo (l:List (Int × Int)) (dom:Int × Int→Prop) (pq:Int × Int→Bool) (hd:∀k,k<l.length→dom (ix l k)) (hl:l.length≤100000000):
 Fn0 Tryz.prog 135 [sl 2 pE l,pf Tryz.prog dom (fun p:Int × Int=> [agg [int p.1,int p.2]]) (fun x=>bl (pq x))] (int (mN pq l)):=by
 refine fnI Tryz.func135 rfl rfl (fun w0 F0=> ?_)
 refine fcC (aV 0 J) (fun hm0=> ?_)
 refine sq (rg (ag (nl (th (sq (sq (rg (mv (lnF J T.fR (mv (nl (th (bk ?_)))))))))))))
 have hI0_0:0≤l.length:=by
  first|omega|simp
 have hI0_1:∀j,j<0→pq (ix l j)=false:=by
  exact fun j hj=>absurd hj O
 refine lp (κ:=Nat) (fun p=> [(0,sl 2 pE l),(1,pf Tryz.prog dom (fun p:Int × Int=> [agg [int p.1,int p.2]]) (fun x=>bl (pq x))),(7,int (l.length:Int)),(8,int (p:Int))]) (fun p=> []) (fun p=>(p≤l.length)∧(∀j,j<p→pq (ix l j)=false)) (fun p=>l.length- p) 0 ⟨hI0_0,hI0_1⟩ ⟨id,id,id,id,tV⟩ trivial ?_
 intro k hG0
 obtain⟨hk0,hI0⟩:(k≤l.length)∧(∀j,j<k→pq (ix l j)=false):=hG0
 refine sq (rg (bi J J aO (nl (th (sq ?_)))))
 refine cd J (fun hc0=> ?_) (fun hc0=> ?_)
 ·try simp at hc0
  refine sk (th (sq (bk (sq (rg (mv (ag (nl (th (sq (rg (mv (mv (mv (iF J J T.fR O gB (lFA J T.dX (Nat.le_of_ble_eq_true J) (Xe J (ix l k) (hd k O) J (nl (th ?_)))))))))))))))))))
  refine cd J (fun hc1=> ?_) (fun hc1=> ?_)
  ·try simp at hc1
   refine sq (rg (mv (ag (nl (th (rt (rb (rt_ (rt_ (rb (rt_ ?_)))))))))))
   have hr0:((k:Int):Int)=(mN pq l):=by
    exact(Ub O hc1 hI0).symm
   exact rE () [.tmp 4] J [int (k:Int)] ⟨.tmp J,tV⟩ (cA1 (fun x0=>rV [int x0]) hr0) trivial eX
  ·try simp at hc1
   refine sk (eb (th (rg (bi J J (aG i6) (mv (nl ?_))))))
   have hN0:(k+1)≤l.length:=by
    first|omega|simp_all
   have hN1:∀j,j<(k+1)→pq (ix l j)=false:=by
    intro j hj
    by_cases e:j=k
    ·subst e;simpa using hc1
    ·exact hI0 j O
   exact ln (k+1) ⟨hN0,hN1⟩ dO ⟨id,id,id,id,tV⟩ trivial
 ·try simp at hc0
  refine ex (xt_ (xt_ (xb (th (sq (rg (ag (nl (th (rt ?_))))))))))
  have hr0:((-1):Int)=(mN pq l):=by
   exact(Ng (fun j hj=>hI0 j O)).symm
  exact rE () [.tmp 4] J [int (-1)] ⟨.tmp J,tV⟩ (cA1 (fun x0=>rV [int x0]) hr0) trivial eX
theorem AK (l:List (Int × Int)) (dom:Int × Int→Prop) (pq:Int × Int→Bool) (hd:∀k,k<l.length→dom (ix l k)) (hl:l.length≤100000000):
 Fn0 Tryz.prog 95 [sl 2 pE l,pf Tryz.prog dom (fun p:Int × Int=> [agg [int p.1,int p.2]]) (fun x=>bl (pq x))] (bl (l.any pq)):=by
 refine fnI Tryz.func95 rfl rfl (fun w0 F0=> ?_)
 refine fcC (aV 0 J) (fun hm0=> ?_)
 refine sq (rg (ag (nl (th (sq (rg (mv (mv (bB (φs:= [sl 2 pE l,pf Tryz.prog dom (fun p:Int × Int=> [agg [int p.1,int p.2]]) (fun x=>bl (pq x))]) (φ:=int (mN pq l)) ⟨J,J,tV⟩ (Eo l dom pq hd hl) T.WC (bi J J fU (ag (nl (th (rt ?_))))))))))))))
 have hr0:(decide (0≤(mN pq l)))=(l.any pq):=by
  rw[PY]
 exact rE () [.tmp 4] J [bl (decide (0≤(mN pq l)))] ⟨.tmp J,tV⟩ (cA1 (fun x0=>rV [bl x0]) hr0) trivial eX
theorem PZ (m:aA) (hm:bA m) (t:SS) (ht:oK t) (l:List (Int × Int)) (u:Int) (hl:gOk m t l) (hu:0≤u∧u<256):Fn0 Tryz.prog 95 [sl 2 pE l,clo 96 [fp [strs t.aC,sl 2 sE t.sT],fp [int u],fp [strs m.aC,sl 1 gE m.sT]]] (bl (l.any (fun p:Int × Int=> !decide (bQ u (bK m p.1.toNat)∈acc t p.2.toNat)))):=by
 refine RO (fun {w F vs} h=> ?_) (AK l (fun p=>p∈oG m.sT.length t.sT.length) (fun p:Int × Int=> !decide (bQ u (bK m p.1.toNat)∈acc t p.2.toNat)) (fun k hk=>hl.subset (aQ hk)) (Db hm ht hl))
 match vs,h with
 | [_,_],⟨h1,h2,_⟩=>exact⟨h1,UE T.XA (fun p hp=>Nh m hm t ht u hu p hp) h2,tV⟩
theorem GI (m:aA) (hmv:bN m=true) (t:SS) (htv:cE t=true) (hmt:m.aC=t.aC):
 Fn0 Tryz.prog 55 [mC (sys m),spec t] (tup [spec (bC m t).1,bl (bC m t).2]):=by
 refine fnI Tryz.func55 rfl rfl (fun w0 F0=> ?_)
 have hm:=eF hmv;have ht:=iA htv;have hm5:=Nf hmv;have ht5:=JV htv;have f1:=hm.few1;have f2:=ht.few1;have f3:=hm.few0;have f4:=ht.few0;have hn8:=ht.n8;have hm8:=hm.n8;have hG:=Aw (m:=m) ht;have hz:=BZ hm ht
 have hsl:(bY t.aC.length).length≤256:=by unfold bY;rw[List.length_map,List.length_range];exact Nat.pow_le_pow_right O hn8
 have hk0:=PX hm ht
 have hl0:([(0,0)]:List (Int × Int)).length≤100000000:=by decide
 have hks0:(pkB [(0,0)]).size≤aT:=GF hk0 hl0
 refine tbI 0 9999 rfl ?_
 refine CF (ψ:=tab) 9999 997 rfl ?_
 refine fcC (bW 0 J) (fun hS0=> ?_)
 obtain⟨hma0,hms0,hme0⟩:=bU hS0
 refine fcC (bW 1 J) (fun hS1=> ?_)
 obtain⟨hsa1,hss1,hse1⟩:=sLn hS1
 refine sq (rg (bx (key:=2) (cs:= [sl 1 rE_ m.aC,sl 1 gE m.sT]) J fun b2=>(bx (key:=3) (cs:= [sl 1 rE_ t.aC,sl 2 sE t.sT]) J fun b3=>(al (key:=4) T.z28 (eC (eC eZ)) fun b4=>(al (key:=5) T.z4 (eC eZ) fun b5=>(nl (th (sq (rg (fzv 2 2 J J (fzv 3 3 J J (fF J T.dH (lF J J T.cM (fc (aV 28 J) fun hm28=>(lnF J T.eD (ag (nl (th (sq (rg (fF J T.dH (lF J J T.cM (bB (φs:= [sl 1 rE_ t.aC]) (φ:=agg [sl 1 rE_ (pZ t.aC).aC,sl 2 sE (pZ t.aC).sT]) ⟨J,tV⟩ (divv.OG t.aC O) T.XB (Vm J T.Uc T.bT J (iF J J T.cO O (gK (k:=0) (by show 0<1;omega)) (fF J T.cK (lF J J T.bD (kn 36 (ints (bY t.aC.length)) J (fun h=>h) (ag (nl (th (sq (rg (fF J T.dH (lF J J T.cM (kK (φs:= [sl 1 rE_ t.aC]) (φ:=sl 1 rE_ t.aC) ⟨J,tV⟩ (prog.gJ _ O) T.tJ (fun N hN=>fun h=>iY h) (bd (css:= [(0,_)]) T.oP (eC (eC eZ)) ⟨J,J,p1 (φ:=sl 1 rE_ t.aC) J,tV⟩ (al (key:=8) T.z28 (eC (eC eZ)) fun b8=>(sPA (cs':= [sl 1 rE_ t.aC,eqv (.slice none 0 0)]) J J J T.bF J J (nl (th (sq (rg (bd (css:= []) T.uC (eC (eC eZ)) trivial (bsE (enc:=pE) (xs:= [(0,0)]) (css:= [[int 0,int 0]]) T.nW ⟨J,J,pA (cs:= [int 0,int 0]) J,tV⟩ J J J J (ag (nl (th (sq (rg (mkm (key:=43) (kE:=smE) (dom:=smD) (vE:=smV) fun b43=>(mv (tbU (ψ:=tab) 44 9999 J J (bB (φs:= [both (sl 2 pE [(0,0)]) tab]) (φ:=str (pkB [(0,0)])) ⟨J,tV⟩ (pkey.Ck [(0,0)] aS aS) T.Rt (AL.insert (q:=pkB [(0,0)]) (u:=0) J J jZ J T.qF hks0 (mv (al (key:=10) T.Yy (eC eZ) fun b10=>(sP (φ:=mpv 43 b43) J J J T.GH J (nl (th (sq (rg (mv (bsO 48 (enc:=gE) (xs:= [[(0,0)]]) (css:= [[sl 2 pE [(0,0)]]]) T.Ad ⟨J,J,p1 (φ:=sl 2 pE [(0,0)]) J,tV⟩ J J J J fun v48=>(al (key:=11) T.z81 (eC eZ) fun b11=>(cI J J J J T.wN J (nl (th (sq (sq (rg (ag (nl (th (bk ?_)))))))))))))))))))))))))))))))))))))))))))))))))))))))))))))))))))))))))))
 refine nwC 100 79 2 sE (jS 8 1 (osl 100 (.slice none 0 0)) rfl rfl dM ?_)
 have hI0_0:GW (gA m t) (gN m t) (gOk m t) pkB t.aC.length (2^ (m.sT.length*t.sT.length)) (gL m t) 0 ([[(0,0)]]:List (List (Int × Int))) (cD ([]:List (ByteArray × Int)) (pkB [(0,0)]) 0) ([]:List SA):=by
  exact SL hG hz
 refine lp (κ:=Nat × Value × (List (List (Int × Int))) × (List (ByteArray × Int)) × Value × (List SA)) (fun p=> [(2,fp [sl 1 rE_ m.aC,sl 1 gE m.sT]),(3,fp [sl 1 rE_ t.aC,sl 2 sE t.sT]),(4,ptr 4 b4 0),(5,ptr 5 b5 0),(6,int (t.aC.length:Int)),(7,sl 1 nE (bY t.aC.length)),(8,ptr 8 b8 0),(10,ptr 10 b10 0),(11,ptr 11 b11 0),(12,int (p.1:Int)),(9999,tab)]) (fun p=> [(4,cell b4 [eqv (.slice none 0 0),eqv (.slice none 0 0)]),(5,cell b5 [bl false]),(8,cell b8 [sl 1 rE_ t.aC,osl 100 p.2.2.2.2.1]),(10,cell b10 [mpv 43 b43]),(11,cell b11 [osl 48 p.2.1]),(43,mp b43 smE smD smV p.2.2.2.1),(48,own p.2.1 65 1 gE p.2.2.1),(100,own p.2.2.2.2.1 79 2 sE p.2.2.2.2.2),(997,eB tab)]) (fun p=>GW (gA m t) (gN m t) (gOk m t) pkB t.aC.length (2^ (m.sT.length*t.sT.length)) (gL m t) p.1 p.2.2.1 p.2.2.2.1 p.2.2.2.2.2) (fun p=>501- p.1) ⟨0,v48,([[(0,0)]]:List (List (Int × Int))),cD ([]:List (ByteArray × Int)) (pkB [(0,0)]) 0,(.slice none 0 0),([]:List SA)⟩ hI0_0 ⟨id,id,id,id,id,id,id,id,id,id,id,tV⟩ ⟨rI,rI,rI,rI,rI,rI,rI,rI,rI,tV⟩ ?_
 intro⟨i,v,ql,mm,v14,aI⟩ hG0
 have hQW:GW (gA m t) (gN m t) (gOk m t) pkB t.aC.length (2^ (m.sT.length*t.sT.length)) (gL m t) i ql mm aI:=hG0
 show Ct _ _ _ _ [(2,fp [sl 1 rE_ m.aC,sl 1 gE m.sT]),(3,fp [sl 1 rE_ t.aC,sl 2 sE t.sT]),(4,ptr 4 b4 0),(5,ptr 5 b5 0),(6,int (t.aC.length:Int)),(7,sl 1 nE (bY t.aC.length)),(8,ptr 8 b8 0),(10,ptr 10 b10 0),(11,ptr 11 b11 0),(12,int (i:Int)),(9999,tab)] [(4,cell b4 [eqv (.slice none 0 0),eqv (.slice none 0 0)]),(5,cell b5 [bl false]),(8,cell b8 [sl 1 rE_ t.aC,osl 100 v14]),(10,cell b10 [mpv 43 b43]),(11,cell b11 [osl 48 v]),(43,mp b43 smE smD smV mm),(48,own v 65 1 gE ql),(100,own v14 79 2 sE aI),(997,eB tab)] _
 have hlf:=hQW.few
 have hil:=hQW.il
 have hol:aI.length≤i:=by rw[hQW.out];simp;omega
 refine sq (sq (rg (mv (lP J J J T.wN (lnO J J T.oR (bi J J aO (nl (th ?_))))))))
 refine cd J (fun hc0=> ?_) (fun hc0=> ?_)
 ·try simp at hc0
  have hPm:=aQ hc0
  have hokP:=hQW.okl _ hPm
  have hPl:=Db hm ht hokP
  have hPl2:(ix ql i).length≤2500000:=by
   have h1:=hokP.length_le
   rw[Av] at h1
   have:=Nat.mul_le_mul hm5 ht5
   omega
  refine sk (th (sq (bk (sq (rg (lP J J J T.wN (mv (iO J J J T.oR O O (lO J J gB J T.lQ (al (key:=13) T.z65 (eC eZ) fun b13=>(sP (φ:=sl 2 pE (ix ql i)) J J J T.lQ J (nl (th (sq (rg (bsE (enc:=nE) (xs:= [(-1)]) (css:= [[int (-1)]]) T.bZ ⟨J,J,p1 (φ:=int (-1)) J,tV⟩ J J J J (mv (cl (VN 30 300 (prog8.xQ t.aC.length O)) T.JJ trivial fun N61 v61=>(fc (svI 300 J) fun hsv300=> ?_)))))))))))))))))))
  rw[←hsv300]
  refine kn 61 (eqv (sv v61)) rfl PW (bd (css:= [(1,_)]) T.xI (eC (eC eZ)) ⟨rfl,rfl,p1 (φ:=eqv (sv v61)) rfl,tV⟩ (al (key:=14) T.z79 (eC (eC eZ)) fun b14=>(sPA (cs':= [eqv (.slice none 0 0),eqv (sv v61)]) rfl rfl rfl T.dJ rfl rfl (knc 14 1 (osl 300 (sv v61)) rfl rfl dM (nl (th (sq (rg (ag (nl (th (sq (sq (rg (mv (fc (aV 63 rfl) fun hm63=>(lnF rfl T.aX (mv (nl (th (bk ?_)))))))))))))))))))))
  refine nwC 140 3 1 nE (jS 14 0 (osl 140 (.slice none 0 0)) rfl rfl dM ?_)
  have hI1_0:0≤(bY t.aC.length).length:=by
   first|omega|simp
  have hI1_1:([]:List Int)=gAH m t (ix ql i) 0∧(0:Int)=aZ ([]:List Int)∧0≤(0:Int)∧(0:Int)<256:=by
   exact⟨rfl,rfl,O,O⟩
  refine lp (κ:=Nat × Value × (List Int) × Int) (fun p=> [(2,fp [sl 1 rE_ m.aC,sl 1 gE m.sT]),(3,fp [sl 1 rE_ t.aC,sl 2 sE t.sT]),(4,ptr 4 b4 0),(5,ptr 5 b5 0),(6,int (t.aC.length:Int)),(7,sl 1 nE (bY t.aC.length)),(8,ptr 8 b8 0),(10,ptr 10 b10 0),(11,ptr 11 b11 0),(12,int (i:Int)),(13,ptr 13 b13 0),(14,ptr 14 b14 0),(15,int p.2.2.2),(63,sl 1 nE (bY t.aC.length)),(64,int ((bY t.aC.length).length:Int)),(65,int (p.1:Int)),(9999,tab)]) (fun p=> [(4,cell b4 [eqv (.slice none 0 0),eqv (.slice none 0 0)]),(5,cell b5 [bl false]),(8,cell b8 [sl 1 rE_ t.aC,osl 100 v14]),(10,cell b10 [mpv 43 b43]),(11,cell b11 [osl 48 v]),(13,cell b13 [sl 2 pE (ix ql i)]),(14,cell b14 [osl 140 p.2.1,osl 300 (sv v61)]),(43,mp b43 smE smD smV mm),(48,own v 65 1 gE ql),(100,own v14 79 2 sE aI),(140,own p.2.1 3 1 nE p.2.2.1),(300,own (sv v61) 3 1 nE (List.replicate t.aC.length (-1))),(997,eB tab)]) (fun p=>(p.1≤(bY t.aC.length).length)∧(p.2.2.1=gAH m t (ix ql i) p.1∧p.2.2.2=aZ p.2.2.1∧0≤p.2.2.2∧p.2.2.2<256)) (fun p=>(bY t.aC.length).length- p.1) ⟨0,(.slice none 0 0),([]:List Int),(0:Int)⟩ ⟨hI1_0,hI1_1⟩ ⟨id,id,id,id,id,id,id,id,id,id,id,id,id,id,id,id,id,tV⟩ ⟨rI,rI,rI,rI,rI,rI,rI,rI,rI,rI,rI,rI,rI,tV⟩ ?_
  intro⟨k1,u14,ac,cn⟩ hG1
  obtain⟨hk1,⟨hac,hcn,hcn0,hcn1⟩⟩:(k1≤(bY t.aC.length).length)∧(ac=gAH m t (ix ql i) k1∧cn=aZ ac∧0≤cn∧cn<256):=hG1
  show Ct _ _ _ _ [(2,fp [sl 1 rE_ m.aC,sl 1 gE m.sT]),(3,fp [sl 1 rE_ t.aC,sl 2 sE t.sT]),(4,ptr 4 b4 0),(5,ptr 5 b5 0),(6,int (t.aC.length:Int)),(7,sl 1 nE (bY t.aC.length)),(8,ptr 8 b8 0),(10,ptr 10 b10 0),(11,ptr 11 b11 0),(12,int (i:Int)),(13,ptr 13 b13 0),(14,ptr 14 b14 0),(15,int cn),(63,sl 1 nE (bY t.aC.length)),(64,int ((bY t.aC.length).length:Int)),(65,int (k1:Int)),(9999,tab)] [(4,cell b4 [eqv (.slice none 0 0),eqv (.slice none 0 0)]),(5,cell b5 [bl false]),(8,cell b8 [sl 1 rE_ t.aC,osl 100 v14]),(10,cell b10 [mpv 43 b43]),(11,cell b11 [osl 48 v]),(13,cell b13 [sl 2 pE (ix ql i)]),(14,cell b14 [osl 140 u14,osl 300 (sv v61)]),(43,mp b43 smE smD smV mm),(48,own v 65 1 gE ql),(100,own v14 79 2 sE aI),(140,own u14 3 1 nE ac),(300,own (sv v61) 3 1 nE (List.replicate t.aC.length (-1))),(997,eB tab)] _
  have hacl:ac.length≤k1:=by rw[hac];exact IZ
  refine sq (rg (bi J J aO (nl (th (sq ?_)))))
  refine cd J (fun hc1=> ?_) (fun hc1=> ?_)
  ·try simp at hc1
   have hkb0:=wE.1 (aQ (l:=(bY t.aC.length)) (by omega:k1<(bY t.aC.length).length))
   have hkb:=IG hn8 (aQ (l:=(bY t.aC.length)) (by omega:k1<(bY t.aC.length).length))
   refine sk (th (sq (bk (sq (rg (iF J J T.aX O gB (lF J J T.aF (al (key:=17) T.z3 (eC eZ) fun b17=>(sP (φ:=int (ix (bY t.aC.length) k1)) J J J T.aF J (nl (th (sq (rg (lP J J J T.lQ (fzv 17 17 J J (mkf (bB (φs:= [sl 2 pE (ix ql i),clo 96 [fp [sl 1 rE_ t.aC,sl 2 sE t.sT],fp [int (ix (bY t.aC.length) k1)],fp [sl 1 rE_ m.aC,sl 1 gE m.sT]]]) (φ:=bl ((ix ql i).any (fun p:Int × Int=> !decide (bQ (ix (bY t.aC.length) k1) (bK m p.1.toNat)∈acc t p.2.toNat)))) ⟨J,J,tV⟩ (PZ m hm t ht (ix ql i) (ix (bY t.aC.length) k1) aS aS) T.XC (no J (nl (th ?_))))))))))))))))))))
   refine cd J (fun hc2=> ?_) (fun hc2=> ?_)
   ·skip
    have hgt:gT m t (ix ql i) (ix (bY t.aC.length) k1)=true:=by rw[←Ja];exact hc2
    refine sq (rg (fP J T.cK (lP J J J T.bD (lF J J T.aF (bsE (enc:=nE) (xs:= [(ix (bY t.aC.length) k1)]) (css:= [[int (ix (bY t.aC.length) k1)]]) T.bZ ⟨J,J,p1 (φ:=int (ix (bY t.aC.length) k1)) J,tV⟩ J J J J (ap (key:=140) (zs:= [(ix (bY t.aC.length) k1)]) bX J J J T.bZ (by unfold aT at*;simp;omega) (by unfold aT at*;simp;omega) fun v77=>(fP J T.cK (cI J J J J T.bD J (nl (th (rg (mv (lF J J T.aF (bi J J (vN O O O O) (ag (nl (eb (th (rg (bi J J (aG i6) (mv (nl ?_))))))))))))))))))))))
    have hN0:(k1+1)≤(bY t.aC.length).length:=by
     first|omega|simp_all
    have hN1:(ac++ [(ix (bY t.aC.length) k1)])=gAH m t (ix ql i) (k1+1)∧((cn.toNat|||(ix (bY t.aC.length) k1).toNat:Nat):Int)=aZ (ac++ [(ix (bY t.aC.length) k1)])∧0≤((cn.toNat|||(ix (bY t.aC.length) k1).toNat:Nat):Int)∧((cn.toNat|||(ix (bY t.aC.length) k1).toNat:Nat):Int)<256:=by
     exact⟨by rw[IX O hgt,hac],by rw[iL,←hcn],O,kU hcn1 hkb.2⟩
    exact ln (⟨k1+1,v77,ac++ [(ix (bY t.aC.length) k1)],((cn.toNat|||(ix (bY t.aC.length) k1).toNat:Nat):Int)⟩:Nat × Value × (List Int) × Int) ⟨hN0,hN1⟩ dO ⟨id,id,id,id,id,id,id,id,id,id,id,id,id,id,id,id,id,tV⟩ ⟨rI,rI,rI,rI,rI,rI,rI,rI,rI,rI,rI,rI,rI,tV⟩
   ·skip
    have hgt:gT m t (ix ql i) (ix (bY t.aC.length) k1)=false:=by rw[←Ja];exact hc2
    refine sk (eb (th (rg (bi J J (aG i6) (mv (nl ?_))))))
    have hN0:(k1+1)≤(bY t.aC.length).length:=by
     first|omega|simp_all
    have hN1:ac=gAH m t (ix ql i) (k1+1)∧cn=aZ ac∧0≤cn∧cn<256:=by
     exact⟨by rw[Nb O hgt,hac],hcn,hcn0,hcn1⟩
    exact ln (⟨k1+1,u14,ac,cn⟩:Nat × Value × (List Int) × Int) ⟨hN0,hN1⟩ dO ⟨id,id,id,id,id,id,id,id,id,id,id,id,id,id,id,id,id,tV⟩ ⟨rI,rI,rI,rI,rI,rI,rI,rI,rI,rI,rI,rI,rI,tV⟩
  ·try simp at hc1
   refine ex (xt_ (xt_ (xb (th (sq (sq (rg (mv (bB (φs:= [int cn]) (φ:=clo 137 [fp [int cn]]) ⟨J,tV⟩ (prog3.tE cn) T.yX (nl (th (bk ?_))))))))))))
   have hac2:ac=(gA m t (ix ql i)):=by rw[hac];exact IY O
   have hcn3:aK 63 cn=dS (gA m t) (ix ql i):=by unfold dS;rw[hcn,hac2]
   have hR0:GN (gA m t) (gN m t) (gOk m t) pkB t.aC.length (gL m t) i ql 0 ql mm (List.replicate t.aC.length (-1)):=by
    exact SN hQW
   refine rf (κ:=Value × (List (List (Int × Int))) × (List (ByteArray × Int)) × (List Int)) 900 (fun p=> [(4,cell b4 [eqv (.slice none 0 0),eqv (.slice none 0 0)]),(5,cell b5 [bl false]),(8,cell b8 [sl 1 rE_ t.aC,osl 100 v14]),(10,cell b10 [mpv 43 b43]),(11,cell b11 [osl 48 p.1]),(13,cell b13 [sl 2 pE (ix ql i)]),(14,cell b14 [osl 140 u14,osl 300 (sv v61)]),(43,mp b43 smE smD smV p.2.2.1),(48,own p.1 65 1 gE p.2.1),(100,own v14 79 2 sE aI),(140,own u14 3 1 nE ac),(300,own (sv v61) 3 1 nE p.2.2.2),(997,eB tab)]) (fun iR p=>GN (gA m t) (gN m t) (gOk m t) pkB t.aC.length (gL m t) i ql iR p.2.1 p.2.2.1 p.2.2.2) (fun c p=>c= .ret∧(500<(gL m t).length)) J (Cv cn O O) T.uU J (fun _=>J) (fun _=>J) ⟨v,ql,mm,List.replicate t.aC.length (-1)⟩ hR0 ⟨rI,rI,rI,rI,rI,rI,rI,rI,rI,rI,rI,rI,rI,tV⟩ ?_ ?_ ?_ (fun id k h=>nomatch h.1) (fun c k h=> .inl h.1)
   ·intro m0 ⟨v4,l2,mm2,nx⟩ x0 hG0 hx0 l R w1 M1 F1 hRd
    have hR0:GN (gA m t) (gN m t) (gOk m t) pkB t.aC.length (gL m t) i ql m0 l2 mm2 nx:=hG0
    show Ct _ _ _ _ _ ((900,obj l (.loop R)):: [(4,cell b4 [eqv (.slice none 0 0),eqv (.slice none 0 0)]),(5,cell b5 [bl false]),(8,cell b8 [sl 1 rE_ t.aC,osl 100 v14]),(10,cell b10 [mpv 43 b43]),(11,cell b11 [osl 48 v4]),(13,cell b13 [sl 2 pE (ix ql i)]),(14,cell b14 [osl 140 u14,osl 300 (sv v61)]),(43,mp b43 smE smD smV mm2),(48,own v4 65 1 gE l2),(100,own v14 79 2 sE aI),(140,own u14 3 1 nE ac),(300,own (sv v61) 3 1 nE nx),(997,eB tab)]) _
    have hx2:(dS (gA m t) (ix ql i))[m0]?=some x0:=by rw[←hcn3];exact hx0
    obtain⟨a,rfl,ha63,hha⟩:=nX hx0
    have hha2:has (aZ (gA m t (ix ql i))) (a:Int)=true:=by rw[←hac2,←hcn];exact hha
    have hal8:a<t.aC.length:=hG.hasn _ hokP a hha2
    have hnl:nx.length=t.aC.length:=by rw[hR0.nx];simp
    have hl2f:=hR0.few
    have hkN:=Jb hm ht (wK m t (ix ql i) a)
    have hlN:=Db hm ht (wK m t (ix ql i) a)
    have hks:(pkB (gN m t (ix ql i) a)).size≤aT:=GF hkN hlN
    refine rg (ag (nl (aq hRd J (bk (sq (rg (nw 19 80 2 pE (ag (rtg (key:=19) 19 J (nl (th (sq (sq (rg (lP J J J T.lQ (fc (aV 86 J) fun hm86=>(lnF J T.fR (mv (nl (th (bk ?_)))))))))))))))))))))
    have hI2_0:0≤(ix ql i).length:=by
     first|omega|simp
    have hI2_1:([]:List (Int × Int))=lJ m t a ((ix ql i).take 0):=by
     rfl
    refine lp (κ:=Nat × Value × (List (Int × Int))) (fun p=> [(2,fp [sl 1 rE_ m.aC,sl 1 gE m.sT]),(3,fp [sl 1 rE_ t.aC,sl 2 sE t.sT]),(4,ptr 4 b4 0),(5,ptr 5 b5 0),(10,ptr 10 b10 0),(11,ptr 11 b11 0),(14,ptr 14 b14 0),(18,int (a:Int)),(19,osl 19 p.2.1),(86,sl 2 pE (ix ql i)),(87,int ((ix ql i).length:Int)),(88,int (p.1:Int)),(9999,tab)]) (fun p=> [(4,cell b4 [eqv (.slice none 0 0),eqv (.slice none 0 0)]),(5,cell b5 [bl false]),(8,cell b8 [sl 1 rE_ t.aC,osl 100 v14]),(10,cell b10 [mpv 43 b43]),(11,cell b11 [osl 48 v4]),(13,cell b13 [sl 2 pE (ix ql i)]),(14,cell b14 [osl 140 u14,osl 300 (sv v61)]),(19,own p.2.1 80 2 pE p.2.2),(43,mp b43 smE smD smV mm2),(48,own v4 65 1 gE l2),(100,own v14 79 2 sE aI),(140,own u14 3 1 nE ac),(300,own (sv v61) 3 1 nE nx),(900,obj l (.loop { R with state:= .busy })),(997,eB tab)]) (fun p=>(p.1≤(ix ql i).length)∧(p.2.2=lJ m t a ((ix ql i).take p.1))) (fun p=>(ix ql i).length- p.1) ⟨0,(.slice none 0 0),([]:List (Int × Int))⟩ ⟨hI2_0,hI2_1⟩ ⟨id,id,id,id,id,id,id,id,id,id,id,id,id,tV⟩ ⟨rI,rI,rI,rI,rI,rI,rI,rI,rI,rI,rI,rI,rI,rI,rI,tV⟩ ?_
    intro⟨k2,v2,raw⟩ hG2
    obtain⟨hk2,hraw2⟩:(k2≤(ix ql i).length)∧(raw=lJ m t a ((ix ql i).take k2)):=hG2
    show Ct _ _ _ _ [(2,fp [sl 1 rE_ m.aC,sl 1 gE m.sT]),(3,fp [sl 1 rE_ t.aC,sl 2 sE t.sT]),(4,ptr 4 b4 0),(5,ptr 5 b5 0),(10,ptr 10 b10 0),(11,ptr 11 b11 0),(14,ptr 14 b14 0),(18,int (a:Int)),(19,osl 19 v2),(86,sl 2 pE (ix ql i)),(87,int ((ix ql i).length:Int)),(88,int (k2:Int)),(9999,tab)] [(4,cell b4 [eqv (.slice none 0 0),eqv (.slice none 0 0)]),(5,cell b5 [bl false]),(8,cell b8 [sl 1 rE_ t.aC,osl 100 v14]),(10,cell b10 [mpv 43 b43]),(11,cell b11 [osl 48 v4]),(13,cell b13 [sl 2 pE (ix ql i)]),(14,cell b14 [osl 140 u14,osl 300 (sv v61)]),(19,own v2 80 2 pE raw),(43,mp b43 smE smD smV mm2),(48,own v4 65 1 gE l2),(100,own v14 79 2 sE aI),(140,own u14 3 1 nE ac),(300,own (sv v61) 3 1 nE nx),(900,obj l (.loop { R with state:= .busy })),(997,eB tab)] _
    have hrl2:raw.length≤2500000*400000:=by
     rw[hraw2];refine Nat.le_trans (GA hm fun p hp=>by have:=jP hokP (List.mem_of_mem_take hp);omega) (Nat.mul_le_mul_right _ ?_)
     rw[List.length_take];omega
    refine sq (rg (bi J J aO (nl (th (sq ?_)))))
    refine cd J (fun hc3=> ?_) (fun hc3=> ?_)
    ·try simp at hc3
     have hpb:=jP hokP (aQ (l:=(ix ql i)) (by omega:k2<(ix ql i).length))
     have hem:=hm.many (ix (ix ql i) k2).1.toNat O
     have hem2:(ix m.sT (ix (ix ql i) k2).1.toNat).length≤400000:=hem
     have htst:=ht.st (ix (ix ql i) k2).2.toNat O
     have htnl:=htst.len
     refine sk (th (sq (bk (sq (rg (iF J J T.fR O gB (lFA J T.dX (Nat.le_of_ble_eq_true J) (al (key:=21) T.z80 (eC (eC eZ)) fun b21=>(sPA (cs':= [int ((ix (ix ql i) k2).1),int ((ix (ix ql i) k2).2)]) J J J T.dX J J (nl (th (sq (rg (fF J T.bO (lF J J T.cF (iPA J J T.iM T.aF J (lP J J J T.aF (iF J J T.dQ O gB (lF J J T.gF (fc (aV 97 J) fun hm97=>(lnF J T.cQ (mv (nl (th (bk ?_)))))))))))))))))))))))))
     have hI3_0:0≤(ix m.sT ((ix (ix ql i) k2).1).toNat).length:=by
      first|omega|simp
     have hI3_1:raw=raw++jY t a (ix (ix ql i) k2) ((ix m.sT (ix (ix ql i) k2).1.toNat).take 0):=by
      exact(List.append_nil _).symm
     refine lp (κ:=Nat × Value × (List (Int × Int))) (fun p=> [(2,fp [sl 1 rE_ m.aC,sl 1 gE m.sT]),(3,fp [sl 1 rE_ t.aC,sl 2 sE t.sT]),(4,ptr 4 b4 0),(5,ptr 5 b5 0),(10,ptr 10 b10 0),(11,ptr 11 b11 0),(14,ptr 14 b14 0),(18,int (a:Int)),(19,osl 19 p.2.1),(21,ptr 21 b21 0),(86,sl 2 pE (ix ql i)),(87,int ((ix ql i).length:Int)),(88,int (k2:Int)),(97,sl 2 pE (ix m.sT ((ix (ix ql i) k2).1).toNat)),(98,int ((ix m.sT ((ix (ix ql i) k2).1).toNat).length:Int)),(99,int (p.1:Int)),(9999,tab)]) (fun p=> [(4,cell b4 [eqv (.slice none 0 0),eqv (.slice none 0 0)]),(5,cell b5 [bl false]),(8,cell b8 [sl 1 rE_ t.aC,osl 100 v14]),(10,cell b10 [mpv 43 b43]),(11,cell b11 [osl 48 v4]),(13,cell b13 [sl 2 pE (ix ql i)]),(14,cell b14 [osl 140 u14,osl 300 (sv v61)]),(19,own p.2.1 80 2 pE p.2.2),(21,cell b21 [int ((ix (ix ql i) k2).1),int ((ix (ix ql i) k2).2)]),(43,mp b43 smE smD smV mm2),(48,own v4 65 1 gE l2),(100,own v14 79 2 sE aI),(140,own u14 3 1 nE ac),(300,own (sv v61) 3 1 nE nx),(900,obj l (.loop { R with state:= .busy })),(997,eB tab)]) (fun p=>(p.1≤(ix m.sT ((ix (ix ql i) k2).1).toNat).length)∧(p.2.2=raw++jY t a (ix (ix ql i) k2) ((ix m.sT (ix (ix ql i) k2).1.toNat).take p.1))) (fun p=>(ix m.sT ((ix (ix ql i) k2).1).toNat).length- p.1) ⟨0,v2,raw⟩ ⟨hI3_0,hI3_1⟩ ⟨id,id,id,id,id,id,id,id,id,id,id,id,id,id,id,id,id,tV⟩ ⟨rI,rI,rI,rI,rI,rI,rI,rI,rI,rI,rI,rI,rI,rI,rI,rI,tV⟩ ?_
     intro⟨k3,v3,rw3⟩ hG3
     obtain⟨hk3,hraw3⟩:(k3≤(ix m.sT ((ix (ix ql i) k2).1).toNat).length)∧(rw3=raw++jY t a (ix (ix ql i) k2) ((ix m.sT (ix (ix ql i) k2).1.toNat).take k3)):=hG3
     show Ct _ _ _ _ [(2,fp [sl 1 rE_ m.aC,sl 1 gE m.sT]),(3,fp [sl 1 rE_ t.aC,sl 2 sE t.sT]),(4,ptr 4 b4 0),(5,ptr 5 b5 0),(10,ptr 10 b10 0),(11,ptr 11 b11 0),(14,ptr 14 b14 0),(18,int (a:Int)),(19,osl 19 v3),(21,ptr 21 b21 0),(86,sl 2 pE (ix ql i)),(87,int ((ix ql i).length:Int)),(88,int (k2:Int)),(97,sl 2 pE (ix m.sT ((ix (ix ql i) k2).1).toNat)),(98,int ((ix m.sT ((ix (ix ql i) k2).1).toNat).length:Int)),(99,int (k3:Int)),(9999,tab)] [(4,cell b4 [eqv (.slice none 0 0),eqv (.slice none 0 0)]),(5,cell b5 [bl false]),(8,cell b8 [sl 1 rE_ t.aC,osl 100 v14]),(10,cell b10 [mpv 43 b43]),(11,cell b11 [osl 48 v4]),(13,cell b13 [sl 2 pE (ix ql i)]),(14,cell b14 [osl 140 u14,osl 300 (sv v61)]),(19,own v3 80 2 pE rw3),(21,cell b21 [int ((ix (ix ql i) k2).1),int ((ix (ix ql i) k2).2)]),(43,mp b43 smE smD smV mm2),(48,own v4 65 1 gE l2),(100,own v14 79 2 sE aI),(140,own u14 3 1 nE ac),(300,own (sv v61) 3 1 nE nx),(900,obj l (.loop { R with state:= .busy })),(997,eB tab)] _
     have hrl3:rw3.length≤2500000*400000+k3:=by
      rw[hraw3,List.length_append]
      have:=PU (t:=t) (a:=a) (p:=(ix (ix ql i) k2)) (es:=(ix m.sT (ix (ix ql i) k2).1.toNat)) (k:=k3)
      omega
     refine sq (rg (bi J J aO (nl (th (sq ?_)))))
     refine cd J (fun hc4=> ?_) (fun hc4=> ?_)
     ·try simp at hc4
      have hed:=hm.ed (ix (ix ql i) k2).1.toNat O _ (aQ (l:=(ix m.sT (ix (ix ql i) k2).1.toNat)) (by omega:k3<(ix m.sT (ix (ix ql i) k2).1.toNat).length))
      refine sk (th (sq (bk (sq (rg (iF J J T.cQ O gB (lFA J T.cJ (Nat.le_of_ble_eq_true J) (al (key:=23) T.z94 (eC (eC eZ)) fun b23=>(sPA (cs':= [int ((ix (ix m.sT ((ix (ix ql i) k2).1).toNat) k3).1),int ((ix (ix m.sT ((ix (ix ql i) k2).1).toNat) k3).2)]) J J J T.cJ J J (nl (th (sq (rg (fP J T.cT (lP J J J T.aF (mv (bi J J dZ (nl (th ?_)))))))))))))))))))
      refine cd J (fun hc5=> ?_) (fun hc5=> ?_)
      ·try simp at hc5
       refine dr (nh:=15) [0,0,2,0,8,0,32,120,248,504,0,2040,4088,8190,16382,32767,65535] T.mixed kR ?_
       refine st_ J (fun _ _ _ gq kq=>mv' (gq.1.trans J) kq) ?_
       refine st_ J (fun _ _ _ gq kq=>fP (gq.1.trans J) T.cX kq) ?_
       refine st_ J (fun _ _ _ gq kq=>lP (gq.1.trans J) J J T.aF kq) ?_
       refine st_ J (fun _ _ _ gq kq=>fF (gq.1.trans J) T.bL kq) ?_
       refine st_ J (fun _ _ _ gq kq=>lF (gq.1.trans J) J T.bT kq) ?_
       refine st_ J (fun _ _ _ gq kq=>iPA (gq.1.trans J) J T.iM T.aF J kq) ?_
       refine st_ J (fun _ _ _ gq kq=>lP (gq.1.trans J) J J T.aF kq) ?_
       refine st_ J (fun _ _ _ gq kq=>iF (gq.1.trans J) (gq.2.1.trans J) T.cO O gB kq) ?_
       refine st_ J (fun _ _ _ gq kq=>fF (gq.1.trans J) T.cS kq) ?_
       refine st_ J (fun _ _ _ gq kq=>lF (gq.1.trans J) J T.bD kq) ?_
       refine st_ J (fun _ _ _ gq kq=>mv' (gq.1.trans J) kq) ?_
       refine st_ J (fun _ _ _ gq kq=>iF (gq.1.trans J) (gq.2.1.trans J) T.aX O gB kq) ?_
       refine st_ J (fun _ _ _ gq kq=>lF (gq.1.trans J) J T.aF kq) ?_
       refine st_ J (fun _ _ _ gq kq=>bd (css:= [(0,_),(1,_)]) T.uC (eC (eC eZ)) ⟨J,J,p1 (φ:=int ((ix (ix m.sT ((ix (ix ql i) k2).1).toNat) k3).2)) (by exact(gq.1.trans J)),⟨J,J,p1 (φ:=int (ix (ix t.sT ((ix (ix ql i) k2).2).toNat).next a)) (by exact(gq.2.1.trans J)),tV⟩⟩ kq) ?_
       refine st_ J (fun _ _ _ gq kq=>bsE (enc:=pE) (xs:= [((ix (ix m.sT ((ix (ix ql i) k2).1).toNat) k3).2,ix (ix t.sT ((ix (ix ql i) k2).2).toNat).next a)]) (css:= [[int ((ix (ix m.sT ((ix (ix ql i) k2).1).toNat) k3).2),int (ix (ix t.sT ((ix (ix ql i) k2).2).toNat).next a)]]) T.nW ⟨J,J,pA (cs:= [int ((ix (ix m.sT ((ix (ix ql i) k2).1).toNat) k3).2),int (ix (ix t.sT ((ix (ix ql i) k2).2).toNat).next a)]) (by exact(gq.1.trans J)),tV⟩ J J J J kq) ?_
       refine pn (ap (key:=19) (zs:= [((ix (ix m.sT ((ix (ix ql i) k2).1).toNat) k3).2,ix (ix t.sT ((ix (ix ql i) k2).2).toNat).next a)]) bX J J J T.nW (by unfold aT at*;simp;omega) (by unfold aT at*;simp;omega) fun v122=>(ag (nl (eb (th (rg (bi J J (aG i6) (mv (nl ?_)))))))))
       have hN0:(k3+1)≤(ix m.sT ((ix (ix ql i) k2).1).toNat).length:=by
        first|omega|simp_all
       have hN1:(rw3++ [((ix (ix m.sT ((ix (ix ql i) k2).1).toNat) k3).2,ix (ix t.sT ((ix (ix ql i) k2).2).toNat).next a)])=raw++jY t a (ix (ix ql i) k2) ((ix m.sT (ix (ix ql i) k2).1.toNat).take (k3+1)):=by
        rw[PT O (by simpa using hc5),hraw3,List.append_assoc]
       exact ln (⟨k3+1,v122,rw3++ [((ix (ix m.sT ((ix (ix ql i) k2).1).toNat) k3).2,ix (ix t.sT ((ix (ix ql i) k2).2).toNat).next a)]⟩:Nat × Value × (List (Int × Int))) ⟨hN0,hN1⟩ dO ⟨id,id,id,id,id,id,id,id,id,id,id,id,id,id,id,id,id,tV⟩ ⟨rI,rI,rI,rI,rI,rI,rI,rI,rI,rI,rI,rI,rI,rI,rI,rI,tV⟩
      ·try simp at hc5
       refine sk (eb (th (rg (bi J J (aG i6) (mv (nl ?_))))))
       have hN0:(k3+1)≤(ix m.sT ((ix (ix ql i) k2).1).toNat).length:=by
        first|omega|simp_all
       have hN1:rw3=raw++jY t a (ix (ix ql i) k2) ((ix m.sT (ix (ix ql i) k2).1.toNat).take (k3+1)):=by
        rw[TX O (by simpa using hc5),hraw3]
       exact ln (⟨k3+1,v3,rw3⟩:Nat × Value × (List (Int × Int))) ⟨hN0,hN1⟩ dO ⟨id,id,id,id,id,id,id,id,id,id,id,id,id,id,id,id,id,tV⟩ ⟨rI,rI,rI,rI,rI,rI,rI,rI,rI,rI,rI,rI,rI,rI,rI,rI,tV⟩
     ·try simp at hc4
      refine ex (xt_ (xt_ (xb (eb (th (rg (bi J J (aG i6) (mv (nl ?_)))))))))
      have hN0:(k2+1)≤(ix ql i).length:=by
       first|omega|simp_all
      have hN1:rw3=lJ m t a ((ix ql i).take (k2+1)):=by
       rw[Nc O,←hraw2,hraw3,List.take_of_length_le O]
      exact ln (⟨k2+1,v3,rw3⟩:Nat × Value × (List (Int × Int))) ⟨hN0,hN1⟩ dO ⟨id,id,id,id,id,id,id,id,id,id,id,id,id,tV⟩ ⟨rI,rI,rI,rI,rI,rI,rI,rI,rI,rI,rI,rI,rI,rI,rI,tV⟩
    ·try simp at hc3
     refine ex (xt_ (xt_ (xb (th (sq (rg (mv ?_)))))))
     have hraw:raw=lJ m t a (ix ql i):=by rw[hraw2,List.take_of_length_le O]
     have hbd:∀p∈raw,bdP p:=fun p hp=>by rw[hraw] at hp;exact Xy hm ht hokP hha2 hp
     have hrl:raw.length≤2500000*400000:=by
      rw[hraw];exact Nat.le_trans (GA hm fun p hp=>by have:=jP hokP hp;omega) (Nat.mul_le_mul_right _ hPl2)
     have hsr:(cG raw).length=raw.length:=(fJ raw).length_eq
     refine cal (Hi:= [(19,own v2 80 2 pE raw)]) (φs:= [osl 5 v2,eqv (.func (.func 101) #[] #[])]) ⟨eV.trans eV.symm,rfl,tV⟩ (rJ 5 19 (sortE.Hh v2 raw aS)) T.Ml ⟨rI,tV⟩ fun _ _=>(nl (th (sq (rg (mv ?_)))))
     have hcz:Lib.compact (cG raw)=(gN m t (ix ql i) a):=by rw[hraw];exact PV hm ht hokP hha2
     refine cal (Hi:= [(19,own v2 80 2 pE (cG raw))]) (φs:= [osl 19 v2]) ⟨rfl,tV⟩ (CO 55 19 (comp2.MH 19 v2 (cG raw) O)) T.WE ⟨rI,tV⟩ fun _ v128=>(ag (nl (th (sq (rg (fz 19 19 rfl rfl (kn 19 (sl 2 pE (gN m t (ix ql i) a)) rfl (by rw[hcz];exact fun h=>h) (mv (tbU (ψ:=tab) 129 9999 rfl rfl (bB (φs:= [both (sl 2 pE (gN m t (ix ql i) a)) tab]) (φ:=str (pkB (gN m t (ix ql i) a))) ⟨rfl,tV⟩ (pkey.Ck (gN m t (ix ql i) a) aS aS) T.Rt (ag (nl (th (sq (rg (lP rfl rfl rfl T.GH (mv (yQ (z:=0) (q:=pkB (gN m t (ix ql i) a)) rfl rfl jZ T.qF hks T.zv3 (mv (xt rfl rfl (xt rfl rfl (ag (ag (nl (th (sq (sq (rg (mv (no rfl (nl (th ?_))))))))))))))))))))))))))))))))
     refine cd J (fun hc6=> ?_) (fun hc6=> ?_)
     ·skip
      have h5:(bP mm2 (pkB (gN m t (ix ql i) a))).isSome=false:=by simpa using hc6
      refine sq (sq (rg (lP J J J T.wN (lnO J J T.oR (bi J J dZ (nl (th ?_)))))))
      refine cd J (fun hc7=> ?_) (fun hc7=> ?_)
      ·try simp at hc7
       have h6:(l2.length:Int)=500:=by omega
       refine sq (rg (bd (css:= []) T.oP (eC (eC eZ)) trivial (sPA (cs':= [eqv (.slice none 0 0),eqv (.slice none 0 0)]) J J J T.bF J J (sP (φ:=bl false) J J J T.eT J (nl (th (rt (rt_ (rt_ (rb ?_))))))))))
       have hRr:500<(gL m t).length:=by
        exact SQ hG hQW hR0 hc0 (wK m t _ a) hx2 rfl h5 h6
       exact rqR ⟨v4,l2,mm2,nx⟩ ⟨rfl,hRr⟩ ⟨rI,rI,rI,rI,rI,rI,rI,rI,rI,rI,rI,rI,rI,rI,tV⟩
      ·try simp at hc7
       refine sk (th (sq (rg (lP J J J T.wN (lnO J J T.oR (ag (nl (th (sq (rg (lP J J J T.GH (mv (mv (mapUpdate (q:=pkB (gN m t (ix ql i) a)) (u:=(l2.length:Int)) J J jZ J T.qF hks (nl (th (rg (lP J J J T.wN (mv (bsE (enc:=gE) (xs:= [(gN m t (ix ql i) a)]) (css:= [[sl 2 pE (gN m t (ix ql i) a)]]) T.Ad ⟨J,J,p1 (φ:=sl 2 pE (gN m t (ix ql i) a)) J,tV⟩ J J J J (ap (key:=48) (zs:= [(gN m t (ix ql i) a)]) bX J J J T.Ad (by unfold aT at*;simp;omega) (by unfold aT at*;simp;omega) fun v151=>(cI J J J J T.wN J (nl (th (rg (fP J T.cS (lP J J J T.bD (mv (mv (iO J J J T.aX O O (sO (φ:=int (l2.length:Int)) J J J T.aF gB J (y':=(l2.length:Int)) J (nl (eb ?_)))))))))))))))))))))))))))))))))
       have hN0:GN (gA m t) (gN m t) (gOk m t) pkB t.aC.length (gL m t) i ql (m0+1) (l2++ [(gN m t (ix ql i) a)]) (cD mm2 (pkB (gN m t (ix ql i) a)) (l2.length:Int)) (nx.set a (l2.length:Int)):=by
        exact VD hG hQW hR0 hc0 (wK m t _ a) hx2 hal8 rfl h5 O
       exact rqN ⟨v151,l2++ [(gN m t (ix ql i) a)],cD mm2 (pkB (gN m t (ix ql i) a)) (l2.length:Int),nx.set a (l2.length:Int)⟩ hN0 ⟨rI,rI,rI,rI,rI,rI,rI,rI,rI,rI,rI,rI,rI,rI,tV⟩
     ·skip
      have h5:(bP mm2 (pkB (gN m t (ix ql i) a))).isSome=true:=by simpa using hc6
      refine sk (th (rg (fP J T.cS (lP J J J T.bD (mv (mv (iO J J J T.aX O O (sO (φ:=int ((bP mm2 (pkB (gN m t (ix ql i) a))).getD 0)) J J J T.aF gB J (y':=((bP mm2 (pkB (gN m t (ix ql i) a))).getD 0)) J (nl (eb ?_))))))))))
      have hN0:GN (gA m t) (gN m t) (gOk m t) pkB t.aC.length (gL m t) i ql (m0+1) l2 mm2 (nx.set a ((bP mm2 (pkB (gN m t (ix ql i) a))).getD 0)):=by
       exact VC hG hQW hR0 hc0 (wK m t _ a) hx2 hal8 rfl h5
      exact rqN ⟨v4,l2,mm2,nx.set a ((bP mm2 (pkB (gN m t (ix ql i) a))).getD 0)⟩ hN0 ⟨rI,rI,rI,rI,rI,rI,rI,rI,rI,rI,rI,rI,rI,rI,tV⟩
   ·intro⟨v4,l2,mm2,nx⟩ hG0
    have hR0:GN (gA m t) (gN m t) (gOk m t) pkB t.aC.length (gL m t) i ql (aK 63 cn).length l2 mm2 nx:=hG0
    show At _ _ _ _ [(4,cell b4 [eqv (.slice none 0 0),eqv (.slice none 0 0)]),(5,cell b5 [bl false]),(8,cell b8 [sl 1 rE_ t.aC,osl 100 v14]),(10,cell b10 [mpv 43 b43]),(11,cell b11 [osl 48 v4]),(13,cell b13 [sl 2 pE (ix ql i)]),(14,cell b14 [osl 140 u14,osl 300 (sv v61)]),(43,mp b43 smE smD smV mm2),(48,own v4 65 1 gE l2),(100,own v14 79 2 sE aI),(140,own u14 3 1 nE ac),(300,own (sv v61) 3 1 nE nx),(997,eB tab)]
    refine eb (th (rg (fP rfl T.bL (lP rfl rfl rfl T.bT (fzc 14 140 0 rfl rfl rfl rfl (fzc 14 300 1 rfl rfl rfl rfl (lPA rfl rfl T.dJ rfl (bsE (enc:=sE) (xs:= [(⟨ac,nx⟩)]) (css:= [[sl 1 nE ac,sl 1 nE nx]]) T.mT ⟨rfl,rfl,pA (cs:= [sl 1 nE ac,sl 1 nE nx]) rfl,tV⟩ rfl rfl rfl rfl (ap (key:=100) (zs:= [(⟨ac,nx⟩)]) bX rfl rfl rfl T.mT (by unfold aT at*;simp;omega) (by unfold aT at*;simp;omega) fun v161=>(fP rfl T.bL (cI rfl rfl rfl rfl T.bT rfl (nl (eb (th (rg (mv (bi rfl rfl (aG i6) (ag (nl ?_)))))))))))))))))))
    have hN0:GW (gA m t) (gN m t) (gOk m t) pkB t.aC.length (2^ (m.sT.length*t.sT.length)) (gL m t) (i+1) l2 mm2 (aI++ [(⟨ac,nx⟩)]):=by
     rw[show aK 63 cn=dS (gA m t) (ix ql i) from hcn3] at hR0
     rw[hac2]
     exact VE hG hQW hR0 hc0
    exact ln (⟨i+1,v4,l2,mm2,v161,aI++ [(⟨ac,nx⟩)]⟩:Nat × Value × (List (List (Int × Int))) × (List (ByteArray × Int)) × Value × (List SA)) hN0 (by have:=hQW.few;show 501- (i+1)<501- i;omega) ⟨id,id,id,id,id,id,id,id,id,id,id,tV⟩ ⟨rI,rI,rI,rI,rI,rI,rI,rI,rI,tV⟩
   ·intro⟨v4,l2,mm2,nx⟩ hS0
    have hRt0:500<(gL m t).length:=hS0.2
    show At _ _ _ _ [(4,cell b4 [eqv (.slice none 0 0),eqv (.slice none 0 0)]),(5,cell b5 [bl false]),(8,cell b8 [sl 1 rE_ t.aC,osl 100 v14]),(10,cell b10 [mpv 43 b43]),(11,cell b11 [osl 48 v4]),(13,cell b13 [sl 2 pE (ix ql i)]),(14,cell b14 [osl 140 u14,osl 300 (sv v61)]),(43,mp b43 smE smD smV mm2),(48,own v4 65 1 gE l2),(100,own v14 79 2 sE aI),(140,own u14 3 1 nE ac),(300,own (sv v61) 3 1 nE nx),(997,eB tab)]
    refine rb (rt_ (rb (rt_ (rt_ (rb (rt_ ?_))))))
    refine gM 4 0 (sl 1 rE_ []) rfl rfl slnil ?_
    refine gM 4 1 (sl 2 sE []) rfl rfl slnil ?_
    have hr0: []=((bC m t).1).aC:=by
     rw[GG hRt0]
    have hr1: []=((bC m t).1).sT:=by
     rw[GG hRt0]
    have hr2:false=((bC m t).2):=by
     rw[GG hRt0]
    exact rE () [.cell 4 28,.cell 5 4] J [agg [sl 1 rE_ [],sl 2 sE []],bl false] ⟨.agg J J T.bF J J,.one J J T.eT J,tV⟩ (cA3 (fun x0 x1 x2=>rV [agg [sl 1 rE_ x0,sl 2 sE x1],bl x2]) hr0 hr1 hr2) trivial eX
 ·try simp at hc0
  have hdn:=Iw hQW O
  have hq5:(gL m t).length≤500:=VF hQW O
  have hq1:=Ua hq5
  have hqok:oK (gD m t):=pK ht (yD hm ht) O
  refine ex (xt_ (xt_ (xb (th (sq (rg (fzc 8 100 1 J J J J (lPA J J T.bF J (kn 164 (spec (gD m t)) J (by rw[show aI=(gD m t).sT from hdn.2];exact fun h=>h) (kK (φs:= [agg [sl 1 rE_ (gD m t).aC,sl 2 sE (gD m t).sT]]) (φ:=tup [agg [sl 1 rE_ ((tR (gD m t)).1.aC),sl 2 sE ((tR (gD m t)).1.sT)],sl 1 nE ((tR (gD m t)).2)]) ⟨J,tV⟩ (prog9.Bv (gD m t) aS) T.Ro (fun N hN=>fun h=>rQ (cs:= [agg [fre N (sl 1 rE_ ((tR (gD m t)).1.aC)),frb (ix (hOl (gD m t)) 0) N (sl 2 sE ((tR (gD m t)).1.sT))],sl 1 nE ((tR (gD m t)).2)]) (ds:= [agg [sl 1 rE_ ((tR (gD m t)).1.aC),sl 2 sE ((tR (gD m t)).1.sT)],sl 1 nE ((tR (gD m t)).2)]) ⟨fun h=>jE (cs:= [fre N (sl 1 rE_ ((tR (gD m t)).1.aC)),frb (ix (hOl (gD m t)) 0) N (sl 2 sE ((tR (gD m t)).1.sT))]) (ds:= [sl 1 rE_ ((tR (gD m t)).1.aC),sl 2 sE ((tR (gD m t)).1.sT)]) ⟨fun h=>iY h,fun h=>EY h,tV⟩ h,fun h=>h,tV⟩ h) (mv (xt J J (xt J J (sPA (cs':= [sl 1 rE_ ((tR (gD m t)).1.aC),sl 2 sE ((tR (gD m t)).1.sT)]) J J J T.bF J J (nl (th (sq (rg (lPA J J T.bF J (sPA (cs':= [sl 1 rE_ ((tR (gD m t)).1.aC),sl 2 sE ((tR (gD m t)).1.sT)]) J J J T.bF J J (sP (φ:=bl true) J J J T.eT J (nl (th (rt ?_))))))))))))))))))))))))
  have hr0:((tR (gD m t)).1.aC)=((bC m t).1).aC:=by
   rw[hq1]
  have hr1:((tR (gD m t)).1.sT)=((bC m t).1).sT:=by
   rw[hq1]
  have hr2:true=((bC m t).2):=by
   rw[hq1]
  exact rE () [.cell 4 28,.cell 5 4] J [agg [sl 1 rE_ ((tR (gD m t)).1.aC),sl 2 sE ((tR (gD m t)).1.sT)],bl true] ⟨.agg J J T.bF J J,.one J J T.eT J,tV⟩ (cA3 (fun x0 x1 x2=>rV [agg [sl 1 rE_ x0,sl 2 sE x1],bl x2]) hr0 hr1 hr2) trivial eX
theorem Qa (m:aA) (t:SS) (hts:jH t):
 Fn0 Tryz.prog 16 [mC (sys m),spec t] (tup [spec (gdS m t).1,int (gdS m t).2]):=by
 refine fnI Tryz.func16 rfl rfl (fun w0 F0=> ?_)
 refine tbI 0 9999 rfl ?_
 refine fcC (bW 0 J) (fun hS0=> ?_)
 obtain⟨hma0,hms0,hme0⟩:=bU hS0
 refine fcC (bW 1 J) (fun hS1=> ?_)
 obtain⟨hsa1,hss1,hse1⟩:=sLn hS1
 refine sq (rg (bx (key:=2) (cs:= [sl 1 rE_ m.aC,sl 1 gE m.sT]) J fun b2=>(bx (key:=3) (cs:= [sl 1 rE_ t.aC,sl 2 sE t.sT]) J fun b3=>(al (key:=4) T.z28 (eC (eC eZ)) fun b4=>(ag (nl (th (sq (sq (rg (lPA J J T.bE J (lPA J J T.bF J (bB (φs:= [agg [sl 1 rE_ m.aC,sl 1 gE m.sT],agg [sl 1 rE_ t.aC,sl 2 sE t.sT]]) (φ:=int (dA m t)) ⟨J,J,tV⟩ (satj.Iz m t aS) T.Ru (ag (nl (th (sq (rg (mv (bi J J fI (nl (th ?_))))))))))))))))))))))
 refine cd J (fun hc0=> ?_) (fun hc0=> ?_)
 ·try simp at hc0
  have hd:gdS m t=(⟨[],[]⟩,dA m t):=by unfold gdS;rw[if_neg hc0]
  refine sq (rg (bd (css:= []) T.oP (eC (eC eZ)) trivial (mv (sPA (cs':= [eqv (.slice none 0 0),eqv (.slice none 0 0)]) J J J T.bF J J (ag (nl (th (rt (rt_ ?_)))))))))
  refine gM 4 0 (sl 1 rE_ []) rfl rfl slnil ?_
  refine gM 4 1 (sl 2 sE []) rfl rfl slnil ?_
  have hr0: []=((gdS m t).1).aC:=by
   rw[hd]
  have hr1: []=((gdS m t).1).sT:=by
   rw[hd]
  have hr2:((dA m t):Int)=((gdS m t).2):=by
   rw[hd]
  exact rE () [.cell 4 28,.tmp 5] J [agg [sl 1 rE_ [],sl 2 sE []],int (dA m t)] ⟨.agg J J T.bF J J,.tmp J,tV⟩ (cA3 (fun x0 x1 x2=>rV [agg [sl 1 rE_ x0,sl 2 sE x1],int x2]) hr0 hr1 hr2) trivial eX
 ·try simp at hc0
  obtain⟨hmv,htv,hmt⟩:=lC hc0
  have hm:=eF hmv
  have ht:=iA htv
  refine sk (th (sq (rg (lPA J J T.bE J (lPA J J T.bF J (tbU (ψ:=tab) 17 9999 J J (bB (φs:= [both (agg [sl 1 rE_ m.aC,sl 1 gE m.sT]) tab,agg [sl 1 rE_ t.aC,sl 2 sE t.sT]]) (φ:=tup [agg [sl 1 rE_ ((bC m t).1).aC,sl 2 sE ((bC m t).1).sT],bl ((bC m t).2)]) ⟨J,J,tV⟩ (mkg.GI m aS t aS aS) T.Rv (mv (xt J J (xt J J (al (key:=7) T.z28 (eC (eC eZ)) fun b7=>(sPA (cs':= [sl 1 rE_ ((bC m t).1).aC,sl 2 sE ((bC m t).1).sT]) J J J T.bF J J (ag (nl (th (sq (sq (rg (mv (no J (nl (th ?_))))))))))))))))))))))
  refine cd J (fun hc1=> ?_) (fun hc1=> ?_)
  ·try simp at hc1
   have hd:gdS m t=(⟨[],[]⟩,2):=by unfold gdS;rw[if_pos hc0,if_neg (by simpa using hc1)]
   refine sq (rg (bd (css:= []) T.oP (eC (eC eZ)) trivial (sPA (cs':= [eqv (.slice none 0 0),eqv (.slice none 0 0)]) J J J T.bF J J (ag (nl (th (rt (rt_ ?_))))))))
   refine gM 4 0 (sl 1 rE_ []) rfl rfl slnil ?_
   refine gM 4 1 (sl 2 sE []) rfl rfl slnil ?_
   have hr0: []=((gdS m t).1).aC:=by
    rw[hd]
   have hr1: []=((gdS m t).1).sT:=by
    rw[hd]
   have hr2:(2:Int)=((gdS m t).2):=by
    rw[hd]
   exact rE () [.cell 4 28,.tmp 5] J [agg [sl 1 rE_ [],sl 2 sE []],int 2] ⟨.agg J J T.bF J J,.tmp J,tV⟩ (cA3 (fun x0 x1 x2=>rV [agg [sl 1 rE_ x0,sl 2 sE x1],int x2]) hr0 hr1 hr2) trivial eX
  ·try simp at hc1
   have hd:gdS m t=((bC m t).1,0):=by unfold gdS;rw[if_pos hc0,if_pos (by simpa using hc1)]
   refine sk (th (sq (rg (lPA J J T.bF J (sPA (cs':= [sl 1 rE_ ((bC m t).1).aC,sl 2 sE ((bC m t).1).sT]) J J J T.bF J J (ag (nl (th (rt ?_)))))))))
   have hr0:((bC m t).1).aC=((gdS m t).1).aC:=by
    rw[hd]
   have hr1:((bC m t).1).sT=((gdS m t).1).sT:=by
    rw[hd]
   have hr2:(0:Int)=((gdS m t).2):=by
    rw[hd]
   exact rE () [.cell 4 28,.tmp 5] J [agg [sl 1 rE_ ((bC m t).1).aC,sl 2 sE ((bC m t).1).sT],int 0] ⟨.agg J J T.bF J J,.tmp J,tV⟩ (cA3 (fun x0 x1 x2=>rV [agg [sl 1 rE_ x0,sl 2 sE x1],int x2]) hr0 hr1 hr2) trivial eX
end mkg
end
section
open ref01 ref03 ref04 ref06 prog prog2 prog3 prog6 prog13 starts Part Rungs LeftM TrimM RoundM BisM BisM5 WalkM WitM JudgM refw judg wit refj sysw FailM FitM PartM QuoM TogM ProdM satj
noncomputable def iI (m n:aA):Int:=if bN m=true then(if bN n=true then(if m.aC=n.aC then 0 else 10) else 20) else 20
theorem Qb {m n:aA} (h:iI m n=0):bN m=true∧bN n=true∧m.aC=n.aC:=by
 unfold iI at h
 split at h
 ·next g1=>
  split at h
  ·next g2=>
   split at h
   ·next g3=>exact⟨g1,g2,g3⟩
   ·exact absurd h (by decide)
  ·exact absurd h (by decide)
 ·exact absurd h (by decide)
namespace T
theorem GJ:mP Tryz.prog 149 80 3 dK jI:=FP Tryz.underlying149 Tryz.underlying80 kR (by decide+kernel) kR kR ⟨Tryz.underlying3,by kernel_rfl⟩ kR
theorem WF:Ent Tryz.prog 115:=aN kR
end T
namespace prodw
theorem Ud (m n:aA):
 Fn0 Tryz.prog 115 [sys m,sys n] (int (iI m n)):=by
 refine fnI Tryz.func115 rfl rfl (fun w0 F0=> ?_)
 refine fcC (bW 0 J) (fun hS0=> ?_)
 obtain⟨hma0,hms0,hme0⟩:=bU hS0
 refine fcC (bW 1 J) (fun hS1=> ?_)
 obtain⟨hma1,hms1,hme1⟩:=bU hS1
 refine sq (rg (bx (key:=2) (cs:= [sl 1 rE_ m.aC,sl 1 gE m.sT]) J fun b2=>(bx (key:=3) (cs:= [sl 1 rE_ n.aC,sl 1 gE n.sT]) J fun b3=>(ag (nl (th (sq (bk (sq (rg (lPA J J T.bE J (bB (φs:= [agg [sl 1 rE_ m.aC,sl 1 gE m.sT]]) (φ:=bl (bN m)) ⟨J,tV⟩ (sysw.jT m) T.zD (no J (mv ?_))))))))))))))
 apply gOr (t:=9) (pd:=13) rfl
 rotate_left
 ·intro hg0 fin
  have hg0':=hg0
  try simp at hg0'
  exact gy J J J hg0 (lPA J J T.bE J (gy J J J hg0 (bB (φs:= [agg [sl 1 rE_ n.aC,sl 1 gE n.sT]]) (φ:=bl (bN n)) ⟨J,tV⟩ (sysw.jT n) T.zD (gy J J J hg0 (no J (pkF J hg0 J (drp (X:= [(12,_),(11,_),(10,_)]) ⟨J,J,J,tV⟩ fin)))))))
 ·intro hg0 fin
  exact gn J J J hg0 J J (gn J J J hg0 J J (gn J J J hg0 J J (pkT J hg0 J (drp (X:= [(12,_),(11,_),(10,_)]) ⟨J,J,J,tV⟩ fin))))
 refine ag (nl (th ?_))
 refine cd J (fun hc0=> ?_) (fun hc0=> ?_)
 ·try simp at hc0
  refine sq (rg (ag (nl (th (rt (rb (rt_ ?_)))))))
  have hr0:(20:Int)=(iI m n):=by
   unfold iI;cases h1:bN m<;>cases h2:bN n<;>simp_all
  exact rE () [.tmp 4] J [int 20] ⟨.tmp J,tV⟩ (cA1 (fun x0=>rV [int x0]) hr0) trivial eX
 ·try simp at hc0
  refine sq (rg (fP J T.fB (lP J J J T.cM (fP J T.fB (lP J J J T.cM (bB (φs:= [sl 1 rE_ m.aC,sl 1 rE_ n.aC]) (φ:=bl (decide (m.aC=n.aC))) ⟨J,J,tV⟩ (prog.mI _ _) T.EA (no J (ag (nl (th ?_))))))))))
  refine cd J (fun hc1=> ?_) (fun hc1=> ?_)
  ·try simp at hc1
   refine sq (rg (ag (nl (th (rt (rb (rt_ ?_)))))))
   have hr0:(10:Int)=(iI m n):=by
    unfold iI;cases h1:bN m<;>cases h2:bN n<;>simp_all
   exact rE () [.tmp 4] J [int 10] ⟨.tmp J,tV⟩ (cA1 (fun x0=>rV [int x0]) hr0) trivial eX
  ·try simp at hc1
   refine sk (eb (th (sq (rg (ag (nl (th (rt ?_))))))))
   have hr0:(0:Int)=(iI m n):=by
    unfold iI;cases h1:bN m<;>cases h2:bN n<;>simp_all
   exact rE () [.tmp 4] J [int 0] ⟨.tmp J,tV⟩ (cA1 (fun x0=>rV [int x0]) hr0) trivial eX
theorem Km (m n:aA) (hz:m.sT.length*n.sT.length<5000) (hz2:bR m.sT*bR n.sT≤400000):
 AL.Fn Tryz.prog 69 [sys m,sys n] [] (ι:= { z:aA × List (Int × Int)//(iI m n≠0→z=(⟨[],[]⟩,[]))∧(iI m n=0→mF m n z.1 z.2) }) (fun _ i=>tup [agg [strs i.1.1.aC,sl 1 gE i.1.1.sT],sl 2 pE i.1.2,int (iI m n)]) (fun _=> []):=by
 refine fnI Tryz.func69 rfl rfl (fun w0 F0=> ?_)
 refine fcC (bW 0 J) (fun hS0=> ?_)
 obtain⟨hma0,hms0,hme0⟩:=bU hS0
 refine fcC (bW 1 J) (fun hS1=> ?_)
 obtain⟨hma1,hms1,hme1⟩:=bU hS1
 refine sq (rg (bx (key:=2) (cs:= [sl 1 rE_ m.aC,sl 1 gE m.sT]) J fun b2=>(bx (key:=3) (cs:= [sl 1 rE_ n.aC,sl 1 gE n.sT]) J fun b3=>(al (key:=4) T.z25 (eC (eC eZ)) fun b4=>(ag (ag (nl (th (sq (sq (rg (lPA J J T.bE J (lPA J J T.bE J (bB (φs:= [agg [sl 1 rE_ m.aC,sl 1 gE m.sT],agg [sl 1 rE_ n.aC,sl 1 gE n.sT]]) (φ:=int (iI m n)) ⟨J,J,tV⟩ (prodw.Ud m n) T.WF (ag (nl (th (sq (rg (mv (bi J J fI (nl (th ?_)))))))))))))))))))))))
 refine cd J (fun hc0=> ?_) (fun hc0=> ?_)
 ·try simp at hc0
  refine sq (rg (bd (css:= []) T.oD (eC (eC eZ)) trivial (mv (sPA (cs':= [eqv (.slice none 0 0),eqv (.slice none 0 0)]) J J J T.bE J J (ag (ag (nl (th (rt (rt_ ?_))))))))))
  refine gM 4 0 (sl 1 rE_ []) rfl rfl slnil ?_
  refine gM 4 1 (sl 1 gE []) rfl rfl slnil ?_
  refine knA 5 (sl 2 pE []) rfl slnil ?_
  exact rE ⟨(⟨[],[]⟩,[]),⟨fun _=>J,fun h=>absurd h hc0⟩⟩ [.cell 4 25,.tmp 5,.tmp 6] J [agg [sl 1 rE_ [],sl 1 gE []],sl 2 pE [],int (iI m n)] ⟨.agg J J T.bE J J,.tmp J,.tmp J,tV⟩ J trivial eX
 ·try simp at hc0
  obtain⟨hmv,hnv,hmn⟩:=Qb hc0
  have hm:=eF hmv
  have hn:=eF hnv
  have f0:=hm.few0
  have f1:=hn.few0
  have f2:=hm.few1
  have f3:=hn.few1
  have hm8:=hm.n8
  refine sk (th (sq (rg (mkm (key:=29) (kE:=dK) (dom:=jI) (vE:=kZ) fun b29=>(bd (css:= [(0,_),(1,_)]) T.uC (eC (eC eZ)) ⟨J,J,p1 (φ:=int 0) J,⟨J,J,p1 (φ:=int 0) J,tV⟩⟩ (AL.insert (q:=(0,0)) (u:=0) J J gC J T.GJ ⟨⟨O,O⟩,⟨O,O⟩⟩ (mv (ag (nl (th (sq (rg (bd (css:= [(0,_),(1,_)]) T.uC (eC (eC eZ)) ⟨J,J,p1 (φ:=int 0) J,⟨J,J,p1 (φ:=int 0) J,tV⟩⟩ (bsO 33 (enc:=pE) (xs:= [(0,0)]) (css:= [[int 0,int 0]]) T.nW ⟨J,J,pA (cs:= [int 0,int 0]) J,tV⟩ J J J J fun v33=>(ag (nl (th (sq (rg (fP J T.fB (lP J J J T.cM (kK (φs:= [sl 1 rE_ m.aC]) (φ:=sl 1 rE_ m.aC) ⟨J,tV⟩ (prog.gJ _ O) T.tJ (fun N hN=>fun h=>iY h) (bd (css:= [(0,_)]) T.oD (eC (eC eZ)) ⟨J,J,p1 (φ:=sl 1 rE_ m.aC) J,tV⟩ (al (key:=10) T.z25 (eC (eC eZ)) fun b10=>(sPA (cs':= [sl 1 rE_ m.aC,eqv (.slice none 0 0)]) J J J T.bE J J (nl (th (sq (rg (ag (nl (th (sq (sq (rg (ag (nl (th (bk ?_)))))))))))))))))))))))))))))))))))))))
  refine nwC 130 87 1 gE (jS 10 1 (osl 130 (.slice none 0 0)) rfl rfl dM ?_)
  have hI0_0:PI m n 0 ([(0,0)]:List (Int × Int)) (cD ([]:List ((Int × Int) × Int)) (0,0) 0) ([]:List (List (Int × Int)))∧0≤iD m n ([(0,0)]:List (Int × Int)) 0:=by
   exact⟨Tj f0 f1,by simp[iD]⟩
  refine lp (κ:=Nat × Nat × Value × (List (Int × Int)) × (List ((Int × Int) × Int)) × Value × (List (List (Int × Int)))) (fun p=> [(2,ptr 2 b2 0),(3,ptr 3 b3 0),(4,ptr 4 b4 0),(8,mpv 29 b29),(9,osl 33 p.2.2.1),(10,ptr 10 b10 0),(11,int (p.2.1:Int)),(12,int (p.1:Int))]) (fun p=> [(2,cell b2 [sl 1 rE_ m.aC,sl 1 gE m.sT]),(3,cell b3 [sl 1 rE_ n.aC,sl 1 gE n.sT]),(4,cell b4 [eqv (.slice none 0 0),eqv (.slice none 0 0)]),(10,cell b10 [sl 1 rE_ m.aC,osl 130 p.2.2.2.2.2.1]),(29,mp b29 dK jI kZ p.2.2.2.2.1),(33,own p.2.2.1 80 2 pE p.2.2.2.1),(130,own p.2.2.2.2.2.1 87 1 gE p.2.2.2.2.2.2)]) (fun p=>PI m n p.1 p.2.2.2.1 p.2.2.2.2.1 p.2.2.2.2.2.2∧p.2.1≤iD m n p.2.2.2.1 p.1) (fun p=>m.sT.length*n.sT.length- p.1) ⟨0,0,v33,([(0,0)]:List (Int × Int)),cD ([]:List ((Int × Int) × Int)) (0,0) 0,(.slice none 0 0),([]:List (List (Int × Int)))⟩ hI0_0 ⟨id,id,id,id,id,id,id,id,tV⟩ ⟨rI,rI,rI,rI,rI,rI,rI,tV⟩ ?_
  intro⟨i,c,v,q,mm,uo,aI⟩ hG0
  obtain⟨hPI,hcn⟩:PI m n i q mm aI∧c≤iD m n q i:=hG0
  show Ct _ _ _ _ [(2,ptr 2 b2 0),(3,ptr 3 b3 0),(4,ptr 4 b4 0),(8,mpv 29 b29),(9,osl 33 v),(10,ptr 10 b10 0),(11,int (c:Int)),(12,int (i:Int))] [(2,cell b2 [sl 1 rE_ m.aC,sl 1 gE m.sT]),(3,cell b3 [sl 1 rE_ n.aC,sl 1 gE n.sT]),(4,cell b4 [eqv (.slice none 0 0),eqv (.slice none 0 0)]),(10,cell b10 [sl 1 rE_ m.aC,osl 130 uo]),(29,mp b29 dK jI kZ mm),(33,own v 80 2 pE q),(130,own uo 87 1 gE aI)] _
  have hql:=Gb hPI
  have hil:=hPI.il
  have hol:aI.length=i:=by rw[hPI.out];simp
  have hcl0:=Gc hPI i
  refine sq (sq (rg (mv (mv (lnO J J T.fR (bi J J aO (nl (th ?_))))))))
  refine cd J (fun hc1=> ?_) (fun hc1=> ?_)
  ·try simp at hc1
   obtain⟨hb0,hb1,hb2,hb3⟩:=hPI.box _ (aQ hc1)
   have hml:=hm.many (ix q i).1.toNat O
   have hnl:=hn.many (ix q i).2.toNat O
   have hml2:(ix m.sT (ix q i).1.toNat).length≤400000:=hml
   have hnl2:(ix n.sT (ix q i).2.toNat).length≤400000:=hnl
   refine sk (th (sq (bk (sq (rg (nw 13 94 2 pE (ag (rtg (key:=13) 13 J (nl (th (sq (rg (mv (mv (iO J J J T.fR O O (lOA J J gB T.dX (by decide) (al (key:=14) T.z80 (eC (eC eZ)) fun b14=>(sPA (cs':= [int ((ix q i).1),int ((ix q i).2)]) J J J T.dX J J (nl (th (sq (sq (rg (fP J T.bO (lP J J J T.cF (iPA J J T.iM T.aF J (lP J J J T.aF (iF J J T.dQ O gB (lF J J T.gF (fc (aV 53 J) fun hm53=>(lnF J T.cQ (mv (nl (th (bk ?_)))))))))))))))))))))))))))))))))))
   have hI1_0:0≤(ix m.sT ((ix q i).1).toNat).length:=by
    first|omega|simp
   have hI1_1:PN m n i (ix q i) q mm aI 0 0 ([]:List (Int × Int))∧c≤iD m n q i+0*(ix n.sT (ix q i).2.toNat).length:=by
    exact⟨Tl hPI hc1,O⟩
   refine lp (κ:=Nat × Nat × Value × (List (Int × Int)) × (List ((Int × Int) × Int)) × Value × (List (Int × Int))) (fun p=> [(2,ptr 2 b2 0),(3,ptr 3 b3 0),(4,ptr 4 b4 0),(8,mpv 29 b29),(9,osl 33 p.2.2.1),(10,ptr 10 b10 0),(11,int (p.2.1:Int)),(12,int (i:Int)),(13,osl 13 p.2.2.2.2.2.1),(14,ptr 14 b14 0),(53,sl 2 pE (ix m.sT ((ix q i).1).toNat)),(54,int ((ix m.sT ((ix q i).1).toNat).length:Int)),(55,int (p.1:Int))]) (fun p=> [(2,cell b2 [sl 1 rE_ m.aC,sl 1 gE m.sT]),(3,cell b3 [sl 1 rE_ n.aC,sl 1 gE n.sT]),(4,cell b4 [eqv (.slice none 0 0),eqv (.slice none 0 0)]),(10,cell b10 [sl 1 rE_ m.aC,osl 130 uo]),(13,own p.2.2.2.2.2.1 94 2 pE p.2.2.2.2.2.2),(14,cell b14 [int ((ix q i).1),int ((ix q i).2)]),(29,mp b29 dK jI kZ p.2.2.2.2.1),(33,own p.2.2.1 80 2 pE p.2.2.2.1),(130,own uo 87 1 gE aI)]) (fun p=>(p.1≤(ix m.sT ((ix q i).1).toNat).length)∧(PN m n i (ix q i) p.2.2.2.1 p.2.2.2.2.1 aI p.1 0 p.2.2.2.2.2.2∧p.2.1≤iD m n p.2.2.2.1 i+p.1*(ix n.sT (ix q i).2.toNat).length)) (fun p=>(ix m.sT ((ix q i).1).toNat).length- p.1) ⟨0,c,v,q,mm,(.slice none 0 0),([]:List (Int × Int))⟩ ⟨hI1_0,hI1_1⟩ ⟨id,id,id,id,id,id,id,id,id,id,id,id,id,tV⟩ ⟨rI,rI,rI,rI,rI,rI,rI,rI,rI,tV⟩ ?_
   intro⟨k1,c1,v1,q1,mm1,w1,l1⟩ hG1
   obtain⟨hk1,⟨hPN1,hcn1⟩⟩:(k1≤(ix m.sT ((ix q i).1).toNat).length)∧(PN m n i (ix q i) q1 mm1 aI k1 0 l1∧c1≤iD m n q1 i+k1*(ix n.sT (ix q i).2.toNat).length):=hG1
   show Ct _ _ _ _ [(2,ptr 2 b2 0),(3,ptr 3 b3 0),(4,ptr 4 b4 0),(8,mpv 29 b29),(9,osl 33 v1),(10,ptr 10 b10 0),(11,int (c1:Int)),(12,int (i:Int)),(13,osl 13 w1),(14,ptr 14 b14 0),(53,sl 2 pE (ix m.sT ((ix q i).1).toNat)),(54,int ((ix m.sT ((ix q i).1).toNat).length:Int)),(55,int (k1:Int))] [(2,cell b2 [sl 1 rE_ m.aC,sl 1 gE m.sT]),(3,cell b3 [sl 1 rE_ n.aC,sl 1 gE n.sT]),(4,cell b4 [eqv (.slice none 0 0),eqv (.slice none 0 0)]),(10,cell b10 [sl 1 rE_ m.aC,osl 130 uo]),(13,own w1 94 2 pE l1),(14,cell b14 [int ((ix q i).1),int ((ix q i).2)]),(29,mp b29 dK jI kZ mm1),(33,own v1 80 2 pE q1),(130,own uo 87 1 gE aI)] _
   have hql1:=Gb hPN1.pi
   have hcl1:=Gc hPN1.pi (i+1)
   have hll1:l1.length≤k1*(ix n.sT (ix q i).2.toNat).length+0:=Mm hPN1
   have hcs1:=wI (m:=m) (n:=n) hPN1.hi
   rw[hPN1.pe] at hcs1
   have hw1:wgt m n (ix q i)=(ix m.sT (ix q i).1.toNat).length*(ix n.sT (ix q i).2.toNat).length:=rfl
   have hk8:k1*(ix n.sT (ix q i).2.toNat).length≤(ix m.sT (ix q i).1.toNat).length*(ix n.sT (ix q i).2.toNat).length:=Nat.mul_le_mul_right _ O
   refine sq (rg (bi J J aO (nl (th (sq ?_)))))
   refine cd J (fun hc2=> ?_) (fun hc2=> ?_)
   ·try simp at hc2
    have hdd:0≤(ix (ix m.sT (ix q i).1.toNat) k1).1∧(ix (ix m.sT (ix q i).1.toNat) k1).1<(m.aC.length:Int)∧0≤(ix (ix m.sT (ix q i).1.toNat) k1).2∧(ix (ix m.sT (ix q i).1.toNat) k1).2<(m.sT.length:Int):=hm.ed _ O _ (aQ hc2)
    refine sk (th (sq (bk (sq (rg (iF J J T.cQ O gB (lFA J T.cJ (Nat.le_of_ble_eq_true J) (al (key:=16) T.z94 (eC (eC eZ)) fun b16=>(sPA (cs':= [int ((ix (ix m.sT ((ix q i).1).toNat) k1).1),int ((ix (ix m.sT ((ix q i).1).toNat) k1).2)]) J J J T.cJ J J (nl (th (sq (rg (fP J T.bO (lP J J J T.cF (iPA J J T.iM T.aF J (lP J J J T.aF (iF J J T.dQ O gB (lF J J T.gF (fc (aV 64 J) fun hm64=>(lnF J T.cQ (mv (nl (th (bk ?_)))))))))))))))))))))))))
    have hI2_0:0≤(ix n.sT ((ix q i).2).toNat).length:=by
     first|omega|simp
    have hI2_1:PN m n i (ix q i) q1 mm1 aI k1 0 l1∧c1≤iD m n q1 i+k1*(ix n.sT (ix q i).2.toNat).length+0:=by
     exact⟨hPN1,O⟩
    refine lp (κ:=Nat × Nat × Value × (List (Int × Int)) × (List ((Int × Int) × Int)) × Value × (List (Int × Int))) (fun p=> [(2,ptr 2 b2 0),(3,ptr 3 b3 0),(4,ptr 4 b4 0),(8,mpv 29 b29),(9,osl 33 p.2.2.1),(10,ptr 10 b10 0),(11,int (p.2.1:Int)),(12,int (i:Int)),(13,osl 13 p.2.2.2.2.2.1),(14,ptr 14 b14 0),(16,ptr 16 b16 0),(53,sl 2 pE (ix m.sT ((ix q i).1).toNat)),(54,int ((ix m.sT ((ix q i).1).toNat).length:Int)),(55,int (k1:Int)),(64,sl 2 pE (ix n.sT ((ix q i).2).toNat)),(65,int ((ix n.sT ((ix q i).2).toNat).length:Int)),(66,int (p.1:Int))]) (fun p=> [(2,cell b2 [sl 1 rE_ m.aC,sl 1 gE m.sT]),(3,cell b3 [sl 1 rE_ n.aC,sl 1 gE n.sT]),(4,cell b4 [eqv (.slice none 0 0),eqv (.slice none 0 0)]),(10,cell b10 [sl 1 rE_ m.aC,osl 130 uo]),(13,own p.2.2.2.2.2.1 94 2 pE p.2.2.2.2.2.2),(14,cell b14 [int ((ix q i).1),int ((ix q i).2)]),(16,cell b16 [int ((ix (ix m.sT ((ix q i).1).toNat) k1).1),int ((ix (ix m.sT ((ix q i).1).toNat) k1).2)]),(29,mp b29 dK jI kZ p.2.2.2.2.1),(33,own p.2.2.1 80 2 pE p.2.2.2.1),(130,own uo 87 1 gE aI)]) (fun p=>(p.1≤(ix n.sT ((ix q i).2).toNat).length)∧(PN m n i (ix q i) p.2.2.2.1 p.2.2.2.2.1 aI k1 p.1 p.2.2.2.2.2.2∧p.2.1≤iD m n p.2.2.2.1 i+k1*(ix n.sT (ix q i).2.toNat).length+p.1)) (fun p=>(ix n.sT ((ix q i).2).toNat).length- p.1) ⟨0,c1,v1,q1,mm1,w1,l1⟩ ⟨hI2_0,hI2_1⟩ ⟨id,id,id,id,id,id,id,id,id,id,id,id,id,id,id,id,id,tV⟩ ⟨rI,rI,rI,rI,rI,rI,rI,rI,rI,rI,tV⟩ ?_
    intro⟨k2,c2,v2,q2,mm2,w2,l2⟩ hG2
    obtain⟨hk2,⟨hPN2,hcn2⟩⟩:(k2≤(ix n.sT ((ix q i).2).toNat).length)∧(PN m n i (ix q i) q2 mm2 aI k1 k2 l2∧c2≤iD m n q2 i+k1*(ix n.sT (ix q i).2.toNat).length+k2):=hG2
    show Ct _ _ _ _ [(2,ptr 2 b2 0),(3,ptr 3 b3 0),(4,ptr 4 b4 0),(8,mpv 29 b29),(9,osl 33 v2),(10,ptr 10 b10 0),(11,int (c2:Int)),(12,int (i:Int)),(13,osl 13 w2),(14,ptr 14 b14 0),(16,ptr 16 b16 0),(53,sl 2 pE (ix m.sT ((ix q i).1).toNat)),(54,int ((ix m.sT ((ix q i).1).toNat).length:Int)),(55,int (k1:Int)),(64,sl 2 pE (ix n.sT ((ix q i).2).toNat)),(65,int ((ix n.sT ((ix q i).2).toNat).length:Int)),(66,int (k2:Int))] [(2,cell b2 [sl 1 rE_ m.aC,sl 1 gE m.sT]),(3,cell b3 [sl 1 rE_ n.aC,sl 1 gE n.sT]),(4,cell b4 [eqv (.slice none 0 0),eqv (.slice none 0 0)]),(10,cell b10 [sl 1 rE_ m.aC,osl 130 uo]),(13,own w2 94 2 pE l2),(14,cell b14 [int ((ix q i).1),int ((ix q i).2)]),(16,cell b16 [int ((ix (ix m.sT ((ix q i).1).toNat) k1).1),int ((ix (ix m.sT ((ix q i).1).toNat) k1).2)]),(29,mp b29 dK jI kZ mm2),(33,own v2 80 2 pE q2),(130,own uo 87 1 gE aI)] _
    have hql2:=Gb hPN2.pi
    have hll2:l2.length≤k1*(ix n.sT (ix q i).2.toNat).length+k2:=Mm hPN2
    refine sq (rg (bi J J aO (nl (th (sq ?_)))))
    refine cd J (fun hc3=> ?_) (fun hc3=> ?_)
    ·try simp at hc3
     have hee:0≤(ix (ix n.sT (ix q i).2.toNat) k2).1∧(ix (ix n.sT (ix q i).2.toNat) k2).1<(n.aC.length:Int)∧0≤(ix (ix n.sT (ix q i).2.toNat) k2).2∧(ix (ix n.sT (ix q i).2.toNat) k2).2<(n.sT.length:Int):=hn.ed _ O _ (aQ hc3)
     have hi2:=hPN2.hi
     have hcs:=wI (m:=m) (n:=n) hi2
     have hcl:=Gc hPN2.pi (i+1)
     rw[hPN2.pe] at hcs
     have hw:wgt m n (ix q i)=(ix m.sT (ix q i).1.toNat).length*(ix n.sT (ix q i).2.toNat).length:=rfl
     have hk9:(k1+1)*(ix n.sT (ix q i).2.toNat).length≤(ix m.sT (ix q i).1.toNat).length*(ix n.sT (ix q i).2.toNat).length:=Nat.mul_le_mul_right _ hc2
     rw[Nat.add_mul] at hk9
     have hc9:c2+1≤400000:=by omega
     refine sk (th (sq (bk (sq (rg (iF J J T.cQ O gB (lFA J T.cJ (Nat.le_of_ble_eq_true J) (al (key:=18) T.z94 (eC (eC eZ)) fun b18=>(sPA (cs':= [int ((ix (ix n.sT ((ix q i).2).toNat) k2).1),int ((ix (ix n.sT ((ix q i).2).toNat) k2).2)]) J J J T.cJ J J (nl (th (sq (sq (rg (fP J T.cT (lP J J J T.aF (fP J T.cT (lP J J J T.aF (bi J J fI (nl (th ?_)))))))))))))))))))))
     refine cd J (fun hc4=> ?_) (fun hc4=> ?_)
     ·try simp at hc4
      refine ex (xt_ (xb (th (rg (bi J J (aG i6) (mv (nl ?_)))))))
      have hN0:(k2+1)≤(ix n.sT ((ix q i).2).toNat).length:=by
       first|omega|simp_all
      have hN1:PN m n i (ix q i) q2 mm2 aI k1 (k2+1) l2∧c2≤iD m n q2 i+k1*(ix n.sT (ix q i).2.toNat).length+(k2+1):=by
       exact⟨Tm hPN2 hc3 (by simpa using hc4),O⟩
      exact ln (⟨k2+1,c2,v2,q2,mm2,w2,l2⟩:Nat × Nat × Value × (List (Int × Int)) × (List ((Int × Int) × Int)) × Value × (List (Int × Int))) ⟨hN0,hN1⟩ dO ⟨id,id,id,id,id,id,id,id,id,id,id,id,id,id,id,id,id,tV⟩ ⟨rI,rI,rI,rI,rI,rI,rI,rI,rI,rI,tV⟩
     ·try simp at hc4
      have hde:(ix (ix m.sT (ix q i).1.toNat) k1).1=(ix (ix n.sT (ix q i).2.toNat) k2).1:=by simpa using hc4
      refine sk (th (sq (rg (fP J T.cX (lP J J J T.aF (fP J T.cX (lP J J J T.aF (bd (css:= [(0,_),(1,_)]) T.uC (eC (eC eZ)) ⟨J,J,p1 (φ:=int ((ix (ix m.sT ((ix q i).1).toNat) k1).2)) J,⟨J,J,p1 (φ:=int ((ix (ix n.sT ((ix q i).2).toNat) k2).2)) J,tV⟩⟩ (al (key:=19) T.z80 (eC (eC eZ)) fun b19=>(sPA (cs':= [int ((ix (ix m.sT ((ix q i).1).toNat) k1).2),int ((ix (ix n.sT ((ix q i).2).toNat) k2).2)]) J J J T.dX J J (nl (th (sq (rg (mv (lPA J J T.dX J (yQ (z:=(0:Int)) (q:=((ix (ix m.sT ((ix q i).1).toNat) k1).2,(ix (ix n.sT ((ix q i).2).toNat) k2).2)) J J gC T.GJ ⟨⟨O,O⟩,⟨O,O⟩⟩ T.AH (mv (xt J J (xt J J (ag (ag (nl (th (sq (sq (rg (mv (no J (nl (th ?_)))))))))))))))))))))))))))))))
      refine cd J (fun hc5=> ?_) (fun hc5=> ?_)
      ·try simp at hc5
       refine sq (rg (mv (lnO J J T.fR (ag (nl (th (sq (sq (rg (mv (bi J J dZ (nl (th ?_)))))))))))))
       refine cd J (fun hc6=> ?_) (fun hc6=> ?_)
       ·try simp at hc6
        have hff:False:=by omega
        refine sq (rg (bd (css:= []) T.oD (eC (eC eZ)) trivial (sPA (cs':= [eqv (.slice none 0 0),eqv (.slice none 0 0)]) J J J T.bE J J (ag (ag (nl (th (rt (rt_ (rt_ (rb (rt_ (rt_ (rb (rb (rt_ (rt_ (rb (rt_ (rb (rt_ (rt_ (rb (rt_ ?_))))))))))))))))))))))))
        refine gM 4 0 (sl 1 rE_ []) rfl rfl slnil ?_
        refine gM 4 1 (sl 1 gE []) rfl rfl slnil ?_
        refine knA 5 (sl 2 pE []) rfl slnil ?_
        have hr0:(2:Int)=(iI m n):=by
         exact hff.elim
        exact rE ⟨(⟨[],[]⟩,[]),⟨fun _=>J,fun _=>hff.elim⟩⟩ [.cell 4 25,.tmp 5,.tmp 6] J [agg [sl 1 rE_ [],sl 1 gE []],sl 2 pE [],int 2] ⟨.agg J J T.bE J J,.tmp J,.tmp J,tV⟩ (cA1 (fun x0=>rV [agg [sl 1 rE_ [],sl 1 gE []],sl 2 pE [],int x0]) hr0) trivial eX
       ·try simp at hc6
        refine sk (th (sq (rg (mv (lPA J J T.dX J (mv (mapUpdate (q:=((ix (ix m.sT ((ix q i).1).toNat) k1).2,(ix (ix n.sT ((ix q i).2).toNat) k2).2)) (u:=(q2.length:Int)) J J gC J T.GJ ⟨⟨O,O⟩,⟨O,O⟩⟩ (nl (th (rg (mv (lPA J J T.dX J (bsE (enc:=pE) (xs:= [((ix (ix m.sT ((ix q i).1).toNat) k1).2,(ix (ix n.sT ((ix q i).2).toNat) k2).2)]) (css:= [[int ((ix (ix m.sT ((ix q i).1).toNat) k1).2),int ((ix (ix n.sT ((ix q i).2).toNat) k2).2)]]) T.nW ⟨J,J,pA (cs:= [int ((ix (ix m.sT ((ix q i).1).toNat) k1).2),int ((ix (ix n.sT ((ix q i).2).toNat) k2).2)]) J,tV⟩ J J J J (ap (key:=33) (zs:= [((ix (ix m.sT ((ix q i).1).toNat) k1).2,(ix (ix n.sT ((ix q i).2).toNat) k2).2)]) bX J J J T.nW (by unfold aT at*;simp;omega) (by unfold aT at*;simp;omega) fun v99=>(ag (nl (th (sq (sq (rg (mv (bi J J (aG i6) (ag (nl (th (sq (rg (mv (bi J J fN (nl (th ?_)))))))))))))))))))))))))))))))
        refine cd J (fun hc7=> ?_) (fun hc7=> ?_)
        ·try simp at hc7
         have hff:False:=by omega
         refine sq (rg (bd (css:= []) T.oD (eC (eC eZ)) trivial (sPA (cs':= [eqv (.slice none 0 0),eqv (.slice none 0 0)]) J J J T.bE J J (ag (ag (nl (th (rt (rt_ (rb (rt_ (rt_ (rb (rb (rt_ (rt_ (rb (rt_ (rb (rt_ (rt_ (rb (rt_ ?_)))))))))))))))))))))))
         refine gM 4 0 (sl 1 rE_ []) rfl rfl slnil ?_
         refine gM 4 1 (sl 1 gE []) rfl rfl slnil ?_
         refine knA 5 (sl 2 pE []) rfl slnil ?_
         have hr0:(2:Int)=(iI m n):=by
                    exact hff.elim
         exact rE ⟨(⟨[],[]⟩,[]),⟨fun _=>J,fun _=>hff.elim⟩⟩ [.cell 4 25,.tmp 5,.tmp 6] J [agg [sl 1 rE_ [],sl 1 gE []],sl 2 pE [],int 2] ⟨.agg J J T.bE J J,.tmp J,.tmp J,tV⟩ (cA1 (fun x0=>rV [agg [sl 1 rE_ [],sl 1 gE []],sl 2 pE [],int x0]) hr0) trivial eX
        ·try simp at hc7
         refine sk (th (rg (mv (fP J T.cT (lP J J J T.aF (mv (bd (css:= [(0,_),(1,_)]) T.AB (eC (eC eZ)) ⟨J,J,p1 (φ:=int ((ix (ix m.sT ((ix q i).1).toNat) k1).1)) J,⟨J,J,p1 (φ:=int (q2.length:Int)) J,tV⟩⟩ (bsE (enc:=pE) (xs:= [((ix (ix m.sT ((ix q i).1).toNat) k1).1,(q2.length:Int))]) (css:= [[int ((ix (ix m.sT ((ix q i).1).toNat) k1).1),int (q2.length:Int)]]) T.oY ⟨J,J,pA (cs:= [int ((ix (ix m.sT ((ix q i).1).toNat) k1).1),int (q2.length:Int)]) J,tV⟩ J J J J (ap (key:=13) (zs:= [((ix (ix m.sT ((ix q i).1).toNat) k1).1,(q2.length:Int))]) bX J J J T.oY (by unfold aT at*;simp;omega) (by unfold aT at*;simp;omega) fun v111=>(ag (nl (eb (th (rg (bi J J (aG i6) (mv (nl ?_)))))))))))))))))
         have hN0:(k2+1)≤(ix n.sT (((ix q i).2).toNat)).length:=by
                    first|omega|simp_all
         have hN1:PN m n i (ix q i) (q2++ [((ix (ix m.sT (((ix q i).1).toNat)) k1).2,(ix (ix n.sT (((ix q i).2).toNat)) k2).2)]) (cD mm2 ((ix (ix m.sT (((ix q i).1).toNat)) k1).2,(ix (ix n.sT (((ix q i).2).toNat)) k2).2) (q2.length:Int)) aI k1 (k2+1) (l2++ [((ix (ix m.sT (((ix q i).1).toNat)) k1).1,(q2.length:Int))])∧(c2+1)≤iD m n (q2++ [((ix (ix m.sT (((ix q i).1).toNat)) k1).2,(ix (ix n.sT (((ix q i).2).toNat)) k2).2)]) i+k1*(ix n.sT (ix q i).2.toNat).length+(k2+1):=by
                    refine⟨Wc hPN2 hc3 hde ⟨hdd.2.2.1,hdd.2.2.2,hee.2.2.1,hee.2.2.2⟩ (by simpa using hc5),?_⟩
                    rw[Tp O]
                    omega
         exact ln (⟨k2+1,c2+1,v99,q2++ [((ix (ix m.sT ((ix q i).1).toNat) k1).2,(ix (ix n.sT ((ix q i).2).toNat) k2).2)],cD mm2 ((ix (ix m.sT ((ix q i).1).toNat) k1).2,(ix (ix n.sT ((ix q i).2).toNat) k2).2) (q2.length:Int),v111,l2++ [((ix (ix m.sT ((ix q i).1).toNat) k1).1,(q2.length:Int))]⟩:Nat × Nat × Value × (List (Int × Int)) × (List ((Int × Int) × Int)) × Value × (List (Int × Int))) ⟨hN0,hN1⟩ dO ⟨id,id,id,id,id,id,id,id,id,id,id,id,id,id,id,id,id,tV⟩ ⟨rI,rI,rI,rI,rI,rI,rI,rI,rI,rI,tV⟩
      ·try simp at hc5
       refine sk (th (sq (sq (rg (mv (bi J J (aG i6) (ag (nl (th (sq (rg (mv (bi J J fN (nl (th ?_)))))))))))))))
       refine cd J (fun hc8=> ?_) (fun hc8=> ?_)
       ·try simp at hc8
        have hff:False:=by omega
        refine sq (rg (bd (css:= []) T.oD (eC (eC eZ)) trivial (sPA (cs':= [eqv (.slice none 0 0),eqv (.slice none 0 0)]) J J J T.bE J J (ag (ag (nl (th (rt (rt_ (rb (rt_ (rt_ (rb (rb (rt_ (rt_ (rb (rt_ (rb (rt_ (rt_ (rb (rt_ ?_)))))))))))))))))))))))
        refine gM 4 0 (sl 1 rE_ []) rfl rfl slnil ?_
        refine gM 4 1 (sl 1 gE []) rfl rfl slnil ?_
        refine knA 5 (sl 2 pE []) rfl slnil ?_
        have hr0:(2:Int)=(iI m n):=by
         exact hff.elim
        exact rE ⟨(⟨[],[]⟩,[]),⟨fun _=>J,fun _=>hff.elim⟩⟩ [.cell 4 25,.tmp 5,.tmp 6] J [agg [sl 1 rE_ [],sl 1 gE []],sl 2 pE [],int 2] ⟨.agg J J T.bE J J,.tmp J,.tmp J,tV⟩ (cA1 (fun x0=>rV [agg [sl 1 rE_ [],sl 1 gE []],sl 2 pE [],int x0]) hr0) trivial eX
       ·try simp at hc8
        refine sk (th (rg (mv (fP J T.cT (lP J J J T.aF (mv (bd (css:= [(0,_),(1,_)]) T.AB (eC (eC eZ)) ⟨J,J,p1 (φ:=int ((ix (ix m.sT ((ix q i).1).toNat) k1).1)) J,⟨J,J,p1 (φ:=int ((bP mm2 ((ix (ix m.sT ((ix q i).1).toNat) k1).2,(ix (ix n.sT ((ix q i).2).toNat) k2).2)).getD (0:Int))) J,tV⟩⟩ (bsE (enc:=pE) (xs:= [((ix (ix m.sT ((ix q i).1).toNat) k1).1,(bP mm2 ((ix (ix m.sT ((ix q i).1).toNat) k1).2,(ix (ix n.sT ((ix q i).2).toNat) k2).2)).getD (0:Int))]) (css:= [[int ((ix (ix m.sT ((ix q i).1).toNat) k1).1),int ((bP mm2 ((ix (ix m.sT ((ix q i).1).toNat) k1).2,(ix (ix n.sT ((ix q i).2).toNat) k2).2)).getD (0:Int))]]) T.oY ⟨J,J,pA (cs:= [int ((ix (ix m.sT ((ix q i).1).toNat) k1).1),int ((bP mm2 ((ix (ix m.sT ((ix q i).1).toNat) k1).2,(ix (ix n.sT ((ix q i).2).toNat) k2).2)).getD (0:Int))]) J,tV⟩ J J J J (ap (key:=13) (zs:= [((ix (ix m.sT ((ix q i).1).toNat) k1).1,(bP mm2 ((ix (ix m.sT ((ix q i).1).toNat) k1).2,(ix (ix n.sT ((ix q i).2).toNat) k2).2)).getD (0:Int))]) bX J J J T.oY (by unfold aT at*;simp;omega) (by unfold aT at*;simp;omega) fun v111=>(ag (nl (eb (th (rg (bi J J (aG i6) (mv (nl ?_)))))))))))))))))
        have hN0:(k2+1)≤(ix n.sT ((ix q i).2).toNat).length:=by
         first|omega|simp_all
        have hN1:PN m n i (ix q i) q2 mm2 aI k1 (k2+1) (l2++ [((ix (ix m.sT ((ix q i).1).toNat) k1).1,(bP mm2 ((ix (ix m.sT ((ix q i).1).toNat) k1).2,(ix (ix n.sT ((ix q i).2).toNat) k2).2)).getD (0:Int))])∧(c2+1)≤iD m n q2 i+k1*(ix n.sT (ix q i).2.toNat).length+(k2+1):=by
         exact⟨VZ hPN2 hc3 hde (by simpa using hc5),O⟩
        exact ln (⟨k2+1,c2+1,v2,q2,mm2,v111,l2++ [((ix (ix m.sT ((ix q i).1).toNat) k1).1,(bP mm2 ((ix (ix m.sT ((ix q i).1).toNat) k1).2,(ix (ix n.sT ((ix q i).2).toNat) k2).2)).getD (0:Int))]⟩:Nat × Nat × Value × (List (Int × Int)) × (List ((Int × Int) × Int)) × Value × (List (Int × Int))) ⟨hN0,hN1⟩ dO ⟨id,id,id,id,id,id,id,id,id,id,id,id,id,id,id,id,id,tV⟩ ⟨rI,rI,rI,rI,rI,rI,rI,rI,rI,rI,tV⟩
    ·try simp at hc3
     refine ex (xt_ (xt_ (xb (eb (th (rg (bi J J (aG i6) (mv (nl ?_)))))))))
     have hN0:(k1+1)≤(ix m.sT ((ix q i).1).toNat).length:=by
      first|omega|simp_all
     have hN1:PN m n i (ix q i) q2 mm2 aI (k1+1) 0 l2∧c2≤iD m n q2 i+(k1+1)*(ix n.sT (ix q i).2.toNat).length:=by
      refine⟨Wd hPN2 hc2 (by show(ix n.sT (ix q i).2.toNat).length≤k2;omega),?_⟩
      rw[Nat.add_mul]
      omega
     exact ln (⟨k1+1,c2,v2,q2,mm2,w2,l2⟩:Nat × Nat × Value × (List (Int × Int)) × (List ((Int × Int) × Int)) × Value × (List (Int × Int))) ⟨hN0,hN1⟩ dO ⟨id,id,id,id,id,id,id,id,id,id,id,id,id,tV⟩ ⟨rI,rI,rI,rI,rI,rI,rI,rI,rI,tV⟩
   ·try simp at hc2
    refine ex (xt_ (xt_ (xb (th (sq (rg (mv ?_)))))))
    have hbd:∀p∈l1,bdP p:=fun p hp=>by
     have:=Xw hm hPN1 p hp
     unfold bdP;omega
    refine cal (Hi:= [(13,own w1 94 2 pE l1)]) (φs:= [osl 5 w1,eqv (.func (.func 114) #[] #[])]) ⟨eV.trans eV.symm,rfl,tV⟩ (rJ 5 13 (sortE.uF w1 l1 aS)) T.Gs ⟨rI,tV⟩ fun _ _=>(nl (th (rg (fP rfl T.bO (lP rfl rfl rfl T.cF (mv (fz 13 118 rfl rfl (bsE (enc:=gE) (xs:= [(cG l1)]) (css:= [[sl 2 pE (cG l1)]]) T.sH ⟨rfl,rfl,p1 (φ:=sl 2 pE (cG l1)) rfl,tV⟩ rfl rfl rfl rfl (ap (key:=130) (zs:= [(cG l1)]) bX rfl rfl rfl T.sH (by unfold aT at*;simp;omega) (by unfold aT at*;simp;omega) fun v120=>(fP rfl T.bO (cI rfl rfl rfl rfl T.cF rfl (nl (eb (th (rg (mv (bi rfl rfl (aG i6) (ag (nl ?_)))))))))))))))))))
    have hN0:PI m n (i+1) q1 mm1 (aI++ [(cG l1)])∧c1≤iD m n q1 (i+1):=by
     refine⟨We hPN1 rfl (by show(ix m.sT (ix q i).1.toNat).length≤k1;omega),?_⟩
     have hcs:=wI (m:=m) (n:=n) hPN1.hi
     rw[hPN1.pe] at hcs
     have hw:wgt m n (ix q i)=(ix m.sT (ix q i).1.toNat).length*(ix n.sT (ix q i).2.toNat).length:=rfl
     have hk9:k1*(ix n.sT (ix q i).2.toNat).length≤(ix m.sT (ix q i).1.toNat).length*(ix n.sT (ix q i).2.toNat).length:=Nat.mul_le_mul_right _ O
     omega
    exact ln (⟨i+1,c1,v1,q1,mm1,v120,aI++ [(cG l1)]⟩:Nat × Nat × Value × (List (Int × Int)) × (List ((Int × Int) × Int)) × Value × (List (List (Int × Int)))) hN0 dO ⟨id,id,id,id,id,id,id,id,tV⟩ ⟨rI,rI,rI,rI,rI,rI,rI,tV⟩
  ·try simp at hc1
   refine ex (xt_ (xt_ (xb (th (sq (rg (fzc 10 130 1 J J J J (lPA J J T.bE J (mv (sPA (cs':= [sl 1 rE_ m.aC,sl 1 gE aI]) J J J T.bE J J (ag (ag (nl (th (rt ?_)))))))))))))))
   refine fzA 33 5 rfl rfl ?_
   have hr0:(0:Int)=(iI m n):=by
    exact hc0.symm
   exact rE ⟨(⟨m.aC,aI⟩,q),⟨fun h=>absurd hc0 h,fun _=>Tn hPI O⟩⟩ [.cell 4 25,.tmp 5,.tmp 6] J [agg [sl 1 rE_ m.aC,sl 1 gE aI],sl 2 pE q,int 0] ⟨.agg J J T.bE J J,.tmp J,.tmp J,tV⟩ (cA1 (fun x0=>rV [agg [sl 1 rE_ m.aC,sl 1 gE aI],sl 2 pE q,int x0]) hr0) trivial eX
end prodw
end
end Go.Proofs.YtnlfjojfgghchaaGreatDoor
