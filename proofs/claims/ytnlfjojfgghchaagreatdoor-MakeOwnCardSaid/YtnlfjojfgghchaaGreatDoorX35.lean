/- The walks of the functions and the plain laws. Own texts of this claim, packed: Mkprog18, Mkprog19, Mkmkz2, Mksyss, Mkmkz. -/
import Derived.Test.YtnlfjojfgghchaaGreatDoorX04
import Derived.Test.YtnlfjojfgghchaaGreatDoorX34
import Derived.Test.YtnlfjojfgghchaaGreatDoorX28
import Derived.Test.YtnlfjojfgghchaaGreatDoorX22
import Derived.Test.YtnlfjojfgghchaaGreatDoorX14
import Derived.Test.YtnlfjojfgghchaaGreatDoorX25
import Derived.Test.YtnlfjojfgghchaaGreatDoorX31
import Derived.Test.YtnlfjojfgghchaaGreatDoorX33
set_option linter.all false
namespace Go.Proofs.YtnlfjojfgghchaaGreatDoor
open AL Go
set_option maxRecDepth 100000
section
open ref01 ref03 ref04 ref06 prog prog2 prog3 prog4 prog6 prog7 Part Rungs LeftM
def Xc (N:Nat):Int × List Int→List AV:=fun p=> [int p.1,fre N (ints p.2)]
namespace prog18
theorem Uo (N0:Nat) (s:SS) (hs:oK s):
 ItN N0 Tryz.prog 149 [fp [strs s.aC,sl 2 sE s.sT]] (Xc N0) (lI s):=by
 intro y Y Z hlaw hz hY0 hzN
 refine Xm Tryz.func149 rfl rfl (fun w0 F0 hN0=> ?_)
 have hf0:=hs.few0;have hf1:=hs.few1;have hn8:=hs.n8;have hhl:=rF s
 refine sq (rg (lFA J T.aI (Nat.le_of_ble_eq_true J) (bC (φs:= [agg [sl 1 rE_ s.aC,sl 2 sE s.sT]]) (φ:=sl 1 blE (hOl s)) ⟨J,tV⟩ (prog7.wH s aS) T.Gd (al (key:=3) T.z90 (eC eZ) fun b3=>(sP (φ:=sl 1 blE (hOl s)) J J J T.jN J (nl (th (sq (sq (rg (lP J J J T.jN (iF J J T.mM O (gK (k:=0) O) (lF J J T.eE (nl (th ?_)))))))))))))))
 refine cd J (fun hc0=> ?_) (fun hc0=> ?_)
 ·try simp at hc0
  refine rt (rt_ ?_)
  exact r0 hz rfl (fun _=>nU (.inl (by unfold lI;rw[if_pos hc0];exact hY0))) ⟨rI,tV⟩ (.inr rfl)
 ·try simp at hc0
  have h00:=DY (by rw[hc0];simp)
  refine sk (th (sq (rg (fF J T.bE (lF J J T.bP (fc (bB 22 J) fun hm22=>(lnF J T.cR (mk (key:=24) (m:=s.sT.length) (enc:=blE) (y:=false) J J T.FZ (eC eZ) mL mL fun v24=>(al (key:=4) T.z90 (eC eZ) fun b4=>(bQ J J J J T.jN J (nl (th (sq (rg (lP J J J T.jN (iO J J J T.mM O (by simp;omega) (sO (φ:=bl true) J J J T.eE (gN (by simp;omega)) J (y':=true) J (nl (th (sq (rg (bsO 27 (enc:=nE) (xs:= [0]) (css:= [[int 0]]) T.cH ⟨J,J,p1 (φ:=int 0) J,tV⟩ J J J J fun v27=>(al (key:=5) T.z66 (eC eZ) fun b5=>(bQ J J J J T.aQ J (nl (th (sq (rg (ag (nl (th (bk ?_))))))))))))))))))))))))))))))))
  have hI0_0:([0]:List Int)=bq (aV s) 0∧((List.replicate s.sT.length false).set 0 true)=marks s.sT.length ([0]:List Int)∧Y 0 hz∧0≤([0]:List Int).length:=by
   exact⟨rfl,BF _,hY0,Nat.zero_le _⟩
  refine lp (κ:=Nat × (List Bool) × Value × (List Int) × HA) (fun p=> [(0,eqv y),(1,fp [sl 1 rE_ s.aC,sl 2 sE s.sT]),(3,ptr 3 b3 0),(4,ptr 4 b4 0),(5,ptr 5 b5 0),(6,int (p.1:Int))]) (fun p=> [(0,p.2.2.2.2),(3,cell b3 [sl 1 blE (hOl s)]),(4,cell b4 [osl 24 v24]),(5,cell b5 [osl 27 p.2.2.1]),(24,own v24 4 1 blE p.2.1),(27,own p.2.2.1 3 1 nE p.2.2.2.1)]) (fun p=>p.2.2.2.1=bq (aV s) p.1∧p.2.1=marks s.sT.length p.2.2.2.1∧Y p.1 p.2.2.2.2∧p.1≤p.2.2.2.1.length) (fun p=>s.sT.length- p.1) ⟨0,(List.replicate s.sT.length false).set 0 true,v27,([0]:List Int),hz⟩ hI0_0 ⟨id,id,id,id,id,id,tV⟩ ⟨rI,rI,rI,rI,rI,rI,tV⟩ ?_
  intro⟨i,met,u5,ord,hh⟩ hG0
  have hI0:ord=bq (aV s) i∧met=marks s.sT.length ord∧Y i hh∧i≤ord.length:=hG0
  show Ct _ _ _ _ [(0,eqv y),(1,fp [sl 1 rE_ s.aC,sl 2 sE s.sT]),(3,ptr 3 b3 0),(4,ptr 4 b4 0),(5,ptr 5 b5 0),(6,int (i:Int))] [(0,hh),(3,cell b3 [sl 1 blE (hOl s)]),(4,cell b4 [osl 24 v24]),(5,cell b5 [osl 27 u5]),(24,own v24 4 1 blE met),(27,own u5 3 1 nE ord)] _
  have hoq:=EW hs i
  rw[←hI0.1] at hoq
  have hol:=hoq.le
  have hml:met.length=s.sT.length:=by rw[hI0.2.1];exact kH _ _
  refine sq (sq (rg (mv (lP J J J T.aQ (lnO J J T.aU (bi J J bA (nl (th ?_))))))))
  refine cd J (fun hc1=> ?_) (fun hc1=> ?_)
  ·try simp at hc1
   have hob:=hoq.1 i hc1
   have hox:=hs.st (ix ord i).toNat O
   have hxn:(ix ord i).toNat<s.sT.length:=by omega
   refine sk (th (sq (bk (sq ?_))))
   refine drH (nh:=10) [0,1,0,0,12,28,63,127,0,511] [(none,[]),(none,[]),(none,[5]),(none,[]),(none,[27]),(none,[27]),(none,[]),(none,[]),(some 7,[]),(some 7,[7])] T.mixed kR kR ?_
   refine stv (d:=34) (fun β0=>fp [sl 2 sE s.sT]) [] J bH (fun β0 _ _ _ _ gq gh kq=>fF (gq.1.trans J) T.bE kq) ?_
   refine stv (d:=35) (fun β0=>sl 2 sE s.sT) [] J bH (fun β0 _ _ _ _ gq gh kq=>lF (gq.1.trans J) J T.bP kq) ?_
   refine stv (d:=36) (fun β0=>osl 27 u5) [5] J bH (fun β0 _ _ _ _ gq gh kq=>lP (gq.1.trans J) (gh.1.trans J) J T.aQ kq) ?_
   refine stv (d:=37) (fun β0=>int (i:Int)) [] J bH (fun β0 _ _ _ _ gq gh kq=>mv' (gq.1.trans J) kq) ?_
   refine stv (d:=38) (fun β0=>dX 27 u5 1 i 0) [27] J bH (fun β0 _ _ _ _ gq gh kq=>iO (gq.1.trans J) (gh.1.trans J) (gq.2.1.trans J) T.aU O O kq) ?_
   refine stv (d:=39) (fun β0=>int (ix ord i)) [27] J bH (fun β0 _ _ _ _ gq gh kq=>lO (gq.1.trans J) (gh.1.trans J) gB J T.aH kq) ?_
   refine stv (d:=40) (fun β0=>fp [sl 1 nE (ix s.sT (ix ord i).toNat).aP,sl 1 nE (ix s.sT (ix ord i).toNat).next]) [] J bH (fun β0 _ _ _ _ gq gh kq=>iF (gq.1.trans J) (gq.2.1.trans J) T.cR O gB kq) ?_
   refine stv (d:=41) (fun β0=>agg [sl 1 nE (ix s.sT (ix ord i).toNat).aP,sl 1 nE (ix s.sT (ix ord i).toNat).next]) [] J bH (fun β0 _ _ _ _ gq gh kq=>lFA (gq.1.trans J) T.cX (Nat.le_of_ble_eq_true J) kq) ?_
   refine sta 7 T.z79 (eC (eC eZ)) ?_
   refine stw 7 (fun β0=>cell (gbk (β0 8)) [sl 1 nE (ix s.sT (ix ord i).toNat).aP,sl 1 nE (ix s.sT (ix ord i).toNat).next]) [7] J (fun β β' hb=>by first|rw[hb 8 J]|(dsimp only;rw[hb 8 J])) (fun β0 _ _ _ _ gq gh kq=>sPA (cs':= [sl 1 nE (ix s.sT (ix ord i).toNat).aP,sl 1 nE (ix s.sT (ix ord i).toNat).next]) (gq.1.trans J) (gh.1.trans J) (gq.2.1.trans J) T.cX J J kq) ?_
   refine pnH fun β0=>(nl (th (sq (rg (nw 8 3 1 nE (ag (rtg (key:=8) 8 J (nl (th (sq (rg (ag (nl (th (sq (sq (rg (fP J T.cE (lP J J J T.aQ (fc (bB 43 J) fun hm43=>(lnF J T.aU (mv (nl (th (bk ?_)))))))))))))))))))))))))
   have hI1_0:0≤(ix s.sT (ix ord i).toNat).aP.length:=by
    first|omega|simp
   have hI1_1:([]:List Int)=((ix s.sT (ix ord i).toNat).aP.take 0).filter (fun t=> !fM (ix s.sT (ix ord i).toNat) t (hOl s))∧(0:Int)=aT ([]:List Int)∧0≤(0:Int)∧(0:Int)<256∧([]:List Int).length≤0:=by
    exact⟨by simp,rfl,O,O,by simp⟩
   refine lp (κ:=Nat × Value × (List Int) × Int) (fun p=> [(0,eqv y),(1,fp [sl 1 rE_ s.aC,sl 2 sE s.sT]),(3,ptr 3 b3 0),(4,ptr 4 b4 0),(5,ptr 5 b5 0),(6,int (i:Int)),(7,ptr 7 (gbk (β0 8)) 0),(8,osl 8 p.2.1),(9,int p.2.2.2),(43,sl 1 nE (ix s.sT (ix ord i).toNat).aP),(44,int ((ix s.sT (ix ord i).toNat).aP.length:Int)),(45,int (p.1:Int))]) (fun p=> [(0,hh),(3,cell b3 [sl 1 blE (hOl s)]),(4,cell b4 [osl 24 v24]),(5,cell b5 [osl 27 u5]),(7,cell (gbk (β0 8)) [sl 1 nE (ix s.sT (ix ord i).toNat).aP,sl 1 nE (ix s.sT (ix ord i).toNat).next]),(8,own p.2.1 3 1 nE p.2.2.1),(24,own v24 4 1 blE met),(27,own u5 3 1 nE ord)]) (fun p=>(p.1≤(ix s.sT (ix ord i).toNat).aP.length)∧(p.2.2.1=((ix s.sT (ix ord i).toNat).aP.take p.1).filter (fun t=> !fM (ix s.sT (ix ord i).toNat) t (hOl s))∧p.2.2.2=aT p.2.2.1∧0≤p.2.2.2∧p.2.2.2<256∧p.2.2.1.length≤p.1)) (fun p=>(ix s.sT (ix ord i).toNat).aP.length- p.1) ⟨0,(.slice none 0 0),([]:List Int),(0:Int)⟩ ⟨hI1_0,hI1_1⟩ ⟨id,id,id,id,id,id,id,id,id,id,id,id,tV⟩ ⟨rI,rI,rI,rI,rI,rI,rI,rI,tV⟩ ?_
   intro⟨k1,u8,sets,cn⟩ hG1
   obtain⟨hk1,hI1⟩:(k1≤(ix s.sT (ix ord i).toNat).aP.length)∧(sets=((ix s.sT (ix ord i).toNat).aP.take k1).filter (fun t=> !fM (ix s.sT (ix ord i).toNat) t (hOl s))∧cn=aT sets∧0≤cn∧cn<256∧sets.length≤k1):=hG1
   show Ct _ _ _ _ [(0,eqv y),(1,fp [sl 1 rE_ s.aC,sl 2 sE s.sT]),(3,ptr 3 b3 0),(4,ptr 4 b4 0),(5,ptr 5 b5 0),(6,int (i:Int)),(7,ptr 7 (gbk (β0 8)) 0),(8,osl 8 u8),(9,int cn),(43,sl 1 nE (ix s.sT (ix ord i).toNat).aP),(44,int ((ix s.sT (ix ord i).toNat).aP.length:Int)),(45,int (k1:Int))] [(0,hh),(3,cell b3 [sl 1 blE (hOl s)]),(4,cell b4 [osl 24 v24]),(5,cell b5 [osl 27 u5]),(7,cell (gbk (β0 8)) [sl 1 nE (ix s.sT (ix ord i).toNat).aP,sl 1 nE (ix s.sT (ix ord i).toNat).next]),(8,own u8 3 1 nE sets),(24,own v24 4 1 blE met),(27,own u5 3 1 nE ord)] _
   have hacl:=hox.acl
   refine sq (rg (bi J J bA (nl (th (sq ?_)))))
   refine cd J (fun hc2=> ?_) (fun hc2=> ?_)
   ·try simp at hc2
    have hac:=hox.ac k1 O
    refine sk (th (sq (bk (sq (rg (iF J J T.aU O gB (lF J J T.aH (ag (nl (th (sq (rg (al (key:=12) T.z4 (eC eZ) fun b12=>(sP (φ:=bl true) J J J T.eE J (nl (th (sq (sq (rg (mv (bC (φs:= [int (ix (ix s.sT (ix ord i).toNat).aP k1)]) (φ:=clo 137 [fp [int (ix (ix s.sT (ix ord i).toNat).aP k1)]]) ⟨J,tV⟩ (prog3.mX (ix (ix s.sT (ix ord i).toNat).aP k1)) T.mY (nl (th (bk ?_))))))))))))))))))))))))
    have hR0:true=((aL 63 (ix (ix s.sT (ix ord i).toNat).aP k1)).take 0).all (fun a=> !ix (hOl s) (ix (ix s.sT (ix ord i).toNat).next a.toNat).toNat):=by
     simp
    refine rf (κ:=Bool) 900 (fun p=> [(0,hh),(3,cell b3 [sl 1 blE (hOl s)]),(4,cell b4 [osl 24 v24]),(5,cell b5 [osl 27 u5]),(7,cell (gbk (β0 8)) [sl 1 nE (ix s.sT (ix ord i).toNat).aP,sl 1 nE (ix s.sT (ix ord i).toNat).next]),(8,own u8 3 1 nE sets),(12,cell b12 [bl p]),(24,own v24 4 1 blE met),(27,own u5 3 1 nE ord)]) (fun iR p=>p=((aL 63 (ix (ix s.sT (ix ord i).toNat).aP k1)).take iR).all (fun a=> !ix (hOl s) (ix (ix s.sT (ix ord i).toNat).next a.toNat).toNat)) (fun c p=>False) J (qX (ix (ix s.sT (ix ord i).toNat).aP k1) O O) T.kW J (fun _=>J) (fun _=>J) true hR0 ⟨rI,rI,rI,rI,rI,rI,rI,rI,rI,tV⟩ ?_ ?_ (fun k h=>h.elim) (fun id k h=>h.elim) (fun c k h=>h.elim)
    ·intro m0 fi x0 hG0 hx0 l R w1 M1 F1 hRd
     have hR0:fi=((aL 63 (ix (ix s.sT (ix ord i).toNat).aP k1)).take m0).all (fun a=> !ix (hOl s) (ix (ix s.sT (ix ord i).toNat).next a.toNat).toNat):=hG0
     obtain⟨a,rfl,ha63,hha⟩:=fZ hx0
     have hgo:=hox.go k1 O a hha
     have hnx:=hox.nx a hgo.1
     have hxl:=hox.len
     refine rg (ag (nl (aq hRd J (bk (dr (nh:=12) [0,1,3,3,11,3,59,123,255,511,1023,2047,4095] T.mixed kR ?_)))))
     refine st_ J (fun _ _ _ gq kq=>lP (gq.1.trans J) J J T.eE kq) ?_
     refine st_ J (fun _ _ _ gq kq=>mv' (gq.1.trans J) kq) ?_
     refine sg_ (φ:=sl 1 blE (hOl s)) J J J J (List.mem_of_elem_eq_true J) (fun hgd=> ?_) ?_
     ·have hgd':=hgd
      try simp at hgd'
      exact fun _ _ _ gq kq=>lP (gq.1.trans J) J J T.jN kq
     refine sg_ (φ:=ptr 7 (gbk (β0 8)) 1) J J J J (List.mem_of_elem_eq_true J) (fun hgd=> ?_) ?_
     ·have hgd':=hgd
      try simp at hgd'
      exact fun _ _ _ gq kq=>fP (gq.1.trans J) T.cP kq
     refine sg_ (φ:=sl 1 nE (ix s.sT (ix ord i).toNat).next) J J J J (List.mem_of_elem_eq_true J) (fun hgd=> ?_) ?_
     ·have hgd':=hgd
      try simp at hgd'
      exact fun _ _ _ gq kq=>lP (gq.1.trans (cW hgd)) J J T.aQ kq
     refine sg_ (φ:=int (a:Int)) J J J J (List.mem_of_elem_eq_true J) (fun hgd=> ?_) ?_
     ·have hgd':=hgd
      try simp at hgd'
      exact fun _ _ _ gq kq=>mv' (gq.1.trans J) kq
     refine sg_ (φ:=fp [int (ix (ix s.sT (ix ord i).toNat).next a)]) J J J J (List.mem_of_elem_eq_true J) (fun hgd=> ?_) ?_
     ·have hgd':=hgd
      try simp at hgd'
      exact fun _ _ _ gq kq=>iF (gq.1.trans (cW hgd)) (gq.2.1.trans (cW hgd)) T.aU O gB kq
     refine sg_ (φ:=int (ix (ix s.sT (ix ord i).toNat).next a)) J J J J (List.mem_of_elem_eq_true J) (fun hgd=> ?_) ?_
     ·have hgd':=hgd
      try simp at hgd'
      exact fun _ _ _ gq kq=>lF (gq.1.trans (cW hgd)) J T.aH kq
     refine sg_ (φ:=fp [bl (ix (hOl s) (ix (ix s.sT (ix ord i).toNat).next a).toNat)]) J J J J (List.mem_of_elem_eq_true J) (fun hgd=> ?_) ?_
     ·have hgd':=hgd
      try simp at hgd'
      exact fun _ _ _ gq kq=>iF (gq.1.trans (cW hgd)) (gq.2.1.trans (cW hgd)) T.mM O gB kq
     refine sg_ (φ:=bl (ix (hOl s) (ix (ix s.sT (ix ord i).toNat).next a).toNat)) J J J J (List.mem_of_elem_eq_true J) (fun hgd=> ?_) ?_
     ·have hgd':=hgd
      try simp at hgd'
      exact fun _ _ _ gq kq=>lF (gq.1.trans (cW hgd)) J T.eE kq
     refine sg_ (φ:=bl (!(ix (hOl s) (ix (ix s.sT (ix ord i).toNat).next a).toNat))) J J J J (List.mem_of_elem_eq_true J) (fun hgd=> ?_) ?_
     ·have hgd':=hgd
      try simp at hgd'
      exact fun _ _ _ gq kq=>no (gq.1.trans (cW hgd)) kq
     refine st_ J (fun _ _ _ gq kq=>pk (gq.1.trans J) (FO (x:= .tmp 53) (gq.1.trans J) (gq.2.1.trans J) J) kq) ?_
     refine pn (sP (φ:=bl (fi&&(!(ix (hOl s) (ix (ix s.sT (ix ord i).toNat).next a).toNat)))) J J J T.eE J (nl (eb ?_)))
     have hN0:(fi&&(!(ix (hOl s) (ix (ix s.sT (ix ord i).toNat).next a).toNat)))=((aL 63 (ix (ix s.sT (ix ord i).toNat).aP k1)).take (m0+1)).all (fun a=> !ix (hOl s) (ix (ix s.sT (ix ord i).toNat).next a.toNat).toNat):=by
      rw[DX hx0,hR0];simp
     exact rqN (fi&&(!(ix (hOl s) (ix (ix s.sT (ix ord i).toNat).next a).toNat))) hN0 ⟨rI,rI,rI,rI,rI,rI,rI,rI,rI,rI,tV⟩
    ·intro fi hG0
     have hR0:fi=((aL 63 (ix (ix s.sT (ix ord i).toNat).aP k1)).take (aL 63 (ix (ix s.sT (ix ord i).toNat).aP k1)).length).all (fun a=> !ix (hOl s) (ix (ix s.sT (ix ord i).toNat).next a.toNat).toNat):=hG0
     refine eb (th (sq (rg (lP rfl rfl rfl T.eE (nl (th ?_))))))
     refine cd J (fun hc3=> ?_) (fun hc3=> ?_)
     ·try simp at hc3
      refine sq (rg (mv (mv (bsE (enc:=nE) (xs:= [(ix (ix s.sT (ix ord i).toNat).aP k1)]) (css:= [[int (ix (ix s.sT (ix ord i).toNat).aP k1)]]) T.cH ⟨J,J,p1 (φ:=int (ix (ix s.sT (ix ord i).toNat).aP k1)) J,tV⟩ J J J J (ap (key:=8) (zs:= [(ix (ix s.sT (ix ord i).toNat).aP k1)]) bU J J J T.cH (by unfold aR at*;simp;omega) (by unfold aR at*;simp;omega) fun v68=>(ag (nl (th (rg (mv (mv (bi J J (pW O O O O) (ag (nl (eb (th (rg (bi J J (aN i6) (mv (nl ?_))))))))))))))))))))
      have hN0:(k1+1)≤(ix s.sT (ix ord i).toNat).aP.length:=by
       first|omega|simp_all
      have hN1:(sets++ [(ix (ix s.sT (ix ord i).toNat).aP k1)])=((ix s.sT (ix ord i).toNat).aP.take (k1+1)).filter (fun t=> !fM (ix s.sT (ix ord i).toNat) t (hOl s))∧((cn.toNat|||(ix (ix s.sT (ix ord i).toNat).aP k1).toNat:Nat):Int)=aT (sets++ [(ix (ix s.sT (ix ord i).toNat).aP k1)])∧0≤((cn.toNat|||(ix (ix s.sT (ix ord i).toNat).aP k1).toNat:Nat):Int)∧((cn.toNat|||(ix (ix s.sT (ix ord i).toNat).aP k1).toNat:Nat):Int)<256∧(sets++ [(ix (ix s.sT (ix ord i).toNat).aP k1)]).length≤(k1+1):=by
       have hfi:fM (ix s.sT (ix ord i).toNat) (ix (ix s.sT (ix ord i).toNat).aP k1) (hOl s)=false:=by
        have h1:fi=CQ (ix s.sT (ix ord i).toNat) (ix (ix s.sT (ix ord i).toNat).aP k1) (hOl s):=by rw[hR0,List.take_length];rfl
        rw[zJ hox hn8 (fY O),hc3] at h1;simpa using h1.symm
       refine⟨?_,?_,O,iY hI1.2.2.2.1 hac.2,by simp;omega⟩
       ·rw[kO O,hI1.1];simp[hfi]
       ·rw[fW,←hI1.2.1]
      exact ln (⟨k1+1,v68,sets++ [(ix (ix s.sT (ix ord i).toNat).aP k1)],((cn.toNat|||(ix (ix s.sT (ix ord i).toNat).aP k1).toNat:Nat):Int)⟩:Nat × Value × (List Int) × Int) ⟨hN0,hN1⟩ dO ⟨id,id,id,id,id,id,id,id,id,id,id,id,tV⟩ ⟨rI,rI,rI,rI,rI,rI,rI,rI,tV⟩
     ·try simp at hc3
      refine sk (eb (th (rg (bi J J (aN i6) (mv (nl ?_))))))
      have hN0:(k1+1)≤(ix s.sT (ix ord i).toNat).aP.length:=by
       first|omega|simp_all
      have hN1:sets=((ix s.sT (ix ord i).toNat).aP.take (k1+1)).filter (fun t=> !fM (ix s.sT (ix ord i).toNat) t (hOl s))∧cn=aT sets∧0≤cn∧cn<256∧sets.length≤(k1+1):=by
       have hfi:fM (ix s.sT (ix ord i).toNat) (ix (ix s.sT (ix ord i).toNat).aP k1) (hOl s)=true:=by
        have h1:fi=CQ (ix s.sT (ix ord i).toNat) (ix (ix s.sT (ix ord i).toNat).aP k1) (hOl s):=by rw[hR0,List.take_length];rfl
        rw[zJ hox hn8 (fY O),hc3] at h1;simpa using h1.symm
       refine⟨?_,hI1.2.1,hI1.2.2.1,hI1.2.2.2.1,O⟩
       rw[kO O,hI1.1];simp[hfi]
      exact ln (⟨k1+1,u8,sets,cn⟩:Nat × Value × (List Int) × Int) ⟨hN0,hN1⟩ dO ⟨id,id,id,id,id,id,id,id,id,id,id,id,tV⟩ ⟨rI,rI,rI,rI,rI,rI,rI,rI,tV⟩
   ·try simp at hc2
    have hnh:=sK hs h00 i (ix ord i) (by rw[←hI0.1];exact fY hc1)
    have hsets:sets=keep s (ix ord i).toNat:=by rw[jS hnh,hI1.1,show k1=(ix s.sT (ix ord i).toNat).aP.length by omega,List.take_length]
    have hcn:cn=aT (keep s (ix ord i).toNat):=by rw[hI1.2.1,hsets]
    refine ex (xt_ (xt_ (xb (th (sq (sq (rg (mv (bC (φs:= [int cn]) (φ:=clo 137 [fp [int cn]]) ⟨J,tV⟩ (prog3.mX cn) T.mY (nl (th (bk ?_))))))))))))
    have hR1:ord=visit ord (((aL 63 cn).take 0).map fun a=>ix (ix s.sT (ix ord i).toNat).next a.toNat)∧met=marks s.sT.length ord∧okQ s.sT.length ord:=by
     exact⟨by simp[visit],hI0.2.1,hoq⟩
    refine rf (κ:=(List Bool) × Value × (List Int)) 901 (fun p=> [(0,hh),(3,cell b3 [sl 1 blE (hOl s)]),(4,cell b4 [osl 24 v24]),(5,cell b5 [osl 27 p.2.1]),(7,cell (gbk (β0 8)) [sl 1 nE (ix s.sT (ix ord i).toNat).aP,sl 1 nE (ix s.sT (ix ord i).toNat).next]),(8,own u8 3 1 nE sets),(24,own v24 4 1 blE p.1),(27,own p.2.1 3 1 nE p.2.2)]) (fun iR p=>p.2.2=visit ord (((aL 63 cn).take iR).map fun a=>ix (ix s.sT (ix ord i).toNat).next a.toNat)∧p.1=marks s.sT.length p.2.2∧okQ s.sT.length p.2.2) (fun c p=>False) J (qX cn O O) T.kW J (fun _=>J) (fun _=>J) ⟨met,u5,ord⟩ hR1 ⟨rI,rI,rI,rI,rI,rI,rI,rI,tV⟩ ?_ ?_ (fun k h=>h.elim) (fun id k h=>h.elim) (fun c k h=>h.elim)
    ·intro m1 ⟨met2,u52,ord2⟩ x1 hG1 hx1 l R w1 M1 F1 hRd
     have hR1:ord2=visit ord (((aL 63 cn).take m1).map fun a=>ix (ix s.sT (ix ord i).toNat).next a.toNat)∧met2=marks s.sT.length ord2∧okQ s.sT.length ord2:=hG1
     show Ct _ _ _ _ _ ((901,obj l (.loop R)):: [(0,hh),(3,cell b3 [sl 1 blE (hOl s)]),(4,cell b4 [osl 24 v24]),(5,cell b5 [osl 27 u52]),(7,cell (gbk (β0 8)) [sl 1 nE (ix s.sT (ix ord i).toNat).aP,sl 1 nE (ix s.sT (ix ord i).toNat).next]),(8,own u8 3 1 nE sets),(24,own v24 4 1 blE met2),(27,own u52 3 1 nE ord2)]) _
     obtain⟨a,rfl,ha63,hha⟩:=fZ hx1
     have hgo:=kB hs hxn (by rw[←hcn];exact hha)
     have yO:=hR1.2.2.le
     have hml2:met2.length=s.sT.length:=by rw[hR1.2.1];exact kH _ _
     refine rg (ag (nl (aq hRd J (bk (sq (rg (fP J T.cP (lP J J J T.aQ (mv (iF J J T.aU O gB (lF J J T.aH (ag (nl (th (sq (rg (lP J J J T.jN (mv (iO J J J T.mM O O (lO J J gB J T.eE (no J (nl (th ?_)))))))))))))))))))))))
     refine cd J (fun hc4=> ?_) (fun hc4=> ?_)
     ·try simp at hc4
      refine sq (rg (lP J J J T.jN (mv (iO J J J T.mM O O (sO (φ:=bl true) J J J T.eE gB J (y':=true) J (nl (th (rg (lP J J J T.aQ (mv (bsE (enc:=nE) (xs:= [(ix (ix s.sT (ix ord i).toNat).next a)]) (css:= [[int (ix (ix s.sT (ix ord i).toNat).next a)]]) T.cH ⟨J,J,p1 (φ:=int (ix (ix s.sT (ix ord i).toNat).next a)) J,tV⟩ J J J J (ap (key:=27) (zs:= [(ix (ix s.sT (ix ord i).toNat).next a)]) bU J J J T.cH (by unfold aR at*;simp;omega) (by unfold aR at*;simp;omega) fun v92=>(bQ J J J J T.aQ J (nl (eb ?_)))))))))))))))
      have hN0:(ord2++ [(ix (ix s.sT (ix ord i).toNat).next a)])=visit ord (((aL 63 cn).take (m1+1)).map fun a=>ix (ix s.sT (ix ord i).toNat).next a.toNat)∧(met2.set (ix (ix s.sT (ix ord i).toNat).next a).toNat true)=marks s.sT.length (ord2++ [(ix (ix s.sT (ix ord i).toNat).next a)])∧okQ s.sT.length (ord2++ [(ix (ix s.sT (ix ord i).toNat).next a)]):=by
       have hcc:ord2.contains (ix (ix s.sT (ix ord i).toNat).next a)=false:=by
        rw[hR1.2.1,sD O,Int.toNat_of_nonneg hgo.2.1] at hc4;exact hc4
       refine⟨?_,?_,Ay hR1.2.2 hgo.2.1 hgo.2.2.1 hcc⟩
       ·rw[take_at hx1,List.map_append,List.map_cons,List.map_nil,rG,←hR1.1,Int.toNat_natCast,if_pos (by simp only [hcc];simpa using hgo.2.1)]
       ·rw[hR1.2.1,nR hgo.2.1]
      exact rqN ⟨met2.set (ix (ix s.sT (ix ord i).toNat).next a).toNat true,v92,ord2++ [(ix (ix s.sT (ix ord i).toNat).next a)]⟩ hN0 ⟨rI,rI,rI,rI,rI,rI,rI,rI,rI,tV⟩
     ·try simp at hc4
      refine sk (eb ?_)
      have hN0:ord2=visit ord (((aL 63 cn).take (m1+1)).map fun a=>ix (ix s.sT (ix ord i).toNat).next a.toNat)∧met2=marks s.sT.length ord2∧okQ s.sT.length ord2:=by
       have hcc:ord2.contains (ix (ix s.sT (ix ord i).toNat).next a)=true:=by
        rw[hR1.2.1,sD O,Int.toNat_of_nonneg hgo.2.1] at hc4;exact hc4
       refine⟨?_,hR1.2.1,hR1.2.2⟩
       rw[take_at hx1,List.map_append,List.map_cons,List.map_nil,rG,←hR1.1,Int.toNat_natCast,if_neg (by simp only [hcc];simp)]
      exact rqN ⟨met2,u52,ord2⟩ hN0 ⟨rI,rI,rI,rI,rI,rI,rI,rI,rI,tV⟩
    ·intro⟨met2,u52,ord2⟩ hG1
     have hR1:ord2=visit ord (((aL 63 cn).take (aL 63 cn).length).map fun a=>ix (ix s.sT (ix ord i).toNat).next a.toNat)∧met2=marks s.sT.length ord2∧okQ s.sT.length ord2:=hG1
     show At _ _ _ _ [(0,hh),(3,cell b3 [sl 1 blE (hOl s)]),(4,cell b4 [osl 24 v24]),(5,cell b5 [osl 27 u52]),(7,cell (gbk (β0 8)) [sl 1 nE (ix s.sT (ix ord i).toNat).aP,sl 1 nE (ix s.sT (ix ord i).toNat).next]),(8,own u8 3 1 nE sets),(24,own v24 4 1 blE met2),(27,own u52 3 1 nE ord2)]
     refine eb (th (sq (rg ?_)))
     have hor:=hR1.1
     rw[List.take_length] at hor
     have ho2:ord2=bq (aV s) (i+1):=by rw[zK hs (by rw[←hI0.1];exact hc1),←hI0.1,←hcn,hor]
     have hpx:ord<+:ord2:=by rw[hor];exact gC _ _
     have hix:ix ord2 i=ix ord i:=lS hpx hc1
     have hpl:=hpx.length_le
     have hla:=Gc hs h00 (i:=i) O (by rw[←hI0.1];exact hc1)
     rw[←hI0.1] at hla
     have hol3:=hR1.2.2.le
     refine mv (lP rfl rfl rfl T.aQ (mv (iO rfl rfl rfl T.aU O O (lO rfl rfl gB rfl T.aH (mv (fzG (N:=N0) nE 8 98 hN0 (QT hzN) flat rfl rfl (KD (Hi:= [(0,hh)]) rfl (by show FnV _ _ [int (ix ord2 i),fre N0 (ints sets)] _ _ _;rw[hix,hsets];exact hlaw i hh (ix ord i,keep s (ix ord i).toNat) hI0.2.2.1 hla) ⟨rI,tV⟩ fun N bh=>oan 99 rfl fun hres=>(no rfl (nl (th ?_))))))))))
     refine cd J (fun hc5=> ?_) (fun hc5=> ?_)
     ·try simp at hc5
      refine rt (rb (rt_ (rt_ (rb ?_))))
      exact r0 bh.2 rfl (fun _=>nU (.inr (hres.2 hc5))) ⟨rI,tV⟩ (.inr rfl)
     ·try simp at hc5
      refine sk (eb (th (rg (mv (bi J J (aN i6) (ag (nl ?_)))))))
      have hN0:ord2=bq (aV s) (i+1)∧met2=marks s.sT.length ord2∧Y (i+1) bh.2∧(i+1)≤ord2.length:=by
       refine⟨ho2,hR1.2.1,hres.1 (by simpa using hc5),?_⟩
       omega
      exact ln (⟨i+1,met2,u52,ord2,bh.2⟩:Nat × (List Bool) × Value × (List Int) × HA) hN0 dO ⟨id,id,id,id,id,id,tV⟩ ⟨rI,rI,rI,rI,rI,rI,tV⟩
  ·try simp at hc1
   refine ex (xt_ (xt_ (xb ?_)))
   exact r0 hh rfl (fun _=>nU (.inl (by have he:=yC hs (i:=i) (by rw[←hI0.1];exact hc1) O;rw[kI h00,←he,←hI0.1,show ord.length=i by omega];exact hI0.2.2.1))) ⟨rI,tV⟩ (.inl rfl)
end prog18
end
section
open ref01 ref03 ref04 ref06 prog prog2 prog3 prog4 prog6 prog7 prog8 prog18 Part Rungs LeftM TrimM
namespace prog19
theorem Iq (s:SS) (hs:oK s):
 AL.Fn Tryz.prog 73 [spec s] [] (ι:=Unit) (fun N _=>tup [wC N (tR s).1,ints (tR s).2]) (fun _=> []):=by
 refine fnI Tryz.func73 rfl rfl (fun w0 F0=> ?_)
 have hf0:=hs.few0;have hf1:=hs.few1;have hn8:=hs.n8;have hoq:okQ s.sT.length (aF s):=tP hs;have hol:(aF s).length≤s.sT.length:=hoq.le;have hnd:(aF s).Nodup:=pY _;have hop:=jU s
 refine fcC (cG 0 J) (fun hS0=> ?_)
 obtain⟨hsa0,hss0,hse0⟩:=sLn hS0
 refine sq (rg (bx (key:=1) (cs:= [sl 1 rE_ s.aC,sl 2 sE s.sT]) J fun b1=>(al (key:=2) T.z28 (eC (eC eZ)) fun b2=>(ag (nl (th (sq (rg (fP J T.cD (lP J J J T.bZ (eW (φs:= [sl 1 rE_ s.aC]) (φ:=fre w0.heap.size (sl 1 rE_ s.aC)) ⟨J,tV⟩ (prog.dW _ O) T.mZ (fun N hN=>fun h=>dA hN h) (bd (css:= [(0,_)]) T.kA (eC (eC eZ)) ⟨J,J,p1 (φ:=fre w0.heap.size (sl 1 rE_ s.aC)) J,tV⟩ (al (key:=4) T.z28 (eC (eC eZ)) fun b4=>(sPA (cs':= [fre w0.heap.size (sl 1 rE_ s.aC),eqv (.slice none 0 0)]) J J J T.aI J J (nl (th (sq (rg (al (key:=5) T.z66 (eC eZ) fun b5=>(nl (th (sq (rg (fP J T.bE (lP J J J T.bP (fc (bB 21 J) fun hm21=>(lnF J T.cR (mk (key:=23) (m:=s.sT.length) (enc:=nE) (y:=(0:Int)) J J T.cH (eC eZ) mL mL fun v23=>(al (key:=6) T.z66 (eC eZ) fun b6=>(bQ J J J J T.aQ J (nl (th (sq (sq (rg (nw 50 3 1 nE (knc 5 0 (osl 50 (.slice none 0 0)) J J cU (nw 40 79 2 (iM w0.heap.size) (knc 4 1 (osl 40 (.slice none 0 0)) J J cU (lPA J J T.aI J (bC (φs:= [agg [sl 1 rE_ s.aC,sl 2 sE s.sT]]) (φ:=clo 149 [fp [sl 1 rE_ s.aC,sl 2 sE s.sT]]) ⟨J,tV⟩ (prog7.Jk s) T.Mz (nl (th (bk ?_))))))))))))))))))))))))))))))))))))))))))))
 have hR0:(List.replicate s.sT.length (0:Int))=atL s.sT.length ((aF s).take 0)∧([]:List Int)=(if ix (hOl s) 0=true then [] else(aF s).take 0)∧([]:List SA)=([]:List Int).map (half s):=by
  exact⟨Ge _,by split<;>rfl,rfl⟩
 refine rfN (κ:=(List Int) × Value × (List Int) × Value × (List SA)) noM 900 (fun p=> [(1,cell b1 [sl 1 rE_ s.aC,sl 2 sE s.sT]),(2,cell b2 [eqv (.slice none 0 0),eqv (.slice none 0 0)]),(4,cell b4 [fre w0.heap.size (sl 1 rE_ s.aC),osl 40 p.2.2.2.1]),(5,cell b5 [osl 50 p.2.1]),(6,cell b6 [osl 23 v23]),(23,own v23 3 1 nE p.1),(40,own p.2.2.2.1 79 2 (iM w0.heap.size) p.2.2.2.2),(50,own p.2.1 3 1 nE p.2.2.1)]) (fun iR p=>p.1=atL s.sT.length ((aF s).take iR)∧p.2.2.1=(if ix (hOl s) 0=true then [] else(aF s).take iR)∧p.2.2.2.2=p.2.2.1.map (half s)) (fun c p=>False) rfl (Uo w0.heap.size s hs) T.MA rfl (fun _=>rfl) (fun _=>rfl) ⟨List.replicate s.sT.length (0:Int),(.slice none 0 0),([]:List Int),(.slice none 0 0),([]:List SA)⟩ hR0 ⟨rI,rI,rI,rI,rI,rI,rI,rI,tV⟩ ?_ ?_ (fun k h=>h.elim) (fun id k h=>h.elim) (fun c k h=>h.elim)
 ·intro m0 ⟨at_,u50,fr,u40,sts⟩ x0 hG0 hx0 l R w1 M1 F1 hRd
  have hR0:at_=atL s.sT.length ((aF s).take m0)∧fr=(if ix (hOl s) 0=true then [] else(aF s).take m0)∧sts=fr.map (half s):=hG0
  show Ct _ _ _ _ _ ((900,obj l (.loop R)):: [(1,cell b1 [sl 1 rE_ s.aC,sl 2 sE s.sT]),(2,cell b2 [eqv (.slice none 0 0),eqv (.slice none 0 0)]),(4,cell b4 [fre w0.heap.size (sl 1 rE_ s.aC),osl 40 u40]),(5,cell b5 [osl 50 u50]),(6,cell b6 [osl 23 v23]),(23,own v23 3 1 nE at_),(40,own u40 79 2 (iM w0.heap.size) sts),(50,own u50 3 1 nE fr)]) _
  obtain⟨h00,hm0,hxa,hxb⟩:=Eb hx0
  have hob:=hoq.1 m0 hm0
  have hal:at_.length=s.sT.length:=by rw[hR0.1];exact zM _ _
  have hfl:fr.length=m0:=by rw[hR0.2.1,if_neg (by simp[h00])];simp;omega
  have hstl:sts.length=m0:=by rw[hR0.2.2];simp[hfl]
  refine sq (rg (ag (nl (th (rg (ag (nl (aq hRd J (bk (sq (rg (lP J J J T.aQ (mv (lP J J J T.aQ (lnO J J T.aU (iO J J J T.aU O O (sO (φ:=int (fr.length:Int)) J J J T.aH gB J (y':=(fr.length:Int)) J (nl (th (sq (rg (lP J J J T.aQ (mv (bsE (enc:=nE) (xs:= [x0.1]) (css:= [[int x0.1]]) T.cH ⟨J,J,p1 (φ:=int x0.1) J,tV⟩ J J J J (ap (key:=50) (zs:= [x0.1]) bU J J J T.cH (by unfold aR at*;simp;omega) (by unfold aR at*;simp;omega) fun v36=>(bQ J J J J T.aQ J (nl (th (rg (fP J T.bE (lP J J J T.bP (mv (bd (css:= [(0,_)]) T.sB (eC (eC eZ)) ⟨J,J,p1 (φ:=fre w0.heap.size (sl 1 nE x0.2)) J,tV⟩ (kn 40 (agg [fre w0.heap.size (sl 1 nE x0.2),fre w0.heap.size (sl 1 nE [])]) J (dY (cs:= [fre w0.heap.size (sl 1 nE x0.2),eqv (.slice none 0 0)]) (ds:= [fre w0.heap.size (sl 1 nE x0.2),fre w0.heap.size (sl 1 nE [])]) ⟨fun h=>h,fun h=>dP h,tV⟩) (bsE (enc:=iM w0.heap.size) (xs:= [(⟨x0.2,[]⟩)]) (css:= [[fre w0.heap.size (sl 1 nE x0.2),fre w0.heap.size (sl 1 nE [])]]) T.kN ⟨J,J,pA (cs:= [fre w0.heap.size (sl 1 nE x0.2),fre w0.heap.size (sl 1 nE [])]) J,tV⟩ J J J J (ap (key:=40) (zs:= [(⟨x0.2,[]⟩)]) bU J J J T.kN (by unfold aR at*;simp;omega) (by unfold aR at*;simp;omega) fun v42=>(fP J T.bE (bQ J J J J T.bP J (nl (eb ?_))))))))))))))))))))))))))))))))))))))))
  have hN0:(at_.set x0.1.toNat (fr.length:Int))=atL s.sT.length ((aF s).take (m0+1))∧(fr++ [x0.1])=(if ix (hOl s) 0=true then [] else(aF s).take (m0+1))∧(sts++ [(⟨x0.2,[]⟩)])=(fr++ [x0.1]).map (half s):=by
   have hfl2:fr.length=((aF s).take m0).length:=by rw[hfl];simp;omega
   refine⟨?_,?_,?_⟩
   ·rw[hR0.1,hxa,hfl2,bK hm0,Gf (fresh hnd hm0) hob.1 hob.2]
   ·rw[if_neg (by simp[h00]),bK hm0,hR0.2.1,if_neg (by simp[h00]),hxa]
   ·rw[List.map_append,←hR0.2.2,hxb,hxa];rfl
  exact rqN ⟨at_.set x0.1.toNat (fr.length:Int),v36,fr++ [x0.1],v42,sts++ [(⟨x0.2,[]⟩)]⟩ hN0 ⟨rI,rI,rI,rI,rI,rI,rI,rI,rI,tV⟩
 ·intro⟨at_,u50,fr,u40,sts⟩ hG0
  have hR0:at_=atL s.sT.length ((aF s).take (lI s).length)∧fr=(if ix (hOl s) 0=true then [] else(aF s).take (lI s).length)∧sts=fr.map (half s):=hG0
  show At _ _ _ _ [(1,cell b1 [sl 1 rE_ s.aC,sl 2 sE s.sT]),(2,cell b2 [eqv (.slice none 0 0),eqv (.slice none 0 0)]),(4,cell b4 [fre w0.heap.size (sl 1 rE_ s.aC),osl 40 u40]),(5,cell b5 [osl 50 u50]),(6,cell b6 [osl 23 v23]),(23,own v23 3 1 nE at_),(40,own u40 79 2 (iM w0.heap.size) sts),(50,own u50 3 1 nE fr)]
  refine eb (th (sq (sq (rg (lP rfl rfl rfl T.aQ (lnO rfl rfl T.aU (bi rfl rfl fS (nl (th ?_)))))))))
  refine cd J (fun hc0=> ?_) (fun hc0=> ?_)
  ·try simp at hc0
   have hh0:ix (hOl s) 0=true:=by
    cases h:ix (hOl s) 0 with
    |true=>rfl
    |false=>
     exfalso
     have h2:=hR0.2.1
     rw[if_neg (by simp[h]),kI h,List.take_length] at h2
     have h3:=hop
     rw[hc0] at h2
     rw[show aF s= [] from h2.symm] at h3
     simp at h3
   refine sq (rg (fP J T.cD (lP J J J T.bZ (eW (φs:= [sl 1 rE_ s.aC]) (φ:=agg [fre w0.heap.size (sl 1 rE_ (nothing s.aC).aC),fre w0.heap.size (sl 2 sE (nothing s.aC).sT)]) ⟨J,tV⟩ (prog8.BR s.aC O) T.MB (fun N hN=>fun h=>dY (cs:= [fre N (sl 1 rE_ (nothing s.aC).aC),fre N (sl 2 sE (nothing s.aC).sT)]) (ds:= [fre w0.heap.size (sl 1 rE_ (nothing s.aC).aC),fre w0.heap.size (sl 2 sE (nothing s.aC).sT)]) ⟨fun h=>dA hN h,fun h=>dA hN h,tV⟩ h) (sPA (cs':= [fre w0.heap.size (sl 1 rE_ (nothing s.aC).aC),fre w0.heap.size (sl 2 sE (nothing s.aC).sT)]) J J J T.aI J J (ag (nl (th (rt (rt_ ?_))))))))))
   refine knA 3 (sl 1 nE []) rfl slnil ?_
   have hr0:(nothing s.aC).aC=((tR s).1).aC:=by
    rw[dQ hh0]
   have hr1:(nothing s.aC).sT=((tR s).1).sT:=by
    rw[dQ hh0]
   have hr2: []=((tR s).2):=by
    rw[dQ hh0]
   exact rE () [.cell 2 28,.tmp 3] J [agg [fre w0.heap.size (sl 1 rE_ (nothing s.aC).aC),fre w0.heap.size (sl 2 sE (nothing s.aC).sT)],sl 1 nE []] ⟨.agg J J T.aI J J,.tmp J,tV⟩ (cA3 (fun x0 x1 x2=>rV [agg [fre w0.heap.size (sl 1 rE_ x0),fre w0.heap.size (sl 2 sE x1)],sl 1 nE x2]) hr0 hr1 hr2) trivial eX
  ·try simp at hc0
   have h00:ix (hOl s) 0=false:=by
    cases h:ix (hOl s) 0 with
    |false=>rfl
    |true=>exact absurd (by rw[hR0.2.1,if_pos h]) hc0
   have hfr:fr=aF s:=by rw[hR0.2.1,if_neg (by simp[h00]),kI h00,List.take_length]
   have hat:at_=atL s.sT.length (aF s):=by rw[hR0.1,kI h00,List.take_length]
   have hfl:fr.length=(aF s).length:=by rw[hfr]
   have hal:at_.length=s.sT.length:=by rw[hat];exact zM _ _
   refine sk (th (sq (sq (rg (lP J J J T.aQ (lnO J J T.aU (mv (nl (th (bk ?_))))))))))
   have hI0_0:0≤fr.length:=by
    first|omega|simp
   have hI0_1:sts=aD s 0:=by
    rw[hR0.2.2,hfr,DZ]
   refine lp (κ:=Nat × (List SA)) (fun p=> [(1,ptr 1 b1 0),(2,ptr 2 b2 0),(3,eqv (.slice none 0 0)),(4,ptr 4 b4 0),(5,ptr 5 b5 0),(6,ptr 6 b6 0),(50,osl 50 u50),(51,int (fr.length:Int)),(52,int (p.1:Int))]) (fun p=> [(1,cell b1 [sl 1 rE_ s.aC,sl 2 sE s.sT]),(2,cell b2 [eqv (.slice none 0 0),eqv (.slice none 0 0)]),(4,cell b4 [fre w0.heap.size (sl 1 rE_ s.aC),osl 40 u40]),(5,cell b5 [osl 50 u50]),(6,cell b6 [osl 23 v23]),(23,own v23 3 1 nE at_),(40,own u40 79 2 (iM w0.heap.size) p.2),(50,own u50 3 1 nE fr)]) (fun p=>(p.1≤fr.length)∧(p.2=aD s p.1)) (fun p=>fr.length- p.1) ⟨0,sts⟩ ⟨hI0_0,hI0_1⟩ ⟨id,id,id,id,id,id,id,id,id,tV⟩ ⟨rI,rI,rI,rI,rI,rI,rI,rI,tV⟩ ?_
   intro⟨k,sts2⟩ hG0
   obtain⟨hk0,hI0⟩:(k≤fr.length)∧(sts2=aD s k):=hG0
   show Ct _ _ _ _ [(1,ptr 1 b1 0),(2,ptr 2 b2 0),(3,eqv (.slice none 0 0)),(4,ptr 4 b4 0),(5,ptr 5 b5 0),(6,ptr 6 b6 0),(50,osl 50 u50),(51,int (fr.length:Int)),(52,int (k:Int))] [(1,cell b1 [sl 1 rE_ s.aC,sl 2 sE s.sT]),(2,cell b2 [eqv (.slice none 0 0),eqv (.slice none 0 0)]),(4,cell b4 [fre w0.heap.size (sl 1 rE_ s.aC),osl 40 u40]),(5,cell b5 [osl 50 u50]),(6,cell b6 [osl 23 v23]),(23,own v23 3 1 nE at_),(40,own u40 79 2 (iM w0.heap.size) sts2),(50,own u50 3 1 nE fr)] _
   have hsl:sts2.length=(aF s).length:=by rw[hI0];exact Gh s k
   refine sq (rg (bi J J bA (nl (th (sq ?_)))))
   refine cd J (fun hc1=> ?_) (fun hc1=> ?_)
   ·try simp at hc1
    have hkl:k<(aF s).length:=by omega
    have hob:=hoq.1 k hkl
    rw[←hfr] at hob
    have hxn:(ix fr k).toNat<s.sT.length:=by omega
    have hox:=hs.st _ hxn
    have hacl:=hox.acl
    have hxl:=hox.len
    have hhf:ix sts2 k=half s (ix fr k):=by rw[hI0,hfr];exact Jm hkl
    have hha:(ix sts2 k).aP=keep s (ix fr k).toNat:=by rw[hhf];rfl
    refine sk (th (sq (bk (sq (rg (mv (iO J J J T.aU O O (lO J J gB J T.aH (al (key:=10) T.z3 (eC eZ) fun b10=>(ag (sP (φ:=int (ix fr k)) J J J T.aH J (nl (th (sq (rg (ag (nl (th (sq (sq (rg (fP J T.bE (lP J J J T.bP (mv (iO J J J T.cR O O (fO J T.cE (lO J J gB J T.aQ (kn 62 (sl 1 nE (ix sts2 k).aP) J (fun h=>eS h) (fc (bB 62 J) fun hm62=>(lnF J T.aU (mv (nl (th (bk ?_))))))))))))))))))))))))))))))))))
    have hI1_0:0≤(ix sts2 k).aP.length:=by
     first|omega|simp
    have hI1_1:(0:Int)=aT ((keep s (ix fr k).toNat).take 0)∧0≤(0:Int)∧(0:Int)<256:=by
     exact⟨rfl,O,O⟩
    refine lp (κ:=Nat × Int) (fun p=> [(1,ptr 1 b1 0),(2,ptr 2 b2 0),(3,eqv (.slice none 0 0)),(4,ptr 4 b4 0),(5,ptr 5 b5 0),(6,ptr 6 b6 0),(9,int (k:Int)),(10,ptr 10 b10 0),(11,int p.2),(50,osl 50 u50),(51,int (fr.length:Int)),(52,int (k:Int)),(62,sl 1 nE (ix sts2 k).aP),(63,int ((ix sts2 k).aP.length:Int)),(64,int (p.1:Int))]) (fun p=> [(1,cell b1 [sl 1 rE_ s.aC,sl 2 sE s.sT]),(2,cell b2 [eqv (.slice none 0 0),eqv (.slice none 0 0)]),(4,cell b4 [fre w0.heap.size (sl 1 rE_ s.aC),osl 40 u40]),(5,cell b5 [osl 50 u50]),(6,cell b6 [osl 23 v23]),(10,cell b10 [int (ix fr k)]),(23,own v23 3 1 nE at_),(40,own u40 79 2 (iM w0.heap.size) sts2),(50,own u50 3 1 nE fr)]) (fun p=>(p.1≤(ix sts2 k).aP.length)∧(p.2=aT ((keep s (ix fr k).toNat).take p.1)∧0≤p.2∧p.2<256)) (fun p=>(ix sts2 k).aP.length- p.1) ⟨0,(0:Int)⟩ ⟨hI1_0,hI1_1⟩ ⟨id,id,id,id,id,id,id,id,id,id,id,id,id,id,id,tV⟩ ⟨rI,rI,rI,rI,rI,rI,rI,rI,rI,tV⟩ ?_
    intro⟨k1,cn⟩ hG1
    obtain⟨hk1,hI1⟩:(k1≤(ix sts2 k).aP.length)∧(cn=aT ((keep s (ix fr k).toNat).take k1)∧0≤cn∧cn<256):=hG1
    show Ct _ _ _ _ [(1,ptr 1 b1 0),(2,ptr 2 b2 0),(3,eqv (.slice none 0 0)),(4,ptr 4 b4 0),(5,ptr 5 b5 0),(6,ptr 6 b6 0),(9,int (k:Int)),(10,ptr 10 b10 0),(11,int cn),(50,osl 50 u50),(51,int (fr.length:Int)),(52,int (k:Int)),(62,sl 1 nE (ix sts2 k).aP),(63,int ((ix sts2 k).aP.length:Int)),(64,int (k1:Int))] [(1,cell b1 [sl 1 rE_ s.aC,sl 2 sE s.sT]),(2,cell b2 [eqv (.slice none 0 0),eqv (.slice none 0 0)]),(4,cell b4 [fre w0.heap.size (sl 1 rE_ s.aC),osl 40 u40]),(5,cell b5 [osl 50 u50]),(6,cell b6 [osl 23 v23]),(10,cell b10 [int (ix fr k)]),(23,own v23 3 1 nE at_),(40,own u40 79 2 (iM w0.heap.size) sts2),(50,own u50 3 1 nE fr)] _
    refine sq (rg (bi J J bA (nl (th (sq ?_)))))
    refine cd J (fun hc2=> ?_) (fun hc2=> ?_)
    ·try simp at hc2
     have hkb:0≤ix (ix sts2 k).aP k1∧ix (ix sts2 k).aP k1<256:=by
         rw[hha] at hc2 ⊢
         exact sI hox (wG (fY hc2)).1
     refine sk (th (sq (bk (sq (rg (iF J J T.aU O gB (lF J J T.aH (ag (nl (th (rg (mv (mv (bi J J (pW O O O O) (ag (nl (eb (th (rg (bi J J (aN i6) (mv (nl ?_))))))))))))))))))))))
     have hN0:(k1+1)≤((ix sts2 k).aP).length:=by
         first|omega|simp_all
     have hN1:((cn.toNat|||((ix ((ix sts2 k).aP) k1).toNat):Nat):Int)=aT ((keep s (ix fr k).toNat).take (k1+1))∧0≤((cn.toNat|||((ix ((ix sts2 k).aP) k1).toNat):Nat):Int)∧((cn.toNat|||((ix ((ix sts2 k).aP) k1).toNat):Nat):Int)<256:=by
         refine⟨?_,O,iY hI1.2.2 hkb.2⟩
         rw[bK (by rw[←hha];omega),fW,←hI1.1,hha]
     exact ln (⟨k1+1,((cn.toNat|||(ix (ix sts2 k).aP k1).toNat:Nat):Int)⟩:Nat × Int) ⟨hN0,hN1⟩ dO ⟨id,id,id,id,id,id,id,id,id,id,id,id,id,id,id,tV⟩ ⟨rI,rI,rI,rI,rI,rI,rI,rI,rI,tV⟩
    ·try simp at hc2
     have hcn:cn=aT (keep s (ix fr k).toNat):=by rw[hI1.1,show k1=(keep s (ix fr k).toNat).length by rw[←hha];omega,List.take_length]
     refine ex (xt_ (xt_ (xb (th (sq (rg (bsE (enc:=nE) (xs:= [(-1)]) (css:= [[int (-1)]]) T.cH ⟨J,J,p1 (φ:=int (-1)) J,tV⟩ J J J J (fP J T.cD (lP J J J T.bZ (fc (bB 74 J) fun hm74=>(lnF J T.eH (cl (prog8.nV s.aC.length O) T.zL trivial fun N76 v76=>(al (key:=14) T.z66 (eC eZ) fun b14=>(bQ J J J J T.aQ J (nl (th (sq (sq (rg (mv (bC (φs:= [int cn]) (φ:=clo 137 [fp [int cn]]) ⟨J,tV⟩ (prog3.mX cn) T.mY (nl (th (bk ?_))))))))))))))))))))))))
     have hR1:(List.replicate s.aC.length (-1))=nxL s (ix fr k) 0:=by
         exact Gi _ _
     refine rf (κ:=(List Int)) 901 (fun p=> [(1,cell b1 [sl 1 rE_ s.aC,sl 2 sE s.sT]),(2,cell b2 [eqv (.slice none 0 0),eqv (.slice none 0 0)]),(4,cell b4 [fre w0.heap.size (sl 1 rE_ s.aC),osl 40 u40]),(5,cell b5 [osl 50 u50]),(6,cell b6 [osl 23 v23]),(10,cell b10 [int (ix fr k)]),(14,cell b14 [osl 30 v76]),(23,own v23 3 1 nE at_),(30,own v76 3 1 nE p),(40,own u40 79 2 (iM w0.heap.size) sts2),(50,own u50 3 1 nE fr)]) (fun iR p=>p=nxL s (ix fr k) iR) (fun c p=>False) J (qX cn O O) T.kW J (fun _=>J) (fun _=>J) (List.replicate s.aC.length (-1)) hR1 ⟨rI,rI,rI,rI,rI,rI,rI,rI,rI,rI,rI,tV⟩ ?_ ?_ (fun k h=>h.elim) (fun id k h=>h.elim) (fun c k h=>h.elim)
     ·intro m1 nx x1 hG1 hx1 l R w1 M1 F1 hRd
      have hR1:nx=nxL s (ix fr k) m1:=hG1
      obtain⟨a,rfl,ha63,hha2⟩:=fZ hx1
      rw[hcn] at hx1 hha2
      have hgo:=kB hs hxn hha2
      have hnl:nx.length=s.aC.length:=by rw[hR1];simp[nxL]
      refine rg (ag (nl (aq hRd J (bk (dr (nh:=15) [0,0,0,0,8,0,56,120,248,0,1016,2040,4092,8188,16383,32767] T.mixed kR ?_)))))
      refine st_ J (fun _ _ _ gq kq=>lP (gq.1.trans J) J J T.aQ kq) ?_
      refine st_ J (fun _ _ _ gq kq=>mv' (gq.1.trans J) kq) ?_
      refine st_ J (fun _ _ _ gq kq=>lP (gq.1.trans J) J J T.aQ kq) ?_
      refine st_ J (fun _ _ _ gq kq=>fP (gq.1.trans J) T.bE kq) ?_
      refine st_ J (fun _ _ _ gq kq=>lP (gq.1.trans J) J J T.bP kq) ?_
      refine st_ J (fun _ _ _ gq kq=>lP (gq.1.trans J) J J T.aH kq) ?_
      refine st_ J (fun _ _ _ gq kq=>iF (gq.1.trans J) (gq.2.1.trans J) T.cR O gB kq) ?_
      refine st_ J (fun _ _ _ gq kq=>fF (gq.1.trans J) T.cP kq) ?_
      refine st_ J (fun _ _ _ gq kq=>lF (gq.1.trans J) J T.aQ kq) ?_
      refine st_ J (fun _ _ _ gq kq=>mv' (gq.1.trans J) kq) ?_
      refine st_ J (fun _ _ _ gq kq=>iF (gq.1.trans J) (gq.2.1.trans J) T.aU O gB kq) ?_
      refine st_ J (fun _ _ _ gq kq=>lF (gq.1.trans J) J T.aH kq) ?_
      refine st_ J (fun _ _ _ gq kq=>iO (gq.1.trans J) J (gq.2.1.trans J) T.aU O O kq) ?_
      refine st_ J (fun _ _ _ gq kq=>lO (gq.1.trans J) J gB J T.aH kq) ?_
      refine st_ J (fun _ _ _ gq kq=>iO (gq.1.trans J) J (gq.2.1.trans J) T.aU O O kq) ?_
      refine pn (sO (φ:=int (ix at_ (ix (ix s.sT (ix fr k).toNat).next a).toNat)) J J J T.aH gB J (y':=(ix at_ (ix (ix s.sT (ix fr k).toNat).next a).toNat)) J (nl (eb ?_)))
      have hN0:(nx.set a (ix at_ ((ix ((ix s.sT ((ix fr k).toNat)).next) a).toNat)))=nxL s (ix fr k) (m1+1):=by
         rw[←Gj hx1 O,←hR1,hat,My O,Int.toNat_of_nonneg hgo.2.1]
      exact rqN (nx.set a (ix at_ (ix (ix s.sT (ix fr k).toNat).next a).toNat)) hN0 ⟨rI,rI,rI,rI,rI,rI,rI,rI,rI,rI,rI,rI,tV⟩
     ·intro nx hG1
      have hR1:nx=nxL s (ix fr k) (aL 63 cn).length:=hG1
      refine eb (th (rg (fP rfl T.bE (lP rfl rfl rfl T.bP (mv (lP rfl rfl rfl T.aQ (iO rfl rfl rfl T.cR O O (fO rfl T.cP (fzN nE 30 98 noM flat rfl rfl (sO (φ:=fre w0.heap.size (sl 1 nE nx)) rfl rfl rfl T.aQ (gN O) rfl (y':=⟨(ix sts2 k).aP,nx⟩) rfl (nl (eb (th (rg (bi rfl rfl (aN i6) (mv (nl ?_)))))))))))))))))
      have hN0:(k+1)≤fr.length:=by
         first|omega|simp_all
      have hN1:(sts2.set k (⟨(ix sts2 k).aP,nx⟩))=aD s (k+1):=by
         rw[hcn,Jn hs] at hR1
         rw[←Ea hkl,←hI0,hR1,hha]
         rw[show ix fr k=ix (aF s) k by rw[hfr]]
         rfl
      exact ln (⟨k+1,sts2.set k (⟨(ix sts2 k).aP,nx⟩)⟩:Nat × (List SA)) ⟨hN0,hN1⟩ dO ⟨id,id,id,id,id,id,id,id,id,tV⟩ ⟨rI,rI,rI,rI,rI,rI,rI,rI,tV⟩
   ·try simp at hc1
    refine ex (xt_ (xt_ (xb (th (sq (Rh sE 4 40 1 noM (fun _=>J) J J J (by decide) (Rh nE 5 50 0 noM flat J J J (by decide) ?_)))))))
    refine drH (nh:=4) [0,0,1,7] [(none,[4]),(none,[5]),(some 2,[2]),(none,[])] T.mixed kR kR ?_
    refine stv (d:=102) (fun β0=>agg [fre w0.heap.size (sl 1 rE_ s.aC),fre w0.heap.size (sl 2 sE sts2)]) [4] J bH (fun β0 _ _ _ _ gq gh kq=>lPA (gq.1.trans J) (gh.1.trans J) T.aI J kq) ?_
    refine stv (d:=103) (fun β0=>fre w0.heap.size (sl 1 nE fr)) [5] J bH (fun β0 _ _ _ _ gq gh kq=>lP (gq.1.trans J) (gh.1.trans J) J T.aQ kq) ?_
    refine stw 2 (fun β0=>cell b2 [fre w0.heap.size (sl 1 rE_ s.aC),fre w0.heap.size (sl 2 sE sts2)]) [2] J bH (fun β0 _ _ _ _ gq gh kq=>sPA (cs':= [fre w0.heap.size (sl 1 rE_ s.aC),fre w0.heap.size (sl 2 sE sts2)]) (gq.1.trans J) (gh.1.trans J) (gq.2.1.trans J) T.aI J J kq) ?_
    refine stv (d:=3) (fun β0=>fre w0.heap.size (sl 1 nE fr)) [] J bH (fun β0 _ _ _ _ gq gh kq=>ag' (gq.1.trans J) kq) ?_
    refine pnH fun β0=>(nl (th (rt ?_)))
    refine knA 3 (sl 1 nE fr) rfl (fun h=>eS h) ?_
    have hr0:s.aC=((tR s).1).aC:=by
     rw[dE h00]
    have hr1:sts2=((tR s).1).sT:=by
     rw[dE h00,hI0,show k=(aF s).length by omega,Gg]
    have hr2:fr=((tR s).2):=by
     rw[dE h00,hfr]
    exact rE () [.cell 2 28,.tmp 3] J [agg [fre w0.heap.size (sl 1 rE_ s.aC),fre w0.heap.size (sl 2 sE sts2)],sl 1 nE fr] ⟨.agg J J T.aI J J,.tmp J,tV⟩ (cA3 (fun x0 x1 x2=>rV [agg [fre w0.heap.size (sl 1 rE_ x0),fre w0.heap.size (sl 2 sE x1)],sl 1 nE x2]) hr0 hr1 hr2) trivial eX
end prog19
end
section
open ref01 ref03 ref04 ref06 prog prog2 prog3 prog4 prog5 prog6 prog7 prog8 prog9 prog15 prog18 prog19 Part Rungs LeftM TrimM RoundM MergeM BisM BisM4 BisM5 Itoa Keys WalkM StepM WitM JudgM JudgM2 search refw judg wit refj sysw satj divr divs divd dive divf divv TrimI QuoM FailM DivM FitM TogM GenW CompM CrossM KeepK GuardM MakeM LsysM LsysM2 MakeM2 KeepB AtM ClsM LstM MakeM3 GuaW ValidM mkk mkp mkl mkc mkq mkg pkey
namespace mkz2
theorem Jb (s:SS) (hs:oK s) (u:Int) (h0:0≤u) (h1:u<256):
 AL.Fn Tryz.prog 72 [spec s,int u] [] (ι:=Unit) (fun N _=>wC N (tR (aM u s)).1) (fun _=> []):=by
 refine fnI Tryz.func72 rfl rfl (fun w0 F0=> ?_)
 have hko:=jB hs u;have hf1:=hs.few1;have hn8:=hs.n8
 refine fcC (cG 0 J) (fun hS0=> ?_)
 obtain⟨hsa0,hss0,hse0⟩:=sLn hS0
 refine sq (rg (bx (key:=2) (cs:= [sl 1 rE_ s.aC,sl 2 sE s.sT]) J fun b2=>(al (key:=4) T.z28 (eC (eC eZ)) fun b4=>(nl (th (sq (rg (fP J T.cD (lP J J J T.bZ (bd (css:= [(0,_)]) T.kA (eC (eC eZ)) ⟨J,J,p1 (φ:=sl 1 rE_ s.aC) J,tV⟩ (al (key:=5) T.z28 (eC (eC eZ)) fun b5=>(sPA (cs':= [sl 1 rE_ s.aC,eqv (.slice none 0 0)]) J J J T.aI J J (nl (th (sq (sq (rg (fP J T.bE (lP J J J T.bP (fc (bB 15 J) fun hm15=>(lnF J T.cR (mv (nl (th (bk ?_)))))))))))))))))))))))))
 refine nwC 50 79 2 sE (jY 5 1 (osl 50 (.slice none 0 0)) rfl rfl cU ?_)
 have hI0_0:0≤s.sT.length:=by
  first|omega|simp
 have hI0_1:([]:List SA)=(s.sT.take 0).map (qC u):=by
  rfl
 refine lp (κ:=Nat × Value × (List SA)) (fun p=> [(1,int u),(4,ptr 4 b4 0),(5,ptr 5 b5 0),(15,sl 2 sE s.sT),(16,int (s.sT.length:Int)),(17,int (p.1:Int))]) (fun p=> [(2,cell b2 [sl 1 rE_ s.aC,sl 2 sE s.sT]),(4,cell b4 [eqv (.slice none 0 0),eqv (.slice none 0 0)]),(5,cell b5 [sl 1 rE_ s.aC,osl 50 p.2.1]),(50,own p.2.1 79 2 sE p.2.2)]) (fun p=>(p.1≤s.sT.length)∧(p.2.2=(s.sT.take p.1).map (qC u))) (fun p=>s.sT.length- p.1) ⟨0,(.slice none 0 0),([]:List SA)⟩ ⟨hI0_0,hI0_1⟩ ⟨id,id,id,id,id,id,tV⟩ ⟨rI,rI,rI,rI,tV⟩ ?_
 intro⟨k,v5x,aD⟩ hG0
 obtain⟨hk0,hI0⟩:(k≤s.sT.length)∧(aD=(s.sT.take k).map (qC u)):=hG0
 show Ct _ _ _ _ [(1,int u),(4,ptr 4 b4 0),(5,ptr 5 b5 0),(15,sl 2 sE s.sT),(16,int (s.sT.length:Int)),(17,int (k:Int))] [(2,cell b2 [sl 1 rE_ s.aC,sl 2 sE s.sT]),(4,cell b4 [eqv (.slice none 0 0),eqv (.slice none 0 0)]),(5,cell b5 [sl 1 rE_ s.aC,osl 50 v5x]),(50,own v5x 79 2 sE aD)] _
 have hol:aD.length≤k:=by rw[hI0];simp;omega
 refine sq (rg (bi J J bA (nl (th (sq ?_)))))
 refine cd J (fun hc0=> ?_) (fun hc0=> ?_)
 ·try simp at hc0
  have hst:=hs.st k O
  have hacl:=hst.acl
  have hsl:=hst.len
  refine sk (th (sq (bk (sq (rg (iF J J T.cR O gB (lFA J T.cX (Nat.le_of_ble_eq_true J) (al (key:=7) T.z79 (eC (eC eZ)) fun b7=>(sPA (cs':= [sl 1 nE (ix s.sT k).aP,sl 1 nE (ix s.sT k).next]) J J J T.cX J J (nl (th (sq (rg (fP J T.cP (lP J J J T.aQ (bd (css:= [(1,_)]) T.sB (eC (eC eZ)) ⟨J,J,p1 (φ:=sl 1 nE (ix s.sT k).next) J,tV⟩ (al (key:=8) T.z79 (eC (eC eZ)) fun b8=>(sPA (cs':= [eqv (.slice none 0 0),sl 1 nE (ix s.sT k).next]) J J J T.cX J J (nl (th (sq (sq (rg (fP J T.cE (lP J J J T.aQ (fc (bB 25 J) fun hm25=>(lnF J T.aU (mv (nl (th (bk ?_)))))))))))))))))))))))))))))))
  refine nwC 80 3 1 nE (jY 8 0 (osl 80 (.slice none 0 0)) rfl rfl cU ?_)
  have hI1_0:0≤(ix s.sT k).aP.length:=by
   first|omega|simp
  have hI1_1:([]:List Int)=((ix s.sT k).aP.take 0).filter (fun v=>decide (bS v u=u)):=by
   rfl
  refine lp (κ:=Nat × Value × (List Int)) (fun p=> [(1,int u),(4,ptr 4 b4 0),(5,ptr 5 b5 0),(8,ptr 8 b8 0),(15,sl 2 sE s.sT),(16,int (s.sT.length:Int)),(17,int (k:Int)),(25,sl 1 nE (ix s.sT k).aP),(26,int ((ix s.sT k).aP.length:Int)),(27,int (p.1:Int))]) (fun p=> [(2,cell b2 [sl 1 rE_ s.aC,sl 2 sE s.sT]),(4,cell b4 [eqv (.slice none 0 0),eqv (.slice none 0 0)]),(5,cell b5 [sl 1 rE_ s.aC,osl 50 v5x]),(7,cell b7 [sl 1 nE (ix s.sT k).aP,sl 1 nE (ix s.sT k).next]),(8,cell b8 [osl 80 p.2.1,sl 1 nE (ix s.sT k).next]),(50,own v5x 79 2 sE aD),(80,own p.2.1 3 1 nE p.2.2)]) (fun p=>(p.1≤(ix s.sT k).aP.length)∧(p.2.2=((ix s.sT k).aP.take p.1).filter (fun v=>decide (bS v u=u)))) (fun p=>(ix s.sT k).aP.length- p.1) ⟨0,(.slice none 0 0),([]:List Int)⟩ ⟨hI1_0,hI1_1⟩ ⟨id,id,id,id,id,id,id,id,id,id,tV⟩ ⟨rI,rI,rI,rI,rI,rI,rI,tV⟩ ?_
  intro⟨k1,v8x,ou2⟩ hG1
  obtain⟨hk1,hI1⟩:(k1≤(ix s.sT k).aP.length)∧(ou2=((ix s.sT k).aP.take k1).filter (fun v=>decide (bS v u=u))):=hG1
  show Ct _ _ _ _ [(1,int u),(4,ptr 4 b4 0),(5,ptr 5 b5 0),(8,ptr 8 b8 0),(15,sl 2 sE s.sT),(16,int (s.sT.length:Int)),(17,int (k:Int)),(25,sl 1 nE (ix s.sT k).aP),(26,int ((ix s.sT k).aP.length:Int)),(27,int (k1:Int))] [(2,cell b2 [sl 1 rE_ s.aC,sl 2 sE s.sT]),(4,cell b4 [eqv (.slice none 0 0),eqv (.slice none 0 0)]),(5,cell b5 [sl 1 rE_ s.aC,osl 50 v5x]),(7,cell b7 [sl 1 nE (ix s.sT k).aP,sl 1 nE (ix s.sT k).next]),(8,cell b8 [osl 80 v8x,sl 1 nE (ix s.sT k).next]),(50,own v5x 79 2 sE aD),(80,own v8x 3 1 nE ou2)] _
  have yO:ou2.length≤256:=by rw[hI1];refine Nat.le_trans (List.length_filter_le _ _) ?_;simp;omega
  refine sq (rg (bi J J bA (nl (th (sq ?_)))))
  refine cd J (fun hc1=> ?_) (fun hc1=> ?_)
  ·try simp at hc1
   have hak:=hst.ac k1 O
   refine sk (th (sq (bk (sq (rg (iF J J T.aU O gB (lF J J T.aH (ag (nl (th (sq (rg (mv (mv (bi J J (xO O O O O) (mv (bi J J fS (nl (th ?_)))))))))))))))))))
   refine cd J (fun hc2=> ?_) (fun hc2=> ?_)
   ·try simp at hc2
    refine rg (fP J T.cE (lP J J J T.aQ (mv (bsE (enc:=nE) (xs:= [(ix (ix s.sT k).aP k1)]) (css:= [[int (ix (ix s.sT k).aP k1)]]) T.cH ⟨J,J,p1 (φ:=int (ix (ix s.sT k).aP k1)) J,tV⟩ J J J J (ap (key:=80) (zs:= [(ix (ix s.sT k).aP k1)]) bU J J J T.cH (by unfold aR at*;simp;omega) (by unfold aR at*;simp;omega) fun v40=>(fP J T.cE (bQ J J J J T.aQ J (nl (eb (th (rg (bi J J (aN i6) (mv (nl ?_))))))))))))))
    have hN0:(k1+1)≤(ix s.sT k).aP.length:=by
     first|omega|simp_all
    have hN1:(ou2++ [(ix (ix s.sT k).aP k1)])=((ix s.sT k).aP.take (k1+1)).filter (fun v=>decide (bS v u=u)):=by
     rw[Ev O (by simpa [bS] using hc2),←hI1]
    exact ln (⟨k1+1,v40,ou2++ [(ix (ix s.sT k).aP k1)]⟩:Nat × Value × (List Int)) ⟨hN0,hN1⟩ dO ⟨id,id,id,id,id,id,id,id,id,id,tV⟩ ⟨rI,rI,rI,rI,rI,rI,rI,tV⟩
   ·try simp at hc2
    refine sk (eb (th (rg (bi J J (aN i6) (mv (nl ?_))))))
    have hN0:(k1+1)≤(ix s.sT k).aP.length:=by
     first|omega|simp_all
    have hN1:ou2=((ix s.sT k).aP.take (k1+1)).filter (fun v=>decide (bS v u=u)):=by
     rw[Cp O (by simpa [bS] using hc2),←hI1]
    exact ln (⟨k1+1,v8x,ou2⟩:Nat × Value × (List Int)) ⟨hN0,hN1⟩ dO ⟨id,id,id,id,id,id,id,id,id,id,tV⟩ ⟨rI,rI,rI,rI,rI,rI,rI,tV⟩
  ·try simp at hc1
   refine ex (xt_ (xt_ (xb (th (rg (fP J T.bE (lP J J J T.bP (fzc 8 80 0 J J J J (lPA J J T.cX J (bsE (enc:=sE) (xs:= [(⟨ou2,(ix s.sT k).next⟩)]) (css:= [[sl 1 nE ou2,sl 1 nE (ix s.sT k).next]]) T.kN ⟨J,J,pA (cs:= [sl 1 nE ou2,sl 1 nE (ix s.sT k).next]) J,tV⟩ J J J J (ap (key:=50) (zs:= [(⟨ou2,(ix s.sT k).next⟩)]) bU J J J T.kN (by unfold aR at*;simp;omega) (by unfold aR at*;simp;omega) fun v47=>(fP J T.bE (bQ J J J J T.bP J (nl (eb (th (rg (bi J J (aN i6) (mv (nl ?_))))))))))))))))))))
   have hN0:(k+1)≤s.sT.length:=by
    first|omega|simp_all
   have hN1:(aD++ [(⟨ou2,(ix s.sT k).next⟩)])=(s.sT.take (k+1)).map (qC u):=by
    rw[hI0,bK O,List.map_append,hI1,show k1=(ix s.sT k).aP.length by omega,List.take_length];rfl
   exact ln (⟨k+1,v47,aD++ [(⟨ou2,(ix s.sT k).next⟩)]⟩:Nat × Value × (List SA)) ⟨hN0,hN1⟩ dO ⟨id,id,id,id,id,id,tV⟩ ⟨rI,rI,rI,rI,tV⟩
 ·try simp at hc0
  refine ex (xt_ (xt_ (xb (th (sq (rg (fzc 5 50 1 J J J J (lPA J J T.aI J (kn 51 (spec (aM u s)) J (by rw[show aD=(aM u s).sT by rw[hI0,show k=s.sT.length by omega,List.take_length];rfl];exact fun h=>h) (eW (φs:= [agg [sl 1 rE_ (aM u s).aC,sl 2 sE (aM u s).sT]]) (φ:=tup [agg [fre w0.heap.size (sl 1 rE_ ((tR (aM u s)).1).aC),fre w0.heap.size (sl 2 sE ((tR (aM u s)).1).sT)],sl 1 nE ((tR (aM u s)).2)]) ⟨J,tV⟩ (prog19.Iq (aM u s) aS) T.xA (fun N hN=>fun h=>jL (cs:= [agg [fre N (sl 1 rE_ ((tR (aM u s)).1).aC),fre N (sl 2 sE ((tR (aM u s)).1).sT)],sl 1 nE ((tR (aM u s)).2)]) (ds:= [agg [fre w0.heap.size (sl 1 rE_ ((tR (aM u s)).1).aC),fre w0.heap.size (sl 2 sE ((tR (aM u s)).1).sT)],sl 1 nE ((tR (aM u s)).2)]) ⟨fun h=>dY (cs:= [fre N (sl 1 rE_ ((tR (aM u s)).1).aC),fre N (sl 2 sE ((tR (aM u s)).1).sT)]) (ds:= [fre w0.heap.size (sl 1 rE_ ((tR (aM u s)).1).aC),fre w0.heap.size (sl 2 sE ((tR (aM u s)).1).sT)]) ⟨fun h=>dA hN h,fun h=>dA hN h,tV⟩ h,fun h=>h,tV⟩ h) (mv (xt J J (xt J J (sPA (cs':= [fre w0.heap.size (sl 1 rE_ ((tR (aM u s)).1).aC),fre w0.heap.size (sl 2 sE ((tR (aM u s)).1).sT)]) J J J T.aI J J (nl (th (sq (rg (lPA J J T.aI J (sPA (cs':= [fre w0.heap.size (sl 1 rE_ ((tR (aM u s)).1).aC),fre w0.heap.size (sl 2 sE ((tR (aM u s)).1).sT)]) J J J T.aI J J (nl (th (rt ?_)))))))))))))))))))))))
  exact rE () [.cell 4 28] J [agg [fre w0.heap.size (sl 1 rE_ ((tR (aM u s)).1).aC),fre w0.heap.size (sl 2 sE ((tR (aM u s)).1).sT)]] ⟨.agg J J T.aI J J,tV⟩ J trivial eX
theorem Jc (s:SS) (hsm:eB s) (u:Int):
 AL.Fn Tryz.prog 32 [spec s,int u] [] (ι:=Unit) (fun N _=>tup [wC N (jG s u).1,int (jG s u).2]) (fun _=> []):=by
 refine fnI Tryz.func32 rfl rfl (fun w0 F0=> ?_)
 refine fcC (cG 0 J) (fun hS0=> ?_)
 obtain⟨hsa0,hss0,hse0⟩:=sLn hS0
 refine sq (rg (bx (key:=2) (cs:= [sl 1 rE_ s.aC,sl 2 sE s.sT]) J fun b2=>(al (key:=4) T.z28 (eC (eC eZ)) fun b4=>(ag (nl (th (sq (bk (sq (rg (lPA J J T.aI J (bC (φs:= [agg [sl 1 rE_ s.aC,sl 2 sE s.sT]]) (φ:=bl (cK s)) ⟨J,tV⟩ (prog2.gU s aS) T.zQ (no J (ag (nl (th ?_))))))))))))))))
 refine cd J (fun hc0=> ?_) (fun hc0=> ?_)
 ·try simp at hc0
  have hd:jG s u=(⟨[],[]⟩,30):=by unfold jG;rw[if_neg (by simpa using hc0)]
  refine sq (rg (bd (css:= []) T.kA (eC (eC eZ)) trivial (sPA (cs':= [eqv (.slice none 0 0),eqv (.slice none 0 0)]) J J J T.aI J J (ag (nl (th (rt (rb (rt_ ?_)))))))))
  refine dI 4 0 (fre w0.heap.size (sl 1 rE_ [])) rfl rfl dP ?_
  refine dI 4 1 (fre w0.heap.size (sl 2 sE [])) rfl rfl dP ?_
  have hr0: []=((jG s u).1).aC:=by
   rw[hd]
  have hr1: []=((jG s u).1).sT:=by
   rw[hd]
  have hr2:(30:Int)=((jG s u).2):=by
   rw[hd]
  exact rE () [.cell 4 28,.tmp 5] J [agg [fre w0.heap.size (sl 1 rE_ []),fre w0.heap.size (sl 2 sE [])],int 30] ⟨.agg J J T.aI J J,.tmp J,tV⟩ (cA3 (fun x0 x1 x2=>rV [agg [fre w0.heap.size (sl 1 rE_ x0),fre w0.heap.size (sl 2 sE x1)],int x2]) hr0 hr1 hr2) trivial eX
 ·try simp at hc0
  have hsv:cK s=true:=by simpa using hc0
  have hs:=gH hsv
  have hn8:=hs.n8
  refine sq (rg (fP J T.cD (lP J J J T.bZ (fc (bB 13 J) fun hm13=>(lnF J T.eH (mv (bC (φs:= [int (s.aC.length:Int),int u]) (φ:=bl (eI (s.aC.length:Int) u)) ⟨J,J,tV⟩ (mkk.Hc (s.aC.length:Int) u O O) T.Fq (no J (ag (nl (th ?_)))))))))))
  refine cd J (fun hc1=> ?_) (fun hc1=> ?_)
  ·try simp at hc1
   have hd:jG s u=(⟨[],[]⟩,1):=by unfold jG;rw[if_pos hsv,if_neg (by simpa using hc1)]
   refine sq (rg (bd (css:= []) T.kA (eC (eC eZ)) trivial (sPA (cs':= [eqv (.slice none 0 0),eqv (.slice none 0 0)]) J J J T.aI J J (ag (nl (th (rt (rb (rt_ ?_)))))))))
   refine dI 4 0 (fre w0.heap.size (sl 1 rE_ [])) rfl rfl dP ?_
   refine dI 4 1 (fre w0.heap.size (sl 2 sE [])) rfl rfl dP ?_
   have hr0: []=((jG s u).1).aC:=by
    rw[hd]
   have hr1: []=((jG s u).1).sT:=by
    rw[hd]
   have hr2:(1:Int)=((jG s u).2):=by
    rw[hd]
   exact rE () [.cell 4 28,.tmp 5] J [agg [fre w0.heap.size (sl 1 rE_ []),fre w0.heap.size (sl 2 sE [])],int 1] ⟨.agg J J T.aI J J,.tmp J,tV⟩ (cA3 (fun x0 x1 x2=>rV [agg [fre w0.heap.size (sl 1 rE_ x0),fre w0.heap.size (sl 2 sE x1)],int x2]) hr0 hr1 hr2) trivial eX
  ·try simp at hc1
   have hse:eI (s.aC.length:Int) u=true:=by simpa using hc1
   obtain⟨hu0,hu1⟩:=wZ hs.n8 hse
   have hd:jG s u=((tR (aM u s)).1,0):=by unfold jG;rw[if_pos hsv,if_pos hse]
   refine sk (eb (th (sq (rg (lPA J J T.aI J (mv (eW (φs:= [agg [sl 1 rE_ s.aC,sl 2 sE s.sT],int u]) (φ:=agg [fre w0.heap.size (sl 1 rE_ ((tR (aM u s)).1).aC),fre w0.heap.size (sl 2 sE ((tR (aM u s)).1).sT)]) ⟨J,J,tV⟩ (mkz2.Jb s aS u O O) T.RJ (fun N hN=>fun h=>dY (cs:= [fre N (sl 1 rE_ ((tR (aM u s)).1).aC),fre N (sl 2 sE ((tR (aM u s)).1).sT)]) (ds:= [fre w0.heap.size (sl 1 rE_ ((tR (aM u s)).1).aC),fre w0.heap.size (sl 2 sE ((tR (aM u s)).1).sT)]) ⟨fun h=>dA hN h,fun h=>dA hN h,tV⟩ h) (sPA (cs':= [fre w0.heap.size (sl 1 rE_ ((tR (aM u s)).1).aC),fre w0.heap.size (sl 2 sE ((tR (aM u s)).1).sT)]) J J J T.aI J J (ag (nl (th (rt ?_))))))))))))
   have hr0:((tR (aM u s)).1).aC=((jG s u).1).aC:=by
    rw[hd]
   have hr1:((tR (aM u s)).1).sT=((jG s u).1).sT:=by
    rw[hd]
   have hr2:(0:Int)=((jG s u).2):=by
    rw[hd]
   exact rE () [.cell 4 28,.tmp 5] J [agg [fre w0.heap.size (sl 1 rE_ ((tR (aM u s)).1).aC),fre w0.heap.size (sl 2 sE ((tR (aM u s)).1).sT)],int 0] ⟨.agg J J T.aI J J,.tmp J,tV⟩ (cA3 (fun x0 x1 x2=>rV [agg [fre w0.heap.size (sl 1 rE_ x0),fre w0.heap.size (sl 2 sE x1)],int x2]) hr0 hr1 hr2) trivial eX
theorem OB (m:aA) (hmv:bR m=true) (t:SS) (htv:cK t=true) (hmt:m.aC=t.aC):
 AL.Fn Tryz.prog 55 [jA (sys m),spec t] [] (ι:=Unit) (fun N _=>tup [wC N (aW m t).1,bl (aW m t).2]) (fun _=> []):=by
 refine fnI Tryz.func55 rfl rfl (fun w0 F0=> ?_)
 have hm:=eY hmv;have ht:=gH htv;have hm5:=EL hmv;have ht5:=wS htv;have f1:=hm.few1;have f2:=ht.few1;have f3:=hm.few0;have f4:=ht.few0;have hn8:=ht.n8;have hm8:=hm.n8;have hG:=He (m:=m) ht;have hz:=Cq hm ht
 have hsl:(bG t.aC.length).length≤256:=by unfold bG;rw[List.length_map,List.length_range];exact Nat.pow_le_pow_right O hn8
 have hk0:=HT hm ht
 have hl0:([(0,0)]:List (Int × Int)).length≤100000000:=by decide
 have hks0:(pkB [(0,0)]).size≤aR:=xG hk0 hl0
 refine tbI 0 9999 rfl ?_
 refine uK (ψ:=tab) 9999 997 rfl ?_
 refine fcC (cG 0 J) (fun hS0=> ?_)
 obtain⟨hma0,hms0,hme0⟩:=cZ hS0
 refine fcC (cG 1 J) (fun hS1=> ?_)
 obtain⟨hsa1,hss1,hse1⟩:=sLn hS1
 refine sq (rg (bx (key:=2) (cs:= [sl 1 rE_ m.aC,sl 1 gE m.sT]) J fun b2=>(bx (key:=3) (cs:= [sl 1 rE_ t.aC,sl 2 sE t.sT]) J fun b3=>(al (key:=4) T.z28 (eC (eC eZ)) fun b4=>(al (key:=5) T.z4 (eC eZ) fun b5=>(nl (th (sq (rg (fzv 2 2 J J (fzv 3 3 J J (fF J T.cD (lF J J T.bZ (fc (bB 28 J) fun hm28=>(lnF J T.eH (ag (nl (th (sq (rg (fF J T.cD (lF J J T.bZ (bC (φs:= [sl 1 rE_ t.aC]) (φ:=agg [sl 1 rE_ (cY t.aC).aC,sl 2 sE (cY t.aC).sT]) ⟨J,tV⟩ (divv.wR t.aC O) T.Fl (KU J T.Du T.bP J (iF J J T.cR O (gK (k:=0) (by show 0<1;omega)) (fF J T.cE (lF J J T.aQ (kn 36 (ints (bG t.aC.length)) J (fun h=>h) (ag (nl (th (sq (rg (fF J T.cD (lF J J T.bZ (eW (φs:= [sl 1 rE_ t.aC]) (φ:=sl 1 rE_ t.aC) ⟨J,tV⟩ (prog.dW _ O) T.mZ (fun N hN=>fun h=>eS h) (bd (css:= [(0,_)]) T.kA (eC (eC eZ)) ⟨J,J,p1 (φ:=sl 1 rE_ t.aC) J,tV⟩ (al (key:=8) T.z28 (eC (eC eZ)) fun b8=>(sPA (cs':= [sl 1 rE_ t.aC,eqv (.slice none 0 0)]) J J J T.aI J J (nl (th (sq (rg (bd (css:= []) T.uI (eC (eC eZ)) trivial (bsE (enc:=pE) (xs:= [(0,0)]) (css:= [[int 0,int 0]]) T.oO ⟨J,J,pA (cs:= [int 0,int 0]) J,tV⟩ J J J J (ag (nl (th (sq (rg (mkm (key:=43) (kE:=smE) (dom:=smD) (vE:=smV) fun b43=>(mv (tbU (ψ:=tab) 44 9999 J J (bC (φs:= [both (sl 2 pE [(0,0)]) tab]) (φ:=str (pkB [(0,0)])) ⟨J,tV⟩ (pkey.rN [(0,0)] aS aS) T.Fp (AL.insert (q:=pkB [(0,0)]) (u:=0) J J iX J T.mD hks0 (mv (al (key:=10) T.Wc (eC eZ) fun b10=>(sP (φ:=mpv 43 b43) J J J T.vY J (nl (th (sq (rg (mv (bsO 48 (enc:=gE) (xs:= [[(0,0)]]) (css:= [[sl 2 pE [(0,0)]]]) T.AB ⟨J,J,p1 (φ:=sl 2 pE [(0,0)]) J,tV⟩ J J J J fun v48=>(al (key:=11) T.z81 (eC eZ) fun b11=>(bQ J J J J T.lK J (nl (th (sq (sq (rg (ag (nl (th (bk ?_)))))))))))))))))))))))))))))))))))))))))))))))))))))))))))))))))))))))))))
 refine nwC 100 79 2 sE (jY 8 1 (osl 100 (.slice none 0 0)) rfl rfl cU ?_)
 have hI0_0:GW (gA m t) (gN m t) (gOk m t) pkB t.aC.length (2^ (m.sT.length*t.sT.length)) (gL m t) 0 ([[(0,0)]]:List (List (Int × Int))) (bT ([]:List (ByteArray × Int)) (pkB [(0,0)]) 0) ([]:List SA):=by
  exact JN hG hz
 refine lp (κ:=Nat × Value × (List (List (Int × Int))) × (List (ByteArray × Int)) × Value × (List SA)) (fun p=> [(2,fp [sl 1 rE_ m.aC,sl 1 gE m.sT]),(3,fp [sl 1 rE_ t.aC,sl 2 sE t.sT]),(4,ptr 4 b4 0),(5,ptr 5 b5 0),(6,int (t.aC.length:Int)),(7,sl 1 nE (bG t.aC.length)),(8,ptr 8 b8 0),(10,ptr 10 b10 0),(11,ptr 11 b11 0),(12,int (p.1:Int)),(9999,tab)]) (fun p=> [(4,cell b4 [eqv (.slice none 0 0),eqv (.slice none 0 0)]),(5,cell b5 [bl false]),(8,cell b8 [sl 1 rE_ t.aC,osl 100 p.2.2.2.2.1]),(10,cell b10 [mpv 43 b43]),(11,cell b11 [osl 48 p.2.1]),(43,mp b43 smE smD smV p.2.2.2.1),(48,own p.2.1 65 1 gE p.2.2.1),(100,own p.2.2.2.2.1 79 2 sE p.2.2.2.2.2),(997,cV tab)]) (fun p=>GW (gA m t) (gN m t) (gOk m t) pkB t.aC.length (2^ (m.sT.length*t.sT.length)) (gL m t) p.1 p.2.2.1 p.2.2.2.1 p.2.2.2.2.2) (fun p=>501- p.1) ⟨0,v48,([[(0,0)]]:List (List (Int × Int))),bT ([]:List (ByteArray × Int)) (pkB [(0,0)]) 0,(.slice none 0 0),([]:List SA)⟩ hI0_0 ⟨id,id,id,id,id,id,id,id,id,id,id,tV⟩ ⟨rI,rI,rI,rI,rI,rI,rI,rI,rI,tV⟩ ?_
 intro⟨i,v,ql,mm,v14,aD⟩ hG0
 have hQW:GW (gA m t) (gN m t) (gOk m t) pkB t.aC.length (2^ (m.sT.length*t.sT.length)) (gL m t) i ql mm aD:=hG0
 show Ct _ _ _ _ [(2,fp [sl 1 rE_ m.aC,sl 1 gE m.sT]),(3,fp [sl 1 rE_ t.aC,sl 2 sE t.sT]),(4,ptr 4 b4 0),(5,ptr 5 b5 0),(6,int (t.aC.length:Int)),(7,sl 1 nE (bG t.aC.length)),(8,ptr 8 b8 0),(10,ptr 10 b10 0),(11,ptr 11 b11 0),(12,int (i:Int)),(9999,tab)] [(4,cell b4 [eqv (.slice none 0 0),eqv (.slice none 0 0)]),(5,cell b5 [bl false]),(8,cell b8 [sl 1 rE_ t.aC,osl 100 v14]),(10,cell b10 [mpv 43 b43]),(11,cell b11 [osl 48 v]),(43,mp b43 smE smD smV mm),(48,own v 65 1 gE ql),(100,own v14 79 2 sE aD),(997,cV tab)] _
 have hlf:=hQW.few
 have hil:=hQW.il
 have hol:aD.length≤i:=by rw[hQW.out];simp;omega
 refine sq (sq (rg (mv (lP J J J T.lK (lnO J J T.sG (bi J J bA (nl (th ?_))))))))
 refine cd J (fun hc0=> ?_) (fun hc0=> ?_)
 ·try simp at hc0
  have hPm:=aX hc0
  have hokP:=hQW.okl _ hPm
  have hPl:=vW hm ht hokP
  have hPl2:(ix ql i).length≤2500000:=by
   have h1:=hokP.length_le
   rw[xB] at h1
   have:=Nat.mul_le_mul hm5 ht5
   omega
  refine sk (th (sq (bk (sq (rg (lP J J J T.lK (mv (iO J J J T.sG O O (lO J J gB J T.lH (al (key:=13) T.z65 (eC eZ) fun b13=>(sP (φ:=sl 2 pE (ix ql i)) J J J T.lH J (nl (th (sq (rg (bsE (enc:=nE) (xs:= [(-1)]) (css:= [[int (-1)]]) T.cH ⟨J,J,p1 (φ:=int (-1)) J,tV⟩ J J J J (mv (cl (Nu 30 300 (prog8.nV t.aC.length O)) T.zL trivial fun N61 v61=>(fc (svI 300 J) fun hsv300=> ?_)))))))))))))))))))
  rw[←hsv300]
  refine kn 61 (eqv (sv v61)) rfl HR (bd (css:= [(1,_)]) T.sB (eC (eC eZ)) ⟨rfl,rfl,p1 (φ:=eqv (sv v61)) rfl,tV⟩ (al (key:=14) T.z79 (eC (eC eZ)) fun b14=>(sPA (cs':= [eqv (.slice none 0 0),eqv (sv v61)]) rfl rfl rfl T.cX rfl rfl (knc 14 1 (osl 300 (sv v61)) rfl rfl cU (nl (th (sq (rg (ag (nl (th (sq (sq (rg (mv (fc (bB 63 rfl) fun hm63=>(lnF rfl T.aU (mv (nl (th (bk ?_)))))))))))))))))))))
  refine nwC 140 3 1 nE (jY 14 0 (osl 140 (.slice none 0 0)) rfl rfl cU ?_)
  have hI1_0:0≤(bG t.aC.length).length:=by
   first|omega|simp
  have hI1_1:([]:List Int)=gAH m t (ix ql i) 0∧(0:Int)=aT ([]:List Int)∧0≤(0:Int)∧(0:Int)<256:=by
   exact⟨rfl,rfl,O,O⟩
  refine lp (κ:=Nat × Value × (List Int) × Int) (fun p=> [(2,fp [sl 1 rE_ m.aC,sl 1 gE m.sT]),(3,fp [sl 1 rE_ t.aC,sl 2 sE t.sT]),(4,ptr 4 b4 0),(5,ptr 5 b5 0),(6,int (t.aC.length:Int)),(7,sl 1 nE (bG t.aC.length)),(8,ptr 8 b8 0),(10,ptr 10 b10 0),(11,ptr 11 b11 0),(12,int (i:Int)),(13,ptr 13 b13 0),(14,ptr 14 b14 0),(15,int p.2.2.2),(63,sl 1 nE (bG t.aC.length)),(64,int ((bG t.aC.length).length:Int)),(65,int (p.1:Int)),(9999,tab)]) (fun p=> [(4,cell b4 [eqv (.slice none 0 0),eqv (.slice none 0 0)]),(5,cell b5 [bl false]),(8,cell b8 [sl 1 rE_ t.aC,osl 100 v14]),(10,cell b10 [mpv 43 b43]),(11,cell b11 [osl 48 v]),(13,cell b13 [sl 2 pE (ix ql i)]),(14,cell b14 [osl 140 p.2.1,osl 300 (sv v61)]),(43,mp b43 smE smD smV mm),(48,own v 65 1 gE ql),(100,own v14 79 2 sE aD),(140,own p.2.1 3 1 nE p.2.2.1),(300,own (sv v61) 3 1 nE (List.replicate t.aC.length (-1))),(997,cV tab)]) (fun p=>(p.1≤(bG t.aC.length).length)∧(p.2.2.1=gAH m t (ix ql i) p.1∧p.2.2.2=aT p.2.2.1∧0≤p.2.2.2∧p.2.2.2<256)) (fun p=>(bG t.aC.length).length- p.1) ⟨0,(.slice none 0 0),([]:List Int),(0:Int)⟩ ⟨hI1_0,hI1_1⟩ ⟨id,id,id,id,id,id,id,id,id,id,id,id,id,id,id,id,id,tV⟩ ⟨rI,rI,rI,rI,rI,rI,rI,rI,rI,rI,rI,rI,rI,tV⟩ ?_
  intro⟨k1,u14,ac,cn⟩ hG1
  obtain⟨hk1,⟨hac,hcn,hcn0,hcn1⟩⟩:(k1≤(bG t.aC.length).length)∧(ac=gAH m t (ix ql i) k1∧cn=aT ac∧0≤cn∧cn<256):=hG1
  show Ct _ _ _ _ [(2,fp [sl 1 rE_ m.aC,sl 1 gE m.sT]),(3,fp [sl 1 rE_ t.aC,sl 2 sE t.sT]),(4,ptr 4 b4 0),(5,ptr 5 b5 0),(6,int (t.aC.length:Int)),(7,sl 1 nE (bG t.aC.length)),(8,ptr 8 b8 0),(10,ptr 10 b10 0),(11,ptr 11 b11 0),(12,int (i:Int)),(13,ptr 13 b13 0),(14,ptr 14 b14 0),(15,int cn),(63,sl 1 nE (bG t.aC.length)),(64,int ((bG t.aC.length).length:Int)),(65,int (k1:Int)),(9999,tab)] [(4,cell b4 [eqv (.slice none 0 0),eqv (.slice none 0 0)]),(5,cell b5 [bl false]),(8,cell b8 [sl 1 rE_ t.aC,osl 100 v14]),(10,cell b10 [mpv 43 b43]),(11,cell b11 [osl 48 v]),(13,cell b13 [sl 2 pE (ix ql i)]),(14,cell b14 [osl 140 u14,osl 300 (sv v61)]),(43,mp b43 smE smD smV mm),(48,own v 65 1 gE ql),(100,own v14 79 2 sE aD),(140,own u14 3 1 nE ac),(300,own (sv v61) 3 1 nE (List.replicate t.aC.length (-1))),(997,cV tab)] _
  have hacl:ac.length≤k1:=by rw[hac];exact Km
  refine sq (rg (bi J J bA (nl (th (sq ?_)))))
  refine cd J (fun hc1=> ?_) (fun hc1=> ?_)
  ·try simp at hc1
   have hkb0:=nL.1 (aX (l:=(bG t.aC.length)) (by omega:k1<(bG t.aC.length).length))
   have hkb:=Dm hn8 (aX (l:=(bG t.aC.length)) (by omega:k1<(bG t.aC.length).length))
   refine sk (th (sq (bk (sq (rg (iF J J T.aU O gB (lF J J T.aH (al (key:=17) T.z3 (eC eZ) fun b17=>(sP (φ:=int (ix (bG t.aC.length) k1)) J J J T.aH J (nl (th (sq (rg (lP J J J T.lH (fzv 17 17 J J (mkf (bC (φs:= [sl 2 pE (ix ql i),clo 96 [fp [sl 1 rE_ t.aC,sl 2 sE t.sT],fp [int (ix (bG t.aC.length) k1)],fp [sl 1 rE_ m.aC,sl 1 gE m.sT]]]) (φ:=bl ((ix ql i).any (fun p:Int × Int=> !decide (bS (ix (bG t.aC.length) k1) (cJ m p.1.toNat)∈acc t p.2.toNat)))) ⟨J,J,tV⟩ (HU m hm t ht (ix ql i) (ix (bG t.aC.length) k1) aS aS) T.RI (no J (nl (th ?_))))))))))))))))))))
   refine cd J (fun hc2=> ?_) (fun hc2=> ?_)
   ·skip
    have hgt:gT m t (ix ql i) (ix (bG t.aC.length) k1)=true:=by rw[←Ae];exact hc2
    refine sq (rg (fP J T.cE (lP J J J T.aQ (lF J J T.aH (bsE (enc:=nE) (xs:= [(ix (bG t.aC.length) k1)]) (css:= [[int (ix (bG t.aC.length) k1)]]) T.cH ⟨J,J,p1 (φ:=int (ix (bG t.aC.length) k1)) J,tV⟩ J J J J (ap (key:=140) (zs:= [(ix (bG t.aC.length) k1)]) bU J J J T.cH (by unfold aR at*;simp;omega) (by unfold aR at*;simp;omega) fun v77=>(fP J T.cE (bQ J J J J T.aQ J (nl (th (rg (mv (lF J J T.aH (bi J J (pW O O O O) (ag (nl (eb (th (rg (bi J J (aN i6) (mv (nl ?_))))))))))))))))))))))
    have hN0:(k1+1)≤(bG t.aC.length).length:=by
     first|omega|simp_all
    have hN1:(ac++ [(ix (bG t.aC.length) k1)])=gAH m t (ix ql i) (k1+1)∧((cn.toNat|||(ix (bG t.aC.length) k1).toNat:Nat):Int)=aT (ac++ [(ix (bG t.aC.length) k1)])∧0≤((cn.toNat|||(ix (bG t.aC.length) k1).toNat:Nat):Int)∧((cn.toNat|||(ix (bG t.aC.length) k1).toNat:Nat):Int)<256:=by
     exact⟨by rw[Kk O hgt,hac],by rw[fW,←hcn],O,iY hcn1 hkb.2⟩
    exact ln (⟨k1+1,v77,ac++ [(ix (bG t.aC.length) k1)],((cn.toNat|||(ix (bG t.aC.length) k1).toNat:Nat):Int)⟩:Nat × Value × (List Int) × Int) ⟨hN0,hN1⟩ dO ⟨id,id,id,id,id,id,id,id,id,id,id,id,id,id,id,id,id,tV⟩ ⟨rI,rI,rI,rI,rI,rI,rI,rI,rI,rI,rI,rI,rI,tV⟩
   ·skip
    have hgt:gT m t (ix ql i) (ix (bG t.aC.length) k1)=false:=by rw[←Ae];exact hc2
    refine sk (eb (th (rg (bi J J (aN i6) (mv (nl ?_))))))
    have hN0:(k1+1)≤(bG t.aC.length).length:=by
     first|omega|simp_all
    have hN1:ac=gAH m t (ix ql i) (k1+1)∧cn=aT ac∧0≤cn∧cn<256:=by
     exact⟨by rw[Oi O hgt,hac],hcn,hcn0,hcn1⟩
    exact ln (⟨k1+1,u14,ac,cn⟩:Nat × Value × (List Int) × Int) ⟨hN0,hN1⟩ dO ⟨id,id,id,id,id,id,id,id,id,id,id,id,id,id,id,id,id,tV⟩ ⟨rI,rI,rI,rI,rI,rI,rI,rI,rI,rI,rI,rI,rI,tV⟩
  ·try simp at hc1
   refine ex (xt_ (xt_ (xb (th (sq (sq (rg (mv (bC (φs:= [int cn]) (φ:=clo 137 [fp [int cn]]) ⟨J,tV⟩ (prog3.mX cn) T.mY (nl (th (bk ?_))))))))))))
   have hac2:ac=(gA m t (ix ql i)):=by rw[hac];exact Kl O
   have hcn3:aL 63 cn=bY (gA m t) (ix ql i):=by unfold bY;rw[hcn,hac2]
   have hR0:GN (gA m t) (gN m t) (gOk m t) pkB t.aC.length (gL m t) i ql 0 ql mm (List.replicate t.aC.length (-1)):=by
    exact JO hQW
   refine rf (κ:=Value × (List (List (Int × Int))) × (List (ByteArray × Int)) × (List Int)) 900 (fun p=> [(4,cell b4 [eqv (.slice none 0 0),eqv (.slice none 0 0)]),(5,cell b5 [bl false]),(8,cell b8 [sl 1 rE_ t.aC,osl 100 v14]),(10,cell b10 [mpv 43 b43]),(11,cell b11 [osl 48 p.1]),(13,cell b13 [sl 2 pE (ix ql i)]),(14,cell b14 [osl 140 u14,osl 300 (sv v61)]),(43,mp b43 smE smD smV p.2.2.1),(48,own p.1 65 1 gE p.2.1),(100,own v14 79 2 sE aD),(140,own u14 3 1 nE ac),(300,own (sv v61) 3 1 nE p.2.2.2),(997,cV tab)]) (fun iR p=>GN (gA m t) (gN m t) (gOk m t) pkB t.aC.length (gL m t) i ql iR p.2.1 p.2.2.1 p.2.2.2) (fun c p=>c= .ret∧(500<(gL m t).length)) J (qX cn O O) T.kW J (fun _=>J) (fun _=>J) ⟨v,ql,mm,List.replicate t.aC.length (-1)⟩ hR0 ⟨rI,rI,rI,rI,rI,rI,rI,rI,rI,rI,rI,rI,rI,tV⟩ ?_ ?_ ?_ (fun id k h=>nomatch h.1) (fun c k h=> .inl h.1)
   ·intro m0 ⟨v4,l2,mm2,nx⟩ x0 hG0 hx0 l R w1 M1 F1 hRd
    have hR0:GN (gA m t) (gN m t) (gOk m t) pkB t.aC.length (gL m t) i ql m0 l2 mm2 nx:=hG0
    show Ct _ _ _ _ _ ((900,obj l (.loop R)):: [(4,cell b4 [eqv (.slice none 0 0),eqv (.slice none 0 0)]),(5,cell b5 [bl false]),(8,cell b8 [sl 1 rE_ t.aC,osl 100 v14]),(10,cell b10 [mpv 43 b43]),(11,cell b11 [osl 48 v4]),(13,cell b13 [sl 2 pE (ix ql i)]),(14,cell b14 [osl 140 u14,osl 300 (sv v61)]),(43,mp b43 smE smD smV mm2),(48,own v4 65 1 gE l2),(100,own v14 79 2 sE aD),(140,own u14 3 1 nE ac),(300,own (sv v61) 3 1 nE nx),(997,cV tab)]) _
    have hx2:(bY (gA m t) (ix ql i))[m0]?=some x0:=by rw[←hcn3];exact hx0
    obtain⟨a,rfl,ha63,hha⟩:=fZ hx0
    have hha2:has (aT (gA m t (ix ql i))) (a:Int)=true:=by rw[←hac2,←hcn];exact hha
    have hal8:a<t.aC.length:=hG.hasn _ hokP a hha2
    have hnl:nx.length=t.aC.length:=by rw[hR0.nx];simp
    have hl2f:=hR0.few
    have hkN:=Dt hm ht (oV m t (ix ql i) a)
    have hlN:=vW hm ht (oV m t (ix ql i) a)
    have hks:(pkB (gN m t (ix ql i) a)).size≤aR:=xG hkN hlN
    refine rg (ag (nl (aq hRd J (bk (sq (rg (nw 19 80 2 pE (ag (rtg (key:=19) 19 J (nl (th (sq (sq (rg (lP J J J T.lH (fc (bB 86 J) fun hm86=>(lnF J T.iZ (mv (nl (th (bk ?_)))))))))))))))))))))
    have hI2_0:0≤(ix ql i).length:=by
     first|omega|simp
    have hI2_1:([]:List (Int × Int))=jH m t a ((ix ql i).take 0):=by
     rfl
    refine lp (κ:=Nat × Value × (List (Int × Int))) (fun p=> [(2,fp [sl 1 rE_ m.aC,sl 1 gE m.sT]),(3,fp [sl 1 rE_ t.aC,sl 2 sE t.sT]),(4,ptr 4 b4 0),(5,ptr 5 b5 0),(10,ptr 10 b10 0),(11,ptr 11 b11 0),(14,ptr 14 b14 0),(18,int (a:Int)),(19,osl 19 p.2.1),(86,sl 2 pE (ix ql i)),(87,int ((ix ql i).length:Int)),(88,int (p.1:Int)),(9999,tab)]) (fun p=> [(4,cell b4 [eqv (.slice none 0 0),eqv (.slice none 0 0)]),(5,cell b5 [bl false]),(8,cell b8 [sl 1 rE_ t.aC,osl 100 v14]),(10,cell b10 [mpv 43 b43]),(11,cell b11 [osl 48 v4]),(13,cell b13 [sl 2 pE (ix ql i)]),(14,cell b14 [osl 140 u14,osl 300 (sv v61)]),(19,own p.2.1 80 2 pE p.2.2),(43,mp b43 smE smD smV mm2),(48,own v4 65 1 gE l2),(100,own v14 79 2 sE aD),(140,own u14 3 1 nE ac),(300,own (sv v61) 3 1 nE nx),(900,obj l (.loop { R with state:= .busy })),(997,cV tab)]) (fun p=>(p.1≤(ix ql i).length)∧(p.2.2=jH m t a ((ix ql i).take p.1))) (fun p=>(ix ql i).length- p.1) ⟨0,(.slice none 0 0),([]:List (Int × Int))⟩ ⟨hI2_0,hI2_1⟩ ⟨id,id,id,id,id,id,id,id,id,id,id,id,id,tV⟩ ⟨rI,rI,rI,rI,rI,rI,rI,rI,rI,rI,rI,rI,rI,rI,rI,tV⟩ ?_
    intro⟨k2,v2,raw⟩ hG2
    obtain⟨hk2,hraw2⟩:(k2≤(ix ql i).length)∧(raw=jH m t a ((ix ql i).take k2)):=hG2
    show Ct _ _ _ _ [(2,fp [sl 1 rE_ m.aC,sl 1 gE m.sT]),(3,fp [sl 1 rE_ t.aC,sl 2 sE t.sT]),(4,ptr 4 b4 0),(5,ptr 5 b5 0),(10,ptr 10 b10 0),(11,ptr 11 b11 0),(14,ptr 14 b14 0),(18,int (a:Int)),(19,osl 19 v2),(86,sl 2 pE (ix ql i)),(87,int ((ix ql i).length:Int)),(88,int (k2:Int)),(9999,tab)] [(4,cell b4 [eqv (.slice none 0 0),eqv (.slice none 0 0)]),(5,cell b5 [bl false]),(8,cell b8 [sl 1 rE_ t.aC,osl 100 v14]),(10,cell b10 [mpv 43 b43]),(11,cell b11 [osl 48 v4]),(13,cell b13 [sl 2 pE (ix ql i)]),(14,cell b14 [osl 140 u14,osl 300 (sv v61)]),(19,own v2 80 2 pE raw),(43,mp b43 smE smD smV mm2),(48,own v4 65 1 gE l2),(100,own v14 79 2 sE aD),(140,own u14 3 1 nE ac),(300,own (sv v61) 3 1 nE nx),(900,obj l (.loop { R with state:= .busy })),(997,cV tab)] _
    have hrl2:raw.length≤2500000*400000:=by
     rw[hraw2];refine Nat.le_trans (xF hm fun p hp=>by have:=kF hokP (List.mem_of_mem_take hp);omega) (Nat.mul_le_mul_right _ ?_)
     rw[List.length_take];omega
    refine sq (rg (bi J J bA (nl (th (sq ?_)))))
    refine cd J (fun hc3=> ?_) (fun hc3=> ?_)
    ·try simp at hc3
     have hpb:=kF hokP (aX (l:=(ix ql i)) (by omega:k2<(ix ql i).length))
     have hem:=hm.many (ix (ix ql i) k2).1.toNat O
     have hem2:(ix m.sT (ix (ix ql i) k2).1.toNat).length≤400000:=hem
     have htst:=ht.st (ix (ix ql i) k2).2.toNat O
     have htnl:=htst.len
     refine sk (th (sq (bk (sq (rg (iF J J T.iZ O gB (lFA J T.fC (Nat.le_of_ble_eq_true J) (al (key:=21) T.z80 (eC (eC eZ)) fun b21=>(sPA (cs':= [int ((ix (ix ql i) k2).1),int ((ix (ix ql i) k2).2)]) J J J T.fC J J (nl (th (sq (rg (fF J T.bX (lF J J T.dB (iPA J J T.jX T.aH J (lP J J J T.aH (iF J J T.fJ O gB (lF J J T.fT (fc (bB 97 J) fun hm97=>(lnF J T.dJ (mv (nl (th (bk ?_)))))))))))))))))))))))))
     have hI3_0:0≤(ix m.sT ((ix (ix ql i) k2).1).toNat).length:=by
      first|omega|simp
     have hI3_1:raw=raw++iT t a (ix (ix ql i) k2) ((ix m.sT (ix (ix ql i) k2).1.toNat).take 0):=by
      exact(List.append_nil _).symm
     refine lp (κ:=Nat × Value × (List (Int × Int))) (fun p=> [(2,fp [sl 1 rE_ m.aC,sl 1 gE m.sT]),(3,fp [sl 1 rE_ t.aC,sl 2 sE t.sT]),(4,ptr 4 b4 0),(5,ptr 5 b5 0),(10,ptr 10 b10 0),(11,ptr 11 b11 0),(14,ptr 14 b14 0),(18,int (a:Int)),(19,osl 19 p.2.1),(21,ptr 21 b21 0),(86,sl 2 pE (ix ql i)),(87,int ((ix ql i).length:Int)),(88,int (k2:Int)),(97,sl 2 pE (ix m.sT ((ix (ix ql i) k2).1).toNat)),(98,int ((ix m.sT ((ix (ix ql i) k2).1).toNat).length:Int)),(99,int (p.1:Int)),(9999,tab)]) (fun p=> [(4,cell b4 [eqv (.slice none 0 0),eqv (.slice none 0 0)]),(5,cell b5 [bl false]),(8,cell b8 [sl 1 rE_ t.aC,osl 100 v14]),(10,cell b10 [mpv 43 b43]),(11,cell b11 [osl 48 v4]),(13,cell b13 [sl 2 pE (ix ql i)]),(14,cell b14 [osl 140 u14,osl 300 (sv v61)]),(19,own p.2.1 80 2 pE p.2.2),(21,cell b21 [int ((ix (ix ql i) k2).1),int ((ix (ix ql i) k2).2)]),(43,mp b43 smE smD smV mm2),(48,own v4 65 1 gE l2),(100,own v14 79 2 sE aD),(140,own u14 3 1 nE ac),(300,own (sv v61) 3 1 nE nx),(900,obj l (.loop { R with state:= .busy })),(997,cV tab)]) (fun p=>(p.1≤(ix m.sT ((ix (ix ql i) k2).1).toNat).length)∧(p.2.2=raw++iT t a (ix (ix ql i) k2) ((ix m.sT (ix (ix ql i) k2).1.toNat).take p.1))) (fun p=>(ix m.sT ((ix (ix ql i) k2).1).toNat).length- p.1) ⟨0,v2,raw⟩ ⟨hI3_0,hI3_1⟩ ⟨id,id,id,id,id,id,id,id,id,id,id,id,id,id,id,id,id,tV⟩ ⟨rI,rI,rI,rI,rI,rI,rI,rI,rI,rI,rI,rI,rI,rI,rI,rI,tV⟩ ?_
     intro⟨k3,v3,rw3⟩ hG3
     obtain⟨hk3,hraw3⟩:(k3≤(ix m.sT ((ix (ix ql i) k2).1).toNat).length)∧(rw3=raw++iT t a (ix (ix ql i) k2) ((ix m.sT (ix (ix ql i) k2).1.toNat).take k3)):=hG3
     show Ct _ _ _ _ [(2,fp [sl 1 rE_ m.aC,sl 1 gE m.sT]),(3,fp [sl 1 rE_ t.aC,sl 2 sE t.sT]),(4,ptr 4 b4 0),(5,ptr 5 b5 0),(10,ptr 10 b10 0),(11,ptr 11 b11 0),(14,ptr 14 b14 0),(18,int (a:Int)),(19,osl 19 v3),(21,ptr 21 b21 0),(86,sl 2 pE (ix ql i)),(87,int ((ix ql i).length:Int)),(88,int (k2:Int)),(97,sl 2 pE (ix m.sT ((ix (ix ql i) k2).1).toNat)),(98,int ((ix m.sT ((ix (ix ql i) k2).1).toNat).length:Int)),(99,int (k3:Int)),(9999,tab)] [(4,cell b4 [eqv (.slice none 0 0),eqv (.slice none 0 0)]),(5,cell b5 [bl false]),(8,cell b8 [sl 1 rE_ t.aC,osl 100 v14]),(10,cell b10 [mpv 43 b43]),(11,cell b11 [osl 48 v4]),(13,cell b13 [sl 2 pE (ix ql i)]),(14,cell b14 [osl 140 u14,osl 300 (sv v61)]),(19,own v3 80 2 pE rw3),(21,cell b21 [int ((ix (ix ql i) k2).1),int ((ix (ix ql i) k2).2)]),(43,mp b43 smE smD smV mm2),(48,own v4 65 1 gE l2),(100,own v14 79 2 sE aD),(140,own u14 3 1 nE ac),(300,own (sv v61) 3 1 nE nx),(900,obj l (.loop { R with state:= .busy })),(997,cV tab)] _
     have hrl3:rw3.length≤2500000*400000+k3:=by
      rw[hraw3,List.length_append]
      have:=HO (t:=t) (a:=a) (p:=(ix (ix ql i) k2)) (es:=(ix m.sT (ix (ix ql i) k2).1.toNat)) (k:=k3)
      omega
     refine sq (rg (bi J J bA (nl (th (sq ?_)))))
     refine cd J (fun hc4=> ?_) (fun hc4=> ?_)
     ·try simp at hc4
      have hed:=hm.ed (ix (ix ql i) k2).1.toNat O _ (aX (l:=(ix m.sT (ix (ix ql i) k2).1.toNat)) (by omega:k3<(ix m.sT (ix (ix ql i) k2).1.toNat).length))
      refine sk (th (sq (bk (sq (rg (iF J J T.dJ O gB (lFA J T.dG (Nat.le_of_ble_eq_true J) (al (key:=23) T.z94 (eC (eC eZ)) fun b23=>(sPA (cs':= [int ((ix (ix m.sT ((ix (ix ql i) k2).1).toNat) k3).1),int ((ix (ix m.sT ((ix (ix ql i) k2).1).toNat) k3).2)]) J J J T.dG J J (nl (th (sq (rg (fP J T.fE (lP J J J T.aH (mv (bi J J fS (nl (th ?_)))))))))))))))))))
      refine cd J (fun hc5=> ?_) (fun hc5=> ?_)
      ·try simp at hc5
       refine dr (nh:=15) [0,0,2,0,8,0,32,120,248,504,0,2040,4088,8190,16382,32767,65535] T.mixed kR ?_
       refine st_ J (fun _ _ _ gq kq=>mv' (gq.1.trans J) kq) ?_
       refine st_ J (fun _ _ _ gq kq=>fP (gq.1.trans J) T.fG kq) ?_
       refine st_ J (fun _ _ _ gq kq=>lP (gq.1.trans J) J J T.aH kq) ?_
       refine st_ J (fun _ _ _ gq kq=>fF (gq.1.trans J) T.bE kq) ?_
       refine st_ J (fun _ _ _ gq kq=>lF (gq.1.trans J) J T.bP kq) ?_
       refine st_ J (fun _ _ _ gq kq=>iPA (gq.1.trans J) J T.jX T.aH J kq) ?_
       refine st_ J (fun _ _ _ gq kq=>lP (gq.1.trans J) J J T.aH kq) ?_
       refine st_ J (fun _ _ _ gq kq=>iF (gq.1.trans J) (gq.2.1.trans J) T.cR O gB kq) ?_
       refine st_ J (fun _ _ _ gq kq=>fF (gq.1.trans J) T.cP kq) ?_
       refine st_ J (fun _ _ _ gq kq=>lF (gq.1.trans J) J T.aQ kq) ?_
       refine st_ J (fun _ _ _ gq kq=>mv' (gq.1.trans J) kq) ?_
       refine st_ J (fun _ _ _ gq kq=>iF (gq.1.trans J) (gq.2.1.trans J) T.aU O gB kq) ?_
       refine st_ J (fun _ _ _ gq kq=>lF (gq.1.trans J) J T.aH kq) ?_
       refine st_ J (fun _ _ _ gq kq=>bd (css:= [(0,_),(1,_)]) T.uI (eC (eC eZ)) ⟨J,J,p1 (φ:=int ((ix (ix m.sT ((ix (ix ql i) k2).1).toNat) k3).2)) (by exact(gq.1.trans J)),⟨J,J,p1 (φ:=int (ix (ix t.sT ((ix (ix ql i) k2).2).toNat).next a)) (by exact(gq.2.1.trans J)),tV⟩⟩ kq) ?_
       refine st_ J (fun _ _ _ gq kq=>bsE (enc:=pE) (xs:= [((ix (ix m.sT ((ix (ix ql i) k2).1).toNat) k3).2,ix (ix t.sT ((ix (ix ql i) k2).2).toNat).next a)]) (css:= [[int ((ix (ix m.sT ((ix (ix ql i) k2).1).toNat) k3).2),int (ix (ix t.sT ((ix (ix ql i) k2).2).toNat).next a)]]) T.oO ⟨J,J,pA (cs:= [int ((ix (ix m.sT ((ix (ix ql i) k2).1).toNat) k3).2),int (ix (ix t.sT ((ix (ix ql i) k2).2).toNat).next a)]) (by exact(gq.1.trans J)),tV⟩ J J J J kq) ?_
       refine pn (ap (key:=19) (zs:= [((ix (ix m.sT ((ix (ix ql i) k2).1).toNat) k3).2,ix (ix t.sT ((ix (ix ql i) k2).2).toNat).next a)]) bU J J J T.oO (by unfold aR at*;simp;omega) (by unfold aR at*;simp;omega) fun v122=>(ag (nl (eb (th (rg (bi J J (aN i6) (mv (nl ?_)))))))))
       have hN0:(k3+1)≤(ix m.sT ((ix (ix ql i) k2).1).toNat).length:=by
        first|omega|simp_all
       have hN1:(rw3++ [((ix (ix m.sT ((ix (ix ql i) k2).1).toNat) k3).2,ix (ix t.sT ((ix (ix ql i) k2).2).toNat).next a)])=raw++iT t a (ix (ix ql i) k2) ((ix m.sT (ix (ix ql i) k2).1.toNat).take (k3+1)):=by
        rw[HM O (by simpa using hc5),hraw3,List.append_assoc]
       exact ln (⟨k3+1,v122,rw3++ [((ix (ix m.sT ((ix (ix ql i) k2).1).toNat) k3).2,ix (ix t.sT ((ix (ix ql i) k2).2).toNat).next a)]⟩:Nat × Value × (List (Int × Int))) ⟨hN0,hN1⟩ dO ⟨id,id,id,id,id,id,id,id,id,id,id,id,id,id,id,id,id,tV⟩ ⟨rI,rI,rI,rI,rI,rI,rI,rI,rI,rI,rI,rI,rI,rI,rI,rI,tV⟩
      ·try simp at hc5
       refine sk (eb (th (rg (bi J J (aN i6) (mv (nl ?_))))))
       have hN0:(k3+1)≤(ix m.sT ((ix (ix ql i) k2).1).toNat).length:=by
        first|omega|simp_all
       have hN1:rw3=raw++iT t a (ix (ix ql i) k2) ((ix m.sT (ix (ix ql i) k2).1.toNat).take (k3+1)):=by
        rw[Kn O (by simpa using hc5),hraw3]
       exact ln (⟨k3+1,v3,rw3⟩:Nat × Value × (List (Int × Int))) ⟨hN0,hN1⟩ dO ⟨id,id,id,id,id,id,id,id,id,id,id,id,id,id,id,id,id,tV⟩ ⟨rI,rI,rI,rI,rI,rI,rI,rI,rI,rI,rI,rI,rI,rI,rI,rI,tV⟩
     ·try simp at hc4
      refine ex (xt_ (xt_ (xb (eb (th (rg (bi J J (aN i6) (mv (nl ?_)))))))))
      have hN0:(k2+1)≤(ix ql i).length:=by
       first|omega|simp_all
      have hN1:rw3=jH m t a ((ix ql i).take (k2+1)):=by
       rw[EJ O,←hraw2,hraw3,List.take_of_length_le O]
      exact ln (⟨k2+1,v3,rw3⟩:Nat × Value × (List (Int × Int))) ⟨hN0,hN1⟩ dO ⟨id,id,id,id,id,id,id,id,id,id,id,id,id,tV⟩ ⟨rI,rI,rI,rI,rI,rI,rI,rI,rI,rI,rI,rI,rI,rI,rI,tV⟩
    ·try simp at hc3
     refine ex (xt_ (xt_ (xb (th (sq (rg (mv ?_)))))))
     have hraw:raw=jH m t a (ix ql i):=by rw[hraw2,List.take_of_length_le O]
     have hbd:∀p∈raw,bdP p:=fun p hp=>by rw[hraw] at hp;exact RH hm ht hokP hha2 hp
     have hrl:raw.length≤2500000*400000:=by
      rw[hraw];exact Nat.le_trans (xF hm fun p hp=>by have:=kF hokP hp;omega) (Nat.mul_le_mul_right _ hPl2)
     have hsr:(cF raw).length=raw.length:=(eV raw).length_eq
     refine cal (Hi:= [(19,own v2 80 2 pE raw)]) (φs:= [osl 5 v2,eqv (.func (.func 101) #[] #[])]) ⟨fH.trans fH.symm,rfl,tV⟩ (jI 5 19 (sortE.Aj v2 raw aS)) T.GU ⟨rI,tV⟩ fun _ _=>(nl (th (sq (rg (mv ?_)))))
     have hcz:Lib.compact (cF raw)=(gN m t (ix ql i) a):=by rw[hraw];exact HP hm ht hokP hha2
     refine cal (Hi:= [(19,own v2 80 2 pE (cF raw))]) (φs:= [osl 19 v2]) ⟨rfl,tV⟩ (zW 55 19 (comp2.ED 19 v2 (cF raw) O)) T.Ol ⟨rI,tV⟩ fun _ v128=>(ag (nl (th (sq (rg (fz 19 19 rfl rfl (kn 19 (sl 2 pE (gN m t (ix ql i) a)) rfl (by rw[hcz];exact fun h=>h) (mv (tbU (ψ:=tab) 129 9999 rfl rfl (bC (φs:= [both (sl 2 pE (gN m t (ix ql i) a)) tab]) (φ:=str (pkB (gN m t (ix ql i) a))) ⟨rfl,tV⟩ (pkey.rN (gN m t (ix ql i) a) aS aS) T.Fp (ag (nl (th (sq (rg (lP rfl rfl rfl T.vY (mv (rP (z:=0) (q:=pkB (gN m t (ix ql i) a)) rfl rfl iX T.mD hks T.zv3 (mv (xt rfl rfl (xt rfl rfl (ag (ag (nl (th (sq (sq (rg (mv (no rfl (nl (th ?_))))))))))))))))))))))))))))))))
     refine cd J (fun hc6=> ?_) (fun hc6=> ?_)
     ·skip
      have h5:(bJ mm2 (pkB (gN m t (ix ql i) a))).isSome=false:=by simpa using hc6
      refine sq (sq (rg (lP J J J T.lK (lnO J J T.sG (bi J J fS (nl (th ?_)))))))
      refine cd J (fun hc7=> ?_) (fun hc7=> ?_)
      ·try simp at hc7
       have h6:(l2.length:Int)=500:=by omega
       refine sq (rg (bd (css:= []) T.kA (eC (eC eZ)) trivial (sPA (cs':= [eqv (.slice none 0 0),eqv (.slice none 0 0)]) J J J T.aI J J (sP (φ:=bl false) J J J T.eE J (nl (th (rt (rt_ (rt_ (rb ?_))))))))))
       have hRr:500<(gL m t).length:=by
        exact JP hG hQW hR0 hc0 (oV m t _ a) hx2 rfl h5 h6
       exact rqR ⟨v4,l2,mm2,nx⟩ ⟨rfl,hRr⟩ ⟨rI,rI,rI,rI,rI,rI,rI,rI,rI,rI,rI,rI,rI,rI,tV⟩
      ·try simp at hc7
       refine sk (th (sq (rg (lP J J J T.lK (lnO J J T.sG (ag (nl (th (sq (rg (lP J J J T.vY (mv (mv (mapUpdate (q:=pkB (gN m t (ix ql i) a)) (u:=(l2.length:Int)) J J iX J T.mD hks (nl (th (rg (lP J J J T.lK (mv (bsE (enc:=gE) (xs:= [(gN m t (ix ql i) a)]) (css:= [[sl 2 pE (gN m t (ix ql i) a)]]) T.AB ⟨J,J,p1 (φ:=sl 2 pE (gN m t (ix ql i) a)) J,tV⟩ J J J J (ap (key:=48) (zs:= [(gN m t (ix ql i) a)]) bU J J J T.AB (by unfold aR at*;simp;omega) (by unfold aR at*;simp;omega) fun v151=>(bQ J J J J T.lK J (nl (th (rg (fP J T.cP (lP J J J T.aQ (mv (mv (iO J J J T.aU O O (sO (φ:=int (l2.length:Int)) J J J T.aH gB J (y':=(l2.length:Int)) J (nl (eb ?_)))))))))))))))))))))))))))))))))
       have hN0:GN (gA m t) (gN m t) (gOk m t) pkB t.aC.length (gL m t) i ql (m0+1) (l2++ [(gN m t (ix ql i) a)]) (bT mm2 (pkB (gN m t (ix ql i) a)) (l2.length:Int)) (nx.set a (l2.length:Int)):=by
        exact Nj hG hQW hR0 hc0 (oV m t _ a) hx2 hal8 rfl h5 O
       exact rqN ⟨v151,l2++ [(gN m t (ix ql i) a)],bT mm2 (pkB (gN m t (ix ql i) a)) (l2.length:Int),nx.set a (l2.length:Int)⟩ hN0 ⟨rI,rI,rI,rI,rI,rI,rI,rI,rI,rI,rI,rI,rI,rI,tV⟩
     ·skip
      have h5:(bJ mm2 (pkB (gN m t (ix ql i) a))).isSome=true:=by simpa using hc6
      refine sk (th (rg (fP J T.cP (lP J J J T.aQ (mv (mv (iO J J J T.aU O O (sO (φ:=int ((bJ mm2 (pkB (gN m t (ix ql i) a))).getD 0)) J J J T.aH gB J (y':=((bJ mm2 (pkB (gN m t (ix ql i) a))).getD 0)) J (nl (eb ?_))))))))))
      have hN0:GN (gA m t) (gN m t) (gOk m t) pkB t.aC.length (gL m t) i ql (m0+1) l2 mm2 (nx.set a ((bJ mm2 (pkB (gN m t (ix ql i) a))).getD 0)):=by
       exact Ni hG hQW hR0 hc0 (oV m t _ a) hx2 hal8 rfl h5
      exact rqN ⟨v4,l2,mm2,nx.set a ((bJ mm2 (pkB (gN m t (ix ql i) a))).getD 0)⟩ hN0 ⟨rI,rI,rI,rI,rI,rI,rI,rI,rI,rI,rI,rI,rI,rI,tV⟩
   ·intro⟨v4,l2,mm2,nx⟩ hG0
    have hR0:GN (gA m t) (gN m t) (gOk m t) pkB t.aC.length (gL m t) i ql (aL 63 cn).length l2 mm2 nx:=hG0
    show At _ _ _ _ [(4,cell b4 [eqv (.slice none 0 0),eqv (.slice none 0 0)]),(5,cell b5 [bl false]),(8,cell b8 [sl 1 rE_ t.aC,osl 100 v14]),(10,cell b10 [mpv 43 b43]),(11,cell b11 [osl 48 v4]),(13,cell b13 [sl 2 pE (ix ql i)]),(14,cell b14 [osl 140 u14,osl 300 (sv v61)]),(43,mp b43 smE smD smV mm2),(48,own v4 65 1 gE l2),(100,own v14 79 2 sE aD),(140,own u14 3 1 nE ac),(300,own (sv v61) 3 1 nE nx),(997,cV tab)]
    refine eb (th (rg (fP rfl T.bE (lP rfl rfl rfl T.bP (fzc 14 140 0 rfl rfl rfl rfl (fzc 14 300 1 rfl rfl rfl rfl (lPA rfl rfl T.cX rfl (bsE (enc:=sE) (xs:= [(⟨ac,nx⟩)]) (css:= [[sl 1 nE ac,sl 1 nE nx]]) T.kN ⟨rfl,rfl,pA (cs:= [sl 1 nE ac,sl 1 nE nx]) rfl,tV⟩ rfl rfl rfl rfl (ap (key:=100) (zs:= [(⟨ac,nx⟩)]) bU rfl rfl rfl T.kN (by unfold aR at*;simp;omega) (by unfold aR at*;simp;omega) fun v161=>(fP rfl T.bE (bQ rfl rfl rfl rfl T.bP rfl (nl (eb (th (rg (mv (bi rfl rfl (aN i6) (ag (nl ?_)))))))))))))))))))
    have hN0:GW (gA m t) (gN m t) (gOk m t) pkB t.aC.length (2^ (m.sT.length*t.sT.length)) (gL m t) (i+1) l2 mm2 (aD++ [(⟨ac,nx⟩)]):=by
     rw[show aL 63 cn=bY (gA m t) (ix ql i) from hcn3] at hR0
     rw[hac2]
     exact Nk hG hQW hR0 hc0
    exact ln (⟨i+1,v4,l2,mm2,v161,aD++ [(⟨ac,nx⟩)]⟩:Nat × Value × (List (List (Int × Int))) × (List (ByteArray × Int)) × Value × (List SA)) hN0 (by have:=hQW.few;show 501- (i+1)<501- i;omega) ⟨id,id,id,id,id,id,id,id,id,id,id,tV⟩ ⟨rI,rI,rI,rI,rI,rI,rI,rI,rI,tV⟩
   ·intro⟨v4,l2,mm2,nx⟩ hS0
    have hRt0:500<(gL m t).length:=hS0.2
    show At _ _ _ _ [(4,cell b4 [eqv (.slice none 0 0),eqv (.slice none 0 0)]),(5,cell b5 [bl false]),(8,cell b8 [sl 1 rE_ t.aC,osl 100 v14]),(10,cell b10 [mpv 43 b43]),(11,cell b11 [osl 48 v4]),(13,cell b13 [sl 2 pE (ix ql i)]),(14,cell b14 [osl 140 u14,osl 300 (sv v61)]),(43,mp b43 smE smD smV mm2),(48,own v4 65 1 gE l2),(100,own v14 79 2 sE aD),(140,own u14 3 1 nE ac),(300,own (sv v61) 3 1 nE nx),(997,cV tab)]
    refine rb (rt_ (rb (rt_ (rt_ (rb (rt_ ?_))))))
    refine dI 4 0 (fre w0.heap.size (sl 1 rE_ [])) rfl rfl dP ?_
    refine dI 4 1 (fre w0.heap.size (sl 2 sE [])) rfl rfl dP ?_
    have hr0: []=((aW m t).1).aC:=by
     rw[vX hRt0]
    have hr1: []=((aW m t).1).sT:=by
     rw[vX hRt0]
    have hr2:false=((aW m t).2):=by
     rw[vX hRt0]
    exact rE () [.cell 4 28,.cell 5 4] J [agg [fre w0.heap.size (sl 1 rE_ []),fre w0.heap.size (sl 2 sE [])],bl false] ⟨.agg J J T.aI J J,.one J J T.eE J,tV⟩ (cA3 (fun x0 x1 x2=>rV [agg [fre w0.heap.size (sl 1 rE_ x0),fre w0.heap.size (sl 2 sE x1)],bl x2]) hr0 hr1 hr2) trivial eX
 ·try simp at hc0
  have hdn:=Df hQW O
  have hq5:(gL m t).length≤500:=Nl hQW O
  have hq1:=Kq hq5
  have hqok:oK (gD m t):=zZ ht (yU hm ht) O
  refine ex (xt_ (xt_ (xb (th (sq (rg (fzc 8 100 1 J J J J (lPA J J T.aI J (kn 164 (spec (gD m t)) J (by rw[show aD=(gD m t).sT from hdn.2];exact fun h=>h) (eW (φs:= [agg [sl 1 rE_ (gD m t).aC,sl 2 sE (gD m t).sT]]) (φ:=tup [agg [fre w0.heap.size (sl 1 rE_ ((tR (gD m t)).1).aC),fre w0.heap.size (sl 2 sE ((tR (gD m t)).1).sT)],sl 1 nE ((tR (gD m t)).2)]) ⟨J,tV⟩ (prog19.Iq (gD m t) aS) T.xA (fun N hN=>fun h=>jL (cs:= [agg [fre N (sl 1 rE_ ((tR (gD m t)).1).aC),fre N (sl 2 sE ((tR (gD m t)).1).sT)],sl 1 nE ((tR (gD m t)).2)]) (ds:= [agg [fre w0.heap.size (sl 1 rE_ ((tR (gD m t)).1).aC),fre w0.heap.size (sl 2 sE ((tR (gD m t)).1).sT)],sl 1 nE ((tR (gD m t)).2)]) ⟨fun h=>dY (cs:= [fre N (sl 1 rE_ ((tR (gD m t)).1).aC),fre N (sl 2 sE ((tR (gD m t)).1).sT)]) (ds:= [fre w0.heap.size (sl 1 rE_ ((tR (gD m t)).1).aC),fre w0.heap.size (sl 2 sE ((tR (gD m t)).1).sT)]) ⟨fun h=>dA hN h,fun h=>dA hN h,tV⟩ h,fun h=>h,tV⟩ h) (mv (xt J J (xt J J (sPA (cs':= [fre w0.heap.size (sl 1 rE_ ((tR (gD m t)).1).aC),fre w0.heap.size (sl 2 sE ((tR (gD m t)).1).sT)]) J J J T.aI J J (nl (th (sq (rg (lPA J J T.aI J (sPA (cs':= [fre w0.heap.size (sl 1 rE_ ((tR (gD m t)).1).aC),fre w0.heap.size (sl 2 sE ((tR (gD m t)).1).sT)]) J J J T.aI J J (sP (φ:=bl true) J J J T.eE J (nl (th (rt ?_))))))))))))))))))))))))
  have hr0:((tR (gD m t)).1).aC=((aW m t).1).aC:=by
   rw[hq1]
  have hr1:((tR (gD m t)).1).sT=((aW m t).1).sT:=by
   rw[hq1]
  have hr2:true=((aW m t).2):=by
   rw[hq1]
  exact rE () [.cell 4 28,.cell 5 4] J [agg [fre w0.heap.size (sl 1 rE_ ((tR (gD m t)).1).aC),fre w0.heap.size (sl 2 sE ((tR (gD m t)).1).sT)],bl true] ⟨.agg J J T.aI J J,.one J J T.eE J,tV⟩ (cA3 (fun x0 x1 x2=>rV [agg [fre w0.heap.size (sl 1 rE_ x0),fre w0.heap.size (sl 2 sE x1)],bl x2]) hr0 hr1 hr2) trivial eX
theorem OC (m:aA) (t:SS) (hts:eB t):
 AL.Fn Tryz.prog 16 [jA (sys m),spec t] [] (ι:=Unit) (fun N _=>tup [wC N (gdS m t).1,int (gdS m t).2]) (fun _=> []):=by
 refine fnI Tryz.func16 rfl rfl (fun w0 F0=> ?_)
 refine tbI 0 9999 rfl ?_
 refine fcC (cG 0 J) (fun hS0=> ?_)
 obtain⟨hma0,hms0,hme0⟩:=cZ hS0
 refine fcC (cG 1 J) (fun hS1=> ?_)
 obtain⟨hsa1,hss1,hse1⟩:=sLn hS1
 refine sq (rg (bx (key:=2) (cs:= [sl 1 rE_ m.aC,sl 1 gE m.sT]) J fun b2=>(bx (key:=3) (cs:= [sl 1 rE_ t.aC,sl 2 sE t.sT]) J fun b3=>(al (key:=4) T.z28 (eC (eC eZ)) fun b4=>(ag (nl (th (sq (sq (rg (lPA J J T.aY J (lPA J J T.aI J (bC (φs:= [agg [sl 1 rE_ m.aC,sl 1 gE m.sT],agg [sl 1 rE_ t.aC,sl 2 sE t.sT]]) (φ:=int (dF m t)) ⟨J,J,tV⟩ (satj.vI m t aS) T.LB (ag (nl (th (sq (rg (mv (bi J J gO (nl (th ?_))))))))))))))))))))))
 refine cd J (fun hc0=> ?_) (fun hc0=> ?_)
 ·try simp at hc0
  have hd:gdS m t=(⟨[],[]⟩,dF m t):=by unfold gdS;rw[if_neg hc0]
  refine sq (rg (bd (css:= []) T.kA (eC (eC eZ)) trivial (mv (sPA (cs':= [eqv (.slice none 0 0),eqv (.slice none 0 0)]) J J J T.aI J J (ag (nl (th (rt (rt_ ?_)))))))))
  refine dI 4 0 (fre w0.heap.size (sl 1 rE_ [])) rfl rfl dP ?_
  refine dI 4 1 (fre w0.heap.size (sl 2 sE [])) rfl rfl dP ?_
  have hr0: []=((gdS m t).1).aC:=by
   rw[hd]
  have hr1: []=((gdS m t).1).sT:=by
   rw[hd]
  have hr2:((dF m t):Int)=((gdS m t).2):=by
   rw[hd]
  exact rE () [.cell 4 28,.tmp 5] J [agg [fre w0.heap.size (sl 1 rE_ []),fre w0.heap.size (sl 2 sE [])],int (dF m t)] ⟨.agg J J T.aI J J,.tmp J,tV⟩ (cA3 (fun x0 x1 x2=>rV [agg [fre w0.heap.size (sl 1 rE_ x0),fre w0.heap.size (sl 2 sE x1)],int x2]) hr0 hr1 hr2) trivial eX
 ·try simp at hc0
  obtain⟨hmv,htv,hmt⟩:=uC hc0
  have hm:=eY hmv
  have ht:=gH htv
  refine sk (th (sq (rg (lPA J J T.aY J (lPA J J T.aI J (tbU (ψ:=tab) 17 9999 J J (eW (φs:= [both (agg [sl 1 rE_ m.aC,sl 1 gE m.sT]) tab,agg [sl 1 rE_ t.aC,sl 2 sE t.sT]]) (φ:=tup [agg [fre w0.heap.size (sl 1 rE_ ((aW m t).1).aC),fre w0.heap.size (sl 2 sE ((aW m t).1).sT)],bl ((aW m t).2)]) ⟨J,J,tV⟩ (mkz2.OB m aS t aS aS) T.LC (fun N hN=>fun h=>jL (cs:= [agg [fre N (sl 1 rE_ ((aW m t).1).aC),fre N (sl 2 sE ((aW m t).1).sT)],bl ((aW m t).2)]) (ds:= [agg [fre w0.heap.size (sl 1 rE_ ((aW m t).1).aC),fre w0.heap.size (sl 2 sE ((aW m t).1).sT)],bl ((aW m t).2)]) ⟨fun h=>dY (cs:= [fre N (sl 1 rE_ ((aW m t).1).aC),fre N (sl 2 sE ((aW m t).1).sT)]) (ds:= [fre w0.heap.size (sl 1 rE_ ((aW m t).1).aC),fre w0.heap.size (sl 2 sE ((aW m t).1).sT)]) ⟨fun h=>dA hN h,fun h=>dA hN h,tV⟩ h,fun h=>h,tV⟩ h) (mv (xt J J (xt J J (al (key:=7) T.z28 (eC (eC eZ)) fun b7=>(sPA (cs':= [fre w0.heap.size (sl 1 rE_ ((aW m t).1).aC),fre w0.heap.size (sl 2 sE ((aW m t).1).sT)]) J J J T.aI J J (ag (nl (th (sq (sq (rg (mv (no J (nl (th ?_))))))))))))))))))))))
  refine cd J (fun hc1=> ?_) (fun hc1=> ?_)
  ·try simp at hc1
   have hd:gdS m t=(⟨[],[]⟩,2):=by unfold gdS;rw[if_pos hc0,if_neg (by simpa using hc1)]
   refine sq (rg (bd (css:= []) T.kA (eC (eC eZ)) trivial (sPA (cs':= [eqv (.slice none 0 0),eqv (.slice none 0 0)]) J J J T.aI J J (ag (nl (th (rt (rt_ ?_))))))))
   refine dI 4 0 (fre w0.heap.size (sl 1 rE_ [])) rfl rfl dP ?_
   refine dI 4 1 (fre w0.heap.size (sl 2 sE [])) rfl rfl dP ?_
   have hr0: []=((gdS m t).1).aC:=by
    rw[hd]
   have hr1: []=((gdS m t).1).sT:=by
    rw[hd]
   have hr2:(2:Int)=((gdS m t).2):=by
    rw[hd]
   exact rE () [.cell 4 28,.tmp 5] J [agg [fre w0.heap.size (sl 1 rE_ []),fre w0.heap.size (sl 2 sE [])],int 2] ⟨.agg J J T.aI J J,.tmp J,tV⟩ (cA3 (fun x0 x1 x2=>rV [agg [fre w0.heap.size (sl 1 rE_ x0),fre w0.heap.size (sl 2 sE x1)],int x2]) hr0 hr1 hr2) trivial eX
  ·try simp at hc1
   have hd:gdS m t=((aW m t).1,0):=by unfold gdS;rw[if_pos hc0,if_pos (by simpa using hc1)]
   refine sk (th (sq (rg (lPA J J T.aI J (sPA (cs':= [fre w0.heap.size (sl 1 rE_ ((aW m t).1).aC),fre w0.heap.size (sl 2 sE ((aW m t).1).sT)]) J J J T.aI J J (ag (nl (th (rt ?_)))))))))
   have hr0:((aW m t).1).aC=((gdS m t).1).aC:=by
    rw[hd]
   have hr1:((aW m t).1).sT=((gdS m t).1).sT:=by
    rw[hd]
   have hr2:(0:Int)=((gdS m t).2):=by
    rw[hd]
   exact rE () [.cell 4 28,.tmp 5] J [agg [fre w0.heap.size (sl 1 rE_ ((aW m t).1).aC),fre w0.heap.size (sl 2 sE ((aW m t).1).sT)],int 0] ⟨.agg J J T.aI J J,.tmp J,tV⟩ (cA3 (fun x0 x1 x2=>rV [agg [fre w0.heap.size (sl 1 rE_ x0),fre w0.heap.size (sl 2 sE x1)],int x2]) hr0 hr1 hr2) trivial eX
end mkz2
end
section
open ref01 ref03 judg wit sysw
theorem Kw {a b:aA} (h1:a.aC=b.aC) (h2:a.sT=b.sT):a=b:=by cases a;cases b;cases h1;cases h2;rfl
instance (a b:aA):Decidable (a=b):=decidable_of_iff (a.aC=b.aC∧a.sT=b.sT) ⟨fun h=>Kw h.1 h.2,fun h=>by subst h;exact⟨rfl,rfl⟩⟩
namespace T
theorem Xd:Ent Tryz.prog 85:=aZ kR
end T
namespace syss
theorem Ir (l m:List (Int × Int)):
 Fn0 Tryz.prog 85 [sl 2 pE l,sl 2 pE m] (bl (decide (l=m))):=by
 refine fnI Tryz.func85 rfl rfl (fun w0 F0=> ?_)
 refine fcC (bB 0 J) (fun hm0=> ?_)
 refine fcC (bB 1 J) (fun hm1=> ?_)
 refine sq (rg (ag (nl (th (sq (sq (rg (mv (lnF J T.dJ (mv (lnF J T.dJ (bi J J gO (nl (th ?_))))))))))))))
 refine cd J (fun hc0=> ?_) (fun hc0=> ?_)
 ·try simp at hc0
  refine sq (rg (ag (nl (th (rt (rt_ ?_))))))
  have hr0:false=(decide (l=m)):=by
   rw[decide_eq_false];intro h;subst h;simp at hc0
  exact rE () [.tmp 4] J [bl false] ⟨.tmp J,tV⟩ (cA1 (fun x0=>rV [bl x0]) hr0) trivial eX
 ·try simp at hc0
  refine sk (th (sq (sq (rg (mv (lnF J T.dJ (mv (nl (th (bk ?_))))))))))
  have hI0_0:0≤l.length:=by
   first|omega|simp
  have hI0_1:l.take 0=m.take 0:=by
   simp
  refine lp (κ:=Nat) (fun p=> [(1,sl 2 pE m),(12,sl 2 pE l),(13,int (l.length:Int)),(14,int (p:Int))]) (fun p=> []) (fun p=>(p≤l.length)∧(l.take p=m.take p)) (fun p=>l.length- p) 0 ⟨hI0_0,hI0_1⟩ ⟨id,id,id,id,tV⟩ trivial ?_
  intro k hG0
  obtain⟨hk0,hI0⟩:(k≤l.length)∧(l.take k=m.take k):=hG0
  refine sq (rg (bi J J bA (nl (th (sq ?_)))))
  refine cd J (fun hc1=> ?_) (fun hc1=> ?_)
  ·try simp at hc1
   refine sk (th (sq (bk (sq (rg (mv (iF J J T.dJ O gB (lFA J T.dG (Nat.le_of_ble_eq_true J) (al (key:=6) T.z94 (eC (eC eZ)) fun b6=>(ag (sPA (cs':= [int ((ix l k).1),int ((ix l k).2)]) J J J T.dG J J (nl (th (sq (dr (nh:=6) [0,0,0,6,14,31] T.mixed kR ?_)))))))))))))))
   refine st_ J (fun _ _ _ gq kq=>lPA (gq.1.trans J) J T.dG J kq) ?_
   refine st_ J (fun _ _ _ gq kq=>mv' (gq.1.trans J) kq) ?_
   refine st_ J (fun _ _ _ gq kq=>mv' (gq.1.trans J) kq) ?_
   refine st_ J (fun _ _ _ gq kq=>iF (gq.1.trans J) (gq.2.1.trans J) T.dJ O gB kq) ?_
   refine st_ J (fun _ _ _ gq kq=>lFA (gq.1.trans J) T.dG (Nat.le_of_ble_eq_true J) kq) ?_
   refine st_ J (fun _ _ _ gq kq=>biN (gq.1.trans J) (gq.2.1.trans J) T.Lw kq) ?_
   refine pn (nl (th ?_))
   refine cd J (fun hc2=> ?_) (fun hc2=> ?_)
   ·try simp at hc2
    refine sq (rg (ag (nl (th (rt (rb (rt_ (rt_ (rb (rt_ ?_))))))))))
    have hr0:false=(decide (l=m)):=by
     rw[decide_eq_false];intro h;subst h;simp at hc2
    exact rE () [.tmp 4] J [bl false] ⟨.tmp J,tV⟩ (cA1 (fun x0=>rV [bl x0]) hr0) trivial eX
   ·try simp at hc2
    refine sk (eb (th (rg (bi J J (aN i6) (mv (nl ?_))))))
    have hN0:(k+1)≤l.length:=by
     first|omega|simp_all
    have hN1:l.take (k+1)=m.take (k+1):=by
     rw[bK O,bK O,hI0]
     congr 2
     try simp at hc2
     exact Prod.ext hc2.1 hc2.2
    exact ln (k+1) ⟨hN0,hN1⟩ dO ⟨id,id,id,id,tV⟩ trivial
  ·try simp at hc1
   refine ex (xt_ (xt_ (xb (th (sq (rg (ag (nl (th (rt ?_))))))))))
   have hr0:true=(decide (l=m)):=by
    rw[decide_eq_true]
    rw[show k=l.length by omega,List.take_length] at hI0
    try simp at hc0
    rw[show l.length=m.length by omega,List.take_length] at hI0
    exact hI0
   exact rE () [.tmp 4] J [bl true] ⟨.tmp J,tV⟩ (cA1 (fun x0=>rV [bl x0]) hr0) trivial eX
theorem Iu (m n:aA):
 Fn0 Tryz.prog 40 [sys m,sys n] (bl (decide (m=n))):=by
 refine fnI Tryz.func40 rfl rfl (fun w0 F0=> ?_)
 refine fcC (cG 0 J) (fun hS0=> ?_)
 obtain⟨hma0,hms0,hme0⟩:=cZ hS0
 refine fcC (cG 1 J) (fun hS1=> ?_)
 obtain⟨hma1,hms1,hme1⟩:=cZ hS1
 refine sq (rg (bx (key:=2) (cs:= [sl 1 rE_ m.aC,sl 1 gE m.sT]) J fun b2=>(bx (key:=3) (cs:= [sl 1 rE_ n.aC,sl 1 gE n.sT]) J fun b3=>(ag (nl (th (sq (sq (rg (fP J T.fR (lP J J J T.bZ (fP J T.fR (lP J J J T.bZ (bC (φs:= [sl 1 rE_ m.aC,sl 1 rE_ n.aC]) (φ:=bl (decide (m.aC=n.aC))) ⟨J,J,tV⟩ (ref01.vD _ _) T.Ri (no J (mv ?_))))))))))))))))
 apply gOr (t:=13) (pd:=21) rfl
 rotate_left
 ·intro hg0 fin
  have hg0':=hg0
  try simp at hg0'
  exact gy J J J hg0 (fP J T.bX (gy J J J hg0 (lP J J J T.dB (gy J J J hg0 (fc (bB 15 J) fun hm15=>(lnF J T.fJ (gy J J J hg0 (fP J T.bX (gy J J J hg0 (lP J J J T.dB (gy J J J hg0 (fc (bB 18 J) fun hm18=>(lnF J T.fJ (gy J J J hg0 (bi J J gO (pkF J hg0 J (drp (X:= [(20,_),(19,_),(18,_),(17,_),(16,_),(15,_),(14,_)]) ⟨J,J,J,J,J,J,J,tV⟩ fin)))))))))))))))))
 ·intro hg0 fin
  exact gn J J J hg0 J J (gn J J J hg0 J J (gn J J J hg0 J J (gn J J J hg0 J J (gn J J J hg0 J J (gn J J J hg0 J J (gn J J J hg0 J J (pkT J hg0 J (drp (X:= [(20,_),(19,_),(18,_),(17,_),(16,_),(15,_),(14,_)]) ⟨J,J,J,J,J,J,J,tV⟩ fin))))))))
 refine nl (th ?_)
 refine cd J (fun hc0=> ?_) (fun hc0=> ?_)
 ·try simp at hc0
  refine sq (rg (ag (nl (th (rt (rt_ ?_))))))
  have hr0:false=(decide (m=n)):=by
   rw[decide_eq_false];intro h;subst h;simp at hc0
  exact rE () [.tmp 4] J [bl false] ⟨.tmp J,tV⟩ (cA1 (fun x0=>rV [bl x0]) hr0) trivial eX
 ·try simp at hc0
  refine sk (th (sq (sq (rg (fP J T.bX (lP J J J T.dB (fc (bB 23 J) fun hm23=>(lnF J T.fJ (mv (nl (th (bk ?_))))))))))))
  have hI0_0:0≤m.sT.length:=by
   first|omega|simp
  have hI0_1:m.sT.take 0=n.sT.take 0:=by
   simp
  refine lp (κ:=Nat) (fun p=> [(3,ptr 3 b3 0),(23,sl 1 gE m.sT),(24,int (m.sT.length:Int)),(25,int (p:Int))]) (fun p=> [(2,cell b2 [sl 1 rE_ m.aC,sl 1 gE m.sT]),(3,cell b3 [sl 1 rE_ n.aC,sl 1 gE n.sT])]) (fun p=>(p≤m.sT.length)∧(m.sT.take p=n.sT.take p)) (fun p=>m.sT.length- p) 0 ⟨hI0_0,hI0_1⟩ ⟨id,id,id,id,tV⟩ ⟨rI,rI,tV⟩ ?_
  intro k hG0
  obtain⟨hk0,hI0⟩:(k≤m.sT.length)∧(m.sT.take k=n.sT.take k):=hG0
  refine sq (rg (bi J J bA (nl (th (sq ?_)))))
  refine cd J (fun hc1=> ?_) (fun hc1=> ?_)
  ·try simp at hc1
   refine sk (th (sq (bk (sq (rg (mv (iF J J T.fJ O gB (lF J J T.fT (ag (ag (nl (th (sq (rg (mv (fP J T.bX (lP J J J T.dB (mv (iF J J T.fJ O gB (lF J J T.fT (bC (φs:= [sl 2 pE (ix m.sT k),sl 2 pE (ix n.sT k)]) (φ:=bl (decide (ix m.sT k=ix n.sT k))) ⟨J,J,tV⟩ (syss.Ir (ix m.sT k) (ix n.sT k)) T.Xd (no J (nl (th ?_))))))))))))))))))))))))
   refine cd J (fun hc2=> ?_) (fun hc2=> ?_)
   ·try simp at hc2
    refine sq (rg (ag (nl (th (rt (rb (rt_ (rt_ (rb (rt_ ?_))))))))))
    have hr0:false=(decide (m=n)):=by
     rw[decide_eq_false];intro h;subst h;simp at hc2
    exact rE () [.tmp 4] J [bl false] ⟨.tmp J,tV⟩ (cA1 (fun x0=>rV [bl x0]) hr0) trivial eX
   ·try simp at hc2
    refine sk (eb (th (rg (bi J J (aN i6) (mv (nl ?_))))))
    have hN0:(k+1)≤m.sT.length:=by
     first|omega|simp_all
    have hN1:m.sT.take (k+1)=n.sT.take (k+1):=by
     rw[bK O,bK O,hI0,show ix m.sT k=ix n.sT k by simpa using hc2]
    exact ln (k+1) ⟨hN0,hN1⟩ dO ⟨id,id,id,id,tV⟩ ⟨rI,rI,tV⟩
  ·try simp at hc1
   refine ex (xt_ (xt_ (xb (th (sq (rg (ag (nl (th (rt ?_))))))))))
   have hr0:true=(decide (m=n)):=by
    rw[decide_eq_true]
    rw[show k=m.sT.length by omega,List.take_length] at hI0
    try simp at hc0
    rw[show m.sT.length=n.sT.length by omega,List.take_length] at hI0
    exact Kw hc0.1 hI0
   exact rE () [.tmp 4] J [bl true] ⟨.tmp J,tV⟩ (cA1 (fun x0=>rV [bl x0]) hr0) trivial eX
end syss
end
section
open ref01 ref03 ref04 ref06 prog prog2 prog3 prog4 prog5 prog6 prog7 prog8 prog9 prog13 prog15 starts Part Rungs LeftM TrimM RoundM MergeM BisM BisM4 BisM5 Itoa Keys WalkM StepM WitM JudgM JudgM2 search refw judg wit refj sysw satj divr divs divd dive divg divw divv divf divc divj divq divm divp divt LevM LevM2 TrimI QuoM FailM DivM RefM FitM TogM ProdM prodw GenW CompM CompP CrossM KeepK GuardM MakeM LsysM LsysM2 MakeM2 KeepB AtM ClsM LstM MakeM3 GuaW LeadM FixM FixP ValidM mkk mkp mkl mkc mkq mkg mkr mks mks2 mkv mkw mkw2 spoil wreck syss mkz1 mkz2
theorem Wn {x m:aA} {t s:SS} (h:(((!zB x 4|| !zB m 4)|| !qU t 4)|| !qU s 4)=false):x.sT.length≤4∧m.sT.length≤4∧t.sT.length≤4∧s.sT.length≤4∧rL x≤300∧rL m≤300∧(size t:Int)≤400∧(size s:Int)≤400:=by
 simp only [Bool.or_eq_false_iff,Bool.not_eq_false'] at h
 obtain⟨⟨⟨h3,h4⟩,h5⟩,h2⟩:=h
 have a:=OA h3
 have b:=OA h4
 have c:=Im h5
 have d:=Im h2
 omega
namespace T
theorem RV:Ent Tryz.prog 11:=aZ kR
theorem RX:Ent Tryz.prog 12:=aZ kR
theorem RY:Ent Tryz.prog 13:=aZ kR
theorem RZ:Ent Tryz.prog 17:=aZ kR
theorem Sa:Ent Tryz.prog 18:=aZ kR
theorem Xe:Ent Tryz.prog 32:=aZ kR
theorem Xf:Ent Tryz.prog 37:=aZ kR
theorem Xg:Ent Tryz.prog 33:=aZ kR
theorem Sb:Ent Tryz.prog 38:=aZ kR
theorem LJ:Ent Tryz.prog 39:=aZ kR
theorem Sc:Ent Tryz.prog 40:=aZ kR
theorem Sg:Ent Tryz.prog 41:=aZ kR
end T
namespace mkz
theorem LK (x m:aA) (t:SS) (hts:eB t) (s:SS) (hss:eB s) (u:Int):
 Fn0 Tryz.prog 9 [jA (sys x),sys m,spec t,spec s,int u] (bl true):=by
 refine fnI Tryz.func9 rfl rfl (fun w0 F0=> ?_)
 refine tbI 0 9999 rfl ?_
 refine uK (ψ:=tab) 9999 997 rfl ?_
 refine fcC (cG 0 J) (fun hS0=> ?_)
 obtain⟨hma0,hms0,hme0⟩:=cZ hS0
 refine fcC (cG 1 J) (fun hS1=> ?_)
 obtain⟨hma1,hms1,hme1⟩:=cZ hS1
 refine fcC (cG 2 J) (fun hS2=> ?_)
 obtain⟨hsa2,hss2,hse2⟩:=sLn hS2
 refine fcC (cG 3 J) (fun hS3=> ?_)
 obtain⟨hsa3,hss3,hse3⟩:=sLn hS3
 refine sq (rg (bx (key:=5) (cs:= [sl 1 rE_ x.aC,sl 1 gE x.sT]) J fun b5=>(bx (key:=6) (cs:= [sl 1 rE_ m.aC,sl 1 gE m.sT]) J fun b6=>(bx (key:=7) (cs:= [sl 1 rE_ t.aC,sl 2 sE t.sT]) J fun b7=>(bx (key:=8) (cs:= [sl 1 rE_ s.aC,sl 2 sE s.sT]) J fun b8=>(ag (nl (th (sq (sq (rg (lPA J J T.aY J (bC (φs:= [agg [sl 1 rE_ x.aC,sl 1 gE x.sT],int 4]) (φ:=bl (zB x 4)) ⟨J,J,tV⟩ (mkv.Ip x 4) T.RV (no J (mv ?_)))))))))))))))
 apply gOr (t:=28) (pd:=32) rfl
 rotate_left
 ·intro hg0 fin
  have hg0':=hg0
  try simp at hg0'
  exact gy J J J hg0 (lPA J J T.aY J (gy J J J hg0 (bC (φs:= [agg [sl 1 rE_ m.aC,sl 1 gE m.sT],int 4]) (φ:=bl (zB m 4)) ⟨J,J,tV⟩ (mkv.Ip m 4) T.RV (gy J J J hg0 (no J (pkF J hg0 J (drp (X:= [(31,_),(30,_),(29,_)]) ⟨J,J,J,tV⟩ fin)))))))
 ·intro hg0 fin
  exact gn J J J hg0 J J (gn J J J hg0 J J (gn J J J hg0 J J (pkT J hg0 J (drp (X:= [(31,_),(30,_),(29,_)]) ⟨J,J,J,tV⟩ fin))))
 refine mv ?_
 apply gOr (t:=33) (pd:=37) rfl
 rotate_left
 ·intro hg1 fin
  have hg1':=hg1
  try simp at hg1'
  exact gy J J J hg1 (lPA J J T.aI J (gy J J J hg1 (bC (φs:= [agg [sl 1 rE_ t.aC,sl 2 sE t.sT],int 4]) (φ:=bl (qU t 4)) ⟨J,J,tV⟩ (mkv.CG t 4) T.RX (gy J J J hg1 (no J (pkF J hg1 J (drp (X:= [(36,_),(35,_),(34,_)]) ⟨J,J,J,tV⟩ fin)))))))
 ·intro hg1 fin
  exact gn J J J hg1 J J (gn J J J hg1 J J (gn J J J hg1 J J (pkT J hg1 J (drp (X:= [(36,_),(35,_),(34,_)]) ⟨J,J,J,tV⟩ fin))))
 refine mv ?_
 apply gOr (t:=38) (pd:=42) rfl
 rotate_left
 ·intro hg2 fin
  have hg2':=hg2
  try simp at hg2'
  exact gy J J J hg2 (lPA J J T.aI J (gy J J J hg2 (bC (φs:= [agg [sl 1 rE_ s.aC,sl 2 sE s.sT],int 4]) (φ:=bl (qU s 4)) ⟨J,J,tV⟩ (mkv.CG s 4) T.RX (gy J J J hg2 (no J (pkF J hg2 J (drp (X:= [(41,_),(40,_),(39,_)]) ⟨J,J,J,tV⟩ fin)))))))
 ·intro hg2 fin
  exact gn J J J hg2 J J (gn J J J hg2 J J (gn J J J hg2 J J (pkT J hg2 J (drp (X:= [(41,_),(40,_),(39,_)]) ⟨J,J,J,tV⟩ fin))))
 refine nl (th ?_)
 refine cd J (fun hc0=> ?_) (fun hc0=> ?_)
 ·skip
  refine sq (rg (Uz (ψ:=tab) (φs:= []) (φ:=bl true) trivial mkv.CH T.RY 9999 J J (ag (nl (th (rt (rt_ ?_)))))))
  exact rE () [.tmp 10] J [bl true] ⟨.tmp J,tV⟩ J trivial eX
 ·skip
  obtain⟨hx4,hm4,ht4,hs4,hx5,hm5,ht5,hs5⟩:=Wn hc0
  have hx3:=Io hx5
  have hm3:=Io hm5
  have hmx:m.sT.length*x.sT.length≤4*4:=Nat.mul_le_mul hm4 hx4
  have hz:m.sT.length*x.sT.length<5000:=by omega
  have hzz:bV m.sT*bV x.sT≤400000:=Nat.le_trans (Nat.mul_le_mul hm3 hx3) (by decide)
  refine sk (th (sq ?_))
  refine drH (nh:=16) [0,1,0,7,0,31,0,127,0,0,0,0,4095,8191,16383,32767] [(none,[5]),(none,[]),(none,[6]),(none,[]),(none,[7]),(none,[]),(none,[8]),(none,[]),(some 11,[]),(some 12,[]),(some 13,[]),(some 14,[]),(some 11,[11]),(some 12,[12]),(some 13,[13]),(some 14,[14])] T.mixed kR kR ?_
  refine stv (d:=44) (fun β0=>agg [sl 1 rE_ x.aC,sl 1 gE x.sT]) [5] J bH (fun β0 _ _ _ _ gq gh kq=>lPA (gq.1.trans J) (gh.1.trans J) T.aY J kq) ?_
  refine stv (d:=45) (fun β0=>agg [sl 1 rE_ x.aC,sl 1 gE x.sT]) [] J bH (fun β0 _ _ _ _ gq gh kq=>eW (φs:= [agg [sl 1 rE_ x.aC,sl 1 gE x.sT]]) (φ:=agg [sl 1 rE_ x.aC,sl 1 gE x.sT]) ⟨(gq.1.trans J),tV⟩ (sysw.vF x O) T.RZ (fun N hN=>fun h=>dY (cs:= [fre N (sl 1 rE_ x.aC),fre N (sl 1 gE x.sT)]) (ds:= [sl 1 rE_ x.aC,sl 1 gE x.sT]) ⟨fun h=>eS h,fun h=>eS h,tV⟩ h) kq) ?_
  refine stv (d:=46) (fun β0=>agg [sl 1 rE_ m.aC,sl 1 gE m.sT]) [6] J bH (fun β0 _ _ _ _ gq gh kq=>lPA (gq.1.trans J) (gh.1.trans J) T.aY J kq) ?_
  refine stv (d:=47) (fun β0=>agg [sl 1 rE_ m.aC,sl 1 gE m.sT]) [] J bH (fun β0 _ _ _ _ gq gh kq=>eW (φs:= [agg [sl 1 rE_ m.aC,sl 1 gE m.sT]]) (φ:=agg [sl 1 rE_ m.aC,sl 1 gE m.sT]) ⟨(gq.1.trans J),tV⟩ (sysw.vF m O) T.RZ (fun N hN=>fun h=>dY (cs:= [fre N (sl 1 rE_ m.aC),fre N (sl 1 gE m.sT)]) (ds:= [sl 1 rE_ m.aC,sl 1 gE m.sT]) ⟨fun h=>eS h,fun h=>eS h,tV⟩ h) kq) ?_
  refine stv (d:=48) (fun β0=>agg [sl 1 rE_ t.aC,sl 2 sE t.sT]) [7] J bH (fun β0 _ _ _ _ gq gh kq=>lPA (gq.1.trans J) (gh.1.trans J) T.aI J kq) ?_
  refine stv (d:=49) (fun β0=>agg [sl 1 rE_ t.aC,sl 2 sE t.sT]) [] J bH (fun β0 _ _ _ _ gq gh kq=>eW (φs:= [agg [sl 1 rE_ t.aC,sl 2 sE t.sT]]) (φ:=agg [sl 1 rE_ t.aC,sl 2 sE t.sT]) ⟨(gq.1.trans J),tV⟩ (ref03.vF t O) T.Sa (fun N hN=>fun h=>dY (cs:= [fre N (sl 1 rE_ t.aC),fre N (sl 2 sE t.sT)]) (ds:= [sl 1 rE_ t.aC,sl 2 sE t.sT]) ⟨fun h=>eS h,fun h=>eS h,tV⟩ h) kq) ?_
  refine stv (d:=50) (fun β0=>agg [sl 1 rE_ s.aC,sl 2 sE s.sT]) [8] J bH (fun β0 _ _ _ _ gq gh kq=>lPA (gq.1.trans J) (gh.1.trans J) T.aI J kq) ?_
  refine stv (d:=51) (fun β0=>agg [sl 1 rE_ s.aC,sl 2 sE s.sT]) [] J bH (fun β0 _ _ _ _ gq gh kq=>eW (φs:= [agg [sl 1 rE_ s.aC,sl 2 sE s.sT]]) (φ:=agg [sl 1 rE_ s.aC,sl 2 sE s.sT]) ⟨(gq.1.trans J),tV⟩ (ref03.vF s O) T.Sa (fun N hN=>fun h=>dY (cs:= [fre N (sl 1 rE_ s.aC),fre N (sl 2 sE s.sT)]) (ds:= [sl 1 rE_ s.aC,sl 2 sE s.sT]) ⟨fun h=>eS h,fun h=>eS h,tV⟩ h) kq) ?_
  refine sta 11 T.z25 (eC (eC eZ)) ?_
  refine sta 12 T.z25 (eC (eC eZ)) ?_
  refine sta 13 T.z28 (eC (eC eZ)) ?_
  refine sta 14 T.z28 (eC (eC eZ)) ?_
  refine stw 11 (fun β0=>cell (gbk (β0 8)) [sl 1 rE_ x.aC,sl 1 gE x.sT]) [11] J (fun β β' hb=>by first|rw[hb 8 J]|(dsimp only;rw[hb 8 J])) (fun β0 _ _ _ _ gq gh kq=>sPA (cs':= [sl 1 rE_ x.aC,sl 1 gE x.sT]) (gq.1.trans J) (gh.1.trans J) (gq.2.1.trans J) T.aY J J kq) ?_
  refine stw 12 (fun β0=>cell (gbk (β0 9)) [sl 1 rE_ m.aC,sl 1 gE m.sT]) [12] J (fun β β' hb=>by first|rw[hb 9 J]|(dsimp only;rw[hb 9 J])) (fun β0 _ _ _ _ gq gh kq=>sPA (cs':= [sl 1 rE_ m.aC,sl 1 gE m.sT]) (gq.1.trans J) (gh.1.trans J) (gq.2.1.trans J) T.aY J J kq) ?_
  refine stw 13 (fun β0=>cell (gbk (β0 10)) [sl 1 rE_ t.aC,sl 2 sE t.sT]) [13] J (fun β β' hb=>by first|rw[hb 10 J]|(dsimp only;rw[hb 10 J])) (fun β0 _ _ _ _ gq gh kq=>sPA (cs':= [sl 1 rE_ t.aC,sl 2 sE t.sT]) (gq.1.trans J) (gh.1.trans J) (gq.2.1.trans J) T.aI J J kq) ?_
  refine stw 14 (fun β0=>cell (gbk (β0 11)) [sl 1 rE_ s.aC,sl 2 sE s.sT]) [14] J (fun β β' hb=>by first|rw[hb 11 J]|(dsimp only;rw[hb 11 J])) (fun β0 _ _ _ _ gq gh kq=>sPA (cs':= [sl 1 rE_ s.aC,sl 2 sE s.sT]) (gq.1.trans J) (gh.1.trans J) (gq.2.1.trans J) T.aI J J kq) ?_
  refine pnH fun β0=>(nl (th (sq (rg (lPA J J T.aY J (lPA J J T.aI J (tbU (ψ:=tab) 53 9999 J J (Gv (φs:= [both (agg [sl 1 rE_ m.aC,sl 1 gE m.sT]) tab,agg [sl 1 rE_ t.aC,sl 2 sE t.sT]]) 550 (fun vs=>tup [agg [eqv (sv (ix vs 0)),eqv (sv (ix vs 1))],int (gdS m t).2]) [strs ((gdS m t).1).aC,sl 2 sE ((gdS m t).1).sT] ⟨J,J,tV⟩ (mkz2.OC m t hts) T.RR J (fun N _ _ _ h=>Cd h) fun D55 vs55=>(mv (xt J J (xt J J (al (key:=15) T.z28 (eC (eC eZ)) fun b15=>(sPA (cs':= [eqv (sv (ix vs55 0)),eqv (sv (ix vs55 1))]) J J J T.aI J J (ag (nl (th (sq (rg (lPA J J T.aI J (mv (Gv (φs:= [agg [sl 1 rE_ t.aC,sl 2 sE t.sT],int u]) 610 (fun vs=>tup [agg [eqv (sv (ix vs 0)),eqv (sv (ix vs 1))],int (jG t u).2]) [strs ((jG t u).1).aC,sl 2 sE ((jG t u).1).sT] ⟨J,J,tV⟩ (mkz2.Jc t hts u) T.Xe J (fun N _ _ _ h=>Cd h) fun D61 vs61=>(mv (xt J J (xt J J (al (key:=17) T.z28 (eC (eC eZ)) fun b17=>(sPA (cs':= [eqv (sv (ix vs61 0)),eqv (sv (ix vs61 1))]) J J J T.aI J J (ag (nl (th (sq (rg (lPA J J T.aI J (lPA J J T.aI J (mv (tbU (ψ:=tab) 65 9999 J J (Gv (φs:= [both (agg [sl 1 rE_ t.aC,sl 2 sE t.sT]) tab,agg [sl 1 rE_ s.aC,sl 2 sE s.sT],int u]) 680 (fun vs=>tup [agg [eqv (sv (ix vs 0)),eqv (sv (ix vs 1))],int (jD t s u).2]) [strs ((jD t s u).1).aC,sl 1 gE ((jD t s u).1).sT] ⟨J,J,J,tV⟩ (mkw2.Un t hts s hss u) T.Xf J (fun N _ _ _ h=>Cd h) fun D68 vs68=>(mv (xt J J (xt J J (al (key:=19) T.z25 (eC (eC eZ)) fun b19=>(sPA (cs':= [eqv (sv (ix vs68 0)),eqv (sv (ix vs68 1))]) J J J T.aY J J (ag (nl (th (sq (rg (lPA J J T.aY J (lPA J J T.aI J (mv (tbU (ψ:=tab) 72 9999 J J (Gv (φs:= [both (agg [sl 1 rE_ m.aC,sl 1 gE m.sT]) tab,agg [sl 1 rE_ t.aC,sl 2 sE t.sT],int u]) 750 (fun vs=>tup [agg [eqv (sv (ix vs 0)),eqv (sv (ix vs 1))],int (bM m t u).2]) [strs ((bM m t u).1).aC,sl 1 gE ((bM m t u).1).sT] ⟨J,J,J,tV⟩ (mkr.xH m t hts u) T.LH J (fun N _ _ _ h=>Cd h) fun D75 vs75=>(mv (xt J J (xt J J (al (key:=21) T.z25 (eC (eC eZ)) fun b21=>(sPA (cs':= [eqv (sv (ix vs75 0)),eqv (sv (ix vs75 1))]) J J J T.aY J J (ag (nl (th (sq (rg (lPA J J T.aI J (tbU (ψ:=tab) 79 9999 J J (Gv (φs:= [both (agg [sl 1 rE_ s.aC,sl 2 sE s.sT]) tab]) 800 (fun vs=>tup [agg [eqv (sv (ix vs 0)),eqv (sv (ix vs 1))],int (jC s).2]) [strs ((jC s).1).aC,sl 1 gE ((jC s).1).sT] ⟨J,tV⟩ (mkr.QL s hss) T.Xg J (fun N _ _ _ h=>Cd h) fun D80 vs80=>(mv (xt J J (xt J J (al (key:=23) T.z25 (eC (eC eZ)) fun b23=>(sPA (cs':= [eqv (sv (ix vs80 0)),eqv (sv (ix vs80 1))]) J J J T.aY J J (ag (nl (th (sq (rg (lPA J J T.aY J (lPA J J T.aY J (lPA J J T.aI J (mv (bC (φs:= [agg [sl 1 rE_ x.aC,sl 1 gE x.sT],agg [sl 1 rE_ m.aC,sl 1 gE m.sT],agg [sl 1 rE_ t.aC,sl 2 sE t.sT],int u]) (φ:=tup [bl (mE x m t u),int (gW x m t u)]) ⟨J,J,J,J,tV⟩ (mkr.Ic x m t aS u aS aS) T.RS (nl (th (sq (rg (lPA J J T.aI J (rgT 550 J fun W55 hW55=>(rgM (Z':=eT (sv (ix vs55 1)) 2 0) 550 J (fun _ _ h=>h.elim) (cal (Hi:= [(550,rgz D55 W55 (eT (sv (ix vs55 1)) 2 0))]) (φs:= [agg [eqv (sv (ix vs55 0)),eqv (sv (ix vs55 1))]]) ⟨J,tV⟩ (jI 100 550 (mkz1.CJ ((gdS m t).1).aC ((gdS m t).1).sT W55 D55 (ix vs55 0) (ix vs55 1) (lA hW55 J) (lA hW55 J))) T.Sb ⟨rI,tV⟩ fun _ _=>(nl (th (sq (rg (lPA J J T.aI J (rgT 610 J fun W61 hW61=>(rgM (Z':=eT (sv (ix vs61 1)) 2 0) 610 J (fun _ _ h=>h.elim) (cal (Hi:= [(610,rgz D61 W61 (eT (sv (ix vs61 1)) 2 0))]) (φs:= [agg [eqv (sv (ix vs61 0)),eqv (sv (ix vs61 1))]]) ⟨J,tV⟩ (jI 100 610 (mkz1.CJ ((jG t u).1).aC ((jG t u).1).sT W61 D61 (ix vs61 0) (ix vs61 1) (lA hW61 J) (lA hW61 J))) T.Sb ⟨rI,tV⟩ fun _ _=>(nl (th (sq (rg (lPA J J T.aY J (rgT 680 J fun W68 hW68=>(rgM (Z':=eT (sv (ix vs68 1)) 1 0) 680 J (fun _ _ h=>h.elim) (cal (Hi:= [(680,rgz D68 W68 (eT (sv (ix vs68 1)) 1 0))]) (φs:= [agg [eqv (sv (ix vs68 0)),eqv (sv (ix vs68 1))]]) ⟨J,tV⟩ (jI 100 680 (mkz1.tI ((jD t s u).1).aC ((jD t s u).1).sT W68 D68 (ix vs68 0) (ix vs68 1) (lA hW68 J) (lA hW68 J))) T.LJ ⟨rI,tV⟩ fun _ _=>(nl (th (sq (rg (lPA J J T.aY J (rgT 750 J fun W75 hW75=>(rgM (Z':=eT (sv (ix vs75 1)) 1 0) 750 J (fun _ _ h=>h.elim) (cal (Hi:= [(750,rgz D75 W75 (eT (sv (ix vs75 1)) 1 0))]) (φs:= [agg [eqv (sv (ix vs75 0)),eqv (sv (ix vs75 1))]]) ⟨J,tV⟩ (jI 100 750 (mkz1.tI ((bM m t u).1).aC ((bM m t u).1).sT W75 D75 (ix vs75 0) (ix vs75 1) (lA hW75 J) (lA hW75 J))) T.LJ ⟨rI,tV⟩ fun _ _=>(nl (th (sq (rg (lPA J J T.aY J (rgT 800 J fun W80 hW80=>(rgM (Z':=eT (sv (ix vs80 1)) 1 0) 800 J (fun _ _ h=>h.elim) (cal (Hi:= [(800,rgz D80 W80 (eT (sv (ix vs80 1)) 1 0))]) (φs:= [agg [eqv (sv (ix vs80 0)),eqv (sv (ix vs80 1))]]) ⟨J,tV⟩ (jI 100 800 (mkz1.tI ((jC s).1).aC ((jC s).1).sT W80 D80 (ix vs80 0) (ix vs80 1) (lA hW80 J) (lA hW80 J))) T.LJ ⟨rI,tV⟩ fun _ _=>(nl (th (sq (rg (lPA J J T.aY J (lPA J J T.aY J (bC (φs:= [agg [sl 1 rE_ x.aC,sl 1 gE x.sT],agg [sl 1 rE_ x.aC,sl 1 gE x.sT]]) (φ:=bl (decide (x=x))) ⟨J,J,tV⟩ (syss.Iu x x) T.Sc (mv ?_)))))))))))))))))))))))))))))))))))))))))))))))))))))))))))))))))))))))))))))))))))))))))))))))))))))))))))))))))))))))))))))))
  apply gM (t:=101) (pd:=105) rfl
  rotate_left
  ·intro hg3 fin
   have hg3':=hg3
   try simp at hg3'
   exact gy J J J hg3 (lPA J J T.aY J (gy J J J hg3 (lPA J J T.aY J (gy J J J hg3 (bC (φs:= [agg [sl 1 rE_ m.aC,sl 1 gE m.sT],agg [sl 1 rE_ m.aC,sl 1 gE m.sT]]) (φ:=bl (decide (m=m))) ⟨J,J,tV⟩ (syss.Iu m m) T.Sc (pkT J hg3 J (drp (X:= [(104,_),(103,_),(102,_)]) ⟨J,J,J,tV⟩ fin)))))))
  ·intro hg3 fin
   exact gn J J J hg3 J J (gn J J J hg3 J J (gn J J J hg3 J J (pkF J hg3 J (drp (X:= [(104,_),(103,_),(102,_)]) ⟨J,J,J,tV⟩ fin))))
  refine mv ?_
  apply gM (t:=106) (pd:=110) rfl
  rotate_left
  ·intro hg4 fin
   have hg4':=hg4
   try simp at hg4'
   exact gy J J J hg4 (lPA J J T.aI J (gy J J J hg4 (lPA J J T.aI J (gy J J J hg4 (bC (φs:= [agg [sl 1 rE_ t.aC,sl 2 sE t.sT],agg [sl 1 rE_ t.aC,sl 2 sE t.sT]]) (φ:=bl (decide (t=t))) ⟨J,J,tV⟩ (ref03.Ji t t) T.Sg (pkT J hg4 J (drp (X:= [(109,_),(108,_),(107,_)]) ⟨J,J,J,tV⟩ fin)))))))
  ·intro hg4 fin
   exact gn J J J hg4 J J (gn J J J hg4 J J (gn J J J hg4 J J (pkF J hg4 J (drp (X:= [(109,_),(108,_),(107,_)]) ⟨J,J,J,tV⟩ fin))))
  refine mv ?_
  apply gM (t:=111) (pd:=115) rfl
  rotate_left
  ·intro hg5 fin
   have hg5':=hg5
   try simp at hg5'
   exact gy J J J hg5 (lPA J J T.aI J (gy J J J hg5 (lPA J J T.aI J (gy J J J hg5 (bC (φs:= [agg [sl 1 rE_ s.aC,sl 2 sE s.sT],agg [sl 1 rE_ s.aC,sl 2 sE s.sT]]) (φ:=bl (decide (s=s))) ⟨J,J,tV⟩ (ref03.Ji s s) T.Sg (pkT J hg5 J (drp (X:= [(114,_),(113,_),(112,_)]) ⟨J,J,J,tV⟩ fin)))))))
  ·intro hg5 fin
   exact gn J J J hg5 J J (gn J J J hg5 J J (gn J J J hg5 J J (pkF J hg5 J (drp (X:= [(114,_),(113,_),(112,_)]) ⟨J,J,J,tV⟩ fin))))
  refine mv ?_
  apply gM (t:=116) (pd:=118) rfl
  rotate_left
  ·intro hg6 fin
   have hg6':=hg6
   try simp at hg6'
   exact gy J J J hg6 (Uz (ψ:=tab) (φs:= []) (φ:=bl true) trivial mkv.CH T.RY 9999 J J (pkT J hg6 J (drp (X:= [(117,_)]) ⟨J,tV⟩ fin)))
  ·intro hg6 fin
   exact gn J J J hg6 J J (pkF J hg6 J (drp (X:= [(117,_)]) ⟨J,tV⟩ fin))
  refine ag (nl (th (rt ?_)))
  have hr0:(((((decide (x=x))&&(decide (m=m)))&&(decide (t=t)))&&(decide (s=s)))&&true)=true:=by
   simp
  exact rE () [.tmp 10] J [bl (((((decide (x=x))&&(decide (m=m)))&&(decide (t=t)))&&(decide (s=s)))&&true)] ⟨.tmp J,tV⟩ (cA1 (fun x0=>rV [bl x0]) hr0) trivial eX
end mkz
end
end Go.Proofs.YtnlfjojfgghchaaGreatDoor
