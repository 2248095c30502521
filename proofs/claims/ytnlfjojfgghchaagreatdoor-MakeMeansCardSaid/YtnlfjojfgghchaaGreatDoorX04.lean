/- The walks of the functions and the plain laws. Own texts of this claim, packed: Mkprog7, Mkprog8, MkTrimM, Mkprog9, MkItoa, MkKeys, Mkprog10, MkRoundM, Mkprog11. -/
import Derived.Test.YtnlfjojfgghchaaGreatDoorX03
import Derived.Test.YtnlfjojfgghchaaGreatDoorX02
import Derived.Shelf.LaysM
import Derived.Shelf.Strconv.Itoa3
import Derived.Lib.ItoaLen
set_option linter.all false
namespace Go.Proofs.YtnlfjojfgghchaaGreatDoor
open AL Go
set_option maxRecDepth 100000
section
open ref01 ref03 ref04 ref06 prog prog2 prog3 prog4 prog6 Part Rungs LeftM
def Xq:Int × List Int→List AV:=fun p=> [int p.1,ints p.2]
attribute [local semireducible] eG any in
theorem xW {q:Prop} (hq:q) {w:World} {F:Fz} {v:Value}:(eG q any).p w F v:=⟨hq,tV⟩
theorem Kw {n:Nat} {l:List Int} {k:Nat} (hk:k<l.length) (h0:0≤ix l k):(marks n (l.take k)).set (ix l k).toNat true=marks n (l.take (k+1)):=by
 rw[qB h0,bN hk]
theorem take_at {α:Type} {l:List α} {m:Nat} {x:α} (h:l[m]?=some x):l.take (m+1)=l.take m++ [x]:=by
 obtain⟨hm,rfl⟩:=List.getElem?_eq_some_iff.1 h
 rw[List.take_succ_eq_append_getElem hm]
theorem Mg {s:SS} {x:Nat} (h:¬ix (hOl s) x=true):ix (hOl s) x=false:=by simpa using h
namespace T
theorem Vg:Ent Tryz.prog 144:=aR kR
theorem Mh:Ent Tryz.prog 110:=aR kR
theorem z90:dM Tryz.prog 90 [.slice none 0 0]:=cE kR
theorem z4:dM Tryz.prog 4 [.bool false]:=cE kR
theorem wA:Ent Tryz.prog 99:=aR kR
theorem rW:Ent Tryz.prog 137:=aR kR
end T
namespace prog7
theorem Cb (s:SS) (hs:oK s):
 Fn0 Tryz.prog 110 [spec s] (bls (hOl s)):=by
 refine fnI Tryz.func110 rfl rfl (fun w0 F0=> ?_)
 have hf1:=hs.few1;have hI:=nY s s.sT.length;have hrl:(eP s).length≤s.sT.length:=hI.len
 refine fcC (bW 0 J) (fun hS0=> ?_)
 obtain⟨hsa0,hss0,hse0⟩:=sLn hS0
 refine sq (rg (bx (key:=1) (cs:= [sl 1 rE_ s.aC,sl 2 sE s.sT]) J fun b1=>(ag (nl (th (sq (rg (fP J T.bO (lP J J J T.cM (fc (bL 7 J) fun hm7=>(lnF J T.dB (mk (key:=9) (m:=s.sT.length) (enc:=blE) (y:=false) J J T.Kt (eC eZ) mL mL fun v9=>(ag (nl (th (sq (sq (rg (lPA J J T.bA J (bI (φs:= [agg [sl 1 rE_ s.aC,sl 2 sE s.sT]]) (φ:=sl 1 nE (eP s)) ⟨J,tV⟩ (prog6.OP s aS) T.Vg (fc (bL 11 J) fun hm11=>(lnF J T.aT (mv (nl (th (bk ?_))))))))))))))))))))))))))
 have hI0_0:0≤(eP s).length:=by
  first|omega|simp
 have hI0_1:(List.replicate s.sT.length false)=marks s.sT.length ((eP s).take 0):=by
  rw[List.take_zero];apply List.ext_getElem?;intro j;simp[marks,List.getElem?_replicate];split<;>simp_all
 refine lp (κ:=Nat × (List Bool)) (fun p=> [(2,eqv (.slice none 0 0)),(3,osl 9 v9),(11,sl 1 nE (eP s)),(12,int ((eP s).length:Int)),(13,int (p.1:Int))]) (fun p=> [(1,cell b1 [sl 1 rE_ s.aC,sl 2 sE s.sT]),(9,own v9 4 1 blE p.2)]) (fun p=>(p.1≤(eP s).length)∧(p.2=marks s.sT.length ((eP s).take p.1))) (fun p=>(eP s).length- p.1) ⟨0,List.replicate s.sT.length false⟩ ⟨hI0_0,hI0_1⟩ ⟨id,id,id,id,id,tV⟩ ⟨rI,rI,tV⟩ ?_
 intro⟨k,acc⟩ hG0
 obtain⟨hk0,hI0⟩:(k≤(eP s).length)∧(acc=marks s.sT.length ((eP s).take k)):=hG0
 show Ct _ _ _ _ [(2,eqv (.slice none 0 0)),(3,osl 9 v9),(11,sl 1 nE (eP s)),(12,int ((eP s).length:Int)),(13,int (k:Int))] [(1,cell b1 [sl 1 rE_ s.aC,sl 2 sE s.sT]),(9,own v9 4 1 blE acc)] _
 refine sq (rg (bi J J aZ (nl (th (sq ?_)))))
 refine cd J (fun hc0=> ?_) (fun hc0=> ?_)
 ·try simp at hc0
  have hob:=hI.bd _ (gO (l:=eP s) hc0)
  have hal:acc.length=s.sT.length:=by rw[hI0];exact nF _ _
  refine sk (th (sq (bk (sq (rg (iF J J T.aT O gB (lF J J T.aH (ag (nl (th (rg (mv (mv (iO J J J T.rS O O (sO (φ:=bl true) J J J T.iG gB J (y':=true) J (nl (eb (th (rg (bi J J (aM i6) (mv (nl ?_))))))))))))))))))))))
  have hN0:(k+1)≤(eP s).length:=by
   first|omega|simp_all
  have hN1:(acc.set (ix (eP s) k).toNat true)=marks s.sT.length ((eP s).take (k+1)):=by
   rw[hI0];exact Kw hc0 hob.1
  exact ln (⟨k+1,acc.set (ix (eP s) k).toNat true⟩:Nat × (List Bool)) ⟨hN0,hN1⟩ dO ⟨id,id,id,id,id,tV⟩ ⟨rI,rI,tV⟩
 ·try simp at hc0
  refine ex (xt_ (xt_ (xb (th (sq (rg (mv (ag (nl (th (rt ?_)))))))))))
  refine fzA 9 2 rfl rfl ?_
  have hr0:acc=(hOl s):=by
   rw[hI0,show k=(eP s).length by omega,List.take_length];exact FR hs
  exact rE () [.tmp 2] J [sl 1 blE acc] ⟨.tmp J,tV⟩ (cA1 (fun x0=>rV [sl 1 blE x0]) hr0) trivial eX
theorem Sz (s:SS):
 Fn0 Tryz.prog 119 [spec s] (clo 149 [fp [strs s.aC,sl 2 sE s.sT]]):=by
 refine fnI Tryz.func119 rfl rfl (fun w0 F0=> ?_)
 refine fcC (bW 0 J) (fun hS0=> ?_)
 obtain⟨hsa0,hss0,hse0⟩:=sLn hS0
 refine sq (rg (bx (key:=1) (cs:= [sl 1 rE_ s.aC,sl 2 sE s.sT]) J fun b1=>(ag (nl (th (sq (rg (fzv 1 1 J J (mkf (ag (nl (th (rt ?_)))))))))))))
 exact rE () [.tmp 2] J [clo 149 [fp [sl 1 rE_ s.aC,sl 2 sE s.sT]]] ⟨.tmp J,tV⟩ J trivial eX
theorem Vh (s:SS) (hs:oK s):
 It Tryz.prog 149 [fp [strs s.aC,sl 2 sE s.sT]] Xq (pT s):=by
 intro y Y Z hlaw hz hY0
 refine fnI Tryz.func149 rfl rfl (fun w0 F0=> ?_)
 have hf0:=hs.few0;have hf1:=hs.few1;have hn8:=hs.n8;have hhl:=vW s
 refine sq (rg (lFA J T.bA (Nat.le_of_ble_eq_true J) (bI (φs:= [agg [sl 1 rE_ s.aC,sl 2 sE s.sT]]) (φ:=sl 1 blE (hOl s)) ⟨J,tV⟩ (prog7.Cb s aS) T.Mh (al (key:=3) T.z90 (eC eZ) fun b3=>(sP (φ:=sl 1 blE (hOl s)) J J J T.pR J (nl (th (sq (sq (rg (lP J J J T.pR (iF J J T.rS O (gK (k:=0) O) (lF J J T.iG (nl (th ?_)))))))))))))))
 refine cd J (fun hc0=> ?_) (fun hc0=> ?_)
 ·try simp at hc0
  refine rt (rt_ ?_)
  exact r0 hz rfl (fun _=>xW (.inl (by unfold pT;rw[if_pos hc0];exact hY0))) ⟨rI,tV⟩ (.inr rfl)
 ·try simp at hc0
  have h00:=Mg (by rw[hc0];simp)
  refine sk (th (sq (rg (fF J T.bO (lF J J T.cM (fc (bL 22 J) fun hm22=>(lnF J T.dB (mk (key:=24) (m:=s.sT.length) (enc:=blE) (y:=false) J J T.Kt (eC eZ) mL mL fun v24=>(al (key:=4) T.z90 (eC eZ) fun b4=>(cK J J J J T.pR J (nl (th (sq (rg (lP J J J T.pR (iO J J J T.rS O (by simp;omega) (sO (φ:=bl true) J J J T.iG (gN (by simp;omega)) J (y':=true) J (nl (th (sq (rg (bsO 27 (enc:=nE) (xs:= [0]) (css:= [[int 0]]) T.cQ ⟨J,J,p1 (φ:=int 0) J,tV⟩ J J J J fun v27=>(al (key:=5) T.z66 (eC eZ) fun b5=>(cK J J J J T.bF J (nl (th (sq (rg (ag (nl (th (bk ?_))))))))))))))))))))))))))))))))
  have hI0_0:([0]:List Int)=bq (aQ s) 0∧((List.replicate s.sT.length false).set 0 true)=marks s.sT.length ([0]:List Int)∧Y 0 hz∧0≤([0]:List Int).length:=by
   exact⟨rfl,Kh _,hY0,Nat.zero_le _⟩
  refine lp (κ:=Nat × (List Bool) × Value × (List Int) × HA) (fun p=> [(0,eqv y),(1,fp [sl 1 rE_ s.aC,sl 2 sE s.sT]),(3,ptr 3 b3 0),(4,ptr 4 b4 0),(5,ptr 5 b5 0),(6,int (p.1:Int))]) (fun p=> [(0,p.2.2.2.2),(3,cell b3 [sl 1 blE (hOl s)]),(4,cell b4 [osl 24 v24]),(5,cell b5 [osl 27 p.2.2.1]),(24,own v24 4 1 blE p.2.1),(27,own p.2.2.1 3 1 nE p.2.2.2.1)]) (fun p=>p.2.2.2.1=bq (aQ s) p.1∧p.2.1=marks s.sT.length p.2.2.2.1∧Y p.1 p.2.2.2.2∧p.1≤p.2.2.2.1.length) (fun p=>s.sT.length- p.1) ⟨0,(List.replicate s.sT.length false).set 0 true,v27,([0]:List Int),hz⟩ hI0_0 ⟨id,id,id,id,id,id,tV⟩ ⟨rI,rI,rI,rI,rI,rI,tV⟩ ?_
  intro⟨i,met,u5,ord,hh⟩ hG0
  have hI0:ord=bq (aQ s) i∧met=marks s.sT.length ord∧Y i hh∧i≤ord.length:=hG0
  show Ct _ _ _ _ [(0,eqv y),(1,fp [sl 1 rE_ s.aC,sl 2 sE s.sT]),(3,ptr 3 b3 0),(4,ptr 4 b4 0),(5,ptr 5 b5 0),(6,int (i:Int))] [(0,hh),(3,cell b3 [sl 1 blE (hOl s)]),(4,cell b4 [osl 24 v24]),(5,cell b5 [osl 27 u5]),(24,own v24 4 1 blE met),(27,own u5 3 1 nE ord)] _
  have hoq:=Kv hs i
  rw[←hI0.1] at hoq
  have hol:=hoq.le
  have hml:met.length=s.sT.length:=by rw[hI0.2.1];exact nF _ _
  refine sq (sq (rg (mv (lP J J J T.bF (lnO J J T.aT (bi J J aZ (nl (th ?_))))))))
  refine cd J (fun hc1=> ?_) (fun hc1=> ?_)
  ·try simp at hc1
   have hob:=hoq.1 i hc1
   have hox:=hs.st (ix ord i).toNat O
   have hxn:(ix ord i).toNat<s.sT.length:=by omega
   refine sk (th (sq (bk (sq ?_))))
   refine drH (nh:=10) [0,1,0,0,12,28,63,127,0,511] [(none,[]),(none,[]),(none,[5]),(none,[]),(none,[27]),(none,[27]),(none,[]),(none,[]),(some 7,[]),(some 7,[7])] T.mixed kR kR ?_
   refine stv (d:=34) (fun β0=>fp [sl 2 sE s.sT]) [] J bH (fun β0 _ _ _ _ gq gh kq=>fF (gq.1.trans J) T.bO kq) ?_
   refine stv (d:=35) (fun β0=>sl 2 sE s.sT) [] J bH (fun β0 _ _ _ _ gq gh kq=>lF (gq.1.trans J) J T.cM kq) ?_
   refine stv (d:=36) (fun β0=>osl 27 u5) [5] J bH (fun β0 _ _ _ _ gq gh kq=>lP (gq.1.trans J) (gh.1.trans J) J T.bF kq) ?_
   refine stv (d:=37) (fun β0=>int (i:Int)) [] J bH (fun β0 _ _ _ _ gq gh kq=>mv' (gq.1.trans J) kq) ?_
   refine stv (d:=38) (fun β0=>dL 27 u5 1 i 0) [27] J bH (fun β0 _ _ _ _ gq gh kq=>iO (gq.1.trans J) (gh.1.trans J) (gq.2.1.trans J) T.aT O O kq) ?_
   refine stv (d:=39) (fun β0=>int (ix ord i)) [27] J bH (fun β0 _ _ _ _ gq gh kq=>lO (gq.1.trans J) (gh.1.trans J) gB J T.aH kq) ?_
   refine stv (d:=40) (fun β0=>fp [sl 1 nE (ix s.sT (ix ord i).toNat).aP,sl 1 nE (ix s.sT (ix ord i).toNat).next]) [] J bH (fun β0 _ _ _ _ gq gh kq=>iF (gq.1.trans J) (gq.2.1.trans J) T.dB O gB kq) ?_
   refine stv (d:=41) (fun β0=>agg [sl 1 nE (ix s.sT (ix ord i).toNat).aP,sl 1 nE (ix s.sT (ix ord i).toNat).next]) [] J bH (fun β0 _ _ _ _ gq gh kq=>lFA (gq.1.trans J) T.eO (Nat.le_of_ble_eq_true J) kq) ?_
   refine sta 7 T.z79 (eC (eC eZ)) ?_
   refine stw 7 (fun β0=>cell (gbk (β0 8)) [sl 1 nE (ix s.sT (ix ord i).toNat).aP,sl 1 nE (ix s.sT (ix ord i).toNat).next]) [7] J (fun β β' hb=>by first|rw[hb 8 J]|(dsimp only;rw[hb 8 J])) (fun β0 _ _ _ _ gq gh kq=>sPA (cs':= [sl 1 nE (ix s.sT (ix ord i).toNat).aP,sl 1 nE (ix s.sT (ix ord i).toNat).next]) (gq.1.trans J) (gh.1.trans J) (gq.2.1.trans J) T.eO J J kq) ?_
   refine pnH fun β0=>(nl (th (sq (rg (nw 8 3 1 nE (ag (rtg (key:=8) 8 J (nl (th (sq (rg (ag (nl (th (sq (sq (rg (fP J T.cY (lP J J J T.bF (fc (bL 43 J) fun hm43=>(lnF J T.aT (mv (nl (th (bk ?_)))))))))))))))))))))))))
   have hI1_0:0≤(ix s.sT (ix ord i).toNat).aP.length:=by
    first|omega|simp
   have hI1_1:([]:List Int)=((ix s.sT (ix ord i).toNat).aP.take 0).filter (fun t=> !iP (ix s.sT (ix ord i).toNat) t (hOl s))∧(0:Int)=aV ([]:List Int)∧0≤(0:Int)∧(0:Int)<256∧([]:List Int).length≤0:=by
    exact⟨by simp,rfl,O,O,by simp⟩
   refine lp (κ:=Nat × Value × (List Int) × Int) (fun p=> [(0,eqv y),(1,fp [sl 1 rE_ s.aC,sl 2 sE s.sT]),(3,ptr 3 b3 0),(4,ptr 4 b4 0),(5,ptr 5 b5 0),(6,int (i:Int)),(7,ptr 7 (gbk (β0 8)) 0),(8,osl 8 p.2.1),(9,int p.2.2.2),(43,sl 1 nE (ix s.sT (ix ord i).toNat).aP),(44,int ((ix s.sT (ix ord i).toNat).aP.length:Int)),(45,int (p.1:Int))]) (fun p=> [(0,hh),(3,cell b3 [sl 1 blE (hOl s)]),(4,cell b4 [osl 24 v24]),(5,cell b5 [osl 27 u5]),(7,cell (gbk (β0 8)) [sl 1 nE (ix s.sT (ix ord i).toNat).aP,sl 1 nE (ix s.sT (ix ord i).toNat).next]),(8,own p.2.1 3 1 nE p.2.2.1),(24,own v24 4 1 blE met),(27,own u5 3 1 nE ord)]) (fun p=>(p.1≤(ix s.sT (ix ord i).toNat).aP.length)∧(p.2.2.1=((ix s.sT (ix ord i).toNat).aP.take p.1).filter (fun t=> !iP (ix s.sT (ix ord i).toNat) t (hOl s))∧p.2.2.2=aV p.2.2.1∧0≤p.2.2.2∧p.2.2.2<256∧p.2.2.1.length≤p.1)) (fun p=>(ix s.sT (ix ord i).toNat).aP.length- p.1) ⟨0,(.slice none 0 0),([]:List Int),(0:Int)⟩ ⟨hI1_0,hI1_1⟩ ⟨id,id,id,id,id,id,id,id,id,id,id,id,tV⟩ ⟨rI,rI,rI,rI,rI,rI,rI,rI,tV⟩ ?_
   intro⟨k1,u8,sets,cn⟩ hG1
   obtain⟨hk1,hI1⟩:(k1≤(ix s.sT (ix ord i).toNat).aP.length)∧(sets=((ix s.sT (ix ord i).toNat).aP.take k1).filter (fun t=> !iP (ix s.sT (ix ord i).toNat) t (hOl s))∧cn=aV sets∧0≤cn∧cn<256∧sets.length≤k1):=hG1
   show Ct _ _ _ _ [(0,eqv y),(1,fp [sl 1 rE_ s.aC,sl 2 sE s.sT]),(3,ptr 3 b3 0),(4,ptr 4 b4 0),(5,ptr 5 b5 0),(6,int (i:Int)),(7,ptr 7 (gbk (β0 8)) 0),(8,osl 8 u8),(9,int cn),(43,sl 1 nE (ix s.sT (ix ord i).toNat).aP),(44,int ((ix s.sT (ix ord i).toNat).aP.length:Int)),(45,int (k1:Int))] [(0,hh),(3,cell b3 [sl 1 blE (hOl s)]),(4,cell b4 [osl 24 v24]),(5,cell b5 [osl 27 u5]),(7,cell (gbk (β0 8)) [sl 1 nE (ix s.sT (ix ord i).toNat).aP,sl 1 nE (ix s.sT (ix ord i).toNat).next]),(8,own u8 3 1 nE sets),(24,own v24 4 1 blE met),(27,own u5 3 1 nE ord)] _
   have hacl:=hox.acl
   refine sq (rg (bi J J aZ (nl (th (sq ?_)))))
   refine cd J (fun hc2=> ?_) (fun hc2=> ?_)
   ·try simp at hc2
    have hac:=hox.ac k1 O
    refine sk (th (sq (bk (sq (rg (iF J J T.aT O gB (lF J J T.aH (ag (nl (th (sq (rg (al (key:=12) T.z4 (eC eZ) fun b12=>(sP (φ:=bl true) J J J T.iG J (nl (th (sq (sq (rg (mv (bI (φs:= [int (ix (ix s.sT (ix ord i).toNat).aP k1)]) (φ:=clo 137 [fp [int (ix (ix s.sT (ix ord i).toNat).aP k1)]]) ⟨J,tV⟩ (prog3.vY (ix (ix s.sT (ix ord i).toNat).aP k1)) T.wA (nl (th (bk ?_))))))))))))))))))))))))
    have hR0:true=((aL 63 (ix (ix s.sT (ix ord i).toNat).aP k1)).take 0).all (fun a=> !ix (hOl s) (ix (ix s.sT (ix ord i).toNat).next a.toNat).toNat):=by
     simp
    refine rf (κ:=Bool) 900 (fun p=> [(0,hh),(3,cell b3 [sl 1 blE (hOl s)]),(4,cell b4 [osl 24 v24]),(5,cell b5 [osl 27 u5]),(7,cell (gbk (β0 8)) [sl 1 nE (ix s.sT (ix ord i).toNat).aP,sl 1 nE (ix s.sT (ix ord i).toNat).next]),(8,own u8 3 1 nE sets),(12,cell b12 [bl p]),(24,own v24 4 1 blE met),(27,own u5 3 1 nE ord)]) (fun iR p=>p=((aL 63 (ix (ix s.sT (ix ord i).toNat).aP k1)).take iR).all (fun a=> !ix (hOl s) (ix (ix s.sT (ix ord i).toNat).next a.toNat).toNat)) (fun c p=>False) J (Au (ix (ix s.sT (ix ord i).toNat).aP k1) O O) T.rW J (fun _=>J) (fun _=>J) true hR0 ⟨rI,rI,rI,rI,rI,rI,rI,rI,rI,tV⟩ ?_ ?_ (fun k h=>h.elim) (fun id k h=>h.elim) (fun c k h=>h.elim)
    ·intro m0 fi x0 hG0 hx0 l R w1 M1 F1 hRd
     have hR0:fi=((aL 63 (ix (ix s.sT (ix ord i).toNat).aP k1)).take m0).all (fun a=> !ix (hOl s) (ix (ix s.sT (ix ord i).toNat).next a.toNat).toNat):=hG0
     obtain⟨a,rfl,ha63,hha⟩:=lL hx0
     have hgo:=hox.go k1 O a hha
     have hnx:=hox.nx a hgo.1
     have hxl:=hox.len
     refine rg (ag (nl (aq hRd J (bk (dr (nh:=12) [0,1,3,3,11,3,59,123,255,511,1023,2047,4095] T.mixed kR ?_)))))
     refine st_ J (fun _ _ _ gq kq=>lP (gq.1.trans J) J J T.iG kq) ?_
     refine st_ J (fun _ _ _ gq kq=>mv' (gq.1.trans J) kq) ?_
     refine sg_ (φ:=sl 1 blE (hOl s)) J J J J (List.mem_of_elem_eq_true J) (fun hgd=> ?_) ?_
     ·have hgd':=hgd
      try simp at hgd'
      exact fun _ _ _ gq kq=>lP (gq.1.trans J) J J T.pR kq
     refine sg_ (φ:=ptr 7 (gbk (β0 8)) 1) J J J J (List.mem_of_elem_eq_true J) (fun hgd=> ?_) ?_
     ·have hgd':=hgd
      try simp at hgd'
      exact fun _ _ _ gq kq=>fP (gq.1.trans J) T.eM kq
     refine sg_ (φ:=sl 1 nE (ix s.sT (ix ord i).toNat).next) J J J J (List.mem_of_elem_eq_true J) (fun hgd=> ?_) ?_
     ·have hgd':=hgd
      try simp at hgd'
      exact fun _ _ _ gq kq=>lP (gq.1.trans (fH hgd)) J J T.bF kq
     refine sg_ (φ:=int (a:Int)) J J J J (List.mem_of_elem_eq_true J) (fun hgd=> ?_) ?_
     ·have hgd':=hgd
      try simp at hgd'
      exact fun _ _ _ gq kq=>mv' (gq.1.trans J) kq
     refine sg_ (φ:=fp [int (ix (ix s.sT (ix ord i).toNat).next a)]) J J J J (List.mem_of_elem_eq_true J) (fun hgd=> ?_) ?_
     ·have hgd':=hgd
      try simp at hgd'
      exact fun _ _ _ gq kq=>iF (gq.1.trans (fH hgd)) (gq.2.1.trans (fH hgd)) T.aT O gB kq
     refine sg_ (φ:=int (ix (ix s.sT (ix ord i).toNat).next a)) J J J J (List.mem_of_elem_eq_true J) (fun hgd=> ?_) ?_
     ·have hgd':=hgd
      try simp at hgd'
      exact fun _ _ _ gq kq=>lF (gq.1.trans (fH hgd)) J T.aH kq
     refine sg_ (φ:=fp [bl (ix (hOl s) (ix (ix s.sT (ix ord i).toNat).next a).toNat)]) J J J J (List.mem_of_elem_eq_true J) (fun hgd=> ?_) ?_
     ·have hgd':=hgd
      try simp at hgd'
      exact fun _ _ _ gq kq=>iF (gq.1.trans (fH hgd)) (gq.2.1.trans (fH hgd)) T.rS O gB kq
     refine sg_ (φ:=bl (ix (hOl s) (ix (ix s.sT (ix ord i).toNat).next a).toNat)) J J J J (List.mem_of_elem_eq_true J) (fun hgd=> ?_) ?_
     ·have hgd':=hgd
      try simp at hgd'
      exact fun _ _ _ gq kq=>lF (gq.1.trans (fH hgd)) J T.iG kq
     refine sg_ (φ:=bl (!(ix (hOl s) (ix (ix s.sT (ix ord i).toNat).next a).toNat))) J J J J (List.mem_of_elem_eq_true J) (fun hgd=> ?_) ?_
     ·have hgd':=hgd
      try simp at hgd'
      exact fun _ _ _ gq kq=>no (gq.1.trans (fH hgd)) kq
     refine st_ J (fun _ _ _ gq kq=>pk (gq.1.trans J) (LG (x:= .tmp 53) (gq.1.trans J) (gq.2.1.trans J) J) kq) ?_
     refine pn (sP (φ:=bl (fi&&(!(ix (hOl s) (ix (ix s.sT (ix ord i).toNat).next a).toNat)))) J J J T.iG J (nl (eb ?_)))
     have hN0:(fi&&(!(ix (hOl s) (ix (ix s.sT (ix ord i).toNat).next a).toNat)))=((aL 63 (ix (ix s.sT (ix ord i).toNat).aP k1)).take (m0+1)).all (fun a=> !ix (hOl s) (ix (ix s.sT (ix ord i).toNat).next a.toNat).toNat):=by
      rw[Me hx0,hR0];simp
     exact rqN (fi&&(!(ix (hOl s) (ix (ix s.sT (ix ord i).toNat).next a).toNat))) hN0 ⟨rI,rI,rI,rI,rI,rI,rI,rI,rI,rI,tV⟩
    ·intro fi hG0
     have hR0:fi=((aL 63 (ix (ix s.sT (ix ord i).toNat).aP k1)).take (aL 63 (ix (ix s.sT (ix ord i).toNat).aP k1)).length).all (fun a=> !ix (hOl s) (ix (ix s.sT (ix ord i).toNat).next a.toNat).toNat):=hG0
     refine eb (th (sq (rg (lP rfl rfl rfl T.iG (nl (th ?_))))))
     refine cd J (fun hc3=> ?_) (fun hc3=> ?_)
     ·try simp at hc3
      refine sq (rg (mv (mv (bsE (enc:=nE) (xs:= [(ix (ix s.sT (ix ord i).toNat).aP k1)]) (css:= [[int (ix (ix s.sT (ix ord i).toNat).aP k1)]]) T.cQ ⟨J,J,p1 (φ:=int (ix (ix s.sT (ix ord i).toNat).aP k1)) J,tV⟩ J J J J (ap (key:=8) (zs:= [(ix (ix s.sT (ix ord i).toNat).aP k1)]) cB J J J T.cQ (by unfold aN at*;simp;omega) (by unfold aN at*;simp;omega) fun v68=>(ag (nl (th (rg (mv (mv (bi J J (Bw O O O O) (ag (nl (eb (th (rg (bi J J (aM i6) (mv (nl ?_))))))))))))))))))))
      have hN0:(k1+1)≤(ix s.sT (ix ord i).toNat).aP.length:=by
       first|omega|simp_all
      have hN1:(sets++ [(ix (ix s.sT (ix ord i).toNat).aP k1)])=((ix s.sT (ix ord i).toNat).aP.take (k1+1)).filter (fun t=> !iP (ix s.sT (ix ord i).toNat) t (hOl s))∧((cn.toNat|||(ix (ix s.sT (ix ord i).toNat).aP k1).toNat:Nat):Int)=aV (sets++ [(ix (ix s.sT (ix ord i).toNat).aP k1)])∧0≤((cn.toNat|||(ix (ix s.sT (ix ord i).toNat).aP k1).toNat:Nat):Int)∧((cn.toNat|||(ix (ix s.sT (ix ord i).toNat).aP k1).toNat:Nat):Int)<256∧(sets++ [(ix (ix s.sT (ix ord i).toNat).aP k1)]).length≤(k1+1):=by
       have hfi:iP (ix s.sT (ix ord i).toNat) (ix (ix s.sT (ix ord i).toNat).aP k1) (hOl s)=false:=by
                have h1:fi=Ku (ix s.sT (ix ord i).toNat) (ix (ix s.sT (ix ord i).toNat).aP k1) (hOl s):=by rw[hR0,List.take_length];rfl
                rw[IU hox hn8 (gO O),hc3] at h1;simpa using h1.symm
       refine⟨?_,?_,O,oR hI1.2.2.2.1 hac.2,by simp;omega⟩
       ·rw[rQ O,hI1.1];simp[hfi]
       ·rw[jP,←hI1.2.1]
      exact ln (⟨k1+1,v68,sets++ [(ix (ix s.sT (ix ord i).toNat).aP k1)],((cn.toNat|||(ix (ix s.sT (ix ord i).toNat).aP k1).toNat:Nat):Int)⟩:Nat × Value × (List Int) × Int) ⟨hN0,hN1⟩ dO ⟨id,id,id,id,id,id,id,id,id,id,id,id,tV⟩ ⟨rI,rI,rI,rI,rI,rI,rI,rI,tV⟩
     ·try simp at hc3
      refine sk (eb (th (rg (bi J J (aM i6) (mv (nl ?_))))))
      have hN0:(k1+1)≤(ix s.sT (ix ord i).toNat).aP.length:=by
       first|omega|simp_all
      have hN1:sets=((ix s.sT (ix ord i).toNat).aP.take (k1+1)).filter (fun t=> !iP (ix s.sT (ix ord i).toNat) t (hOl s))∧cn=aV sets∧0≤cn∧cn<256∧sets.length≤(k1+1):=by
       have hfi:iP (ix s.sT (ix ord i).toNat) (ix (ix s.sT (ix ord i).toNat).aP k1) (hOl s)=true:=by
                have h1:fi=Ku (ix s.sT (ix ord i).toNat) (ix (ix s.sT (ix ord i).toNat).aP k1) (hOl s):=by rw[hR0,List.take_length];rfl
                rw[IU hox hn8 (gO O),hc3] at h1;simpa using h1.symm
       refine⟨?_,hI1.2.1,hI1.2.2.1,hI1.2.2.2.1,O⟩
       rw[rQ O,hI1.1];simp[hfi]
      exact ln (⟨k1+1,u8,sets,cn⟩:Nat × Value × (List Int) × Int) ⟨hN0,hN1⟩ dO ⟨id,id,id,id,id,id,id,id,id,id,id,id,tV⟩ ⟨rI,rI,rI,rI,rI,rI,rI,rI,tV⟩
   ·try simp at hc2
    have hnh:=vZ hs h00 i (ix ord i) (by rw[←hI0.1];exact gO hc1)
    have hsets:sets=keep s (ix ord i).toNat:=by rw[kC hnh,hI1.1,show k1=(ix s.sT (ix ord i).toNat).aP.length by omega,List.take_length]
    have hcn:cn=aV (keep s (ix ord i).toNat):=by rw[hI1.2.1,hsets]
    refine ex (xt_ (xt_ (xb (th (sq (sq (rg (mv (bI (φs:= [int cn]) (φ:=clo 137 [fp [int cn]]) ⟨J,tV⟩ (prog3.vY cn) T.wA (nl (th (bk ?_))))))))))))
    have hR1:ord=visit ord (((aL 63 cn).take 0).map fun a=>ix (ix s.sT (ix ord i).toNat).next a.toNat)∧met=marks s.sT.length ord∧okQ s.sT.length ord:=by
     exact⟨by simp[visit],hI0.2.1,hoq⟩
    refine rf (κ:=(List Bool) × Value × (List Int)) 901 (fun p=> [(0,hh),(3,cell b3 [sl 1 blE (hOl s)]),(4,cell b4 [osl 24 v24]),(5,cell b5 [osl 27 p.2.1]),(7,cell (gbk (β0 8)) [sl 1 nE (ix s.sT (ix ord i).toNat).aP,sl 1 nE (ix s.sT (ix ord i).toNat).next]),(8,own u8 3 1 nE sets),(24,own v24 4 1 blE p.1),(27,own p.2.1 3 1 nE p.2.2)]) (fun iR p=>p.2.2=visit ord (((aL 63 cn).take iR).map fun a=>ix (ix s.sT (ix ord i).toNat).next a.toNat)∧p.1=marks s.sT.length p.2.2∧okQ s.sT.length p.2.2) (fun c p=>False) J (Au cn O O) T.rW J (fun _=>J) (fun _=>J) ⟨met,u5,ord⟩ hR1 ⟨rI,rI,rI,rI,rI,rI,rI,rI,tV⟩ ?_ ?_ (fun k h=>h.elim) (fun id k h=>h.elim) (fun c k h=>h.elim)
    ·intro m1 ⟨met2,u52,ord2⟩ x1 hG1 hx1 l R w1 M1 F1 hRd
     have hR1:ord2=visit ord (((aL 63 cn).take m1).map fun a=>ix (ix s.sT (ix ord i).toNat).next a.toNat)∧met2=marks s.sT.length ord2∧okQ s.sT.length ord2:=hG1
     show Ct _ _ _ _ _ ((901,obj l (.loop R)):: [(0,hh),(3,cell b3 [sl 1 blE (hOl s)]),(4,cell b4 [osl 24 v24]),(5,cell b5 [osl 27 u52]),(7,cell (gbk (β0 8)) [sl 1 nE (ix s.sT (ix ord i).toNat).aP,sl 1 nE (ix s.sT (ix ord i).toNat).next]),(8,own u8 3 1 nE sets),(24,own v24 4 1 blE met2),(27,own u52 3 1 nE ord2)]) _
     obtain⟨a,rfl,ha63,hha⟩:=lL hx1
     have hgo:=kS hs hxn (by rw[←hcn];exact hha)
     have Dw:=hR1.2.2.le
     have hml2:met2.length=s.sT.length:=by rw[hR1.2.1];exact nF _ _
     refine rg (ag (nl (aq hRd J (bk (sq (rg (fP J T.eM (lP J J J T.bF (mv (iF J J T.aT O gB (lF J J T.aH (ag (nl (th (sq (rg (lP J J J T.pR (mv (iO J J J T.rS O O (lO J J gB J T.iG (no J (nl (th ?_)))))))))))))))))))))))
     refine cd J (fun hc4=> ?_) (fun hc4=> ?_)
     ·try simp at hc4
      refine sq (rg (lP J J J T.pR (mv (iO J J J T.rS O O (sO (φ:=bl true) J J J T.iG gB J (y':=true) J (nl (th (rg (lP J J J T.bF (mv (bsE (enc:=nE) (xs:= [(ix (ix s.sT (ix ord i).toNat).next a)]) (css:= [[int (ix (ix s.sT (ix ord i).toNat).next a)]]) T.cQ ⟨J,J,p1 (φ:=int (ix (ix s.sT (ix ord i).toNat).next a)) J,tV⟩ J J J J (ap (key:=27) (zs:= [(ix (ix s.sT (ix ord i).toNat).next a)]) cB J J J T.cQ (by unfold aN at*;simp;omega) (by unfold aN at*;simp;omega) fun v92=>(cK J J J J T.bF J (nl (eb ?_)))))))))))))))
      have hN0:(ord2++ [(ix (ix s.sT (ix ord i).toNat).next a)])=visit ord (((aL 63 cn).take (m1+1)).map fun a=>ix (ix s.sT (ix ord i).toNat).next a.toNat)∧(met2.set (ix (ix s.sT (ix ord i).toNat).next a).toNat true)=marks s.sT.length (ord2++ [(ix (ix s.sT (ix ord i).toNat).next a)])∧okQ s.sT.length (ord2++ [(ix (ix s.sT (ix ord i).toNat).next a)]):=by
       have hcc:ord2.contains (ix (ix s.sT (ix ord i).toNat).next a)=false:=by
                rw[hR1.2.1,Ar O,Int.toNat_of_nonneg hgo.2.1] at hc4;exact hc4
       refine⟨?_,?_,FL hR1.2.2 hgo.2.1 hgo.2.2.1 hcc⟩
       ·rw[take_at hx1,List.map_append,List.map_cons,List.map_nil,BM,←hR1.1,Int.toNat_natCast,if_pos (by simp only [hcc];simpa using hgo.2.1)]
       ·rw[hR1.2.1,qB hgo.2.1]
      exact rqN ⟨met2.set (ix (ix s.sT (ix ord i).toNat).next a).toNat true,v92,ord2++ [(ix (ix s.sT (ix ord i).toNat).next a)]⟩ hN0 ⟨rI,rI,rI,rI,rI,rI,rI,rI,rI,tV⟩
     ·try simp at hc4
      refine sk (eb ?_)
      have hN0:ord2=visit ord (((aL 63 cn).take (m1+1)).map fun a=>ix (ix s.sT (ix ord i).toNat).next a.toNat)∧met2=marks s.sT.length ord2∧okQ s.sT.length ord2:=by
       have hcc:ord2.contains (ix (ix s.sT (ix ord i).toNat).next a)=true:=by
                rw[hR1.2.1,Ar O,Int.toNat_of_nonneg hgo.2.1] at hc4;exact hc4
       refine⟨?_,hR1.2.1,hR1.2.2⟩
       rw[take_at hx1,List.map_append,List.map_cons,List.map_nil,BM,←hR1.1,Int.toNat_natCast,if_neg (by simp only [hcc];simp)]
      exact rqN ⟨met2,u52,ord2⟩ hN0 ⟨rI,rI,rI,rI,rI,rI,rI,rI,rI,tV⟩
    ·intro⟨met2,u52,ord2⟩ hG1
     have hR1:ord2=visit ord (((aL 63 cn).take (aL 63 cn).length).map fun a=>ix (ix s.sT (ix ord i).toNat).next a.toNat)∧met2=marks s.sT.length ord2∧okQ s.sT.length ord2:=hG1
     show At _ _ _ _ [(0,hh),(3,cell b3 [sl 1 blE (hOl s)]),(4,cell b4 [osl 24 v24]),(5,cell b5 [osl 27 u52]),(7,cell (gbk (β0 8)) [sl 1 nE (ix s.sT (ix ord i).toNat).aP,sl 1 nE (ix s.sT (ix ord i).toNat).next]),(8,own u8 3 1 nE sets),(24,own v24 4 1 blE met2),(27,own u52 3 1 nE ord2)]
     refine eb (th (sq (rg ?_)))
     have hor:=hR1.1
     rw[List.take_length] at hor
     have ho2:ord2=bq (aQ s) (i+1):=by rw[De hs (by rw[←hI0.1];exact hc1),←hI0.1,←hcn,hor]
     have hpx:ord<+:ord2:=by rw[hor];exact gV _ _
     have hix:ix ord2 i=ix ord i:=nH hpx hc1
     have hpl:=hpx.length_le
     have hla:=OQ hs h00 (i:=i) O (by rw[←hI0.1];exact hc1)
     rw[←hI0.1] at hla
     have hol3:=hR1.2.2.le
     refine mv (lP rfl rfl rfl T.bF (mv (iO rfl rfl rfl T.aT O O (lO rfl rfl gB rfl T.aH (mv (fz 8 98 rfl rfl (Rp (Hi:= [(0,hh)]) rfl (by show FnV _ _ [int (ix ord2 i),ints sets] _ _ _;rw[hix,hsets];exact hlaw i hh (ix ord i,keep s (ix ord i).toNat) hI0.2.2.1 hla) ⟨rI,tV⟩ fun N bh=>oan 99 rfl fun hres=>(no rfl (nl (th ?_))))))))))
     refine cd J (fun hc5=> ?_) (fun hc5=> ?_)
     ·try simp at hc5
      refine rt (rb (rt_ (rt_ (rb ?_))))
      exact r0 bh.2 rfl (fun _=>xW (.inr (hres.2 hc5))) ⟨rI,tV⟩ (.inr rfl)
     ·try simp at hc5
      refine sk (eb (th (rg (mv (bi J J (aM i6) (ag (nl ?_)))))))
      have hN0:ord2=bq (aQ s) (i+1)∧met2=marks s.sT.length ord2∧Y (i+1) bh.2∧(i+1)≤ord2.length:=by
       refine⟨ho2,hR1.2.1,hres.1 (by simpa using hc5),?_⟩
       omega
      exact ln (⟨i+1,met2,u52,ord2,bh.2⟩:Nat × (List Bool) × Value × (List Int) × HA) hN0 dO ⟨id,id,id,id,id,id,tV⟩ ⟨rI,rI,rI,rI,rI,rI,tV⟩
  ·try simp at hc1
   refine ex (xt_ (xt_ (xb ?_)))
   exact r0 hh rfl (fun _=>xW (.inl (by have he:=Ca hs (i:=i) (by rw[←hI0.1];exact hc1) O;rw[tL h00,←he,←hI0.1,show ord.length=i by omega];exact hI0.2.2.1))) ⟨rI,tV⟩ (.inl rfl)
end prog7
end
section
open ref01 ref03 ref04 ref06 prog prog2 prog3 prog4 prog6 prog7 Part Rungs LeftM
theorem OT {n cp:Nat} (h:cp≤n):(List.replicate cp (-1:Int)++List.replicate (n- cp) 0).take cp++(List.replicate cp (-1:Int)++List.replicate (n- cp) 0).take (min cp (n- cp))++(List.replicate cp (-1:Int)++List.replicate (n- cp) 0).drop (cp+min cp (n- cp))=List.replicate (cp+min cp (n- cp)) (-1)++List.replicate (n- (cp+min cp (n- cp))) 0:=by
 have h1:(List.replicate cp (-1:Int)++List.replicate (n- cp) 0).take cp=List.replicate cp (-1):=by
  rw[List.take_append_of_le_length (by simp)];simp
 have h2:(List.replicate cp (-1:Int)++List.replicate (n- cp) 0).take (min cp (n- cp))=List.replicate (min cp (n- cp)) (-1):=by
  rw[List.take_append_of_le_length (by simp;omega)];simp[List.take_replicate]
 have h3:(List.replicate cp (-1:Int)++List.replicate (n- cp) 0).drop (cp+min cp (n- cp))=List.replicate (n- (cp+min cp (n- cp))) 0:=by
  rw[List.drop_append];simp;omega
 rw[h1,h2,h3,List.replicate_append_replicate]
theorem Mi (n:Nat):(List.replicate n (0:Int)).take 0++([-1]:List Int).take (min 1 n)++(List.replicate n (0:Int)).drop (0+min 1 n)=List.replicate (min 1 n) (-1)++List.replicate (n- min 1 n) 0:=by
 cases n with
 |zero=>rfl
 |succ n=>simp[show min 1 (n+1)=1 by omega,List.replicate_succ]
namespace T
theorem Vi:Ent Tryz.prog 162:=aR kR
theorem kd3:Tryz.prog.underlying 3=some (.int .i64):=by kernel_rfl
theorem Cc:Tryz.prog.underlying 183=some (.int .u64):=by kernel_rfl
theorem Vj:Ent Tryz.prog 134:=aR kR
theorem rA:Ent Tryz.prog 92:=aR kR
theorem Kx:Ent Tryz.prog 94:=aR kR
end T
namespace prog8
theorem OU (n:Int) (h0:0≤n) (h1:n<4294967296):
 Fn0 Tryz.prog 162 [u64 1,u64 n] (tup [u64 0,u64 n]):=by
 refine fnI Tryz.func162 rfl rfl (fun w0 F0=> ?_)
 refine sq (rg (ag (ag (nl (th (sq (rg (mv (bi J J (Am O O) (ag (nl (th (sq (rg (mv (bi J J (rN O O) (ag (nl (th (sq (rg (mv (bi J J (Am O O) (ag (nl (th (sq (rg (mv (bi J J (rN O O) (ag (nl (th (sq (rg (mv (mv (bi J J (xI (by unfold U64;omega)) (ag (nl (th (sq (rg (mv (mv (bi J J (xI (by unfold U64;omega)) (mv (bi J J (rN O O) (bi J J (BA (by unfold U64;omega)) (ag (nl (th (sq (rg (mv (bi J J (Am O O) (ag (nl (th (sq (rg (mv (bi J J (rN O O) (ag (nl (th (sq (rg (mv (mv (mv (bi J J (xI (by unfold U64;omega)) (bi J J (BA (by unfold U64;omega)) (ag (nl (th (sq (rg (mv (mv (bi J J (xI (by unfold U64;omega)) (mv (bi J J (BA (by unfold U64;omega)) (mv (bi J J (rN O O) (bi J J (BA (by unfold U64;omega)) (ag (nl (th (sq (rg (mv (mv (bi J J (xI (by unfold U64;omega)) (ag (nl (th (rt ?_))))))))))))))))))))))))))))))))))))))))))))))))))))))))))))))))))))))))))))))))))))))))))))))))))
 have hr0:((((0*0)+0)+0):Int)=0:=by
  omega
 have hr1:((1*n):Int)=n:=by
  omega
 exact rE () [.tmp 4,.tmp 5] J [u64 (((0*0)+0)+0),u64 (1*n)] ⟨.tmp J,.tmp J,tV⟩ (cA2 (fun x0 x1=>rV [u64 x0,u64 x1]) hr0 hr1) trivial eX
theorem Vk (n:Int) (h0:0≤n) (h1:n<4294967296):
 Fn0 Tryz.prog 134 [u64 1,u64 n] (tup [u64 0,u64 n]):=by
 refine fnI Tryz.func134 rfl rfl (fun w0 F0=> ?_)
 refine sq (rg (ag (ag (nl (th (sq ?_))))))
 refine cd J (fun hc0=> ?_) (fun hc0=> ?_)
 ·try simp at hc0
  skip
 ·try simp at hc0
  refine sk (th (sq (rg (mv (mv (bI (φs:= [u64 1,u64 n]) (φ:=tup [u64 0,u64 n]) ⟨J,J,tV⟩ (prog8.OU n O O) T.Vi (mv (xt J J (xt J J (ag (ag (nl (th (sq (rg (mv (mv (ag (ag (nl (th (rt ?_))))))))))))))))))))))
  exact rE () [.tmp 4,.tmp 5] J [u64 0,u64 n] ⟨.tmp J,.tmp J,tV⟩ J trivial eX
theorem xX (n:Nat) (hn:n≤1000000):
 AL.Fn Tryz.prog 94 [ints [-1],int (n:Int)] [] (fun _ v=>osl 30 v) (fun v=> [(30,own v 3 1 nE (List.replicate n (-1)))]):=by
 refine fnI Tryz.func94 rfl rfl (fun w0 F0=> ?_)
 refine fcC (bL 0 J) (fun hm0=> ?_)
 refine sq (rg (ag (nl (th (sq (sq (rg (mv (bi J J aZ (nl (th ?_)))))))))))
 refine cd J (fun hc0=> ?_) (fun hc0=> ?_)
 ·try simp at hc0
  exfalso;omega
 ·try simp at hc0
  refine sk (th (sq (rg (mv (lnF J T.aT (cv J T.kd3 T.Cc (mR ⟨by simp,by simp⟩) (mv (cv J T.kd3 T.Cc (mR ⟨O,O⟩) (bI (φs:= [u64 ([-1].length:Int),u64 (n:Int)]) (φ:=tup [u64 0,u64 (n:Int)]) ⟨J,J,tV⟩ (prog8.Vk (n:Int) O O) T.Vj (mv (xt J J (xt J J (ag (ag (nl (th (sq (sq (rg (mv (bi J J jA (mv ?_))))))))))))))))))))))
  apply gOr (t:=23) (pd:=26) rfl
  rotate_left
  ·intro hg0 fin
   have hg0':=hg0
   try simp at hg0'
   exact gy J J J hg0 (mv (gy J J J hg0 (bi J J jA (pkF J hg0 J (drp (X:= [(25,_),(24,_)]) ⟨J,J,tV⟩ fin)))))
  ·intro hg0 fin
   exact gn J J J hg0 J J (gn J J J hg0 J J (pkT J hg0 J (drp (X:= [(25,_),(24,_)]) ⟨J,J,tV⟩ fin)))
  refine nl (th ?_)
  refine cd J (fun hc1=> ?_) (fun hc1=> ?_)
  ·try simp at hc1
   exfalso;omega
  ·try simp at hc1
   refine sk (th (sq (rg (mv (cv J T.Cc T.kd3 (oO ⟨O,O⟩) (mkB (key:=30) (m:=n) (enc:=nE) (y:=(0:Int)) J J T.cQ (eC eZ) mL mL fun b30=>(ag (nl (th (sq (rg (mv (mv (cpF (key:=30) (i:=0) (l:=n) (c:=n) (b:=b30) (n:=min 1 n) (ys:=([-1]:List Int)) (xs:=List.replicate n (0:Int)) dV J J T.cQ (fun y=>inferInstance) J (by rw[List.length_replicate];omega) (ag (nl (th (sq (bk ?_)))))))))))))))))))
   have hI0_0:((List.replicate n (0:Int)).take 0++([-1]:List Int).take (min 1 n)++(List.replicate n (0:Int)).drop (0+min 1 n))=List.replicate (min 1 n) (-1)++List.replicate (n- (min 1 n)) 0∧(min 1 n)≤n∧(n=0∨1≤(min 1 n)):=by
    exact⟨Mi n,O,O⟩
   refine lp (κ:=Nat × (List Int)) (fun p=> [(4,eqv (.slice none 0 0)),(7,osl 30 (.slice (some ⟨b30,0,none⟩) n n)),(8,int (p.1:Int))]) (fun p=> [(30,own (.slice (some ⟨b30,0,none⟩) n n) 3 1 nE p.2)]) (fun p=>p.2=List.replicate p.1 (-1)++List.replicate (n- p.1) 0∧p.1≤n∧(n=0∨1≤p.1)) (fun p=>n- p.1) ⟨min 1 n,(List.replicate n (0:Int)).take 0++([-1]:List Int).take (min 1 n)++(List.replicate n (0:Int)).drop (0+min 1 n)⟩ hI0_0 ⟨id,id,id,tV⟩ ⟨rI,tV⟩ ?_
   intro⟨cp,xs⟩ hG0
   have hI0:xs=List.replicate cp (-1)++List.replicate (n- cp) 0∧cp≤n∧(n=0∨1≤cp):=hG0
   show Ct _ _ _ _ [(4,eqv (.slice none 0 0)),(7,osl 30 (.slice (some ⟨b30,0,none⟩) n n)),(8,int (cp:Int))] [(30,own (.slice (some ⟨b30,0,none⟩) n n) 3 1 nE xs)] _
   have hxl:xs.length=n:=by rw[hI0.1];simp;omega
   refine sq (sq (rg (mv (mv (lnO J J T.aT (bi J J aZ (nl (th ?_))))))))
   refine cd J (fun hc2=> ?_) (fun hc2=> ?_)
   ·try simp at hc2
    refine sk (th (bk ?_))
    refine drH (nh:=10) [0,0,0,6,0,0,48,126,255,511] [(none,[]),(none,[]),(none,[]),(none,[]),(none,[]),(none,[]),(none,[]),(some 30,[30]),(none,[]),(none,[])] T.mixed kR kR ?_
    refine stv (d:=38) (fun β0=>int (cp:Int)) [] J bH (fun β0 _ _ _ _ gq gh kq=>mv' (gq.1.trans J) kq) ?_
    refine stv (d:=39) (fun β0=>osl 30 (.slice (some ⟨b30,0,none⟩) n n)) [] J bH (fun β0 _ _ _ _ gq gh kq=>mv' (gq.1.trans J) kq) ?_
    refine stv (d:=40) (fun β0=>int (cp:Int)) [] J bH (fun β0 _ _ _ _ gq gh kq=>mv' (gq.1.trans J) kq) ?_
    refine stv (d:=41) (fun β0=>eqv (.slice (some ⟨b30,cp,none⟩) (n- cp) (n- cp))) [] J bH (fun β0 _ _ _ _ gq gh kq=>LF (l:=cp) (m:=n) ((gq.1.trans J).trans J) T.aT (gq.2.1.trans J) J O O O O kq) ?_
    refine stv (d:=42) (fun β0=>osl 30 (.slice (some ⟨b30,0,none⟩) n n)) [] J bH (fun β0 _ _ _ _ gq gh kq=>mv' (gq.1.trans J) kq) ?_
    refine stv (d:=43) (fun β0=>int (cp:Int)) [] J bH (fun β0 _ _ _ _ gq gh kq=>mv' (gq.1.trans J) kq) ?_
    refine stv (d:=44) (fun β0=>eqv (.slice (some ⟨b30,0,none⟩) (cp- 0) (n- 0))) [] J bH (fun β0 _ _ _ _ gq gh kq=>LF (l:=0) (m:=cp) ((gq.1.trans J).trans J) T.aT J (gq.2.1.trans J) O O O O kq) ?_
    refine stb (d:=45) 30 (fun β0=>int ((min cp (n- cp):Nat):Int)) (fun β0=>own (.slice (some ⟨b30,0,none⟩) n n) 3 1 nE (xs.take cp++xs.take (min cp (n- cp))++xs.drop (cp+min cp (n- cp)))) [30] rfl (fun β β' hb=>rfl) (fun β β' hb=>rfl) (fun β0 _ _ _ _ gq gh kq=>cpO (key:=30) (i:=cp) (l:=n- cp) (c:=n- cp) (l2:=cp) (c2:=n) (b:=b30) (n:=min cp (n- cp)) (gq.1.trans rfl) (gh.1.trans rfl) (gq.2.1.trans rfl) T.cQ (fun y=>inferInstance) rfl (by rw[hI0.1];simp) (by rw[hI0.1];simp;omega) kq) ?_
    refine stv (d:=46) (fun β0=>int ((cp+(min cp (n- cp)):Nat):Int)) [] J bH (fun β0 _ _ _ _ gq gh kq=>bi (gq.1.trans J) (gq.2.1.trans J) (aM i6) kq) ?_
    refine stv (d:=8) (fun β0=>int ((cp+(min cp (n- cp)):Nat):Int)) [] J bH (fun β0 _ _ _ _ gq gh kq=>ag' (gq.1.trans J) kq) ?_
    refine pnH fun β0=>(nl (eb ?_))
    have hN0:(xs.take cp++xs.take (min cp (n- cp))++xs.drop (cp+min cp (n- cp)))=List.replicate (cp+(min cp (n- cp))) (-1)++List.replicate (n- (cp+(min cp (n- cp)))) 0∧(cp+(min cp (n- cp)))≤n∧(n=0∨1≤(cp+(min cp (n- cp)))):=by
     refine⟨?_,O,O⟩
     rw[hI0.1];exact OT hI0.2.1
    exact ln (⟨cp+(min cp (n- cp)),xs.take cp++xs.take (min cp (n- cp))++xs.drop (cp+min cp (n- cp))⟩:Nat × (List Int)) hN0 dO ⟨id,id,id,tV⟩ ⟨rI,tV⟩
   ·try simp at hc2
    refine ex (xt_ (xt_ (xb (th (sq (rg (mv (ag (nl (th (rt ?_)))))))))))
    have hcp:cp=n:=by omega
    have hxs:xs=List.replicate n (-1):=by rw[hI0.1,hcp];simp
    subst hxs
    exact rE (.slice (some ⟨b30,0,none⟩) n n) [.tmp 4] J [osl 30 (.slice (some ⟨b30,0,none⟩) n n)] ⟨.tmp J,tV⟩ J ⟨rI,tV⟩ eX
theorem Ky (l:List ByteArray) (hl:l.length≤1000):
 AL.Fn Tryz.prog 120 [strs l] [] (ι:=Unit) (fun N _=>Ru N (nothing l)) (fun _=> []):=by
 refine fnI Tryz.func120 rfl rfl (fun w0 F0=> ?_)
 refine fcC (bL 0 J) (fun hm0=> ?_)
 refine sq (rg (al (key:=2) T.z28 (eC (eC eZ)) fun b2=>(nl (th (sq (rg (mv (eI (φs:= [sl 1 rE_ l]) (φ:=fre w0.heap.size (sl 1 rE_ l)) ⟨J,tV⟩ (prog.fI _ O) T.rA (fun N hN=>fun h=>iW hN h) (bsE (enc:=nE) (xs:= [(-1)]) (css:= [[int (-1)]]) T.cQ ⟨J,J,p1 (φ:=int (-1)) J,tV⟩ J J J J (mv (lnF J T.iL (cl (prog8.xX l.length O) T.Kx trivial fun N8 v8=>(fzN nE 30 8 noM flat J J (bd (css:= [(1,_)]) T.Aq (eC (eC eZ)) ⟨J,J,p1 (φ:=fre w0.heap.size (sl 1 nE (List.replicate l.length (-1)))) J,tV⟩ (kn 9 (agg [fre w0.heap.size (sl 1 nE []),fre w0.heap.size (sl 1 nE (List.replicate l.length (-1)))]) J (cV (cs:= [eqv (.slice none 0 0),fre w0.heap.size (sl 1 nE (List.replicate l.length (-1)))]) (ds:= [fre w0.heap.size (sl 1 nE []),fre w0.heap.size (sl 1 nE (List.replicate l.length (-1)))]) ⟨fun h=>mA h,fun h=>h,tV⟩) (bsO 10 (enc:=uU w0.heap.size) (xs:= [(⟨[],List.replicate l.length (-1)⟩)]) (css:= [[fre w0.heap.size (sl 1 nE []),fre w0.heap.size (sl 1 nE (List.replicate l.length (-1)))]]) T.rP ⟨J,J,pA (cs:= [fre w0.heap.size (sl 1 nE []),fre w0.heap.size (sl 1 nE (List.replicate l.length (-1)))]) J,tV⟩ J J J J fun v10=>(fzN sE 10 10 noM (fun _=>J) J J (bd (css:= [(0,_),(1,_)]) T.uB (eC (eC eZ)) ⟨J,J,p1 (φ:=fre w0.heap.size (sl 1 rE_ l)) J,⟨J,J,p1 (φ:=fre w0.heap.size (sl 2 sE [(⟨[],List.replicate l.length (-1)⟩)])) J,tV⟩⟩ (sPA (cs':= [fre w0.heap.size (sl 1 rE_ l),fre w0.heap.size (sl 2 sE [(⟨[],List.replicate l.length (-1)⟩)])]) J J J T.bA J J (nl (th (rt ?_))))))))))))))))))))))
 have hr0:l=(nothing l).aC:=by
  first|rfl|simp_all|omega
 have hr1: [(⟨[],List.replicate l.length (-1)⟩)]=(nothing l).sT:=by
  first|rfl|simp_all|omega
 exact rE () [.cell 2 28] J [agg [fre w0.heap.size (sl 1 rE_ l),fre w0.heap.size (sl 2 sE [(⟨[],List.replicate l.length (-1)⟩)])]] ⟨.agg J J T.bA J J,tV⟩ (cA2 (fun x0 x1=>rV [agg [fre w0.heap.size (sl 1 rE_ x0),fre w0.heap.size (sl 2 sE x1)]]) hr0 hr1) trivial eX
end prog8
end
section
open ref01 ref03 ref04 ref06 Rungs LeftM
namespace TrimM
theorem uD:∀(ks l:List Int),l.Nodup→(visit l ks).Nodup
 | [],l,h=>h
 |k::ks,l,h=>by
  rw[jF,List.foldl_cons]
  refine uD ks _ ?_
  unfold jZ
  split
  ·next hc=>
   simp only [Bool.and_eq_true,Bool.not_eq_true',decide_eq_true_eq] at hc
   exact BU h (fun hm=>by rw[List.contains_iff_mem.2 hm] at hc;cases hc.2)
  ·exact h
theorem AA (s:SS):∀i,(bq s i).Nodup
 |0=>by simp[bq]
 |i+1=>by
  show List.Nodup (if _ then _ else _)
  split
  ·exact uD _ _ (AA s i)
  ·exact AA s i
theorem uE (s:SS):(order s).Nodup:=AA s _
theorem fresh {l:List Int} (h:l.Nodup) {m:Nat} (hm:m<l.length):ix l m∉l.take m:=fun hx=>by
 have h1:(l.take (m+1)).Nodup:=h.sublist (List.take_sublist _ _)
 rw[bN hm,List.nodup_append] at h1
 exact h1.2.2 _ hx (ix l m) (by simp) rfl
def dN (l:List Int) (y:Int):Int:=match l.findIdx? (fun z=>decide (z=y)) with|some j=>(j:Int)|none=>0
def atL (n:Nat) (l:List Int):List Int:=(List.range n).map fun(y:Nat)=>dN l (y:Int)
theorem OV (n:Nat):List.replicate n 0=atL n []:=by
 unfold atL
 apply List.ext_getElem?
 intro j
 rw[List.getElem?_replicate,List.getElem?_map]
 split
 ·next h=>rw[List.getElem?_range h];rfl
 ·next h=>rw[List.getElem?_eq_none (by simpa using h)];rfl
theorem uX {l:List Int} {x:Int} (h:x∉l):dN (l++ [x]) x=(l.length:Int):=by
 unfold dN
 rw[List.findIdx?_append]
 have:l.findIdx? (fun z=>decide (z=x))=none:=by
  rw[List.findIdx?_eq_none_iff]
  intro z hz
  simp only [decide_eq_false_iff_not]
  exact fun e=>h (by rw[←e];exact hz)
 rw[this];simp
theorem tM {l:List Int} {x y:Int} (h:y≠x):dN (l++ [x]) y=dN l y:=by
 unfold dN
 rw[List.findIdx?_append]
 cases hf:l.findIdx? (fun z=>decide (z=y)) with
 |some j=>rfl
 |none=>
  have:([x]:List Int).findIdx? (fun z=>decide (z=y))=none:=by simp[Ne.symm h]
  rw[this];rfl
theorem OW {n:Nat} {l:List Int} {x:Int} (h:x∉l) (h0:0≤x) (h1:x<(n:Int)):(atL n l).set x.toNat (l.length:Int)=atL n (l++ [x]):=
 oU O (by rw[Int.toNat_of_nonneg h0,uX h]) (fun y _ hne=>tM O)
theorem Vl {n:Nat} {l:List Int} {y:Nat} (h:y<n):ix (atL n l) y=dN l (y:Int):=cG h
theorem IV (n:Nat) (l:List Int):(atL n l).length=n:=by simp[atL]
theorem fZ (l:List Int) (y:Int):0≤dN l y∧(dN l y<(l.length:Int)∨dN l y=0):=by
 unfold dN
 cases hf:l.findIdx? (fun z=>decide (z=y)) with
 |some j=>
  have:=(List.findIdx?_eq_some_iff_getElem.1 hf).1
  dsimp only;omega
 |none=>dsimp only;omega
theorem kD {l:List Int} {y:Int} (h:y∈l):dN l y<(l.length:Int)∧ix l (dN l y).toNat=y:=by
 unfold dN
 cases hf:l.findIdx? (fun z=>decide (z=y)) with
 |some j=>
  obtain⟨h1,h2,_⟩:=List.findIdx?_eq_some_iff_getElem.1 hf
  refine⟨by dsimp only;omega,?_⟩
  dsimp only
  rw[Int.toNat_natCast,aG h1]
  simpa using h2
 |none=>
  rw[List.findIdx?_eq_none_iff] at hf
  have:=hf y h
  simp at this
theorem IW {l:List Int} (hn:l.Nodup) {i:Nat} (hi:i<l.length):dN l (ix l i)=(i:Int):=by
 obtain⟨h1,h2⟩:=kD (gO hi)
 have h0:=(fZ l (ix l i)).1
 have hj:(dN l (ix l i)).toNat<l.length:=by omega
 have h3:l[(dN l (ix l i)).toNat]=l[i]:=by rw[←aG hj,h2,aG hi]
 have:=(List.getElem_inj hn).1 h3
 omega
noncomputable abbrev aJ (s:SS):List Int:=order (aQ s)
noncomputable def iQ (s:SS) (x:Int):List Int:=(List.range s.aC.length).map fun(a:Nat)=>if has (aV (keep s x.toNat)) (a:Int) then dN (aJ s) (ix (ix s.sT x.toNat).next a) else-1
noncomputable def fM (s:SS) (x:Int):SA:=⟨keep s x.toNat,iQ s x⟩
noncomputable def half (s:SS) (x:Int):SA:=⟨keep s x.toNat,[]⟩
noncomputable def aD (s:SS) (i:Nat):List SA:=(List.range (aJ s).length).map fun j=>if j<i then fM s (ix (aJ s) j) else half s (ix (aJ s) j)
noncomputable def tR (s:SS):SS × List Int:=if ix (hOl s) 0=true then(nothing s.aC,[]) else(⟨s.aC,(aJ s).map (fM s)⟩,aJ s)
theorem xY {α β:Type} [Inhabited α] (l:List α) (f:α→β):l.map f=(List.range l.length).map fun j=>f (ix l j):=by
 apply List.ext_getElem?
 intro j
 rw[List.getElem?_map,List.getElem?_map]
 by_cases h:j<l.length
 ·rw[List.getElem?_range h,List.getElem?_eq_getElem h];simp[aG h]
 ·rw[List.getElem?_eq_none O,List.getElem?_eq_none (by simpa using h)];rfl
theorem Mj (s:SS):aD s 0=(aJ s).map (half s):=by
 rw[xY]
 unfold aD
 simp
theorem OX (s:SS):aD s (aJ s).length=(aJ s).map (fM s):=by
 rw[xY]
 unfold aD
 exact List.map_congr_left (fun j hj=>by rw[if_pos (List.mem_range.1 hj)])
theorem OY (s:SS) (i:Nat):(aD s i).length=(aJ s).length:=by simp[aD]
theorem SB {s:SS} {i:Nat} (hi:i<(aJ s).length):ix (aD s i) i=half s (ix (aJ s) i):=by
 unfold aD
 rw[cG hi,if_neg O]
theorem Mk {s:SS} {i:Nat} (hi:i<(aJ s).length):(aD s i).set i (fM s (ix (aJ s) i))=aD s (i+1):=
 oU hi (by rw[if_pos O]) (fun j _ hne=>by
  by_cases h:j<i
  ·rw[if_pos h,if_pos O]
  ·rw[if_neg h,if_neg O])
noncomputable def nxL (s:SS) (x:Int) (m:Nat):List Int:=(List.range s.aC.length).map fun(a:Nat)=>if ((aL 63 (aV (keep s x.toNat))).take m).contains (a:Int) then dN (aJ s) (ix (ix s.sT x.toNat).next a) else-1
theorem OZ (s:SS) (x:Int):List.replicate s.aC.length (-1)=nxL s x 0:=by
 unfold nxL
 simp[List.map_const']
theorem Pb {s:SS} {x:Int} {m a:Nat} (h:(aL 63 (aV (keep s x.toNat)))[m]?=some (a:Int)) (ha:a<s.aC.length):(nxL s x m).set a (dN (aJ s) (ix (ix s.sT x.toNat).next a))=nxL s x (m+1):=by
 obtain⟨hm,he⟩:=List.getElem?_eq_some_iff.1 h
 have e:(aL 63 (aV (keep s x.toNat))).take (m+1)=(aL 63 (aV (keep s x.toNat))).take m++ [(a:Int)]:=by rw[List.take_succ_eq_append_getElem hm,he]
 refine oU ha ?_ (fun y _ hne=> ?_)
 ·rw[e,if_pos (by simp)]
 ·rw[e]
  have:(((aL 63 (aV (keep s x.toNat))).take m++ [(a:Int)]).contains (y:Int))=((aL 63 (aV (keep s x.toNat))).take m).contains (y:Int):=by
   rw[Bool.eq_iff_iff,List.contains_iff_mem,List.contains_iff_mem,List.mem_append]
   constructor
   ·rintro(h|h)
    ·exact h
    ·simp at h;omega
   ·exact .inl
  rw[this]
theorem SC {s:SS} (hs:oK s) (x:Int):nxL s x (aL 63 (aV (keep s x.toNat))).length=iQ s x:=by
 unfold nxL iQ
 rw[List.take_length]
 refine List.map_congr_left (fun a ha=> ?_)
 have ha:=List.mem_range.1 ha
 have hn:=hs.n8
 by_cases h:has (aV (keep s x.toNat)) (a:Int)=true
 ·rw[if_pos h,if_pos (List.contains_iff_mem.2 (dZ.2 ⟨a,rfl,O,h⟩))]
 ·rw[if_neg h,if_neg (fun hc=>h (by
   obtain⟨b,hb,_,hh⟩:=dZ.1 (List.contains_iff_mem.1 hc)
   have:b=a:=by omega
   subst this;exact hh))]
theorem Ml {s:SS} {m:Nat} {x:Int × List Int} (h:(pT s)[m]?=some x):ix (hOl s) 0=false∧m<(aJ s).length∧x.1=ix (aJ s) m∧x.2=keep s (ix (aJ s) m).toNat:=by
 unfold pT at h
 by_cases h0:ix (hOl s) 0=true
 ·rw[if_pos h0] at h;simp at h
 ·rw[if_neg h0,List.getElem?_map] at h
  have h00:ix (hOl s) 0=false:=by simpa using h0
  by_cases hm:m<(aJ s).length
  ·rw[List.getElem?_eq_getElem hm] at h
   simp at h
   subst h
   exact⟨h00,hm,(aG hm).symm,by rw[aG hm]⟩
  ·rw[List.getElem?_eq_none (show(aJ s).length≤m by omega)] at h;simp at h
theorem kT (s:SS):1≤(aJ s).length:=by
 have h:=tJ (aQ s) 0 (aQ s).sT.length
 rw[Nat.zero_add] at h
 exact h.length_le
theorem dC {s:SS} (h:ix (hOl s) 0=false):tR s=(⟨s.aC,(aJ s).map (fM s)⟩,aJ s):=by
 unfold tR;rw[if_neg (by simp[h])]
theorem fB {s:SS} (h:ix (hOl s) 0=true):tR s=(nothing s.aC,[]):=by
 unfold tR;rw[if_pos h]
end TrimM
end
section
open ref01 ref03 ref04 ref06 prog prog2 prog3 prog4 prog6 prog7 prog8 Part Rungs LeftM TrimM
namespace T
theorem Vm:Ent Tryz.prog 119:=aR kR
theorem Vn:Ent Tryz.prog 149:=aR kR
theorem Vo:Ent Tryz.prog 120:=aR kR
theorem z3:dM Tryz.prog 3 [.int .i64 0]:=cE kR
end T
namespace prog9
theorem wB (s:SS) (hs:oK s):
 AL.Fn Tryz.prog 73 [spec s] [] (ι:=Unit) (fun N _=>tup [agg [fre N (strs (tR s).1.aC),frb (ix (hOl s) 0) N (sl 2 sE (tR s).1.sT)],ints (tR s).2]) (fun _=> []):=by
 refine fnI Tryz.func73 rfl rfl (fun w0 F0=> ?_)
 have hf0:=hs.few0;have hf1:=hs.few1;have hn8:=hs.n8;have hoq:okQ s.sT.length (aJ s):=xR hs;have hol:(aJ s).length≤s.sT.length:=hoq.le;have hnd:(aJ s).Nodup:=uE _;have hop:=kT s
 refine fcC (bW 0 J) (fun hS0=> ?_)
 obtain⟨hsa0,hss0,hse0⟩:=sLn hS0
 refine sq (rg (bx (key:=1) (cs:= [sl 1 rE_ s.aC,sl 2 sE s.sT]) J fun b1=>(al (key:=2) T.z28 (eC (eC eZ)) fun b2=>(ag (nl (th (sq (rg (fP J T.eD (lP J J J T.dE (eI (φs:= [sl 1 rE_ s.aC]) (φ:=fre w0.heap.size (sl 1 rE_ s.aC)) ⟨J,tV⟩ (prog.fI _ O) T.rA (fun N hN=>fun h=>iW hN h) (bd (css:= [(0,_)]) T.uB (eC (eC eZ)) ⟨J,J,p1 (φ:=fre w0.heap.size (sl 1 rE_ s.aC)) J,tV⟩ (al (key:=4) T.z28 (eC (eC eZ)) fun b4=>(sPA (cs':= [fre w0.heap.size (sl 1 rE_ s.aC),eqv (.slice none 0 0)]) J J J T.bA J J (nl (th (sq (rg (al (key:=5) T.z66 (eC eZ) fun b5=>(nl (th (sq (rg (fP J T.bO (lP J J J T.cM (fc (bL 21 J) fun hm21=>(lnF J T.dB (mk (key:=23) (m:=s.sT.length) (enc:=nE) (y:=(0:Int)) J J T.cQ (eC eZ) mL mL fun v23=>(al (key:=6) T.z66 (eC eZ) fun b6=>(cK J J J J T.bF J (nl (th (sq (sq (rg (nw 50 3 1 nE (knc 5 0 (osl 50 (.slice none 0 0)) J J dR (nw 40 79 2 sE (knc 4 1 (osl 40 (.slice none 0 0)) J J dR (lPA J J T.bA J (bI (φs:= [agg [sl 1 rE_ s.aC,sl 2 sE s.sT]]) (φ:=clo 149 [fp [sl 1 rE_ s.aC,sl 2 sE s.sT]]) ⟨J,tV⟩ (prog7.Sz s) T.Vm (nl (th (bk ?_))))))))))))))))))))))))))))))))))))))))))))
 have hR0:(List.replicate s.sT.length (0:Int))=atL s.sT.length ((aJ s).take 0)∧([]:List Int)=(if ix (hOl s) 0=true then [] else(aJ s).take 0)∧([]:List SA)=([]:List Int).map (half s):=by
  exact⟨OV _,by split<;>rfl,rfl⟩
 refine rf (κ:=(List Int) × Value × (List Int) × Value × (List SA)) 900 (fun p=> [(1,cell b1 [sl 1 rE_ s.aC,sl 2 sE s.sT]),(2,cell b2 [eqv (.slice none 0 0),eqv (.slice none 0 0)]),(4,cell b4 [fre w0.heap.size (sl 1 rE_ s.aC),osl 40 p.2.2.2.1]),(5,cell b5 [osl 50 p.2.1]),(6,cell b6 [osl 23 v23]),(23,own v23 3 1 nE p.1),(40,own p.2.2.2.1 79 2 sE p.2.2.2.2),(50,own p.2.1 3 1 nE p.2.2.1)]) (fun iR p=>p.1=atL s.sT.length ((aJ s).take iR)∧p.2.2.1=(if ix (hOl s) 0=true then [] else(aJ s).take iR)∧p.2.2.2.2=p.2.2.1.map (half s)) (fun c p=>False) J (Vh s hs) T.Vn J (fun _=>J) (fun _=>J) ⟨List.replicate s.sT.length (0:Int),(.slice none 0 0),([]:List Int),(.slice none 0 0),([]:List SA)⟩ hR0 ⟨rI,rI,rI,rI,rI,rI,rI,rI,tV⟩ ?_ ?_ (fun k h=>h.elim) (fun id k h=>h.elim) (fun c k h=>h.elim)
 ·intro m0 ⟨at_,u50,fr,u40,sts⟩ x0 hG0 hx0 l R w1 M1 F1 hRd
  have hR0:at_=atL s.sT.length ((aJ s).take m0)∧fr=(if ix (hOl s) 0=true then [] else(aJ s).take m0)∧sts=fr.map (half s):=hG0
  show Ct _ _ _ _ _ ((900,obj l (.loop R)):: [(1,cell b1 [sl 1 rE_ s.aC,sl 2 sE s.sT]),(2,cell b2 [eqv (.slice none 0 0),eqv (.slice none 0 0)]),(4,cell b4 [fre w0.heap.size (sl 1 rE_ s.aC),osl 40 u40]),(5,cell b5 [osl 50 u50]),(6,cell b6 [osl 23 v23]),(23,own v23 3 1 nE at_),(40,own u40 79 2 sE sts),(50,own u50 3 1 nE fr)]) _
  obtain⟨h00,hm0,hxa,hxb⟩:=Ml hx0
  have hob:=hoq.1 m0 hm0
  have hal:at_.length=s.sT.length:=by rw[hR0.1];exact IV _ _
  have hfl:fr.length=m0:=by rw[hR0.2.1,if_neg (by simp[h00])];simp;omega
  have hstl:sts.length=m0:=by rw[hR0.2.2];simp[hfl]
  refine sq (rg (ag (nl (th (rg (ag (nl (aq hRd J (bk (sq (rg (lP J J J T.bF (mv (lP J J J T.bF (lnO J J T.aT (iO J J J T.aT O O (sO (φ:=int (fr.length:Int)) J J J T.aH gB J (y':=(fr.length:Int)) J (nl (th (sq (rg (lP J J J T.bF (mv (bsE (enc:=nE) (xs:= [x0.1]) (css:= [[int x0.1]]) T.cQ ⟨J,J,p1 (φ:=int x0.1) J,tV⟩ J J J J (ap (key:=50) (zs:= [x0.1]) cB J J J T.cQ (by unfold aN at*;simp;omega) (by unfold aN at*;simp;omega) fun v36=>(cK J J J J T.bF J (nl (th (rg (fP J T.bO (lP J J J T.cM (mv (bd (css:= [(0,_)]) T.Aq (eC (eC eZ)) ⟨J,J,p1 (φ:=sl 1 nE x0.2) J,tV⟩ (kn 40 (agg [sl 1 nE x0.2,sl 1 nE []]) J (cV (cs:= [sl 1 nE x0.2,eqv (.slice none 0 0)]) (ds:= [sl 1 nE x0.2,sl 1 nE []]) ⟨fun h=>h,fun h=>slnil h,tV⟩) (bsE (enc:=sE) (xs:= [(⟨x0.2,[]⟩)]) (css:= [[sl 1 nE x0.2,sl 1 nE []]]) T.rP ⟨J,J,pA (cs:= [sl 1 nE x0.2,sl 1 nE []]) J,tV⟩ J J J J (ap (key:=40) (zs:= [(⟨x0.2,[]⟩)]) cB J J J T.rP (by unfold aN at*;simp;omega) (by unfold aN at*;simp;omega) fun v42=>(fP J T.bO (cK J J J J T.cM J (nl (eb ?_))))))))))))))))))))))))))))))))))))))))
  have hN0:(at_.set x0.1.toNat (fr.length:Int))=atL s.sT.length ((aJ s).take (m0+1))∧(fr++ [x0.1])=(if ix (hOl s) 0=true then [] else(aJ s).take (m0+1))∧(sts++ [(⟨x0.2,[]⟩)])=(fr++ [x0.1]).map (half s):=by
   have hfl2:fr.length=((aJ s).take m0).length:=by rw[hfl];simp;omega
   refine⟨?_,?_,?_⟩
   ·rw[hR0.1,hxa,hfl2,bN hm0,OW (fresh hnd hm0) hob.1 hob.2]
   ·rw[if_neg (by simp[h00]),bN hm0,hR0.2.1,if_neg (by simp[h00]),hxa]
   ·rw[List.map_append,←hR0.2.2,hxb,hxa];rfl
  exact rqN ⟨at_.set x0.1.toNat (fr.length:Int),v36,fr++ [x0.1],v42,sts++ [(⟨x0.2,[]⟩)]⟩ hN0 ⟨rI,rI,rI,rI,rI,rI,rI,rI,rI,tV⟩
 ·intro⟨at_,u50,fr,u40,sts⟩ hG0
  have hR0:at_=atL s.sT.length ((aJ s).take (pT s).length)∧fr=(if ix (hOl s) 0=true then [] else(aJ s).take (pT s).length)∧sts=fr.map (half s):=hG0
  show At _ _ _ _ [(1,cell b1 [sl 1 rE_ s.aC,sl 2 sE s.sT]),(2,cell b2 [eqv (.slice none 0 0),eqv (.slice none 0 0)]),(4,cell b4 [fre w0.heap.size (sl 1 rE_ s.aC),osl 40 u40]),(5,cell b5 [osl 50 u50]),(6,cell b6 [osl 23 v23]),(23,own v23 3 1 nE at_),(40,own u40 79 2 sE sts),(50,own u50 3 1 nE fr)]
  refine eb (th (sq (sq (rg (lP rfl rfl rfl T.bF (lnO rfl rfl T.aT (bi rfl rfl gF (nl (th ?_)))))))))
  refine cd J (fun hc0=> ?_) (fun hc0=> ?_)
  ·try simp at hc0
   have hh0:ix (hOl s) 0=true:=by
    cases h:ix (hOl s) 0 with
    |true=>rfl
    |false=>
     exfalso
     have h2:=hR0.2.1
     rw[if_neg (by simp[h]),tL h,List.take_length] at h2
     have h3:=hop
     rw[hc0] at h2
     rw[show aJ s= [] from h2.symm] at h3
     simp at h3
   refine sq (rg (fP J T.eD (lP J J J T.dE (eI (φs:= [sl 1 rE_ s.aC]) (φ:=agg [fre w0.heap.size (sl 1 rE_ (nothing s.aC).aC),fre w0.heap.size (sl 2 sE (nothing s.aC).sT)]) ⟨J,tV⟩ (prog8.Ky s.aC O) T.Vo (fun N hN=>fun h=>cV (cs:= [fre N (sl 1 rE_ (nothing s.aC).aC),fre N (sl 2 sE (nothing s.aC).sT)]) (ds:= [fre w0.heap.size (sl 1 rE_ (nothing s.aC).aC),fre w0.heap.size (sl 2 sE (nothing s.aC).sT)]) ⟨fun h=>iW hN h,fun h=>iW hN h,tV⟩ h) (sPA (cs':= [fre w0.heap.size (sl 1 rE_ (nothing s.aC).aC),fre w0.heap.size (sl 2 sE (nothing s.aC).sT)]) J J J T.bA J J (ag (nl (th (rt (rt_ ?_))))))))))
   refine eB 2 1 (frb (ix (hOl s) 0) w0.heap.size (sl 2 sE (nothing s.aC).sT)) rfl rfl (Xn hh0) ?_
   refine knA 3 (sl 1 nE []) rfl slnil ?_
   have hr0:(nothing s.aC).aC=((tR s).1.aC):=by
    rw[fB hh0]
   have hr1:(nothing s.aC).sT=((tR s).1.sT):=by
    rw[fB hh0]
   have hr2: []=((tR s).2):=by
    rw[fB hh0]
   exact rE () [.cell 2 28,.tmp 3] J [agg [fre w0.heap.size (sl 1 rE_ (nothing s.aC).aC),frb (ix (hOl s) 0) w0.heap.size (sl 2 sE (nothing s.aC).sT)],sl 1 nE []] ⟨.agg J J T.bA J J,.tmp J,tV⟩ (cA3 (fun x0 x1 x2=>rV [agg [fre w0.heap.size (sl 1 rE_ x0),frb (ix (hOl s) 0) w0.heap.size (sl 2 sE x1)],sl 1 nE x2]) hr0 hr1 hr2) trivial eX
  ·try simp at hc0
   have h00:ix (hOl s) 0=false:=by
    cases h:ix (hOl s) 0 with
    |false=>rfl
    |true=>exact absurd (by rw[hR0.2.1,if_pos h]) hc0
   have hfr:fr=aJ s:=by rw[hR0.2.1,if_neg (by simp[h00]),tL h00,List.take_length]
   have hat:at_=atL s.sT.length (aJ s):=by rw[hR0.1,tL h00,List.take_length]
   have hfl:fr.length=(aJ s).length:=by rw[hfr]
   have hal:at_.length=s.sT.length:=by rw[hat];exact IV _ _
   refine sk (th (sq (sq (rg (lP J J J T.bF (lnO J J T.aT (mv (nl (th (bk ?_))))))))))
   have hI0_0:0≤fr.length:=by
    first|omega|simp
   have hI0_1:sts=aD s 0:=by
    rw[hR0.2.2,hfr,Mj]
   refine lp (κ:=Nat × (List SA)) (fun p=> [(1,ptr 1 b1 0),(2,ptr 2 b2 0),(3,eqv (.slice none 0 0)),(4,ptr 4 b4 0),(5,ptr 5 b5 0),(6,ptr 6 b6 0),(50,osl 50 u50),(51,int (fr.length:Int)),(52,int (p.1:Int))]) (fun p=> [(1,cell b1 [sl 1 rE_ s.aC,sl 2 sE s.sT]),(2,cell b2 [eqv (.slice none 0 0),eqv (.slice none 0 0)]),(4,cell b4 [fre w0.heap.size (sl 1 rE_ s.aC),osl 40 u40]),(5,cell b5 [osl 50 u50]),(6,cell b6 [osl 23 v23]),(23,own v23 3 1 nE at_),(40,own u40 79 2 sE p.2),(50,own u50 3 1 nE fr)]) (fun p=>(p.1≤fr.length)∧(p.2=aD s p.1)) (fun p=>fr.length- p.1) ⟨0,sts⟩ ⟨hI0_0,hI0_1⟩ ⟨id,id,id,id,id,id,id,id,id,tV⟩ ⟨rI,rI,rI,rI,rI,rI,rI,rI,tV⟩ ?_
   intro⟨k,sts2⟩ hG0
   obtain⟨hk0,hI0⟩:(k≤fr.length)∧(sts2=aD s k):=hG0
   show Ct _ _ _ _ [(1,ptr 1 b1 0),(2,ptr 2 b2 0),(3,eqv (.slice none 0 0)),(4,ptr 4 b4 0),(5,ptr 5 b5 0),(6,ptr 6 b6 0),(50,osl 50 u50),(51,int (fr.length:Int)),(52,int (k:Int))] [(1,cell b1 [sl 1 rE_ s.aC,sl 2 sE s.sT]),(2,cell b2 [eqv (.slice none 0 0),eqv (.slice none 0 0)]),(4,cell b4 [fre w0.heap.size (sl 1 rE_ s.aC),osl 40 u40]),(5,cell b5 [osl 50 u50]),(6,cell b6 [osl 23 v23]),(23,own v23 3 1 nE at_),(40,own u40 79 2 sE sts2),(50,own u50 3 1 nE fr)] _
   have hsl:sts2.length=(aJ s).length:=by rw[hI0];exact OY s k
   refine sq (rg (bi J J aZ (nl (th (sq ?_)))))
   refine cd J (fun hc1=> ?_) (fun hc1=> ?_)
   ·try simp at hc1
    have hkl:k<(aJ s).length:=by omega
    have hob:=hoq.1 k hkl
    rw[←hfr] at hob
    have hxn:(ix fr k).toNat<s.sT.length:=by omega
    have hox:=hs.st _ hxn
    have hacl:=hox.acl
    have hxl:=hox.len
    have hhf:ix sts2 k=half s (ix fr k):=by rw[hI0,hfr];exact SB hkl
    have hha:(ix sts2 k).aP=keep s (ix fr k).toNat:=by rw[hhf];rfl
    refine sk (th (sq (bk (sq (rg (mv (iO J J J T.aT O O (lO J J gB J T.aH (al (key:=10) T.z3 (eC eZ) fun b10=>(ag (sP (φ:=int (ix fr k)) J J J T.aH J (nl (th (sq (rg (ag (nl (th (sq (sq (rg (fP J T.bO (lP J J J T.cM (mv (iO J J J T.dB O O (fO J T.cY (lO J J gB J T.bF (fc (bL 62 J) fun hm62=>(lnF J T.aT (mv (nl (th (bk ?_)))))))))))))))))))))))))))))))))
    have hI1_0:0≤(ix sts2 k).aP.length:=by
     first|omega|simp
    have hI1_1:(0:Int)=aV ((keep s (ix fr k).toNat).take 0)∧0≤(0:Int)∧(0:Int)<256:=by
     exact⟨rfl,O,O⟩
    refine lp (κ:=Nat × Int) (fun p=> [(1,ptr 1 b1 0),(2,ptr 2 b2 0),(3,eqv (.slice none 0 0)),(4,ptr 4 b4 0),(5,ptr 5 b5 0),(6,ptr 6 b6 0),(9,int (k:Int)),(10,ptr 10 b10 0),(11,int p.2),(50,osl 50 u50),(51,int (fr.length:Int)),(52,int (k:Int)),(62,sl 1 nE (ix sts2 k).aP),(63,int ((ix sts2 k).aP.length:Int)),(64,int (p.1:Int))]) (fun p=> [(1,cell b1 [sl 1 rE_ s.aC,sl 2 sE s.sT]),(2,cell b2 [eqv (.slice none 0 0),eqv (.slice none 0 0)]),(4,cell b4 [fre w0.heap.size (sl 1 rE_ s.aC),osl 40 u40]),(5,cell b5 [osl 50 u50]),(6,cell b6 [osl 23 v23]),(10,cell b10 [int (ix fr k)]),(23,own v23 3 1 nE at_),(40,own u40 79 2 sE sts2),(50,own u50 3 1 nE fr)]) (fun p=>(p.1≤(ix sts2 k).aP.length)∧(p.2=aV ((keep s (ix fr k).toNat).take p.1)∧0≤p.2∧p.2<256)) (fun p=>(ix sts2 k).aP.length- p.1) ⟨0,(0:Int)⟩ ⟨hI1_0,hI1_1⟩ ⟨id,id,id,id,id,id,id,id,id,id,id,id,id,id,id,tV⟩ ⟨rI,rI,rI,rI,rI,rI,rI,rI,rI,tV⟩ ?_
    intro⟨k1,cn⟩ hG1
    obtain⟨hk1,hI1⟩:(k1≤(ix sts2 k).aP.length)∧(cn=aV ((keep s (ix fr k).toNat).take k1)∧0≤cn∧cn<256):=hG1
    show Ct _ _ _ _ [(1,ptr 1 b1 0),(2,ptr 2 b2 0),(3,eqv (.slice none 0 0)),(4,ptr 4 b4 0),(5,ptr 5 b5 0),(6,ptr 6 b6 0),(9,int (k:Int)),(10,ptr 10 b10 0),(11,int cn),(50,osl 50 u50),(51,int (fr.length:Int)),(52,int (k:Int)),(62,sl 1 nE (ix sts2 k).aP),(63,int ((ix sts2 k).aP.length:Int)),(64,int (k1:Int))] [(1,cell b1 [sl 1 rE_ s.aC,sl 2 sE s.sT]),(2,cell b2 [eqv (.slice none 0 0),eqv (.slice none 0 0)]),(4,cell b4 [fre w0.heap.size (sl 1 rE_ s.aC),osl 40 u40]),(5,cell b5 [osl 50 u50]),(6,cell b6 [osl 23 v23]),(10,cell b10 [int (ix fr k)]),(23,own v23 3 1 nE at_),(40,own u40 79 2 sE sts2),(50,own u50 3 1 nE fr)] _
    refine sq (rg (bi J J aZ (nl (th (sq ?_)))))
    refine cd J (fun hc2=> ?_) (fun hc2=> ?_)
    ·try simp at hc2
     have hkb:0≤ix (ix sts2 k).aP k1∧ix (ix sts2 k).aP k1<256:=by
         rw[hha] at hc2 ⊢
         exact qC hox (Az (gO hc2)).1
     refine sk (th (sq (bk (sq (rg (iF J J T.aT O gB (lF J J T.aH (ag (nl (th (rg (mv (mv (bi J J (Bw O O O O) (ag (nl (eb (th (rg (bi J J (aM i6) (mv (nl ?_))))))))))))))))))))))
     have hN0:(k1+1)≤((ix sts2 k).aP).length:=by
         first|omega|simp_all
     have hN1:((cn.toNat|||((ix ((ix sts2 k).aP) k1).toNat):Nat):Int)=aV ((keep s (ix fr k).toNat).take (k1+1))∧0≤((cn.toNat|||((ix ((ix sts2 k).aP) k1).toNat):Nat):Int)∧((cn.toNat|||((ix ((ix sts2 k).aP) k1).toNat):Nat):Int)<256:=by
         refine⟨?_,O,oR hI1.2.2 hkb.2⟩
         rw[bN (by rw[←hha];omega),jP,←hI1.1,hha]
     exact ln (⟨k1+1,((cn.toNat|||(ix (ix sts2 k).aP k1).toNat:Nat):Int)⟩:Nat × Int) ⟨hN0,hN1⟩ dO ⟨id,id,id,id,id,id,id,id,id,id,id,id,id,id,id,tV⟩ ⟨rI,rI,rI,rI,rI,rI,rI,rI,rI,tV⟩
    ·try simp at hc2
     have hcn:cn=aV (keep s (ix fr k).toNat):=by rw[hI1.1,show k1=(keep s (ix fr k).toNat).length by rw[←hha];omega,List.take_length]
     refine ex (xt_ (xt_ (xb (th (sq (rg (bsE (enc:=nE) (xs:= [(-1)]) (css:= [[int (-1)]]) T.cQ ⟨J,J,p1 (φ:=int (-1)) J,tV⟩ J J J J (fP J T.eD (lP J J J T.dE (fc (bL 74 J) fun hm74=>(lnF J T.iL (cl (prog8.xX s.aC.length O) T.Kx trivial fun N76 v76=>(al (key:=14) T.z66 (eC eZ) fun b14=>(cK J J J J T.bF J (nl (th (sq (sq (rg (mv (bI (φs:= [int cn]) (φ:=clo 137 [fp [int cn]]) ⟨J,tV⟩ (prog3.vY cn) T.wA (nl (th (bk ?_))))))))))))))))))))))))
     have hR1:(List.replicate s.aC.length (-1))=nxL s (ix fr k) 0:=by
         exact OZ _ _
     refine rf (κ:=(List Int)) 901 (fun p=> [(1,cell b1 [sl 1 rE_ s.aC,sl 2 sE s.sT]),(2,cell b2 [eqv (.slice none 0 0),eqv (.slice none 0 0)]),(4,cell b4 [fre w0.heap.size (sl 1 rE_ s.aC),osl 40 u40]),(5,cell b5 [osl 50 u50]),(6,cell b6 [osl 23 v23]),(10,cell b10 [int (ix fr k)]),(14,cell b14 [osl 30 v76]),(23,own v23 3 1 nE at_),(30,own v76 3 1 nE p),(40,own u40 79 2 sE sts2),(50,own u50 3 1 nE fr)]) (fun iR p=>p=nxL s (ix fr k) iR) (fun c p=>False) J (Au cn O O) T.rW J (fun _=>J) (fun _=>J) (List.replicate s.aC.length (-1)) hR1 ⟨rI,rI,rI,rI,rI,rI,rI,rI,rI,rI,rI,tV⟩ ?_ ?_ (fun k h=>h.elim) (fun id k h=>h.elim) (fun c k h=>h.elim)
     ·intro m1 nx x1 hG1 hx1 l R w1 M1 F1 hRd
      have hR1:nx=nxL s (ix fr k) m1:=hG1
      obtain⟨a,rfl,ha63,hha2⟩:=lL hx1
      rw[hcn] at hx1 hha2
      have hgo:=kS hs hxn hha2
      have hnl:nx.length=s.aC.length:=by rw[hR1];simp[nxL]
      refine rg (ag (nl (aq hRd J (bk (dr (nh:=15) [0,0,0,0,8,0,56,120,248,0,1016,2040,4092,8188,16383,32767] T.mixed kR ?_)))))
      refine st_ J (fun _ _ _ gq kq=>lP (gq.1.trans J) J J T.bF kq) ?_
      refine st_ J (fun _ _ _ gq kq=>mv' (gq.1.trans J) kq) ?_
      refine st_ J (fun _ _ _ gq kq=>lP (gq.1.trans J) J J T.bF kq) ?_
      refine st_ J (fun _ _ _ gq kq=>fP (gq.1.trans J) T.bO kq) ?_
      refine st_ J (fun _ _ _ gq kq=>lP (gq.1.trans J) J J T.cM kq) ?_
      refine st_ J (fun _ _ _ gq kq=>lP (gq.1.trans J) J J T.aH kq) ?_
      refine st_ J (fun _ _ _ gq kq=>iF (gq.1.trans J) (gq.2.1.trans J) T.dB O gB kq) ?_
      refine st_ J (fun _ _ _ gq kq=>fF (gq.1.trans J) T.eM kq) ?_
      refine st_ J (fun _ _ _ gq kq=>lF (gq.1.trans J) J T.bF kq) ?_
      refine st_ J (fun _ _ _ gq kq=>mv' (gq.1.trans J) kq) ?_
      refine st_ J (fun _ _ _ gq kq=>iF (gq.1.trans J) (gq.2.1.trans J) T.aT O gB kq) ?_
      refine st_ J (fun _ _ _ gq kq=>lF (gq.1.trans J) J T.aH kq) ?_
      refine st_ J (fun _ _ _ gq kq=>iO (gq.1.trans J) J (gq.2.1.trans J) T.aT O O kq) ?_
      refine st_ J (fun _ _ _ gq kq=>lO (gq.1.trans J) J gB J T.aH kq) ?_
      refine st_ J (fun _ _ _ gq kq=>iO (gq.1.trans J) J (gq.2.1.trans J) T.aT O O kq) ?_
      refine pn (sO (φ:=int (ix at_ (ix (ix s.sT (ix fr k).toNat).next a).toNat)) J J J T.aH gB J (y':=(ix at_ (ix (ix s.sT (ix fr k).toNat).next a).toNat)) J (nl (eb ?_)))
      have hN0:(nx.set a (ix at_ ((ix ((ix s.sT ((ix fr k).toNat)).next) a).toNat)))=nxL s (ix fr k) (m1+1):=by
         rw[←Pb hx1 O,←hR1,hat,Vl O,Int.toNat_of_nonneg hgo.2.1]
      exact rqN (nx.set a (ix at_ (ix (ix s.sT (ix fr k).toNat).next a).toNat)) hN0 ⟨rI,rI,rI,rI,rI,rI,rI,rI,rI,rI,rI,rI,tV⟩
     ·intro nx hG1
      have hR1:nx=nxL s (ix fr k) (aL 63 cn).length:=hG1
      refine eb (th (rg (fP rfl T.bO (lP rfl rfl rfl T.cM (mv (lP rfl rfl rfl T.bF (iO rfl rfl rfl T.dB O O (fO rfl T.eM (fz 30 98 rfl rfl (sO (φ:=sl 1 nE nx) rfl rfl rfl T.bF (gN O) rfl (y':=⟨(ix sts2 k).aP,nx⟩) rfl (nl (eb (th (rg (bi rfl rfl (aM i6) (mv (nl ?_)))))))))))))))))
      have hN0:(k+1)≤fr.length:=by
         first|omega|simp_all
      have hN1:(sts2.set k (⟨(ix sts2 k).aP,nx⟩))=aD s (k+1):=by
         rw[hcn,SC hs] at hR1
         rw[←Mk hkl,←hI0,hR1,hha]
         rw[show ix fr k=ix (aJ s) k by rw[hfr]]
         rfl
      exact ln (⟨k+1,sts2.set k (⟨(ix sts2 k).aP,nx⟩)⟩:Nat × (List SA)) ⟨hN0,hN1⟩ dO ⟨id,id,id,id,id,id,id,id,id,tV⟩ ⟨rI,rI,rI,rI,rI,rI,rI,rI,tV⟩
   ·try simp at hc1
    refine ex (xt_ (xt_ (xb (th (sq (Oz 4 40 1 J J J J (Oz 5 50 0 J J J J ?_)))))))
    refine drH (nh:=4) [0,0,1,7] [(none,[4]),(none,[5]),(some 2,[2]),(none,[])] T.mixed kR kR ?_
    refine stv (d:=102) (fun β0=>agg [fre w0.heap.size (sl 1 rE_ s.aC),sl 2 sE sts2]) [4] J bH (fun β0 _ _ _ _ gq gh kq=>lPA (gq.1.trans J) (gh.1.trans J) T.bA J kq) ?_
    refine stv (d:=103) (fun β0=>sl 1 nE fr) [5] J bH (fun β0 _ _ _ _ gq gh kq=>lP (gq.1.trans J) (gh.1.trans J) J T.bF kq) ?_
    refine stw 2 (fun β0=>cell b2 [fre w0.heap.size (sl 1 rE_ s.aC),sl 2 sE sts2]) [2] J bH (fun β0 _ _ _ _ gq gh kq=>sPA (cs':= [fre w0.heap.size (sl 1 rE_ s.aC),sl 2 sE sts2]) (gq.1.trans J) (gh.1.trans J) (gq.2.1.trans J) T.bA J J kq) ?_
    refine stv (d:=3) (fun β0=>sl 1 nE fr) [] J bH (fun β0 _ _ _ _ gq gh kq=>ag' (gq.1.trans J) kq) ?_
    refine pnH fun β0=>(nl (th (rt ?_)))
    refine eB 2 1 (frb (ix (hOl s) 0) w0.heap.size (sl 2 sE sts2)) rfl rfl (Xo h00) ?_
    have hr0:s.aC=((tR s).1.aC):=by
     rw[dC h00]
    have hr1:sts2=((tR s).1.sT):=by
     rw[dC h00,hI0,show k=(aJ s).length by omega,OX]
    have hr2:fr=((tR s).2):=by
     rw[dC h00,hfr]
    exact rE () [.cell 2 28,.tmp 3] J [agg [fre w0.heap.size (sl 1 rE_ s.aC),frb (ix (hOl s) 0) w0.heap.size (sl 2 sE sts2)],sl 1 nE fr] ⟨.agg J J T.bA J J,.tmp J,tV⟩ (cA3 (fun x0 x1 x2=>rV [agg [fre w0.heap.size (sl 1 rE_ x0),frb (ix (hOl s) 0) w0.heap.size (sl 2 sE x1)],sl 1 nE x2]) hr0 hr1 hr2) trivial eX
end prog9
end
section
open Go.Shelf
namespace Itoa
def Ih:Go.Shelf.Ren:=⟨fun|171=>189|243=>204|246=>219|283=>205|284=>206|285=>207|286=>208|129=>174|317=>220|318=>221|319=>222|320=>223|337=>227|338=>228|n=>n,fun|3=>3|9=>9|2=>2|4=>4|171=>251|0=>0|53=>219|37=>181|5=>5|173=>253|212=>267|51=>216|20=>20|213=>268|46=>183|232=>272|233=>273|n=>n,fun|17=>0|18=>1|19=>2|n=>n⟩
theorem SD:LaysM.n171 Tryz.prog Ih where
 mixed:=by kernel_rfl
 f129:=Tryz.func174.trans (congrArg some kR)
 f171:=Tryz.func189.trans (congrArg some kR)
 f243:=Tryz.func204.trans (congrArg some kR)
 f246:=Tryz.func219.trans (congrArg some kR)
 f283:=Tryz.func205.trans (congrArg some kR)
 f284:=Tryz.func206.trans (congrArg some kR)
 f285:=Tryz.func207.trans (congrArg some kR)
 f286:=Tryz.func208.trans (congrArg some kR)
 f317:=Tryz.func220.trans (congrArg some kR)
 f318:=Tryz.func221.trans (congrArg some kR)
 f319:=Tryz.func222.trans (congrArg some kR)
 f320:=Tryz.func223.trans (congrArg some kR)
 f337:=Tryz.func227.trans (congrArg some kR)
 f338:=Tryz.func228.trans (congrArg some kR)
 t0:=Tryz.underlying0
 a0:=Tryz.isAgg0
 z0:=Tryz.sizeOf0
 v0:=Tryz.zeroValue0
 t2:=Tryz.underlying2
 a2:=Tryz.isAgg2
 z2:=Tryz.sizeOf2
 v2:=Tryz.zeroValue2
 t3:=Tryz.underlying3
 a3:=Tryz.isAgg3
 z3:=Tryz.sizeOf3
 v3:=Tryz.zeroValue3
 t4:=Tryz.underlying4
 a4:=Tryz.isAgg4
 z4:=Tryz.sizeOf4
 v4:=Tryz.zeroValue4
 t5:=Tryz.underlying5
 a5:=Tryz.isAgg5
 z5:=Tryz.sizeOf5
 v5:=Tryz.zeroValue5
 t9:=Tryz.underlying9
 a9:=Tryz.isAgg9
 z9:=Tryz.sizeOf9
 v9:=Tryz.zeroValue9
 t20:=Tryz.underlying20
 a20:=Tryz.isAgg20
 z20:=Tryz.sizeOf20
 v20:=Tryz.zeroValue20
 t37:=Tryz.underlying181
 a37:=Tryz.isAgg181
 z37:=Tryz.sizeOf181
 v37:=Tryz.zeroValue181
 t46:=Tryz.underlying183
 a46:=Tryz.isAgg183
 z46:=Tryz.sizeOf183
 v46:=Tryz.zeroValue183
 t51:=Tryz.underlying216
 a51:=Tryz.isAgg216
 z51:=Tryz.sizeOf216
 v51:=Tryz.zeroValue216
 t53:=Tryz.underlying219
 a53:=Tryz.isAgg219
 z53:=Tryz.sizeOf219
 v53:=Tryz.zeroValue219
 t171:=Tryz.underlying251
 a171:=Tryz.isAgg251
 z171:=Tryz.sizeOf251
 v171:=Tryz.zeroValue251
 t173:=Tryz.underlying253
 a173:=Tryz.isAgg253
 z173:=Tryz.sizeOf253
 v173:=Tryz.zeroValue253
 t212:=Tryz.underlying267
 a212:=Tryz.isAgg267
 z212:=Tryz.sizeOf267
 v212:=Tryz.zeroValue267
 t213:=Tryz.underlying268
 a213:=Tryz.isAgg268
 z213:=Tryz.sizeOf268
 t232:=Tryz.underlying272
 a232:=Tryz.isAgg272
 z232:=Tryz.sizeOf272
 v232:=Tryz.zeroValue272
 t233:=Tryz.underlying273
 a233:=Tryz.isAgg273
 z233:=Tryz.sizeOf273
 v233:=Tryz.zeroValue273
 g17:=by kernel_rfl
 g18:=by kernel_rfl
 g19:=by kernel_rfl
 i0:=by kernel_rfl
 i2:=by kernel_rfl
 i3:=by kernel_rfl
 i4:=by kernel_rfl
 i5:=by kernel_rfl
 i9:=by kernel_rfl
 i20:=by kernel_rfl
 i37:=by kernel_rfl
 i46:=by kernel_rfl
 i51:=by kernel_rfl
 i53:=by kernel_rfl
 i171:=by kernel_rfl
 i173:=by kernel_rfl
 i212:=by kernel_rfl
 i232:=by kernel_rfl
 i233:=by kernel_rfl
 m17:=by kernel_rfl
 m18:=by kernel_rfl
 m19:=by kernel_rfl
def Df:String:= "internal/strconv.uint64pow10"
def tab:AV:=⟨fun w F _=> ∃g,Tryz.prog.globalNamed Df=some g∧F g∧Lib.TabIs Tryz.prog w Df .u64 Lib.pow10Tab,fun {w F w' F' v} hF hw ⟨g,h1,h2,h3⟩=>⟨g,h1,hF g h2,by
 unfold Lib.TabIs World.var? at h3 ⊢
 rw[h1] at h3 ⊢
 simp only [Option.bind_some] at h3 ⊢
 rw[hw g h2];exact h3⟩⟩
instance:Amb tab:=⟨fun _ h=>h⟩
abbrev mE (φ:AV):AV:=both φ tab
def lM (n:Int):ByteArray:=⟨(Lib.itoa n).toArray⟩
theorem En {n:Int} (h0: -9223372036854775808≤n) (h1:n≤9223372036854775807):(lM n).size≤21:=by
 have:=Lib.itoa_length_le n h0 h1
 show(Lib.itoa n).toArray.size≤21
 simpa using this
attribute [local semireducible] eqv emp in
theorem IX (n:Int) (h0: -9223372036854775808≤n) (h1:n≤9223372036854775807):Fn0 Tryz.prog 189 [mE (int n)] (str (lM n)):=by
 intro w F vs hvs hb hH
 match vs,hvs with
 | [v],⟨⟨hv,g,hg,hF,ht⟩,_⟩=>
   have hv:v= .int .i64 n:=hv
   subst hv
   refine(Any.strconv_Itoa SD n h0 h1 w ht).mono ?_
   rintro e w' ⟨rfl,k,os,rfl⟩
   refine⟨(),_,F,rfl,?_⟩
   have hheap:∀b,b<w.heap.size→(Sort.grow (w.drewN k) os).heap[b]?=w.heap[b]?:=fun b hb=>by
     show(w.heap++os)[b]?=_
     rw[Array.getElem?_append_left hb]
   exact { res:=rfl,ok:=vU _ _,sub:=fun _ h=>h,new:=fun b h=> .inl h,foot:=fun b h=>by obtain⟨k,h⟩:=h;exact(show False from h).elim,old:=fun b hb _=>hheap b hb,size:=by show _≤(w.heap++os).size;simp,os:=rfl,tape:=rfl,out:=rfl }
end Itoa
end
section
open ref01 ref03 ref04 ref06 Rungs LeftM TrimM Itoa
namespace Keys
def Kz (l:List UInt8):Nat:=l.foldl (fun a d=>a*10+(d.toNat- 48)) 0
theorem Eo (l:List UInt8) (d:UInt8):Kz (l++ [d])=Kz l*10+(d.toNat- 48):=by simp[Kz]
theorem AB (u:Nat):Kz (Lib.decDigits u)=u∧(∀d∈Lib.decDigits u,d≠32)∧Lib.decDigits u≠[]:=by
 induction u using Nat.strongRecOn with
 |ind u ih=>
  have hd:∀k,k<10→(UInt8.ofNat (48+k)).toNat=48+k:=fun k hk=>by
   rw[UInt8.toNat_ofNat'];omega
  have hne:∀k,k<10→UInt8.ofNat (48+k)≠32:=fun k hk e=>by
   have:=congrArg UInt8.toNat e
   rw[hd k hk] at this
   have h2:(32:UInt8).toNat=32:=rfl
   omega
  rw[Lib.decDigits]
  by_cases h:u<10
  ·rw[dif_pos h]
   refine⟨?_,fun d hm=> ?_,by simp⟩
   ·have:=Eo [] (UInt8.ofNat (48+u))
    rw[List.nil_append] at this
    rw[this,hd u h]
    show 0*10+_=u
    omega
   ·have:d=UInt8.ofNat (48+u):=by simpa using hm
    subst this;exact hne u h
  ·rw[dif_neg h]
   obtain⟨h1,h2,h3⟩:=ih (u/10) O
   refine⟨?_,fun d hm=> ?_,by simp⟩
   ·rw[Eo,h1,hd _ O];omega
   ·rcases List.mem_append.1 hm with hm|hm
    ·exact h2 d hm
    ·have:d=UInt8.ofNat (48+u % 10):=by simpa using hm
     subst this;exact hne _ O
theorem Dg {n:Int} (h:0≤n):Lib.itoa n=Lib.decDigits n.toNat:=by unfold Lib.itoa;rw[if_neg O]
theorem wC {m n:Int} (hm:0≤m) (hn:0≤n) (h:Lib.itoa m=Lib.itoa n):m=n:=by
 rw[Dg hm,Dg hn] at h
 have h1:=(AB m.toNat).1
 have h2:=(AB n.toNat).1
 rw[h,h2] at h1
 omega
theorem nI {m:Int} (hm:0≤m):∀d∈Lib.itoa m,d≠32:=by
 rw[Dg hm];exact(AB _).2.1
def iT (l:List Int):List UInt8:=l.flatMap fun t=>32::Lib.itoa t
theorem Cd {a b r s:List UInt8} (ha:∀d∈a,d≠32) (hb:∀d∈b,d≠32) (hr:r= []∨∃t,r=32::t) (hs:s= []∨∃t,s=32::t) (h:a++r=b++s):a=b∧r=s:=by
 induction a generalizing b with
 |nil=>
  cases b with
  |nil=>exact⟨rfl,h⟩
  |cons y b=>
   rcases hr with rfl|⟨t,rfl⟩
   ·simp at h
   ·simp at h;exact absurd h.1.symm (hb y (by simp))
 |cons x a ih=>
  cases b with
  |nil=>
   rcases hs with rfl|⟨t,rfl⟩
   ·simp at h
   ·simp at h;exact absurd h.1 (ha x (by simp))
  |cons y b=>
   simp at h
   obtain⟨h1,h2⟩:=ih (fun d hd=>ha d (by simp[hd])) (fun d hd=>hb d (by simp[hd])) h.2
   exact⟨by rw[h.1,h1],h2⟩
theorem rB (l:List Int):iT l= []∨∃t,iT l=32::t:=by
 cases l with
 |nil=>exact .inl rfl
 |cons x l=>exact .inr ⟨_,rfl⟩
theorem FY:∀{l m:List Int},(∀x∈l,0≤x)→(∀x∈m,0≤x)→iT l=iT m→l=m
 | [],[],_,_,_=>rfl
 | [],y::m,_,_,h=>by simp[iT] at h
 |x::l,[],_,_,h=>by simp[iT] at h
 |x::l,y::m,hl,hm,h=>by
  have h:32::(Lib.itoa x++iT l)=32::(Lib.itoa y++iT m):=h
  obtain⟨h1,h2⟩:=Cd (nI (hl x (by simp))) (nI (hm y (by simp))) (rB l) (rB m) (List.cons.inj h).2
  rw[wC (hl x (by simp)) (hm y (by simp)) h1,FY (fun z hz=>hl z (by simp[hz])) (fun z hz=>hm z (by simp[hz])) h2]
theorem Mm (l:List Int) (x:Int):iT (l++ [x])=iT l++32::Lib.itoa x:=by simp[iT]
theorem Ep (a b:List UInt8):(⟨a.toArray⟩:ByteArray)++⟨b.toArray⟩=⟨(a++b).toArray⟩:=by
 apply ByteArray.ext
 rw[ByteArray.data_append]
 simp
def mV (c:Int) (l:List Int):ByteArray:=⟨(Lib.itoa c++iT l).toArray⟩
theorem Pd (c:Int):lM c=mV c []:=by unfold lM mV;simp[iT]
theorem Mn (c:Int) (l:List Int) (x:Int):mV c l++(⟨#[32]⟩++lM x)=mV c (l++ [x]):=by
 unfold mV lM
 rw[Mm,show(⟨#[32]⟩:ByteArray)=⟨([32]:List UInt8).toArray⟩ from rfl,Ep,Ep];simp
theorem Mo {a b:List UInt8} (h:(⟨a.toArray⟩:ByteArray)=⟨b.toArray⟩):a=b:=by
 have:=congrArg (fun z:ByteArray=>z.data.toList) h
 simpa using this
theorem Pe {c d:Int} {l m:List Int} (hc:0≤c) (hd:0≤d) (hl:∀x∈l,0≤x) (hm:∀x∈m,0≤x) (h:mV c l=mV d m):c=d∧l=m:=by
 obtain⟨h1,h2⟩:=Cd (nI hc) (nI hd) (rB l) (rB m) (Mo h)
 exact⟨wC hc hd h1,FY hl hm h2⟩
theorem Pf (l:List Int) (h:∀x∈l,0≤x∧x≤9223372036854775807):(iT l).length≤22*l.length:=by
 induction l with
 |nil=>simp[iT]
 |cons x l ih=>
  have h1:=Lib.itoa_length_le x (by have:=h x (by simp);omega) (h x (by simp)).2
  have h2:=ih (fun y hy=>h y (by simp[hy]))
  have:iT (x::l)=32::(Lib.itoa x++iT l):=rfl
  rw[this];simp;omega
theorem Er (c:Int) (l:List Int) (hc:0≤c∧c≤9223372036854775807) (h:∀x∈l,0≤x∧x≤9223372036854775807):(mV c l).size≤22+22*l.length:=by
 have h1:=Pf l h
 have h2:=Lib.itoa_length_le c O hc.2
 show(Lib.itoa c++iT l).toArray.size≤_
 simp;omega
end Keys
end
section
open ref01 ref03 ref04 ref06 prog prog2 prog3 prog4 prog5 prog6 prog7 prog8 prog9 Part Rungs LeftM TrimM Itoa Keys
noncomputable def keeps (s:SS):List (List Int):=(List.range s.sT.length).map (keep s)
namespace prog10
end prog10
end
section
open ref01 ref03 ref04 ref06 Part Rungs LeftM TrimM Itoa Keys
namespace RoundM
theorem SE {s:SS} (hs:oK s) (x:Nat):(∀t∈keep s x,0≤t∧t<256)∧(keep s x).length≤256:=by
 by_cases hx:x<s.sT.length
 ·have hok:=hs.st x hx
  refine⟨fun t ht=>qC hok (Az ht).1,?_⟩
  have h1:=List.length_filter_le (fun t=> !ix (hOl s) x&& !iP (ix s.sT x) t (hOl s)) (ix s.sT x).aP
  have h2:=hok.acl
  unfold keep;omega
 ·have e:(ix s.sT x).aP= []:=by
   have:ix s.sT x=default:=by unfold ix;rw[List.getD_eq_getElem?_getD,List.getElem?_eq_none O];rfl
   rw[this];rfl
  have e2:keep s x= []:=by unfold keep;rw[e];rfl
  rw[e2];exact⟨fun t ht=>by simp at ht,by simp⟩
end RoundM
end
section
open ref01 ref03 ref04 ref06 prog prog2 prog3 prog4 prog5 prog6 prog7 prog8 prog9 prog10 Part Rungs LeftM TrimM Itoa Keys RoundM
namespace prog11
end prog11
end
end Go.Proofs.YtnlfjojfgghchaaGreatDoor
