/- The walks of the functions and the plain laws. Own texts of this claim, packed: Mkprog6, MkLeftM, Mkprog7, Mkprog8, MkTrimM, Mkprog9, MkItoa, MkKeys, Mkprog10, MkRoundM, Mkprog11. -/
import Derived.Test.YtnlfjojfgghchaaGreatDoorX03
import Derived.Test.YtnlfjojfgghchaaGreatDoorX02
import Derived.Shelf.LaysM
import Derived.Shelf.Strconv.Itoa3
import Derived.Lib.ItoaLen
set_option linter.all false
namespace Go.Proofs.YtnlfjojfgghchaaGreatDoor
open AL Go
set_option maxRecDepth 100000
section
open ref01 ref03 ref04 ref06 prog prog2 prog3 Part Rungs
def pE:Int × Int→List AV:=fun p=> [int p.1,int p.2]
instance (x:Int × Int):OneAll (pE x):=inferInstanceAs (OneAll [int x.1,int x.2])
theorem rF (t:Int) (a:Nat):has t (a:Int)=decide (((t.toNat>>>a&&&1:Nat):Int)=1):=by
 unfold has;rw[Int.toNat_natCast,has_eq]
abbrev Fq (c5 c4 c7:Nat) (w22 w20:Value) (us:List Value) (v7:Value) (st:LS):Hp:=
 [(5,cell c5 [osl 22 w22]),(22,own w22 90 1 eJ us),(221,bJ us 4 1 blE st.dead none),(4,cell c4 [osl 20 w20]),(20,own w20 3 1 nE st.left),(7,cell c7 [osl 70 v7]),(70,own v7 3 1 nE st.out)]
namespace T
theorem UT:Ent Tryz.prog 177:=aN kR
theorem Bq:eG Tryz.prog 121:=fT kR
theorem tF:IsSlice Tryz.prog 121 90 1:=fV kR
theorem lN:eG Tryz.prog 90:=fT kR
theorem z66:eR Tryz.prog 66 [.slice none 0 0]:=cR kR
theorem QU:eM Tryz.prog 121 90 1 24 [.slice none 0 0]:=iV kR kR
theorem Yp:eR Tryz.prog 121 [.slice none 0 0]:=cR kR
theorem Ad:eM Tryz.prog 81 65 1 24 [.slice none 0 0]:=iV kR kR
theorem oR:IsSlice Tryz.prog 81 65 1:=fV kR
theorem lQ:eG Tryz.prog 65:=fT kR
theorem uC:iQ Tryz.prog 80 [(0,1),(1,1)] [.int .i64 0,.int .i64 0]:=HK kR kR
theorem nW:eM Tryz.prog 65 80 2 16 [.int .i64 0,.int .i64 0]:=iV kR kR
theorem fR:IsSlice Tryz.prog 65 80 2:=fV kR
theorem dX:iK Tryz.prog 80 2:=iU kR
theorem z80:eR Tryz.prog 80 [.int .i64 0,.int .i64 0]:=cR kR
theorem iM:Tryz.prog.underlying 80=some (.array 2 3):=by kernel_rfl
end T
namespace prog6
theorem NS (s:SS) (hs:oK s) (x a:Nat) (hx:x<s.sT.length) (ha:a<(ix s.sT x).next.length) (h0:0≤ix (ix s.sT x).next a) (hH:Hol s (ix (ix s.sT x).next a).toNat) (st:LS) (hst:LInv s st) (c5 c4 c7:Nat) (w22 w20 w7:Value) (us:List Value) (hus:us.length=s.sT.length):
 AL.Fn Tryz.prog 177 [int (x:Int),int (a:Int),fp [strs s.aC,sl 2 sE s.sT],ptr 5 c5 0,ptr 4 c4 0,ptr 7 c7 0] (Fq c5 c4 c7 w22 w20 us w7 st) (fun _ (_:Value)=>tup []) (fun v=>Fq c5 c4 c7 w22 w20 us v (low s x (a:Int) st)):=by
 refine fnI Tryz.func177 rfl rfl (fun w0 F0=> ?_)
 have hf1:=hs.few1;have hox:=hs.st x hx;have hal:=hox.acl;have hn8:=hs.n8;have hln:=hox.len
 refine sq (rg (fF J T.bL (lF J J T.bT (mv (iF J J T.cO O gB (fF J T.cK (lF J J T.bD (fc (aV 15 J) fun hm15=>(lnF J T.aX (mv (nl (th (bk ?_)))))))))))))
 have hI0_0:0≤(ix s.sT x).aP.length:=by
  first|omega|simp
 have hI0_1:(⟨st.left,st.dead,st.out⟩:LS)=(nU s x (a:Int) 0 st):=by
  rfl
 refine lp (κ:=Nat × (List Int) × (List (List Bool)) × Value × (List Int)) (fun p=> [(0,int (x:Int)),(1,int (a:Int)),(3,ptr 5 c5 0),(4,ptr 4 c4 0),(5,ptr 7 c7 0),(15,sl 1 nE (ix s.sT x).aP),(16,int ((ix s.sT x).aP.length:Int)),(17,int (p.1:Int))]) (fun p=> [(4,cell c4 [osl 20 w20]),(5,cell c5 [osl 22 w22]),(7,cell c7 [osl 70 p.2.2.2.1]),(20,own w20 3 1 nE p.2.1),(22,own w22 90 1 eJ us),(70,own p.2.2.2.1 3 1 nE p.2.2.2.2),(221,bJ us 4 1 blE p.2.2.1 none)]) (fun p=>(p.1≤(ix s.sT x).aP.length)∧((⟨p.2.1,p.2.2.1,p.2.2.2.2⟩:LS)=(nU s x (a:Int) p.1 st))) (fun p=>(ix s.sT x).aP.length- p.1) ⟨0,st.left,st.dead,w7,st.out⟩ ⟨hI0_0,hI0_1⟩ ⟨id,id,id,id,id,id,id,id,tV⟩ ⟨rI,rI,rI,rI,rI,rI,rI,tV⟩ ?_
 intro⟨k,left,dead,u7,out⟩ hG0
 obtain⟨hk0,hI0⟩:(k≤(ix s.sT x).aP.length)∧((⟨left,dead,out⟩:LS)=(nU s x (a:Int) k st)):=hG0
 show Ct _ _ _ _ [(0,int (x:Int)),(1,int (a:Int)),(3,ptr 5 c5 0),(4,ptr 4 c4 0),(5,ptr 7 c7 0),(15,sl 1 nE (ix s.sT x).aP),(16,int ((ix s.sT x).aP.length:Int)),(17,int (k:Int))] [(4,cell c4 [osl 20 w20]),(5,cell c5 [osl 22 w22]),(7,cell c7 [osl 70 u7]),(20,own w20 3 1 nE left),(22,own w22 90 1 eJ us),(70,own u7 3 1 nE out),(221,bJ us 4 1 blE dead none)] _
 obtain⟨hL,hLe,_⟩:=Ab hx ha h0 hH hst k hk0
 rw[←hI0] at hL
 have hac:=fun h=>hox.ac k h
 have hll:=hL.ll
 have hdl:=hL.dl
 have hdx:=hL.dx x hx
 have hcn:=hL.cnt x hx
 have hol:=hL.len
 dsimp only at hll hdl hdx hcn hol
 refine sq (rg (bi J J aO (nl (th (sq ?_)))))
 refine cd J (fun hc0=> ?_) (fun hc0=> ?_)
 ·try simp at hc0
  refine sk (th (sq (bk (sq (rg (mv (iF J J T.aX O gB (lF J J T.aF (ag (ag (nl (th (sq (rg (mv (mv (bi J J (AY O O O) (bi J J (EO (m:=((ix (ix s.sT x).aP k).toNat>>>a)) (Nat.lt_of_le_of_lt (Nat.shiftRight_le _ _) (by have:=hac hc0;omega))) (bi J J dZ (mv ?_))))))))))))))))))))
  apply cZ (t:=27) (pd:=36) rfl
  rotate_left
  ·intro hg0 fin
   have hg0':=hg0
   try simp at hg0'
   exact gy J J J hg0 (lP J J J T.Bq (gy J J J hg0 (mv (gy J J J hg0 (iO J J J T.tF O O (gy J J J hg0 (lO J J gB J T.lN (tkB 221 31 x J J (by decide) (gK O) (gK O) (kn 31 (osl 31 (ix us x)) J dM (gy J J J hg0 (mv (gy J J J hg0 (iO J J J T.gV O O (gy J J J hg0 (lO J J gB J T.eT (gvR 221 31 x J J (by decide) (gK O) (gK O) (gy J J J hg0 (no J (pkT J hg0 J (drp (X:= [(35,_),(34,_),(33,_),(32,_),(31,_),(31,_),(30,_),(29,_),(28,_)]) ⟨J,J,J,J,J,J,J,J,J,tV⟩ fin))))))))))))))))))))
  ·intro hg0 fin
   exact gn J J J hg0 J J (gn J J J hg0 J J (gn J J J hg0 J J (gn J J J hg0 J J (gn J J J hg0 J J (gn J J J hg0 J J (gn J J J hg0 J J (gn J J J hg0 J J (pkF J hg0 J (drp (X:= [(35,_),(34,_),(33,_),(32,_),(31,_),(30,_),(29,_),(28,_)]) ⟨J,J,J,J,J,J,J,J,tV⟩ fin)))))))))
  refine nl (th ?_)
  refine cd J (fun hc1=> ?_) (fun hc1=> ?_)
  ·try simp at hc1
   refine sq (rg (lP J J J T.Bq (mv (iO J J J T.tF O O (lO J J gB J T.lN (tkB 221 40 x J J (by decide) (gK O) (gK O) (kn 40 (osl 40 (ix us x)) J dM (mv (iO J J J T.gV O O (sO (φ:=bl true) J J J T.eT gB J (y':=true) J (nl (th (sq (rg (gvU 221 40 x J J (by decide) (gK O) (lP J J J T.bD (mv (iO J J J T.aX O O (lO J J gB J T.aF (bi J J (kQ (by have hcl:=List.count_le_length (a:=false) (l:=ix dead x);unfold I64;omega)) (iO J J J T.aX O O (sO (φ:=int ((ix left x)- 1)) J J J T.aF gB J (y':=((ix left x)- 1)) J (nl (th (sq (rg (lP J J J T.bD (mv (iO J J J T.aX O (by simp;omega) (lO J J (by first|exact gN (by simp;omega)|exact gI O (by simp;omega)) J T.aF (bi J J dZ (nl (th ?_)))))))))))))))))))))))))))))))))
   refine cd J (fun hc2=> ?_) (fun hc2=> ?_)
   ·try simp at hc2
    refine rg (lP J J J T.bD (mv (bsE (enc:=nE) (xs:= [(x:Int)]) (css:= [[int (x:Int)]]) T.bZ ⟨J,J,p1 (φ:=int (x:Int)) J,tV⟩ J J J J (ap (key:=70) (zs:= [(x:Int)]) bX J J J T.bZ (by unfold aT at*;simp;omega) (by unfold aT at*;simp;omega) fun v57=>(cI J J J J T.bD J (nl (eb (th (rg (bi J J (aG i6) (mv (nl ?_))))))))))))
    have hN0:(k+1)≤(ix s.sT x).aP.length:=by
     first|omega|simp_all
    have hN1:(⟨(left.set x ((ix left x)- 1)),(dead.set x ((ix dead x).set k true)),(out++ [(x:Int)])⟩:LS)=(nU s x (a:Int) (k+1) st):=by
     show _=rS s x a k (nU s x a k st)
     rw[←hI0]
     unfold rS
     have hcc:(has (ix (ix s.sT x).aP k) (a:Int)&& !ix (ix dead x) k)=true:=by rw[rF];simpa using hc1
     have hz:ix left x- 1=0:=by simpa [kA (xs:=left) (k:=x) O] using hc2
     simp[hcc,hz]
    exact ln (⟨k+1,left.set x ((ix left x)- 1),dead.set x ((ix dead x).set k true),v57,out++ [(x:Int)]⟩:Nat × (List Int) × (List (List Bool)) × Value × (List Int)) ⟨hN0,hN1⟩ dO ⟨id,id,id,id,id,id,id,id,tV⟩ ⟨rI,rI,rI,rI,rI,rI,rI,tV⟩
   ·try simp at hc2
    refine sk (eb (th (rg (bi J J (aG i6) (mv (nl ?_))))))
    have hN0:(k+1)≤(ix s.sT x).aP.length:=by
     first|omega|simp_all
    have hN1:(⟨(left.set x ((ix left x)- 1)),(dead.set x ((ix dead x).set k true)),out⟩:LS)=(nU s x (a:Int) (k+1) st):=by
     show _=rS s x a k (nU s x a k st)
     rw[←hI0]
     unfold rS
     have hcc:(has (ix (ix s.sT x).aP k) (a:Int)&& !ix (ix dead x) k)=true:=by rw[rF];simpa using hc1
     have hz:¬ix left x- 1=0:=by simpa [kA (xs:=left) (k:=x) O] using hc2
     simp[hcc,hz]
    exact ln (⟨k+1,left.set x ((ix left x)- 1),dead.set x ((ix dead x).set k true),u7,out⟩:Nat × (List Int) × (List (List Bool)) × Value × (List Int)) ⟨hN0,hN1⟩ dO ⟨id,id,id,id,id,id,id,id,tV⟩ ⟨rI,rI,rI,rI,rI,rI,rI,tV⟩
  ·try simp at hc1
   refine sk (eb (th (rg (bi J J (aG i6) (mv (nl ?_))))))
   have hN0:(k+1)≤(ix s.sT x).aP.length:=by
    first|omega|simp_all
   have hN1:(⟨left,dead,out⟩:LS)=(nU s x (a:Int) (k+1) st):=by
    show _=rS s x a k (nU s x a k st)
    rw[←hI0]
    unfold rS
    have hcc:(has (ix (ix s.sT x).aP k) (a:Int)&& !ix (ix dead x) k)=false:=by rw[rF];simpa using hc1
    simp[hcc]
   exact ln (⟨k+1,left,dead,u7,out⟩:Nat × (List Int) × (List (List Bool)) × Value × (List Int)) ⟨hN0,hN1⟩ dO ⟨id,id,id,id,id,id,id,id,tV⟩ ⟨rI,rI,rI,rI,rI,rI,rI,tV⟩
 ·try simp at hc0
  refine ex (xt_ (xt_ (xb ?_)))
  have hlow:low s x (a:Int) st=⟨left,dead,out⟩:=by unfold low;rw[hI0,show(ix s.sT x).aP.length=k by omega]
  exact rE u7 [] J [] trivial J (by show SubH (Fq c5 c4 c7 w22 w20 us u7 (low s x (a:Int) st)) _;rw[hlow];exact⟨rI,rI,rI,rI,rI,rI,rI,tV⟩) eX
theorem NT (s:SS) (hs:oK s):
 Fn0 Tryz.prog 144 [spec s] (ints (eU s)):=by
 refine fnI Tryz.func144 rfl rfl (fun w0 F0=> ?_)
 have hf1:=hs.few1;have hn8:=hs.n8
 refine fcC (bW 0 J) (fun hS0=> ?_)
 obtain⟨hsa0,hss0,hse0⟩:=sLn hS0
 refine sq (rg (bx (key:=1) (cs:= [sl 1 rE_ s.aC,sl 2 sE s.sT]) J fun b1=>(ag (nl (th (sq (rg (fzv 1 1 J J (fF J T.bL (lF J J T.bT (fc (aV 17 J) fun hm17=>(lnF J T.cO (ag (nl (th (sq (rg (mv (mk (key:=20) (m:=s.sT.length) (enc:=nE) (y:=(0:Int)) J J T.bZ (eC eZ) mL mL fun v20=>(al (key:=4) T.z66 (eC eZ) fun b4=>(cI J J J J T.bD J (nl (th (sq (rg (mv (mk (key:=22) (m:=s.sT.length) (enc:=eJ) (y:=(.slice none 0 0:Value)) J J T.QU (eC eZ) mL mL fun v22=>(al (key:=5) T.Yp (eC eZ) fun b5=>(cI J J J J T.Bq J (nl (th (sq (rg (nbB 221 s.sT.length 4 1 blE (mv (mk (key:=24) (m:=s.sT.length) (enc:=eJ) (y:=(.slice none 0 0:Value)) J J T.Ad (eC eZ) mL mL fun v24=>(ag (nl (th (sq (rg (al (key:=7) T.z66 (eC eZ) fun b7=>(nl (th (sq (sq (rg (nw 70 3 1 nE (knc 7 0 (osl 70 (.slice none 0 0)) J J dM (nbB 241 s.sT.length 80 2 pE (fF J T.bL (lF J J T.bT (lnF J T.cO (mv (nl (th (bk ?_)))))))))))))))))))))))))))))))))))))))))))))))))))))))))
 have hI0_0:0≤s.sT.length:=by
  first|omega|simp
 have hI0_1:(List.replicate s.sT.length (.slice none 0 0:Value)).length=s.sT.length∧(List.replicate s.sT.length (.slice none 0 0:Value)).length=s.sT.length∧(⟨(List.replicate s.sT.length (0:Int)),(List.replicate s.sT.length []),([]:List Int)⟩:LS)=init s 0∧(List.replicate s.sT.length [])=(List.range s.sT.length).map (dR s 0):=by
  exact⟨by simp,by simp,by rw[Lj],(JF s).symm⟩
 refine lp (κ:=Nat × (List Value) × (List (List Bool)) × (List Int) × Value × (List Int) × (List Value) × (List (List (Int × Int)))) (fun p=> [(1,fp [sl 1 rE_ s.aC,sl 2 sE s.sT]),(2,eqv (.slice none 0 0)),(4,ptr 4 b4 0),(5,ptr 5 b5 0),(6,osl 24 v24),(7,ptr 7 b7 0),(26,sl 2 sE s.sT),(27,int (s.sT.length:Int)),(28,int (p.1:Int))]) (fun p=> [(4,cell b4 [osl 20 v20]),(5,cell b5 [osl 22 v22]),(7,cell b7 [osl 70 p.2.2.2.2.1]),(20,own v20 3 1 nE p.2.2.2.1),(22,own v22 90 1 eJ p.2.1),(24,own v24 65 1 eJ p.2.2.2.2.2.2.1),(70,own p.2.2.2.2.1 3 1 nE p.2.2.2.2.2.1),(221,bJ p.2.1 4 1 blE p.2.2.1 none),(241,bJ p.2.2.2.2.2.2.1 80 2 pE p.2.2.2.2.2.2.2 none)]) (fun p=>(p.1≤s.sT.length)∧(p.2.1.length=s.sT.length∧p.2.2.2.2.2.2.1.length=s.sT.length∧(⟨p.2.2.2.1,p.2.2.1,p.2.2.2.2.2.1⟩:LS)=init s p.1∧p.2.2.2.2.2.2.2=(List.range s.sT.length).map (dR s p.1))) (fun p=>s.sT.length- p.1) ⟨0,List.replicate s.sT.length (.slice none 0 0:Value),List.replicate s.sT.length [],List.replicate s.sT.length (0:Int),(.slice none 0 0),([]:List Int),List.replicate s.sT.length (.slice none 0 0:Value),List.replicate s.sT.length []⟩ ⟨hI0_0,hI0_1⟩ ⟨id,id,id,id,id,id,id,id,id,tV⟩ ⟨rI,rI,rI,rI,rI,rI,rI,rI,rI,tV⟩ ?_
 intro⟨k,us,dead,left,u7,out,us2,into⟩ hG0
 obtain⟨hk0,hI0⟩:(k≤s.sT.length)∧(us.length=s.sT.length∧us2.length=s.sT.length∧(⟨left,dead,out⟩:LS)=init s k∧into=(List.range s.sT.length).map (dR s k)):=hG0
 show Ct _ _ _ _ [(1,fp [sl 1 rE_ s.aC,sl 2 sE s.sT]),(2,eqv (.slice none 0 0)),(4,ptr 4 b4 0),(5,ptr 5 b5 0),(6,osl 24 v24),(7,ptr 7 b7 0),(26,sl 2 sE s.sT),(27,int (s.sT.length:Int)),(28,int (k:Int))] [(4,cell b4 [osl 20 v20]),(5,cell b5 [osl 22 v22]),(7,cell b7 [osl 70 u7]),(20,own v20 3 1 nE left),(22,own v22 90 1 eJ us),(24,own v24 65 1 eJ us2),(70,own u7 3 1 nE out),(221,bJ us 4 1 blE dead none),(241,bJ us2 80 2 pE into none)] _
 obtain⟨hul,hul2,hst,hin⟩:=hI0
 have hdl:dead.length=s.sT.length:=by have:=congrArg (fun z=>z.dead.length) hst;simpa [init] using this
 have hll:left.length=s.sT.length:=by have:=congrArg (fun z=>z.left.length) hst;simpa [init] using this
 have hil:into.length=s.sT.length:=by rw[hin];simp
 have hol:out.length≤s.sT.length:=by have:=congrArg (fun z=>z.out.length) hst;have h2:=GZ s k;dsimp only at this;omega
 refine sq (rg (bi J J aO (nl (th (sq ?_)))))
 refine cd J (fun hc0=> ?_) (fun hc0=> ?_)
 ·try simp at hc0
  have hox:=hs.st k hc0;have hxl:=hox.len;have hxa:=hox.acl
  refine sk (th (sq (bk (sq (rg (mv (iF J J T.cO O gB (lFA J T.dJ (Nat.le_of_ble_eq_true J) (al (key:=9) T.z79 (eC (eC eZ)) fun b9=>(ag (sPA (cs':= [sl 1 nE (ix s.sT k).aP,sl 1 nE (ix s.sT k).next]) J J J T.dJ J J (nl (th (sq (NC 221 99 k J J (by decide) (gK O) (gK O) ?_)))))))))))))))
  refine drH (nh:=15) [0,0,0,0,0,16,48,0,128,384,896,115,2163,8191,16383] [(none,[4]),(none,[]),(none,[5]),(none,[]),(none,[]),(none,[9]),(none,[]),(none,[]),(none,[9]),(none,[]),(some 43,[]),(none,[20]),(some 20,[20]),(none,[22]),(some 22,[22])] T.mixed kR kR ?_
  refine stv (d:=33) (fun β0=>osl 20 v20) [4] J bH (fun β0 _ _ _ _ gq gh kq=>lP (gq.1.trans J) (gh.1.trans J) J T.bD kq) ?_
  refine stv (d:=34) (fun β0=>int (k:Int)) [] J bH (fun β0 _ _ _ _ gq gh kq=>mv' (gq.1.trans J) kq) ?_
  refine stv (d:=35) (fun β0=>osl 22 v22) [5] J bH (fun β0 _ _ _ _ gq gh kq=>lP (gq.1.trans J) (gh.1.trans J) J T.Bq kq) ?_
  refine stv (d:=36) (fun β0=>int (k:Int)) [] J bH (fun β0 _ _ _ _ gq gh kq=>mv' (gq.1.trans J) kq) ?_
  refine stv (d:=37) (fun β0=>ptr 9 b9 0) [] J bH (fun β0 _ _ _ _ gq gh kq=>fP (gq.1.trans J) T.cK kq) ?_
  refine stv (d:=38) (fun β0=>sl 1 nE (ix s.sT k).aP) [9] J bH (fun β0 _ _ _ _ gq gh kq=>lP (gq.1.trans J) (gh.1.trans J) J T.bD kq) ?_
  refine stv (d:=39) (fun β0=>int ((ix s.sT k).aP.length:Int)) [] J bH (fun β0 _ _ _ _ gq gh kq=>lnF (gq.1.trans J) T.aX kq) ?_
  refine stv (d:=40) (fun β0=>ptr 9 b9 0) [] J bH (fun β0 _ _ _ _ gq gh kq=>fP (gq.1.trans J) T.cK kq) ?_
  refine stv (d:=41) (fun β0=>sl 1 nE (ix s.sT k).aP) [9] J bH (fun β0 _ _ _ _ gq gh kq=>lP (gq.1.trans J) (gh.1.trans J) J T.bD kq) ?_
  refine stv (d:=42) (fun β0=>int ((ix s.sT k).aP.length:Int)) [] J bH (fun β0 _ _ _ _ gq gh kq=>lnF (gq.1.trans J) T.aX kq) ?_
  refine stm (m:=(ix s.sT k).aP.length) (enc:=blE) (y:=false) 43 T.vT (eC eZ) mL mL (fun β0 _ gq=>⟨(gq.1.trans rfl),(gq.2.1.trans rfl)⟩) ?_
  refine stv (d:=44) (fun β0=>dP 20 v20 1 k 0) [20] J bH (fun β0 _ _ _ _ gq gh kq=>iO (gq.1.trans J) (gh.1.trans J) (gq.2.1.trans J) T.aX O O kq) ?_
  refine stw 20 (fun β0=>own v20 3 1 nE (left.set k ((ix s.sT k).aP.length:Int))) [20] J bH (fun β0 _ _ _ _ gq gh kq=>sO (φ:=int ((ix s.sT k).aP.length:Int)) (gq.1.trans J) (gh.1.trans J) (gq.2.1.trans J) T.aF gB J (y':=((ix s.sT k).aP.length:Int)) J kq) ?_
  refine stv (d:=45) (fun β0=>dP 22 v22 1 k 0) [22] J bH (fun β0 _ _ _ _ gq gh kq=>iO (gq.1.trans J) (gh.1.trans J) (gq.2.1.trans J) T.tF O O kq) ?_
  refine stw 22 (fun β0=>own v22 90 1 eJ (us.set k (.slice (some ⟨gbk (β0 10),0,none⟩) (ix s.sT k).aP.length (ix s.sT k).aP.length))) [22] J (fun β β' hb=>by first|rw[hb 10 J]|(dsimp only;rw[hb 10 J])) (fun β0 _ _ _ _ gq gh kq=>sO (φ:=eqv (.slice (some ⟨gbk (β0 10),0,none⟩) (ix s.sT k).aP.length (ix s.sT k).aP.length)) (gq.1.trans J) (gh.1.trans J) ((gq.2.1.trans J).trans eV) T.lN gB J (y':=(.slice (some ⟨gbk (β0 10),0,none⟩) (ix s.sT k).aP.length (ix s.sT k).aP.length)) J kq) ?_
  refine pnH fun β0=>(nl (th (sq (sq (rg (gvB (us:=us) 221 43 k J J (by decide) O (lP J J J T.bD (mv (iO J J J T.aX O (by simp;omega) (lO J J (by first|exact gN (by simp;omega)|exact gI O (by simp;omega)) J T.aF (bi J J dZ (nl (th ?_)))))))))))))
  refine jn (κ:=Value × (List Int)) (fun p=> [(1,fp [sl 1 rE_ s.aC,sl 2 sE s.sT]),(2,eqv (.slice none 0 0)),(4,ptr 4 b4 0),(5,ptr 5 b5 0),(6,osl 24 v24),(7,ptr 7 b7 0),(8,int (k:Int)),(9,ptr 9 b9 0),(26,sl 2 sE s.sT),(27,int (s.sT.length:Int)),(28,int (k:Int))]) (fun p=> [(4,cell b4 [osl 20 v20]),(5,cell b5 [osl 22 v22]),(7,cell b7 [osl 70 p.1]),(9,cell b9 [sl 1 nE (ix s.sT k).aP,sl 1 nE (ix s.sT k).next]),(20,own v20 3 1 nE (left.set k ((ix s.sT k).aP.length:Int))),(22,own v22 90 1 eJ (us.set k (.slice (some ⟨gbk (β0 10),0,none⟩) (ix s.sT k).aP.length (ix s.sT k).aP.length))),(24,own v24 65 1 eJ us2),(70,own p.1 3 1 nE p.2),(99,own (ix us k) 4 1 blE (ix dead k)),(221,bJ (us.set k (.slice (some ⟨gbk (β0 10),0,none⟩) (ix s.sT k).aP.length (ix s.sT k).aP.length)) 4 1 blE (dead.set k (List.replicate (ix s.sT k).aP.length false)) none),(241,bJ us2 80 2 pE into none)]) (fun p=>p.2=if ((ix s.sT k).aP.length:Int)=0 then out++ [(k:Int)] else out) ?_ ?_
  ·
   refine cd J (fun hc1=> ?_) (fun hc1=> ?_)
   ·try simp at hc1
    refine rg (lP J J J T.bD (mv (bsE (enc:=nE) (xs:= [(k:Int)]) (css:= [[int (k:Int)]]) T.bZ ⟨J,J,p1 (φ:=int (k:Int)) J,tV⟩ J J J J (ap (key:=70) (zs:= [(k:Int)]) bX J J J T.bZ (by unfold aT at*;simp;omega) (by unfold aT at*;simp;omega) fun v54=>(cI J J J J T.bD J (nl ?_))))))
    have hN0:(out++ [(k:Int)])=if ((ix s.sT k).aP.length:Int)=0 then out++ [(k:Int)] else out:=by
     rw[kA O,if_pos (by simp)] at hc1
     rw[if_pos hc1]
    exact jx ⟨v54,out++ [(k:Int)]⟩ hN0 ⟨id,id,id,id,id,id,id,id,id,id,id,tV⟩ ⟨rI,rI,rI,rI,rI,rI,rI,rI,rI,rI,rI,tV⟩
   ·try simp at hc1
    refine sk ?_
    have hN0:out=if ((ix s.sT k).aP.length:Int)=0 then out++ [(k:Int)] else out:=by
     rw[kA O,if_pos (by simp)] at hc1
     rw[if_neg hc1]
    exact jx ⟨u7,out⟩ hN0 ⟨id,id,id,id,id,id,id,id,id,id,id,tV⟩ ⟨rI,rI,rI,rI,rI,rI,rI,rI,rI,rI,rI,tV⟩
  ·intro⟨w7,ou⟩ hG
   have hJ1:ou=if ((ix s.sT k).aP.length:Int)=0 then out++ [(k:Int)] else out:=hG
   skip
   show At _ _ _ [(1,fp [sl 1 rE_ s.aC,sl 2 sE s.sT]),(2,eqv (.slice none 0 0)),(4,ptr 4 b4 0),(5,ptr 5 b5 0),(6,osl 24 v24),(7,ptr 7 b7 0),(8,int (k:Int)),(9,ptr 9 b9 0),(26,sl 2 sE s.sT),(27,int (s.sT.length:Int)),(28,int (k:Int))] [(4,cell b4 [osl 20 v20]),(5,cell b5 [osl 22 v22]),(7,cell b7 [osl 70 w7]),(9,cell b9 [sl 1 nE (ix s.sT k).aP,sl 1 nE (ix s.sT k).next]),(20,own v20 3 1 nE (left.set k ((ix s.sT k).aP.length:Int))),(22,own v22 90 1 eJ (us.set k (.slice (some ⟨gbk (β0 10),0,none⟩) (ix s.sT k).aP.length (ix s.sT k).aP.length))),(24,own v24 65 1 eJ us2),(70,own w7 3 1 nE ou),(99,own (ix us k) 4 1 blE (ix dead k)),(221,bJ (us.set k (.slice (some ⟨gbk (β0 10),0,none⟩) (ix s.sT k).aP.length (ix s.sT k).aP.length)) 4 1 blE (dead.set k (List.replicate (ix s.sT k).aP.length false)) none),(241,bJ us2 80 2 pE into none)]
   refine th (sq (rg (fP rfl T.cS (lP rfl rfl rfl T.bD (fc (aV 56 rfl) fun hm56=>(lnF rfl T.aX (mv (nl (th (bk ?_))))))))))
   have hI1_0:0≤(ix s.sT k).next.length:=by
    first|omega|simp
   have hI1_1:us2.length=s.sT.length∧into=(List.range s.sT.length).map (fun y=>dR s k y++fC s k y 0):=by
    exact⟨hul2,by rw[hin];exact List.map_congr_left (fun y _=>by simp[fC])⟩
   refine lp (κ:=Nat × (List Value) × (List (List (Int × Int)))) (fun p=> [(1,fp [sl 1 rE_ s.aC,sl 2 sE s.sT]),(2,eqv (.slice none 0 0)),(4,ptr 4 b4 0),(5,ptr 5 b5 0),(6,osl 24 v24),(7,ptr 7 b7 0),(8,int (k:Int)),(26,sl 2 sE s.sT),(27,int (s.sT.length:Int)),(28,int (k:Int)),(56,sl 1 nE (ix s.sT k).next),(57,int ((ix s.sT k).next.length:Int)),(58,int (p.1:Int))]) (fun p=> [(4,cell b4 [osl 20 v20]),(5,cell b5 [osl 22 v22]),(7,cell b7 [osl 70 w7]),(9,cell b9 [sl 1 nE (ix s.sT k).aP,sl 1 nE (ix s.sT k).next]),(20,own v20 3 1 nE (left.set k ((ix s.sT k).aP.length:Int))),(22,own v22 90 1 eJ (us.set k (.slice (some ⟨gbk (β0 10),0,none⟩) (ix s.sT k).aP.length (ix s.sT k).aP.length))),(24,own v24 65 1 eJ p.2.1),(70,own w7 3 1 nE ou),(99,own (ix us k) 4 1 blE (ix dead k)),(221,bJ (us.set k (.slice (some ⟨gbk (β0 10),0,none⟩) (ix s.sT k).aP.length (ix s.sT k).aP.length)) 4 1 blE (dead.set k (List.replicate (ix s.sT k).aP.length false)) none),(241,bJ p.2.1 80 2 pE p.2.2 none)]) (fun p=>(p.1≤(ix s.sT k).next.length)∧(p.2.1.length=s.sT.length∧p.2.2=(List.range s.sT.length).map (fun y=>dR s k y++fC s k y p.1))) (fun p=>(ix s.sT k).next.length- p.1) ⟨0,us2,into⟩ ⟨hI1_0,hI1_1⟩ ⟨id,id,id,id,id,id,id,id,id,id,id,id,id,tV⟩ ⟨rI,rI,rI,rI,rI,rI,rI,rI,rI,rI,rI,tV⟩ ?_
   intro⟨k1,us3,into3⟩ hG1
   obtain⟨hk1,hI1⟩:(k1≤(ix s.sT k).next.length)∧(us3.length=s.sT.length∧into3=(List.range s.sT.length).map (fun y=>dR s k y++fC s k y k1)):=hG1
   show Ct _ _ _ _ [(1,fp [sl 1 rE_ s.aC,sl 2 sE s.sT]),(2,eqv (.slice none 0 0)),(4,ptr 4 b4 0),(5,ptr 5 b5 0),(6,osl 24 v24),(7,ptr 7 b7 0),(8,int (k:Int)),(26,sl 2 sE s.sT),(27,int (s.sT.length:Int)),(28,int (k:Int)),(56,sl 1 nE (ix s.sT k).next),(57,int ((ix s.sT k).next.length:Int)),(58,int (k1:Int))] [(4,cell b4 [osl 20 v20]),(5,cell b5 [osl 22 v22]),(7,cell b7 [osl 70 w7]),(9,cell b9 [sl 1 nE (ix s.sT k).aP,sl 1 nE (ix s.sT k).next]),(20,own v20 3 1 nE (left.set k ((ix s.sT k).aP.length:Int))),(22,own v22 90 1 eJ (us.set k (.slice (some ⟨gbk (β0 10),0,none⟩) (ix s.sT k).aP.length (ix s.sT k).aP.length))),(24,own v24 65 1 eJ us3),(70,own w7 3 1 nE ou),(99,own (ix us k) 4 1 blE (ix dead k)),(221,bJ (us.set k (.slice (some ⟨gbk (β0 10),0,none⟩) (ix s.sT k).aP.length (ix s.sT k).aP.length)) 4 1 blE (dead.set k (List.replicate (ix s.sT k).aP.length false)) none),(241,bJ us3 80 2 pE into3 none)] _
   have hul3:=hI1.1
   have hil3:into3.length=s.sT.length:=by rw[hI1.2];simp
   refine sq (rg (bi J J aO (nl (th (sq ?_)))))
   refine cd J (fun hc2=> ?_) (fun hc2=> ?_)
   ·try simp at hc2
    have hnx:=hox.nx k1 O
    refine sk (th (sq (bk (sq (rg (mv (iF J J T.aX O gB (lF J J T.aF (ag (ag (nl (th (sq (rg (mv (bi J J fU (nl (th ?_))))))))))))))))))
    refine cd J (fun hc3=> ?_) (fun hc3=> ?_)
    ·try simp at hc3
     have hpb:(ix into3 (ix (ix s.sT k).next k1).toNat).length≤80000:=by
      rw[hI1.2,bS O,List.length_append]
      have h1:=Ac (s:=s) (y:=(ix (ix s.sT k).next k1).toNat) (m:=8) k (fun x hx=>by rw[(hs.st x O).len];exact hn8)
      have h2:=Du s k (ix (ix s.sT k).next k1).toNat k1
      omega
     refine rg (mv (mv (mv (mv (iO J J J T.oR O O (lO J J gB J T.lQ (tkB 241 75 (ix (ix s.sT k).next k1).toNat J J (by decide) (gK O) (gK O) (kn 70 (osl 75 (ix us3 (ix (ix s.sT k).next k1).toNat)) J dM (mv (mv (bd (css:= [(0,_),(1,_)]) T.uC (eC (eC eZ)) ⟨J,J,p1 (φ:=int (k:Int)) J,⟨J,J,p1 (φ:=int (k1:Int)) J,tV⟩⟩ (bs (css:= [[int (k:Int),int (k1:Int)]]) T.nW ⟨J,J,pA (cs:= [int (k:Int),int (k1:Int)]) J,tV⟩ J J J (ap (key:=75) (zs:= [((k:Int),(k1:Int))]) bX J J J T.nW (by unfold aT at*;simp;omega) (by unfold aT at*;simp;omega) fun v75=>(iO J J J T.oR O O (sOO (k2:=75) J J eV J T.lQ gB J (y':=v75) J (gvB (us:=us3) 241 75 (ix (ix s.sT k).next k1).toNat J J (by decide) O (nl (eb (th (rg (bi J J (aG i6) (mv (nl ?_)))))))))))))))))))))))
     have hN0:(k1+1)≤(ix s.sT k).next.length:=by
      first|omega|simp_all
     have hN1:(us3.set (ix (ix s.sT k).next k1).toNat v75).length=s.sT.length∧(into3.set (ix (ix s.sT k).next k1).toNat ((ix into3 (ix (ix s.sT k).next k1).toNat)++ [((k:Int),(k1:Int))]))=(List.range s.sT.length).map (fun y=>dR s k y++fC s k y (k1+1)):=by
      have ht:(ix (ix s.sT k).next k1).toNat<s.sT.length:=by omega
      refine⟨by simpa using hul3,?_⟩
      have e:ix into3 (ix (ix s.sT k).next k1).toNat=dR s k (ix (ix s.sT k).next k1).toNat++fC s k (ix (ix s.sT k).next k1).toNat k1:=by rw[hI1.2];exact bS ht
      rw[e,hI1.2]
      exact JE O ht
     exact ln (⟨k1+1,us3.set (ix (ix s.sT k).next k1).toNat v75,into3.set (ix (ix s.sT k).next k1).toNat ((ix into3 (ix (ix s.sT k).next k1).toNat)++ [((k:Int),(k1:Int))])⟩:Nat × (List Value) × (List (List (Int × Int)))) ⟨hN0,hN1⟩ dO ⟨id,id,id,id,id,id,id,id,id,id,id,id,id,tV⟩ ⟨rI,rI,rI,rI,rI,rI,rI,rI,rI,rI,rI,tV⟩
    ·try simp at hc3
     refine sk (eb (th (rg (bi J J (aG i6) (mv (nl ?_))))))
     have hN0:(k1+1)≤(ix s.sT k).next.length:=by
      first|omega|simp_all
     have hN1:us3.length=s.sT.length∧into3=(List.range s.sT.length).map (fun y=>dR s k y++fC s k y (k1+1)):=by
      refine⟨hul3,?_⟩
      rw[hI1.2]
      exact Ha O
     exact ln (⟨k1+1,us3,into3⟩:Nat × (List Value) × (List (List (Int × Int)))) ⟨hN0,hN1⟩ dO ⟨id,id,id,id,id,id,id,id,id,id,id,id,id,tV⟩ ⟨rI,rI,rI,rI,rI,rI,rI,rI,rI,rI,rI,tV⟩
   ·try simp at hc2
    refine ex (xt_ (xt_ (xb (eb (th (rg (bi J J (aG i6) (mv (nl ?_)))))))))
    have hN0:(k+1)≤s.sT.length:=by
     first|omega|simp_all
    have hN1:(us.set k (.slice (some ⟨gbk (β0 10),0,none⟩) (ix s.sT k).aP.length (ix s.sT k).aP.length)).length=s.sT.length∧us3.length=s.sT.length∧(⟨(left.set k ((ix s.sT k).aP.length:Int)),(dead.set k (List.replicate (ix s.sT k).aP.length false)),ou⟩:LS)=init s (k+1)∧into3=(List.range s.sT.length).map (dR s (k+1)):=by
     rw[Ll hc0,←hst,hJ1]
     refine⟨by simpa using hul,hI1.1,rfl,?_⟩
     rw[hI1.2,show k1=(ix s.sT k).next.length by omega]
     exact List.map_congr_left (fun y _=>(Bp s k y).symm)
    exact ln (⟨k+1,us.set k (.slice (some ⟨gbk (β0 10),0,none⟩) (ix s.sT k).aP.length (ix s.sT k).aP.length),dead.set k (List.replicate (ix s.sT k).aP.length false),left.set k ((ix s.sT k).aP.length:Int),w7,ou,us3,into3⟩:Nat × (List Value) × (List (List Bool)) × (List Int) × Value × (List Int) × (List Value) × (List (List (Int × Int)))) ⟨hN0,hN1⟩ dO ⟨id,id,id,id,id,id,id,id,id,tV⟩ ⟨rI,rI,rI,rI,rI,rI,rI,rI,rI,tV⟩
 ·try simp at hc0
  refine ex (xt_ (xt_ (xb (th (sq (rg (mkf (ag (nl (th (sq (sq (rg (ag (nl (th (bk ?_)))))))))))))))))
  have hkn:k=s.sT.length:=by omega
  have hI2_0:(⟨left,dead,out⟩:LS)=rq s 0∧0≤out.length:=by
   rw[hst,hkn]
   exact⟨rfl,Nat.zero_le _⟩
  refine lp (κ:=Nat × (List (List Bool)) × (List Int) × Value × (List Int)) (fun p=> [(2,eqv (.slice none 0 0)),(6,osl 24 v24),(7,ptr 7 b7 0),(12,clo 177 [fp [sl 1 rE_ s.aC,sl 2 sE s.sT],ptr 5 b5 0,ptr 4 b4 0,ptr 7 b7 0]),(13,int (p.1:Int))]) (fun p=> [(4,cell b4 [osl 20 v20]),(5,cell b5 [osl 22 v22]),(7,cell b7 [osl 70 p.2.2.2.1]),(20,own v20 3 1 nE p.2.2.1),(22,own v22 90 1 eJ us),(24,own v24 65 1 eJ us2),(70,own p.2.2.2.1 3 1 nE p.2.2.2.2),(221,bJ us 4 1 blE p.2.1 none),(241,bJ us2 80 2 pE into none)]) (fun p=>(⟨p.2.2.1,p.2.1,p.2.2.2.2⟩:LS)=rq s p.1∧p.1≤p.2.2.2.2.length) (fun p=>s.sT.length- p.1) ⟨0,dead,left,u7,out⟩ hI2_0 ⟨id,id,id,id,id,tV⟩ ⟨rI,rI,rI,rI,rI,rI,rI,rI,rI,tV⟩ ?_
  intro⟨i,dead,left,u7,out⟩ hG2
  have hI2:(⟨left,dead,out⟩:LS)=rq s i∧i≤out.length:=hG2
  show Ct _ _ _ _ [(2,eqv (.slice none 0 0)),(6,osl 24 v24),(7,ptr 7 b7 0),(12,clo 177 [fp [sl 1 rE_ s.aC,sl 2 sE s.sT],ptr 5 b5 0,ptr 4 b4 0,ptr 7 b7 0]),(13,int (i:Int))] [(4,cell b4 [osl 20 v20]),(5,cell b5 [osl 22 v22]),(7,cell b7 [osl 70 u7]),(20,own v20 3 1 nE left),(22,own v22 90 1 eJ us),(24,own v24 65 1 eJ us2),(70,own u7 3 1 nE out),(221,bJ us 4 1 blE dead none),(241,bJ us2 80 2 pE into none)] _
  have hL:=nV s i
  rw[←hI2.1] at hL
  have hll:=hL.ll
  have hdl:=hL.dl
  have hol:=hL.len
  dsimp only at hll hdl hol
  refine sq (sq (rg (mv (lP J J J T.bD (lnO J J T.aX (bi J J aO (nl (th ?_))))))))
  refine cd J (fun hc4=> ?_) (fun hc4=> ?_)
  ·try simp at hc4
   have hoy:=hL.outHol (iJ hc4)
   dsimp only at hoy
   have hHy:=hoy.2.2
   have hiy:ix into (ix out i).toNat=dR s s.sT.length (ix out i).toNat:=by rw[hin,hkn];exact bS O
   have hpb:(ix into (ix out i).toNat).length≤80000:=by
    rw[hiy]
    have h1:=Ac (s:=s) (y:=(ix out i).toNat) (m:=8) s.sT.length (fun x hx=>by rw[(hs.st x hx).len];exact hn8)
    omega
   refine sk (th (sq (bk (sq (rg (mv (lP J J J T.bD (mv (iO J J J T.aX O O (lO J J gB J T.aF (iO J J J T.oR O O (lO J J gB J T.lQ (tkB 241 92 (ix out i).toNat J J (by decide) (gK O) (gK O) (kn 92 (osl 92 (ix us2 (ix out i).toNat)) J dM (lnO J J T.fR (mv (nl (th (bk ?_)))))))))))))))))))
   have hI3_0:0≤(ix into (ix out i).toNat).length:=by
    first|omega|simp
   have hI3_1:(⟨left,dead,out⟩:LS)=procs s ((dR s s.sT.length (ix out i).toNat).take 0) (rq s i):=by
    rw[List.take_zero];exact hI2.1
   refine lp (κ:=Nat × (List (List Bool)) × (List Int) × Value × (List Int)) (fun p=> [(2,eqv (.slice none 0 0)),(6,osl 24 v24),(7,ptr 7 b7 0),(12,clo 177 [fp [sl 1 rE_ s.aC,sl 2 sE s.sT],ptr 5 b5 0,ptr 4 b4 0,ptr 7 b7 0]),(13,int (i:Int)),(92,osl 92 (ix us2 (ix out i).toNat)),(93,int ((ix into (ix out i).toNat).length:Int)),(94,int (p.1:Int))]) (fun p=> [(4,cell b4 [osl 20 v20]),(5,cell b5 [osl 22 v22]),(7,cell b7 [osl 70 p.2.2.2.1]),(20,own v20 3 1 nE p.2.2.1),(22,own v22 90 1 eJ us),(24,own v24 65 1 eJ us2),(70,own p.2.2.2.1 3 1 nE p.2.2.2.2),(92,own (ix us2 (ix out i).toNat) 80 2 pE (ix into (ix out i).toNat)),(221,bJ us 4 1 blE p.2.1 none),(241,bJ us2 80 2 pE into (some (ix out i).toNat))]) (fun p=>(p.1≤(ix into (ix out i).toNat).length)∧((⟨p.2.2.1,p.2.1,p.2.2.2.2⟩:LS)=procs s ((dR s s.sT.length (ix out i).toNat).take p.1) (rq s i))) (fun p=>(ix into (ix out i).toNat).length- p.1) ⟨0,dead,left,u7,out⟩ ⟨hI3_0,hI3_1⟩ ⟨id,id,id,id,id,id,id,id,tV⟩ ⟨rI,rI,rI,rI,rI,rI,rI,rI,rI,rI,tV⟩ ?_
   intro⟨k3,dead3,left3,u73,out3⟩ hG3
   obtain⟨hk3,hI3⟩:(k3≤(ix into (ix out i).toNat).length)∧((⟨left3,dead3,out3⟩:LS)=procs s ((dR s s.sT.length (ix out i).toNat).take k3) (rq s i)):=hG3
   show Ct _ _ _ _ [(2,eqv (.slice none 0 0)),(6,osl 24 v24),(7,ptr 7 b7 0),(12,clo 177 [fp [sl 1 rE_ s.aC,sl 2 sE s.sT],ptr 5 b5 0,ptr 4 b4 0,ptr 7 b7 0]),(13,int (i:Int)),(92,osl 92 (ix us2 (ix out i).toNat)),(93,int ((ix into (ix out i).toNat).length:Int)),(94,int (k3:Int))] [(4,cell b4 [osl 20 v20]),(5,cell b5 [osl 22 v22]),(7,cell b7 [osl 70 u73]),(20,own v20 3 1 nE left3),(22,own v22 90 1 eJ us),(24,own v24 65 1 eJ us2),(70,own u73 3 1 nE out3),(92,own (ix us2 (ix out i).toNat) 80 2 pE (ix into (ix out i).toNat)),(221,bJ us 4 1 blE dead3 none),(241,bJ us2 80 2 pE into (some (ix out i).toNat))] _
   refine sq (rg (bi J J aO (nl (th (sq ?_)))))
   refine cd J (fun hc5=> ?_) (fun hc5=> ?_)
   ·try simp at hc5
    obtain⟨px,pa,hpe,hpx,hpa,hp0,hpH⟩:=oQ hHy (ix (ix into (ix out i).toNat) k3) (by rw[←hiy];exact aQ O)
    have hps:=nF (ps:=(dR s s.sT.length (ix out i).toNat).take k3) (fun p hp=>oQ hHy p (List.mem_of_mem_take hp)) (nV s i)
    rw[←hI3] at hps
    have hp1:(ix (ix into (ix out i).toNat) k3).1=(px:Int):=by rw[hpe]
    have hp2:(ix (ix into (ix out i).toNat) k3).2=(pa:Int):=by rw[hpe]
    refine sk (th (sq (bk (sq (rg (iO J J J T.fR O O (lOA J J gB T.dX (by decide) (al (key:=15) T.z80 (eC (eC eZ)) fun b15=>(sPA (cs':= [int ((ix (ix into (ix out i).toNat) k3).1),int ((ix (ix into (ix out i).toNat) k3).2)]) J J J T.dX J J (nl (th (rg (mv (iPA J J T.iM T.aF J (lP J J J T.aF (iPA J J T.iM T.aF J (lP J J J T.aF (QO (Hi:=Fq b5 b4 b7 v22 v20 us u73 (⟨left3,dead3,out3⟩:LS)) (ι:=Value) (res:=fun _ _=>tup []) (Ho:=fun v=>Fq b5 b4 b7 v22 v20 us v (low s px (pa:Int) (⟨left3,dead3,out3⟩:LS))) J (by show AL.Fn _ _ [int (ix (ix into (ix out i).toNat) k3).1,int (ix (ix into (ix out i).toNat) k3).2,_,_,_,_] _ _ _;rw[hp1,hp2];exact NS s hs px pa hpx hpa hp0 hpH (⟨left3,dead3,out3⟩:LS) hps.1 b5 b4 b7 v22 v20 u73 us hul) T.UT ⟨rI,rI,rI,rI,rI,rI,rI,tV⟩ fun N z=>(nl (eb (th (rg (bi J J (aG i6) (mv (nl ?_)))))))))))))))))))))))))
    have hN0:(k3+1)≤(ix into (ix out i).toNat).length:=by
     first|omega|simp_all
    have hN1:(⟨(low s px (pa:Int) (⟨left3,dead3,out3⟩:LS)).left,(low s px (pa:Int) (⟨left3,dead3,out3⟩:LS)).dead,(low s px (pa:Int) (⟨left3,dead3,out3⟩:LS)).out⟩:LS)=procs s ((dR s s.sT.length (ix out i).toNat).take (k3+1)) (rq s i):=by
     rw[bM (by rw[←hiy];omega),JC,←hI3,←hiy,hpe]
     rfl
    exact ln (⟨k3+1,(low s px (pa:Int) (⟨left3,dead3,out3⟩:LS)).dead,(low s px (pa:Int) (⟨left3,dead3,out3⟩:LS)).left,z,(low s px (pa:Int) (⟨left3,dead3,out3⟩:LS)).out⟩:Nat × (List (List Bool)) × (List Int) × Value × (List Int)) ⟨hN0,hN1⟩ dO ⟨id,id,id,id,id,id,id,id,tV⟩ ⟨rI,rI,rI,rI,rI,rI,rI,rI,rI,rI,tV⟩
   ·try simp at hc5
    refine ex (xt_ (xt_ (xb (eb (th (rg (gvS 241 92 (ix out i).toNat J J (by decide) (gK O) (gK O) (mv (bi J J (aG i6) (ag (nl ?_)))))))))))
    have hN0:(⟨left3,dead3,out3⟩:LS)=rq s (i+1)∧(i+1)≤out3.length:=by
     have hps:=nF (oQ hHy) (nV s i)
     rw[show k3=(dR s s.sT.length (ix out i).toNat).length by rw[←hiy];omega,List.take_length] at hI3
     rw[←hI3,←hI2.1] at hps
     have hpl:=hps.2.1.1.length_le
     refine⟨?_,by dsimp only at hpl;omega⟩
     rw[hI3]
     show _=if _ then _ else _
     rw[←hI2.1,if_pos hc4]
    exact ln (⟨i+1,dead3,left3,u73,out3⟩:Nat × (List (List Bool)) × (List Int) × Value × (List Int)) hN0 dO ⟨id,id,id,id,id,tV⟩ ⟨rI,rI,rI,rI,rI,rI,rI,rI,rI,tV⟩
  ·try simp at hc4
   refine ex (xt_ (xt_ (xb (th (sq (rg (lP J J J T.bD (ag (nl (th (rt ?_)))))))))))
   refine fzA 70 2 rfl rfl ?_
   have hr0:out=(eU s):=by
    have hR:=NR (s:=s) (i:=i) (by rw[←hI2.1];exact hc4)
    rw[←hR,←hI2.1]
   exact rE () [.tmp 2] J [sl 1 nE out] ⟨.tmp J,tV⟩ (cA1 (fun x0=>rV [sl 1 nE x0]) hr0) trivial eX
end prog6
end
section
open ref01 ref03 ref04 ref06 Rungs
namespace LeftM
theorem eP {n:Nat} {t x:Int}:x∈aK n t↔∃a:Nat,x=(a:Int)∧a<n∧has t (a:Int)=true:=by
 unfold aK
 constructor
 ·intro h
  obtain⟨a,ha,rfl⟩:=List.mem_map.1 h
  obtain⟨h1,h2⟩:=List.mem_filter.1 ha
  exact⟨a,rfl,List.mem_range.1 h1,h2⟩
 ·rintro⟨a,rfl,h1,h2⟩
  exact List.mem_map.2 ⟨a,List.mem_filter.2 ⟨List.mem_range.2 h1,h2⟩,rfl⟩
theorem nX {n m:Nat} {t x:Int} (h:(aK n t)[m]?=some x):∃a:Nat,x=(a:Int)∧a<n∧has t (a:Int)=true:=eP.1 (List.mem_of_getElem? h)
def JG (x:SA) (t:Int) (h:List Bool):Bool:=(aK 63 t).all fun a=> !ix h (ix x.next a.toNat).toNat
theorem HQ {x:SA} {N n:Nat} (hx:okState x N n) (hn:n≤8) {t:Int} (ht:t∈x.aP) (h:List Bool):JG x t h= !eH x t h:=by
 obtain⟨i,hi,e⟩:=pX ht
 have hgo:=hx.go i hi
 rw[e] at hgo
 unfold JG
 rw[Bool.eq_iff_iff,List.all_eq_true,Bool.not_eq_true',←Bool.not_eq_true,jG]
 constructor
 ·rintro h1 ⟨a,h2,h3,h4,h5⟩
  have:=h1 (a:Int) (eP.2 ⟨a,rfl,by have:=hx.len;omega,h4⟩)
  rw[Int.toNat_natCast,h5] at this
  cases this
 ·intro h1 x' hx'
  obtain⟨a,rfl,h2,h3⟩:=eP.1 hx'
  obtain⟨h4,h5⟩:=hgo a h3
  rw[Int.toNat_natCast]
  cases hb:ix h (ix x.next a).toNat with
  |false=>rfl
  |true=>exact absurd ⟨a,by have:=hx.len;omega,h5,h3,hb⟩ h1
theorem Lm {x:SA} {t:Int} {h:List Bool} {m:Nat} {a:Int} (ha:(aK 63 t)[m]?=some a):((aK 63 t).take (m+1)).all (fun a=> !ix h (ix x.next a.toNat).toNat)=(((aK 63 t).take m).all (fun a=> !ix h (ix x.next a.toNat).toNat)&& !ix h (ix x.next a.toNat).toNat):=by
 have hm:=(List.getElem?_eq_some_iff.1 ha)
 obtain⟨hm,rfl⟩:=hm
 rw[List.take_succ_eq_append_getElem hm,List.all_append];simp
theorem UU {u t:Int} {a:Nat}:has ((u.toNat|||t.toNat:Nat):Int) (a:Int)=(has u (a:Int)||has t (a:Int)):=by
 unfold has
 rw[Int.toNat_natCast,Int.toNat_natCast,Nat.testBit_or]
theorem oT (l:List Int):0≤aZ l:=by
 rcases List.eq_nil_or_concat l with rfl|⟨l',t,rfl⟩
 ·exact Int.le_refl _
 ·rw[List.concat_eq_append,iL];omega
theorem Fs {α:Type} {p:List α→Prop} (h0:p []) (h1:∀l a,p l→p (l++ [a])) (l:List α):p l:=by
 have:∀n (l:List α),l.length=n→p l:=fun n=>by
  induction n with
  |zero=>intro l hl;rw[List.eq_nil_of_length_eq_zero hl];exact h0
  |succ n ih=>
   intro l hl
   rcases List.eq_nil_or_concat l with rfl|⟨l',t,rfl⟩
   ·exact h0
   ·rw[List.concat_eq_append] at hl ⊢
    exact h1 _ _ (ih l' (by simpa using hl))
 exact this _ l rfl
theorem dE (l:List Int) (a:Nat):has (aZ l) (a:Int)=true↔∃t∈l,has t (a:Int)=true:=by
 refine Fs (p:=fun l=>has (aZ l) (a:Int)=true↔∃t∈l,has t (a:Int)=true) ?_ (fun l t ih=> ?_) l
 ·simp[aZ,has]
 ·rw[iL,UU,Bool.or_eq_true,ih]
  constructor
  ·rintro(⟨u,h1,h2⟩|h)
   ·exact⟨u,by simp[h1],h2⟩
   ·exact⟨t,by simp,h⟩
  ·rintro⟨u,h1,h2⟩
   rcases List.mem_append.1 h1 with h|h
   ·exact .inl ⟨u,h,h2⟩
   ·have:u=t:=by simpa using h
    subst this;exact .inr h2
theorem Ft (l:List Int) (h:∀t∈l,t<256):aZ l<256:=by
 refine Fs (p:=fun l=>(∀t∈l,t<256)→aZ l<256) (fun _=>by decide) (fun l t ih h=> ?_) l h
 rw[iL]
 exact kU (ih (fun u hu=>h u (by simp[hu]))) (h t (by simp))
theorem Ae {s:SS} {x:Nat} {t:Int} (h:t∈keep s x):t∈(ix s.sT x).aP∧ix (hOl s) x=false∧eH (ix s.sT x) t (hOl s)=false:=by
 unfold keep at h
 obtain⟨h1,h2⟩:=List.mem_filter.1 h
 simp only [Bool.and_eq_true,Bool.not_eq_true'] at h2
 exact⟨h1,h2.1,h2.2⟩
theorem kF {s:SS} {x:Nat} (h:ix (hOl s) x=false):keep s x=(ix s.sT x).aP.filter fun t=> !eH (ix s.sT x) t (hOl s):=by
 unfold keep;rw[h];simp
theorem xN {x:SA} {N n:Nat} (hx:okState x N n) {t:Int} (ht:t∈x.aP):0≤t∧t<256:=by
 obtain⟨i,hi,rfl⟩:=pX ht
 exact hx.ac i hi
theorem Ln {x:SA} {N n:Nat} (hx:okState x N n) {t:Int} (ht:t∈x.aP) {a:Nat} (h:has t (a:Int)=true):a<n∧0≤ix x.next a:=by
 obtain⟨i,hi,rfl⟩:=pX ht
 exact hx.go i hi a h
theorem kV {s:SS} (hs:oK s) {x:Nat} (hx:x<s.sT.length) {a:Nat} (h:has (aZ (keep s x)) (a:Int)=true):
 a<(ix s.sT x).next.length∧0≤ix (ix s.sT x).next a∧ix (ix s.sT x).next a<(s.sT.length:Int)∧ix (hOl s) (ix (ix s.sT x).next a).toNat=false:=by
 obtain⟨t,ht,hh⟩:=(dE _ _).1 h
 obtain⟨h1,h2,h3⟩:=Ae ht
 have hok:=hs.st x hx
 obtain⟨h4,h5⟩:=Ln hok h1 hh
 rw[←hok.len] at h4
 refine⟨h4,h5,(hok.nx a (by rw[←hok.len];exact h4)).2,?_⟩
 cases hb:ix (hOl s) (ix (ix s.sT x).next a).toNat with
 |false=>rfl
 |true=>
  rw[jG.2 ⟨a,h4,h5,hh,hb⟩] at h3;cases h3
def kB (l:List Int) (k:Int):List Int:=if decide (0≤k)&& !l.contains k then l++ [k] else l
theorem jL (l ks:List Int):visit l ks=ks.foldl kB l:=rfl
theorem rT {p:Nat→Bool} {g:Nat→Int}:∀(xs:List Nat) (l:List Int),visit l (xs.map fun a=>if p a then g a else-1)=visit l ((xs.filter p).map g)
 | [],l=>rfl
 |x::xs,l=>by
  rw[jL,jL]
  by_cases h:p x=true
  ·rw[List.filter_cons,if_pos h,List.map_cons,List.map_cons,List.foldl_cons,List.foldl_cons,if_pos h]
   exact rT xs _
  ·rw[List.filter_cons,if_neg h,List.map_cons,List.foldl_cons,if_neg h]
   have:kB l (-1)=l:=rfl
   rw[this]
   exact rT xs l
theorem xO {p:Nat→Bool} {m:Nat}:∀j,(∀a,p a=true→a<m)→(List.range (m+j)).filter p=(List.range m).filter p
 |0,_=>rfl
 |j+1,h=>by
  rw[show m+(j+1)=m+j+1 by omega,List.range_succ,List.filter_append,xO j h]
  have:p (m+j)=false:=by
   cases hp:p (m+j) with
   |false=>rfl
   |true=>have:=h _ hp;omega
  simp[this]
theorem Br {x:SA} {u:Int} (hl:x.next.length≤63) (h:∀a:Nat,has u (a:Int)=true→a<x.next.length):aK 63 u=aK x.next.length u:=by
 unfold aK
 have:=xO (p:=fun a=>has u (a:Int)) (m:=x.next.length) (63- x.next.length) h
 rw[show x.next.length+(63- x.next.length)=63 by omega] at this
 rw[this]
theorem Lp {x:SA} {u:Int} (hl:x.next.length≤63) (h:∀a:Nat,has u (a:Int)=true→a<x.next.length) (l:List Int):visit l (cut x u)=visit l ((aK 63 u).map fun a=>ix x.next a.toNat):=by
 unfold cut
 rw[rT,Br hl h]
 unfold aK
 rw[List.map_map]
 rfl
theorem fZ:∀(ks l:List Int),l<+:visit l ks
 | [],l=>List.prefix_rfl
 |k::ks,l=>by
  rw[jL,List.foldl_cons]
  refine List.IsPrefix.trans ?_ (fZ ks _)
  unfold kB
  split
  ·exact List.prefix_append _ _
  ·exact List.prefix_rfl
theorem RU (s:SS) (i:Nat):bq s i<+:bq s (i+1):=by
 show _<+:(if _ then _ else _)
 split
 ·exact fZ _ _
 ·exact List.prefix_rfl
theorem tG (s:SS) (i:Nat):∀j,bq s i<+:bq s (i+j)
 |0=>List.prefix_rfl
 |j+1=>(tG s i j).trans (RU s (i+j))
theorem mU {s:SS} (h:oK s) {i:Nat} (hi:i≤s.sT.length):bq (aW s) i<+:order (aW s):=by
 have:=tG (aW s) i ((aW s).sT.length- i)
 rw[gH] at this
 rw[show i+(s.sT.length- i)=s.sT.length by omega] at this
 unfold order
 rw[gH];exact this
theorem Bs {s:SS} (h:oK s) {i:Nat} (hi:(bq (aW s) i).length≤i) (hn:i≤s.sT.length):bq (aW s) i=order (aW s):=by
 have:=Dn hi (s.sT.length- i)
 rw[show i+(s.sT.length- i)=s.sT.length by omega] at this
 unfold order
 rw[gH];exact this.symm
theorem JH {s:SS} (h:oK s) (i:Nat):okQ s.sT.length (bq (aW s) i):=by
 have:=Fg (s:=aW s) (by rw[gH];exact h.few0) (fun k hk a ha=>by rw[gH] at hk ⊢;exact Ff h hk ha) i
 rw[gH] at this
 exact this
theorem Cx {s:SS} (h:oK s) {i:Nat} (hi:i<(bq (aW s) i).length):bq (aW s) (i+1)=visit (bq (aW s) i) ((aK 63 (aZ (keep s (ix (bq (aW s) i) i).toNat))).map fun a=>ix (ix s.sT (ix (bq (aW s) i) i).toNat).next a.toNat):=by
 have hb:=(JH h i).1 i hi
 have hx:(ix (bq (aW s) i) i).toNat<s.sT.length:=by omega
 show(if _ then _ else _)=_
 rw[if_pos hi,fY hx]
 have hok:=h.st _ hx
 have hn8:=h.n8
 exact Lp (by have:=hok.len;omega) (fun a ha=>(kV h hx ha).1) _
theorem tH {y:Int}:∀(ks l:List Int),y∈visit l ks→y∈l∨y∈ks
 | [],l,h=> .inl h
 |k::ks,l,h=>by
  rw[jL,List.foldl_cons] at h
  rcases tH ks _ h with h|h
  ·unfold kB at h
   split at h
   ·rcases List.mem_append.1 h with h|h
    ·exact .inl h
    ·exact .inr (by simp at h;simp[h])
   ·exact .inl h
  ·exact .inr (by simp[h])
theorem vU {s:SS} (h:oK s) (h0:ix (hOl s) 0=false):∀i,∀y∈bq (aW s) i,ix (hOl s) y.toNat=false
 |0,y,hy=>by
  have:y=0:=by simpa [bq] using hy
  subst this;exact h0
 |i+1,y,hy=>by
  by_cases hi:i<(bq (aW s) i).length
  ·rw[Cx h hi] at hy
   rcases tH _ _ hy with hy|hy
   ·exact vU h h0 i y hy
   ·obtain⟨a,ha,rfl⟩:=List.mem_map.1 hy
    obtain⟨a',rfl,_,hh⟩:=eP.1 ha
    have hb:=(JH h i).1 i hi
    exact(kV h O hh).2.2.2
  ·have e:bq (aW s) (i+1)=bq (aW s) i:=by
    show(if _ then _ else _)=_
    rw[if_neg hi]
   rw[e] at hy
   exact vU h h0 i y hy
noncomputable def pP (s:SS):List (Int × List Int):=if ix (hOl s) 0=true then [] else(order (aW s)).map fun x=>(x,keep s x.toNat)
theorem NU {s:SS} (h:oK s) (h0:ix (hOl s) 0=false) {i:Nat} (hn:i≤s.sT.length) (hi:i<(bq (aW s) i).length):(pP s)[i]?=some (ix (bq (aW s) i) i,keep s (ix (bq (aW s) i) i).toNat):=by
 have hp:=mU h hn
 have hl:=hp.length_le
 unfold pP
 rw[h0]
 rw[if_neg (by simp),List.getElem?_map,List.getElem?_eq_getElem O,←aD O,nG hp hi];rfl
theorem tI {s:SS} (h0:ix (hOl s) 0=false):(pP s).length=(order (aW s)).length:=by
 unfold pP
 rw[h0];simp
end LeftM
end
section
open ref01 ref03 ref04 ref06 prog prog2 prog3 prog4 prog6 Part Rungs LeftM
def Xl:Int × List Int→List AV:=fun p=> [int p.1,ints p.2]
attribute [local semireducible] eQ any in
theorem xP {q:Prop} (hq:q) {w:World} {F:Fz} {v:Value}:(eQ q any).p w F v:=⟨hq,tV⟩
theorem JI {n:Nat} {l:List Int} {k:Nat} (hk:k<l.length) (h0:0≤ix l k):(marks n (l.take k)).set (ix l k).toNat true=marks n (l.take (k+1)):=by
 rw[pW h0,bM hk]
theorem take_at {α:Type} {l:List α} {m:Nat} {x:α} (h:l[m]?=some x):l.take (m+1)=l.take m++ [x]:=by
 obtain⟨hm,rfl⟩:=List.getElem?_eq_some_iff.1 h
 rw[List.take_succ_eq_append_getElem hm]
theorem Lr {s:SS} {x:Nat} (h:¬ix (hOl s) x=true):ix (hOl s) x=false:=by simpa using h
namespace T
theorem UV:Ent Tryz.prog 144:=aN kR
theorem Ls:Ent Tryz.prog 110:=aN kR
theorem z90:eR Tryz.prog 90 [.slice none 0 0]:=cR kR
theorem z4:eR Tryz.prog 4 [.bool false]:=cR kR
theorem yX:Ent Tryz.prog 99:=aN kR
theorem uU:Ent Tryz.prog 137:=aN kR
end T
namespace prog7
theorem Bt (s:SS) (hs:oK s):
 Fn0 Tryz.prog 110 [spec s] (bls (hOl s)):=by
 refine fnI Tryz.func110 rfl rfl (fun w0 F0=> ?_)
 have hf1:=hs.few1;have hI:=nV s s.sT.length;have hrl:(eU s).length≤s.sT.length:=hI.len
 refine fcC (bW 0 J) (fun hS0=> ?_)
 obtain⟨hsa0,hss0,hse0⟩:=sLn hS0
 refine sq (rg (bx (key:=1) (cs:= [sl 1 rE_ s.aC,sl 2 sE s.sT]) J fun b1=>(ag (nl (th (sq (rg (fP J T.bL (lP J J J T.bT (fc (aV 7 J) fun hm7=>(lnF J T.cO (mk (key:=9) (m:=s.sT.length) (enc:=blE) (y:=false) J J T.vT (eC eZ) mL mL fun v9=>(ag (nl (th (sq (sq (rg (lPA J J T.bF J (bB (φs:= [agg [sl 1 rE_ s.aC,sl 2 sE s.sT]]) (φ:=sl 1 nE (eU s)) ⟨J,tV⟩ (prog6.NT s aS) T.UV (fc (aV 11 J) fun hm11=>(lnF J T.aX (mv (nl (th (bk ?_))))))))))))))))))))))))))
 have hI0_0:0≤(eU s).length:=by
  first|omega|simp
 have hI0_1:(List.replicate s.sT.length false)=marks s.sT.length ((eU s).take 0):=by
  rw[List.take_zero];apply List.ext_getElem?;intro j;simp[marks,List.getElem?_replicate];split<;>simp_all
 refine lp (κ:=Nat × (List Bool)) (fun p=> [(2,eqv (.slice none 0 0)),(3,osl 9 v9),(11,sl 1 nE (eU s)),(12,int ((eU s).length:Int)),(13,int (p.1:Int))]) (fun p=> [(1,cell b1 [sl 1 rE_ s.aC,sl 2 sE s.sT]),(9,own v9 4 1 blE p.2)]) (fun p=>(p.1≤(eU s).length)∧(p.2=marks s.sT.length ((eU s).take p.1))) (fun p=>(eU s).length- p.1) ⟨0,List.replicate s.sT.length false⟩ ⟨hI0_0,hI0_1⟩ ⟨id,id,id,id,id,tV⟩ ⟨rI,rI,tV⟩ ?_
 intro⟨k,acc⟩ hG0
 obtain⟨hk0,hI0⟩:(k≤(eU s).length)∧(acc=marks s.sT.length ((eU s).take k)):=hG0
 show Ct _ _ _ _ [(2,eqv (.slice none 0 0)),(3,osl 9 v9),(11,sl 1 nE (eU s)),(12,int ((eU s).length:Int)),(13,int (k:Int))] [(1,cell b1 [sl 1 rE_ s.aC,sl 2 sE s.sT]),(9,own v9 4 1 blE acc)] _
 refine sq (rg (bi J J aO (nl (th (sq ?_)))))
 refine cd J (fun hc0=> ?_) (fun hc0=> ?_)
 ·try simp at hc0
  have hob:=hI.bd _ (iJ (l:=eU s) hc0)
  have hal:acc.length=s.sT.length:=by rw[hI0];exact nD _ _
  refine sk (th (sq (bk (sq (rg (iF J J T.aX O gB (lF J J T.aF (ag (nl (th (rg (mv (mv (iO J J J T.gV O O (sO (φ:=bl true) J J J T.eT gB J (y':=true) J (nl (eb (th (rg (bi J J (aG i6) (mv (nl ?_))))))))))))))))))))))
  have hN0:(k+1)≤(eU s).length:=by
   first|omega|simp_all
  have hN1:(acc.set (ix (eU s) k).toNat true)=marks s.sT.length ((eU s).take (k+1)):=by
   rw[hI0];exact JI hc0 hob.1
  exact ln (⟨k+1,acc.set (ix (eU s) k).toNat true⟩:Nat × (List Bool)) ⟨hN0,hN1⟩ dO ⟨id,id,id,id,id,tV⟩ ⟨rI,rI,tV⟩
 ·try simp at hc0
  refine ex (xt_ (xt_ (xb (th (sq (rg (mv (ag (nl (th (rt ?_)))))))))))
  refine fzA 9 2 rfl rfl ?_
  have hr0:acc=(hOl s):=by
   rw[hI0,show k=(eU s).length by omega,List.take_length];exact Fp hs
  exact rE () [.tmp 2] J [sl 1 blE acc] ⟨.tmp J,tV⟩ (cA1 (fun x0=>rV [sl 1 blE x0]) hr0) trivial eX
theorem RV (s:SS):
 Fn0 Tryz.prog 119 [spec s] (clo 149 [fp [strs s.aC,sl 2 sE s.sT]]):=by
 refine fnI Tryz.func119 rfl rfl (fun w0 F0=> ?_)
 refine fcC (bW 0 J) (fun hS0=> ?_)
 obtain⟨hsa0,hss0,hse0⟩:=sLn hS0
 refine sq (rg (bx (key:=1) (cs:= [sl 1 rE_ s.aC,sl 2 sE s.sT]) J fun b1=>(ag (nl (th (sq (rg (fzv 1 1 J J (mkf (ag (nl (th (rt ?_)))))))))))))
 exact rE () [.tmp 2] J [clo 149 [fp [sl 1 rE_ s.aC,sl 2 sE s.sT]]] ⟨.tmp J,tV⟩ J trivial eX
theorem UW (s:SS) (hs:oK s):
 It Tryz.prog 149 [fp [strs s.aC,sl 2 sE s.sT]] Xl (pP s):=by
 intro y Y Z hlaw hz hY0
 refine fnI Tryz.func149 rfl rfl (fun w0 F0=> ?_)
 have hf0:=hs.few0;have hf1:=hs.few1;have hn8:=hs.n8;have hhl:=nT s
 refine sq (rg (lFA J T.bF (Nat.le_of_ble_eq_true J) (bB (φs:= [agg [sl 1 rE_ s.aC,sl 2 sE s.sT]]) (φ:=sl 1 blE (hOl s)) ⟨J,tV⟩ (prog7.Bt s aS) T.Ls (al (key:=3) T.z90 (eC eZ) fun b3=>(sP (φ:=sl 1 blE (hOl s)) J J J T.lN J (nl (th (sq (sq (rg (lP J J J T.lN (iF J J T.gV O (gK (k:=0) O) (lF J J T.eT (nl (th ?_)))))))))))))))
 refine cd J (fun hc0=> ?_) (fun hc0=> ?_)
 ·try simp at hc0
  refine rt (rt_ ?_)
  exact r0 hz rfl (fun _=>xP (.inl (by unfold pP;rw[if_pos hc0];exact hY0))) ⟨rI,tV⟩ (.inr rfl)
 ·try simp at hc0
  have h00:=Lr (by rw[hc0];simp)
  refine sk (th (sq (rg (fF J T.bL (lF J J T.bT (fc (aV 22 J) fun hm22=>(lnF J T.cO (mk (key:=24) (m:=s.sT.length) (enc:=blE) (y:=false) J J T.vT (eC eZ) mL mL fun v24=>(al (key:=4) T.z90 (eC eZ) fun b4=>(cI J J J J T.lN J (nl (th (sq (rg (lP J J J T.lN (iO J J J T.gV O (by simp;omega) (sO (φ:=bl true) J J J T.eT (gN (by simp;omega)) J (y':=true) J (nl (th (sq (rg (bsO 27 (enc:=nE) (xs:= [0]) (css:= [[int 0]]) T.bZ ⟨J,J,p1 (φ:=int 0) J,tV⟩ J J J J fun v27=>(al (key:=5) T.z66 (eC eZ) fun b5=>(cI J J J J T.bD J (nl (th (sq (rg (ag (nl (th (bk ?_))))))))))))))))))))))))))))))))
  have hI0_0:([0]:List Int)=bq (aW s) 0∧((List.replicate s.sT.length false).set 0 true)=marks s.sT.length ([0]:List Int)∧Y 0 hz∧0≤([0]:List Int).length:=by
   exact⟨rfl,Jz _,hY0,Nat.zero_le _⟩
  refine lp (κ:=Nat × (List Bool) × Value × (List Int) × HA) (fun p=> [(0,eqv y),(1,fp [sl 1 rE_ s.aC,sl 2 sE s.sT]),(3,ptr 3 b3 0),(4,ptr 4 b4 0),(5,ptr 5 b5 0),(6,int (p.1:Int))]) (fun p=> [(0,p.2.2.2.2),(3,cell b3 [sl 1 blE (hOl s)]),(4,cell b4 [osl 24 v24]),(5,cell b5 [osl 27 p.2.2.1]),(24,own v24 4 1 blE p.2.1),(27,own p.2.2.1 3 1 nE p.2.2.2.1)]) (fun p=>p.2.2.2.1=bq (aW s) p.1∧p.2.1=marks s.sT.length p.2.2.2.1∧Y p.1 p.2.2.2.2∧p.1≤p.2.2.2.1.length) (fun p=>s.sT.length- p.1) ⟨0,(List.replicate s.sT.length false).set 0 true,v27,([0]:List Int),hz⟩ hI0_0 ⟨id,id,id,id,id,id,tV⟩ ⟨rI,rI,rI,rI,rI,rI,tV⟩ ?_
  intro⟨i,met,u5,ord,hh⟩ hG0
  have hI0:ord=bq (aW s) i∧met=marks s.sT.length ord∧Y i hh∧i≤ord.length:=hG0
  show Ct _ _ _ _ [(0,eqv y),(1,fp [sl 1 rE_ s.aC,sl 2 sE s.sT]),(3,ptr 3 b3 0),(4,ptr 4 b4 0),(5,ptr 5 b5 0),(6,int (i:Int))] [(0,hh),(3,cell b3 [sl 1 blE (hOl s)]),(4,cell b4 [osl 24 v24]),(5,cell b5 [osl 27 u5]),(24,own v24 4 1 blE met),(27,own u5 3 1 nE ord)] _
  have hoq:=JH hs i
  rw[←hI0.1] at hoq
  have hol:=hoq.le
  have hml:met.length=s.sT.length:=by rw[hI0.2.1];exact nD _ _
  refine sq (sq (rg (mv (lP J J J T.bD (lnO J J T.aX (bi J J aO (nl (th ?_))))))))
  refine cd J (fun hc1=> ?_) (fun hc1=> ?_)
  ·try simp at hc1
   have hob:=hoq.1 i hc1
   have hox:=hs.st (ix ord i).toNat O
   have hxn:(ix ord i).toNat<s.sT.length:=by omega
   refine sk (th (sq (bk (sq ?_))))
   refine drH (nh:=10) [0,1,0,0,12,28,63,127,0,511] [(none,[]),(none,[]),(none,[5]),(none,[]),(none,[27]),(none,[27]),(none,[]),(none,[]),(some 7,[]),(some 7,[7])] T.mixed kR kR ?_
   refine stv (d:=34) (fun β0=>fp [sl 2 sE s.sT]) [] J bH (fun β0 _ _ _ _ gq gh kq=>fF (gq.1.trans J) T.bL kq) ?_
   refine stv (d:=35) (fun β0=>sl 2 sE s.sT) [] J bH (fun β0 _ _ _ _ gq gh kq=>lF (gq.1.trans J) J T.bT kq) ?_
   refine stv (d:=36) (fun β0=>osl 27 u5) [5] J bH (fun β0 _ _ _ _ gq gh kq=>lP (gq.1.trans J) (gh.1.trans J) J T.bD kq) ?_
   refine stv (d:=37) (fun β0=>int (i:Int)) [] J bH (fun β0 _ _ _ _ gq gh kq=>mv' (gq.1.trans J) kq) ?_
   refine stv (d:=38) (fun β0=>dP 27 u5 1 i 0) [27] J bH (fun β0 _ _ _ _ gq gh kq=>iO (gq.1.trans J) (gh.1.trans J) (gq.2.1.trans J) T.aX O O kq) ?_
   refine stv (d:=39) (fun β0=>int (ix ord i)) [27] J bH (fun β0 _ _ _ _ gq gh kq=>lO (gq.1.trans J) (gh.1.trans J) gB J T.aF kq) ?_
   refine stv (d:=40) (fun β0=>fp [sl 1 nE (ix s.sT (ix ord i).toNat).aP,sl 1 nE (ix s.sT (ix ord i).toNat).next]) [] J bH (fun β0 _ _ _ _ gq gh kq=>iF (gq.1.trans J) (gq.2.1.trans J) T.cO O gB kq) ?_
   refine stv (d:=41) (fun β0=>agg [sl 1 nE (ix s.sT (ix ord i).toNat).aP,sl 1 nE (ix s.sT (ix ord i).toNat).next]) [] J bH (fun β0 _ _ _ _ gq gh kq=>lFA (gq.1.trans J) T.dJ (Nat.le_of_ble_eq_true J) kq) ?_
   refine sta 7 T.z79 (eC (eC eZ)) ?_
   refine stw 7 (fun β0=>cell (gbk (β0 8)) [sl 1 nE (ix s.sT (ix ord i).toNat).aP,sl 1 nE (ix s.sT (ix ord i).toNat).next]) [7] J (fun β β' hb=>by first|rw[hb 8 J]|(dsimp only;rw[hb 8 J])) (fun β0 _ _ _ _ gq gh kq=>sPA (cs':= [sl 1 nE (ix s.sT (ix ord i).toNat).aP,sl 1 nE (ix s.sT (ix ord i).toNat).next]) (gq.1.trans J) (gh.1.trans J) (gq.2.1.trans J) T.dJ J J kq) ?_
   refine pnH fun β0=>(nl (th (sq (rg (nw 8 3 1 nE (ag (rtg (key:=8) 8 J (nl (th (sq (rg (ag (nl (th (sq (sq (rg (fP J T.cK (lP J J J T.bD (fc (aV 43 J) fun hm43=>(lnF J T.aX (mv (nl (th (bk ?_)))))))))))))))))))))))))
   have hI1_0:0≤(ix s.sT (ix ord i).toNat).aP.length:=by
    first|omega|simp
   have hI1_1:([]:List Int)=((ix s.sT (ix ord i).toNat).aP.take 0).filter (fun t=> !eH (ix s.sT (ix ord i).toNat) t (hOl s))∧(0:Int)=aZ ([]:List Int)∧0≤(0:Int)∧(0:Int)<256∧([]:List Int).length≤0:=by
    exact⟨by simp,rfl,O,O,by simp⟩
   refine lp (κ:=Nat × Value × (List Int) × Int) (fun p=> [(0,eqv y),(1,fp [sl 1 rE_ s.aC,sl 2 sE s.sT]),(3,ptr 3 b3 0),(4,ptr 4 b4 0),(5,ptr 5 b5 0),(6,int (i:Int)),(7,ptr 7 (gbk (β0 8)) 0),(8,osl 8 p.2.1),(9,int p.2.2.2),(43,sl 1 nE (ix s.sT (ix ord i).toNat).aP),(44,int ((ix s.sT (ix ord i).toNat).aP.length:Int)),(45,int (p.1:Int))]) (fun p=> [(0,hh),(3,cell b3 [sl 1 blE (hOl s)]),(4,cell b4 [osl 24 v24]),(5,cell b5 [osl 27 u5]),(7,cell (gbk (β0 8)) [sl 1 nE (ix s.sT (ix ord i).toNat).aP,sl 1 nE (ix s.sT (ix ord i).toNat).next]),(8,own p.2.1 3 1 nE p.2.2.1),(24,own v24 4 1 blE met),(27,own u5 3 1 nE ord)]) (fun p=>(p.1≤(ix s.sT (ix ord i).toNat).aP.length)∧(p.2.2.1=((ix s.sT (ix ord i).toNat).aP.take p.1).filter (fun t=> !eH (ix s.sT (ix ord i).toNat) t (hOl s))∧p.2.2.2=aZ p.2.2.1∧0≤p.2.2.2∧p.2.2.2<256∧p.2.2.1.length≤p.1)) (fun p=>(ix s.sT (ix ord i).toNat).aP.length- p.1) ⟨0,(.slice none 0 0),([]:List Int),(0:Int)⟩ ⟨hI1_0,hI1_1⟩ ⟨id,id,id,id,id,id,id,id,id,id,id,id,tV⟩ ⟨rI,rI,rI,rI,rI,rI,rI,rI,tV⟩ ?_
   intro⟨k1,u8,sets,cn⟩ hG1
   obtain⟨hk1,hI1⟩:(k1≤(ix s.sT (ix ord i).toNat).aP.length)∧(sets=((ix s.sT (ix ord i).toNat).aP.take k1).filter (fun t=> !eH (ix s.sT (ix ord i).toNat) t (hOl s))∧cn=aZ sets∧0≤cn∧cn<256∧sets.length≤k1):=hG1
   show Ct _ _ _ _ [(0,eqv y),(1,fp [sl 1 rE_ s.aC,sl 2 sE s.sT]),(3,ptr 3 b3 0),(4,ptr 4 b4 0),(5,ptr 5 b5 0),(6,int (i:Int)),(7,ptr 7 (gbk (β0 8)) 0),(8,osl 8 u8),(9,int cn),(43,sl 1 nE (ix s.sT (ix ord i).toNat).aP),(44,int ((ix s.sT (ix ord i).toNat).aP.length:Int)),(45,int (k1:Int))] [(0,hh),(3,cell b3 [sl 1 blE (hOl s)]),(4,cell b4 [osl 24 v24]),(5,cell b5 [osl 27 u5]),(7,cell (gbk (β0 8)) [sl 1 nE (ix s.sT (ix ord i).toNat).aP,sl 1 nE (ix s.sT (ix ord i).toNat).next]),(8,own u8 3 1 nE sets),(24,own v24 4 1 blE met),(27,own u5 3 1 nE ord)] _
   have hacl:=hox.acl
   refine sq (rg (bi J J aO (nl (th (sq ?_)))))
   refine cd J (fun hc2=> ?_) (fun hc2=> ?_)
   ·try simp at hc2
    have hac:=hox.ac k1 O
    refine sk (th (sq (bk (sq (rg (iF J J T.aX O gB (lF J J T.aF (ag (nl (th (sq (rg (al (key:=12) T.z4 (eC eZ) fun b12=>(sP (φ:=bl true) J J J T.eT J (nl (th (sq (sq (rg (mv (bB (φs:= [int (ix (ix s.sT (ix ord i).toNat).aP k1)]) (φ:=clo 137 [fp [int (ix (ix s.sT (ix ord i).toNat).aP k1)]]) ⟨J,tV⟩ (prog3.tE (ix (ix s.sT (ix ord i).toNat).aP k1)) T.yX (nl (th (bk ?_))))))))))))))))))))))))
    have hR0:true=((aK 63 (ix (ix s.sT (ix ord i).toNat).aP k1)).take 0).all (fun a=> !ix (hOl s) (ix (ix s.sT (ix ord i).toNat).next a.toNat).toNat):=by
     simp
    refine rf (κ:=Bool) 900 (fun p=> [(0,hh),(3,cell b3 [sl 1 blE (hOl s)]),(4,cell b4 [osl 24 v24]),(5,cell b5 [osl 27 u5]),(7,cell (gbk (β0 8)) [sl 1 nE (ix s.sT (ix ord i).toNat).aP,sl 1 nE (ix s.sT (ix ord i).toNat).next]),(8,own u8 3 1 nE sets),(12,cell b12 [bl p]),(24,own v24 4 1 blE met),(27,own u5 3 1 nE ord)]) (fun iR p=>p=((aK 63 (ix (ix s.sT (ix ord i).toNat).aP k1)).take iR).all (fun a=> !ix (hOl s) (ix (ix s.sT (ix ord i).toNat).next a.toNat).toNat)) (fun c p=>False) J (Cv (ix (ix s.sT (ix ord i).toNat).aP k1) O O) T.uU J (fun _=>J) (fun _=>J) true hR0 ⟨rI,rI,rI,rI,rI,rI,rI,rI,rI,tV⟩ ?_ ?_ (fun k h=>h.elim) (fun id k h=>h.elim) (fun c k h=>h.elim)
    ·intro m0 fi x0 hG0 hx0 l R w1 M1 F1 hRd
     have hR0:fi=((aK 63 (ix (ix s.sT (ix ord i).toNat).aP k1)).take m0).all (fun a=> !ix (hOl s) (ix (ix s.sT (ix ord i).toNat).next a.toNat).toNat):=hG0
     obtain⟨a,rfl,ha63,hha⟩:=nX hx0
     have hgo:=hox.go k1 O a hha
     have hnx:=hox.nx a hgo.1
     have hxl:=hox.len
     refine rg (ag (nl (aq hRd J (bk (dr (nh:=12) [0,1,3,3,11,3,59,123,255,511,1023,2047,4095] T.mixed kR ?_)))))
     refine st_ J (fun _ _ _ gq kq=>lP (gq.1.trans J) J J T.eT kq) ?_
     refine st_ J (fun _ _ _ gq kq=>mv' (gq.1.trans J) kq) ?_
     refine sg_ (φ:=sl 1 blE (hOl s)) J J J J (List.mem_of_elem_eq_true J) (fun hgd=> ?_) ?_
     ·have hgd':=hgd
      try simp at hgd'
      exact fun _ _ _ gq kq=>lP (gq.1.trans J) J J T.lN kq
     refine sg_ (φ:=ptr 7 (gbk (β0 8)) 1) J J J J (List.mem_of_elem_eq_true J) (fun hgd=> ?_) ?_
     ·have hgd':=hgd
      try simp at hgd'
      exact fun _ _ _ gq kq=>fP (gq.1.trans J) T.cS kq
     refine sg_ (φ:=sl 1 nE (ix s.sT (ix ord i).toNat).next) J J J J (List.mem_of_elem_eq_true J) (fun hgd=> ?_) ?_
     ·have hgd':=hgd
      try simp at hgd'
      exact fun _ _ _ gq kq=>lP (gq.1.trans (cP hgd)) J J T.bD kq
     refine sg_ (φ:=int (a:Int)) J J J J (List.mem_of_elem_eq_true J) (fun hgd=> ?_) ?_
     ·have hgd':=hgd
      try simp at hgd'
      exact fun _ _ _ gq kq=>mv' (gq.1.trans J) kq
     refine sg_ (φ:=fp [int (ix (ix s.sT (ix ord i).toNat).next a)]) J J J J (List.mem_of_elem_eq_true J) (fun hgd=> ?_) ?_
     ·have hgd':=hgd
      try simp at hgd'
      exact fun _ _ _ gq kq=>iF (gq.1.trans (cP hgd)) (gq.2.1.trans (cP hgd)) T.aX O gB kq
     refine sg_ (φ:=int (ix (ix s.sT (ix ord i).toNat).next a)) J J J J (List.mem_of_elem_eq_true J) (fun hgd=> ?_) ?_
     ·have hgd':=hgd
      try simp at hgd'
      exact fun _ _ _ gq kq=>lF (gq.1.trans (cP hgd)) J T.aF kq
     refine sg_ (φ:=fp [bl (ix (hOl s) (ix (ix s.sT (ix ord i).toNat).next a).toNat)]) J J J J (List.mem_of_elem_eq_true J) (fun hgd=> ?_) ?_
     ·have hgd':=hgd
      try simp at hgd'
      exact fun _ _ _ gq kq=>iF (gq.1.trans (cP hgd)) (gq.2.1.trans (cP hgd)) T.gV O gB kq
     refine sg_ (φ:=bl (ix (hOl s) (ix (ix s.sT (ix ord i).toNat).next a).toNat)) J J J J (List.mem_of_elem_eq_true J) (fun hgd=> ?_) ?_
     ·have hgd':=hgd
      try simp at hgd'
      exact fun _ _ _ gq kq=>lF (gq.1.trans (cP hgd)) J T.eT kq
     refine sg_ (φ:=bl (!(ix (hOl s) (ix (ix s.sT (ix ord i).toNat).next a).toNat))) J J J J (List.mem_of_elem_eq_true J) (fun hgd=> ?_) ?_
     ·have hgd':=hgd
      try simp at hgd'
      exact fun _ _ _ gq kq=>no (gq.1.trans (cP hgd)) kq
     refine st_ J (fun _ _ _ gq kq=>pk (gq.1.trans J) (EX (x:= .tmp 53) (gq.1.trans J) (gq.2.1.trans J) J) kq) ?_
     refine pn (sP (φ:=bl (fi&&(!(ix (hOl s) (ix (ix s.sT (ix ord i).toNat).next a).toNat)))) J J J T.eT J (nl (eb ?_)))
     have hN0:(fi&&(!(ix (hOl s) (ix (ix s.sT (ix ord i).toNat).next a).toNat)))=((aK 63 (ix (ix s.sT (ix ord i).toNat).aP k1)).take (m0+1)).all (fun a=> !ix (hOl s) (ix (ix s.sT (ix ord i).toNat).next a.toNat).toNat):=by
      rw[Lm hx0,hR0];simp
     exact rqN (fi&&(!(ix (hOl s) (ix (ix s.sT (ix ord i).toNat).next a).toNat))) hN0 ⟨rI,rI,rI,rI,rI,rI,rI,rI,rI,rI,tV⟩
    ·intro fi hG0
     have hR0:fi=((aK 63 (ix (ix s.sT (ix ord i).toNat).aP k1)).take (aK 63 (ix (ix s.sT (ix ord i).toNat).aP k1)).length).all (fun a=> !ix (hOl s) (ix (ix s.sT (ix ord i).toNat).next a.toNat).toNat):=hG0
     refine eb (th (sq (rg (lP rfl rfl rfl T.eT (nl (th ?_))))))
     refine cd J (fun hc3=> ?_) (fun hc3=> ?_)
     ·try simp at hc3
      refine sq (rg (mv (mv (bsE (enc:=nE) (xs:= [(ix (ix s.sT (ix ord i).toNat).aP k1)]) (css:= [[int (ix (ix s.sT (ix ord i).toNat).aP k1)]]) T.bZ ⟨J,J,p1 (φ:=int (ix (ix s.sT (ix ord i).toNat).aP k1)) J,tV⟩ J J J J (ap (key:=8) (zs:= [(ix (ix s.sT (ix ord i).toNat).aP k1)]) bX J J J T.bZ (by unfold aT at*;simp;omega) (by unfold aT at*;simp;omega) fun v68=>(ag (nl (th (rg (mv (mv (bi J J (vN O O O O) (ag (nl (eb (th (rg (bi J J (aG i6) (mv (nl ?_))))))))))))))))))))
      have hN0:(k1+1)≤(ix s.sT (ix ord i).toNat).aP.length:=by
       first|omega|simp_all
      have hN1:(sets++ [(ix (ix s.sT (ix ord i).toNat).aP k1)])=((ix s.sT (ix ord i).toNat).aP.take (k1+1)).filter (fun t=> !eH (ix s.sT (ix ord i).toNat) t (hOl s))∧((cn.toNat|||(ix (ix s.sT (ix ord i).toNat).aP k1).toNat:Nat):Int)=aZ (sets++ [(ix (ix s.sT (ix ord i).toNat).aP k1)])∧0≤((cn.toNat|||(ix (ix s.sT (ix ord i).toNat).aP k1).toNat:Nat):Int)∧((cn.toNat|||(ix (ix s.sT (ix ord i).toNat).aP k1).toNat:Nat):Int)<256∧(sets++ [(ix (ix s.sT (ix ord i).toNat).aP k1)]).length≤(k1+1):=by
       have hfi:eH (ix s.sT (ix ord i).toNat) (ix (ix s.sT (ix ord i).toNat).aP k1) (hOl s)=false:=by
                have h1:fi=JG (ix s.sT (ix ord i).toNat) (ix (ix s.sT (ix ord i).toNat).aP k1) (hOl s):=by rw[hR0,List.take_length];rfl
                rw[HQ hox hn8 (iJ O),hc3] at h1;simpa using h1.symm
       refine⟨?_,?_,O,kU hI1.2.2.2.1 hac.2,by simp;omega⟩
       ·rw[rR O,hI1.1];simp[hfi]
       ·rw[iL,←hI1.2.1]
      exact ln (⟨k1+1,v68,sets++ [(ix (ix s.sT (ix ord i).toNat).aP k1)],((cn.toNat|||(ix (ix s.sT (ix ord i).toNat).aP k1).toNat:Nat):Int)⟩:Nat × Value × (List Int) × Int) ⟨hN0,hN1⟩ dO ⟨id,id,id,id,id,id,id,id,id,id,id,id,tV⟩ ⟨rI,rI,rI,rI,rI,rI,rI,rI,tV⟩
     ·try simp at hc3
      refine sk (eb (th (rg (bi J J (aG i6) (mv (nl ?_))))))
      have hN0:(k1+1)≤(ix s.sT (ix ord i).toNat).aP.length:=by
       first|omega|simp_all
      have hN1:sets=((ix s.sT (ix ord i).toNat).aP.take (k1+1)).filter (fun t=> !eH (ix s.sT (ix ord i).toNat) t (hOl s))∧cn=aZ sets∧0≤cn∧cn<256∧sets.length≤(k1+1):=by
       have hfi:eH (ix s.sT (ix ord i).toNat) (ix (ix s.sT (ix ord i).toNat).aP k1) (hOl s)=true:=by
                have h1:fi=JG (ix s.sT (ix ord i).toNat) (ix (ix s.sT (ix ord i).toNat).aP k1) (hOl s):=by rw[hR0,List.take_length];rfl
                rw[HQ hox hn8 (iJ O),hc3] at h1;simpa using h1.symm
       refine⟨?_,hI1.2.1,hI1.2.2.1,hI1.2.2.2.1,O⟩
       rw[rR O,hI1.1];simp[hfi]
      exact ln (⟨k1+1,u8,sets,cn⟩:Nat × Value × (List Int) × Int) ⟨hN0,hN1⟩ dO ⟨id,id,id,id,id,id,id,id,id,id,id,id,tV⟩ ⟨rI,rI,rI,rI,rI,rI,rI,rI,tV⟩
   ·try simp at hc2
    have hnh:=vU hs h00 i (ix ord i) (by rw[←hI0.1];exact iJ hc1)
    have hsets:sets=keep s (ix ord i).toNat:=by rw[kF hnh,hI1.1,show k1=(ix s.sT (ix ord i).toNat).aP.length by omega,List.take_length]
    have hcn:cn=aZ (keep s (ix ord i).toNat):=by rw[hI1.2.1,hsets]
    refine ex (xt_ (xt_ (xb (th (sq (sq (rg (mv (bB (φs:= [int cn]) (φ:=clo 137 [fp [int cn]]) ⟨J,tV⟩ (prog3.tE cn) T.yX (nl (th (bk ?_))))))))))))
    have hR1:ord=visit ord (((aK 63 cn).take 0).map fun a=>ix (ix s.sT (ix ord i).toNat).next a.toNat)∧met=marks s.sT.length ord∧okQ s.sT.length ord:=by
     exact⟨by simp[visit],hI0.2.1,hoq⟩
    refine rf (κ:=(List Bool) × Value × (List Int)) 901 (fun p=> [(0,hh),(3,cell b3 [sl 1 blE (hOl s)]),(4,cell b4 [osl 24 v24]),(5,cell b5 [osl 27 p.2.1]),(7,cell (gbk (β0 8)) [sl 1 nE (ix s.sT (ix ord i).toNat).aP,sl 1 nE (ix s.sT (ix ord i).toNat).next]),(8,own u8 3 1 nE sets),(24,own v24 4 1 blE p.1),(27,own p.2.1 3 1 nE p.2.2)]) (fun iR p=>p.2.2=visit ord (((aK 63 cn).take iR).map fun a=>ix (ix s.sT (ix ord i).toNat).next a.toNat)∧p.1=marks s.sT.length p.2.2∧okQ s.sT.length p.2.2) (fun c p=>False) J (Cv cn O O) T.uU J (fun _=>J) (fun _=>J) ⟨met,u5,ord⟩ hR1 ⟨rI,rI,rI,rI,rI,rI,rI,rI,tV⟩ ?_ ?_ (fun k h=>h.elim) (fun id k h=>h.elim) (fun c k h=>h.elim)
    ·intro m1 ⟨met2,u52,ord2⟩ x1 hG1 hx1 l R w1 M1 F1 hRd
     have hR1:ord2=visit ord (((aK 63 cn).take m1).map fun a=>ix (ix s.sT (ix ord i).toNat).next a.toNat)∧met2=marks s.sT.length ord2∧okQ s.sT.length ord2:=hG1
     show Ct _ _ _ _ _ ((901,obj l (.loop R)):: [(0,hh),(3,cell b3 [sl 1 blE (hOl s)]),(4,cell b4 [osl 24 v24]),(5,cell b5 [osl 27 u52]),(7,cell (gbk (β0 8)) [sl 1 nE (ix s.sT (ix ord i).toNat).aP,sl 1 nE (ix s.sT (ix ord i).toNat).next]),(8,own u8 3 1 nE sets),(24,own v24 4 1 blE met2),(27,own u52 3 1 nE ord2)]) _
     obtain⟨a,rfl,ha63,hha⟩:=nX hx1
     have hgo:=kV hs hxn (by rw[←hcn];exact hha)
     have CM:=hR1.2.2.le
     have hml2:met2.length=s.sT.length:=by rw[hR1.2.1];exact nD _ _
     refine rg (ag (nl (aq hRd J (bk (sq (rg (fP J T.cS (lP J J J T.bD (mv (iF J J T.aX O gB (lF J J T.aF (ag (nl (th (sq (rg (lP J J J T.lN (mv (iO J J J T.gV O O (lO J J gB J T.eT (no J (nl (th ?_)))))))))))))))))))))))
     refine cd J (fun hc4=> ?_) (fun hc4=> ?_)
     ·try simp at hc4
      refine sq (rg (lP J J J T.lN (mv (iO J J J T.gV O O (sO (φ:=bl true) J J J T.eT gB J (y':=true) J (nl (th (rg (lP J J J T.bD (mv (bsE (enc:=nE) (xs:= [(ix (ix s.sT (ix ord i).toNat).next a)]) (css:= [[int (ix (ix s.sT (ix ord i).toNat).next a)]]) T.bZ ⟨J,J,p1 (φ:=int (ix (ix s.sT (ix ord i).toNat).next a)) J,tV⟩ J J J J (ap (key:=27) (zs:= [(ix (ix s.sT (ix ord i).toNat).next a)]) bX J J J T.bZ (by unfold aT at*;simp;omega) (by unfold aT at*;simp;omega) fun v92=>(cI J J J J T.bD J (nl (eb ?_)))))))))))))))
      have hN0:(ord2++ [(ix (ix s.sT (ix ord i).toNat).next a)])=visit ord (((aK 63 cn).take (m1+1)).map fun a=>ix (ix s.sT (ix ord i).toNat).next a.toNat)∧(met2.set (ix (ix s.sT (ix ord i).toNat).next a).toNat true)=marks s.sT.length (ord2++ [(ix (ix s.sT (ix ord i).toNat).next a)])∧okQ s.sT.length (ord2++ [(ix (ix s.sT (ix ord i).toNat).next a)]):=by
       have hcc:ord2.contains (ix (ix s.sT (ix ord i).toNat).next a)=false:=by
                rw[hR1.2.1,Aa O,Int.toNat_of_nonneg hgo.2.1] at hc4;exact hc4
       refine⟨?_,?_,Fe hR1.2.2 hgo.2.1 hgo.2.2.1 hcc⟩
       ·rw[take_at hx1,List.map_append,List.map_cons,List.map_nil,Bi,←hR1.1,Int.toNat_natCast,if_pos (by simp only [hcc];simpa using hgo.2.1)]
       ·rw[hR1.2.1,pW hgo.2.1]
      exact rqN ⟨met2.set (ix (ix s.sT (ix ord i).toNat).next a).toNat true,v92,ord2++ [(ix (ix s.sT (ix ord i).toNat).next a)]⟩ hN0 ⟨rI,rI,rI,rI,rI,rI,rI,rI,rI,tV⟩
     ·try simp at hc4
      refine sk (eb ?_)
      have hN0:ord2=visit ord (((aK 63 cn).take (m1+1)).map fun a=>ix (ix s.sT (ix ord i).toNat).next a.toNat)∧met2=marks s.sT.length ord2∧okQ s.sT.length ord2:=by
       have hcc:ord2.contains (ix (ix s.sT (ix ord i).toNat).next a)=true:=by
                rw[hR1.2.1,Aa O,Int.toNat_of_nonneg hgo.2.1] at hc4;exact hc4
       refine⟨?_,hR1.2.1,hR1.2.2⟩
       rw[take_at hx1,List.map_append,List.map_cons,List.map_nil,Bi,←hR1.1,Int.toNat_natCast,if_neg (by simp only [hcc];simp)]
      exact rqN ⟨met2,u52,ord2⟩ hN0 ⟨rI,rI,rI,rI,rI,rI,rI,rI,rI,tV⟩
    ·intro⟨met2,u52,ord2⟩ hG1
     have hR1:ord2=visit ord (((aK 63 cn).take (aK 63 cn).length).map fun a=>ix (ix s.sT (ix ord i).toNat).next a.toNat)∧met2=marks s.sT.length ord2∧okQ s.sT.length ord2:=hG1
     show At _ _ _ _ [(0,hh),(3,cell b3 [sl 1 blE (hOl s)]),(4,cell b4 [osl 24 v24]),(5,cell b5 [osl 27 u52]),(7,cell (gbk (β0 8)) [sl 1 nE (ix s.sT (ix ord i).toNat).aP,sl 1 nE (ix s.sT (ix ord i).toNat).next]),(8,own u8 3 1 nE sets),(24,own v24 4 1 blE met2),(27,own u52 3 1 nE ord2)]
     refine eb (th (sq (rg ?_)))
     have hor:=hR1.1
     rw[List.take_length] at hor
     have ho2:ord2=bq (aW s) (i+1):=by rw[Cx hs (by rw[←hI0.1];exact hc1),←hI0.1,←hcn,hor]
     have hpx:ord<+:ord2:=by rw[hor];exact fZ _ _
     have hix:ix ord2 i=ix ord i:=nG hpx hc1
     have hpl:=hpx.length_le
     have hla:=NU hs h00 (i:=i) O (by rw[←hI0.1];exact hc1)
     rw[←hI0.1] at hla
     have hol3:=hR1.2.2.le
     refine mv (lP rfl rfl rfl T.bD (mv (iO rfl rfl rfl T.aX O O (lO rfl rfl gB rfl T.aF (mv (fz 8 98 rfl rfl (QM (Hi:= [(0,hh)]) rfl (by show FnV _ _ [int (ix ord2 i),ints sets] _ _ _;rw[hix,hsets];exact hlaw i hh (ix ord i,keep s (ix ord i).toNat) hI0.2.2.1 hla) ⟨rI,tV⟩ fun N bh=>oan 99 rfl fun hres=>(no rfl (nl (th ?_))))))))))
     refine cd J (fun hc5=> ?_) (fun hc5=> ?_)
     ·try simp at hc5
      refine rt (rb (rt_ (rt_ (rb ?_))))
      exact r0 bh.2 rfl (fun _=>xP (.inr (hres.2 hc5))) ⟨rI,tV⟩ (.inr rfl)
     ·try simp at hc5
      refine sk (eb (th (rg (mv (bi J J (aG i6) (ag (nl ?_)))))))
      have hN0:ord2=bq (aW s) (i+1)∧met2=marks s.sT.length ord2∧Y (i+1) bh.2∧(i+1)≤ord2.length:=by
       refine⟨ho2,hR1.2.1,hres.1 (by simpa using hc5),?_⟩
       omega
      exact ln (⟨i+1,met2,u52,ord2,bh.2⟩:Nat × (List Bool) × Value × (List Int) × HA) hN0 dO ⟨id,id,id,id,id,id,tV⟩ ⟨rI,rI,rI,rI,rI,rI,tV⟩
  ·try simp at hc1
   refine ex (xt_ (xt_ (xb ?_)))
   exact r0 hh rfl (fun _=>xP (.inl (by have he:=Bs hs (i:=i) (by rw[←hI0.1];exact hc1) O;rw[tI h00,←he,←hI0.1,show ord.length=i by omega];exact hI0.2.2.1))) ⟨rI,tV⟩ (.inl rfl)
end prog7
end
section
open ref01 ref03 ref04 ref06 prog prog2 prog3 prog4 prog6 prog7 Part Rungs LeftM
theorem NV {n cp:Nat} (h:cp≤n):(List.replicate cp (-1:Int)++List.replicate (n- cp) 0).take cp++(List.replicate cp (-1:Int)++List.replicate (n- cp) 0).take (min cp (n- cp))++(List.replicate cp (-1:Int)++List.replicate (n- cp) 0).drop (cp+min cp (n- cp))=List.replicate (cp+min cp (n- cp)) (-1)++List.replicate (n- (cp+min cp (n- cp))) 0:=by
 have h1:(List.replicate cp (-1:Int)++List.replicate (n- cp) 0).take cp=List.replicate cp (-1):=by
  rw[List.take_append_of_le_length (by simp)];simp
 have h2:(List.replicate cp (-1:Int)++List.replicate (n- cp) 0).take (min cp (n- cp))=List.replicate (min cp (n- cp)) (-1):=by
  rw[List.take_append_of_le_length (by simp;omega)];simp[List.take_replicate]
 have h3:(List.replicate cp (-1:Int)++List.replicate (n- cp) 0).drop (cp+min cp (n- cp))=List.replicate (n- (cp+min cp (n- cp))) 0:=by
  rw[List.drop_append];simp;omega
 rw[h1,h2,h3,List.replicate_append_replicate]
theorem Lt (n:Nat):(List.replicate n (0:Int)).take 0++([-1]:List Int).take (min 1 n)++(List.replicate n (0:Int)).drop (0+min 1 n)=List.replicate (min 1 n) (-1)++List.replicate (n- min 1 n) 0:=by
 cases n with
 |zero=>rfl
 |succ n=>simp[show min 1 (n+1)=1 by omega,List.replicate_succ]
namespace T
theorem UX:Ent Tryz.prog 162:=aN kR
theorem kd3:Tryz.prog.underlying 3=some (.int .i64):=by kernel_rfl
theorem Bu:Tryz.prog.underlying 183=some (.int .u64):=by kernel_rfl
theorem UY:Ent Tryz.prog 134:=aN kR
theorem tJ:Ent Tryz.prog 92:=aN kR
theorem JJ:Ent Tryz.prog 94:=aN kR
end T
namespace prog8
theorem NW (n:Int) (h0:0≤n) (h1:n<4294967296):
 Fn0 Tryz.prog 162 [u64 1,u64 n] (tup [u64 0,u64 n]):=by
 refine fnI Tryz.func162 rfl rfl (fun w0 F0=> ?_)
 refine sq (rg (ag (ag (nl (th (sq (rg (mv (bi J J (zW O O) (ag (nl (th (sq (rg (mv (bi J J (rO O O) (ag (nl (th (sq (rg (mv (bi J J (zW O O) (ag (nl (th (sq (rg (mv (bi J J (rO O O) (ag (nl (th (sq (rg (mv (mv (bi J J (xA (by unfold U64;omega)) (ag (nl (th (sq (rg (mv (mv (bi J J (xA (by unfold U64;omega)) (mv (bi J J (rO O O) (bi J J (Ba (by unfold U64;omega)) (ag (nl (th (sq (rg (mv (bi J J (zW O O) (ag (nl (th (sq (rg (mv (bi J J (rO O O) (ag (nl (th (sq (rg (mv (mv (mv (bi J J (xA (by unfold U64;omega)) (bi J J (Ba (by unfold U64;omega)) (ag (nl (th (sq (rg (mv (mv (bi J J (xA (by unfold U64;omega)) (mv (bi J J (Ba (by unfold U64;omega)) (mv (bi J J (rO O O) (bi J J (Ba (by unfold U64;omega)) (ag (nl (th (sq (rg (mv (mv (bi J J (xA (by unfold U64;omega)) (ag (nl (th (rt ?_))))))))))))))))))))))))))))))))))))))))))))))))))))))))))))))))))))))))))))))))))))))))))))))))))
 have hr0:((((0*0)+0)+0):Int)=0:=by
  omega
 have hr1:((1*n):Int)=n:=by
  omega
 exact rE () [.tmp 4,.tmp 5] J [u64 (((0*0)+0)+0),u64 (1*n)] ⟨.tmp J,.tmp J,tV⟩ (cA2 (fun x0 x1=>rV [u64 x0,u64 x1]) hr0 hr1) trivial eX
theorem UZ (n:Int) (h0:0≤n) (h1:n<4294967296):
 Fn0 Tryz.prog 134 [u64 1,u64 n] (tup [u64 0,u64 n]):=by
 refine fnI Tryz.func134 rfl rfl (fun w0 F0=> ?_)
 refine sq (rg (ag (ag (nl (th (sq ?_))))))
 refine cd J (fun hc0=> ?_) (fun hc0=> ?_)
 ·try simp at hc0
  skip
 ·try simp at hc0
  refine sk (th (sq (rg (mv (mv (bB (φs:= [u64 1,u64 n]) (φ:=tup [u64 0,u64 n]) ⟨J,J,tV⟩ (prog8.NW n O O) T.UX (mv (xt J J (xt J J (ag (ag (nl (th (sq (rg (mv (mv (ag (ag (nl (th (rt ?_))))))))))))))))))))))
  exact rE () [.tmp 4,.tmp 5] J [u64 0,u64 n] ⟨.tmp J,.tmp J,tV⟩ J trivial eX
theorem xQ (n:Nat) (hn:n≤1000000):
 AL.Fn Tryz.prog 94 [ints [-1],int (n:Int)] [] (fun _ v=>osl 30 v) (fun v=> [(30,own v 3 1 nE (List.replicate n (-1)))]):=by
 refine fnI Tryz.func94 rfl rfl (fun w0 F0=> ?_)
 refine fcC (aV 0 J) (fun hm0=> ?_)
 refine sq (rg (ag (nl (th (sq (sq (rg (mv (bi J J aO (nl (th ?_)))))))))))
 refine cd J (fun hc0=> ?_) (fun hc0=> ?_)
 ·try simp at hc0
  exfalso;omega
 ·try simp at hc0
  refine sk (th (sq (rg (mv (lnF J T.aX (cv J T.kd3 T.Bu (mQ ⟨by simp,by simp⟩) (mv (cv J T.kd3 T.Bu (mQ ⟨O,O⟩) (bB (φs:= [u64 ([-1].length:Int),u64 (n:Int)]) (φ:=tup [u64 0,u64 (n:Int)]) ⟨J,J,tV⟩ (prog8.UZ (n:Int) O O) T.UY (mv (xt J J (xt J J (ag (ag (nl (th (sq (sq (rg (mv (bi J J fN (mv ?_))))))))))))))))))))))
  apply gOr (t:=23) (pd:=26) rfl
  rotate_left
  ·intro hg0 fin
   have hg0':=hg0
   try simp at hg0'
   exact gy J J J hg0 (mv (gy J J J hg0 (bi J J fN (pkF J hg0 J (drp (X:= [(25,_),(24,_)]) ⟨J,J,tV⟩ fin)))))
  ·intro hg0 fin
   exact gn J J J hg0 J J (gn J J J hg0 J J (pkT J hg0 J (drp (X:= [(25,_),(24,_)]) ⟨J,J,tV⟩ fin)))
  refine nl (th ?_)
  refine cd J (fun hc1=> ?_) (fun hc1=> ?_)
  ·try simp at hc1
   exfalso;omega
  ·try simp at hc1
   refine sk (th (sq (rg (mv (cv J T.Bu T.kd3 (oN ⟨O,O⟩) (mkB (key:=30) (m:=n) (enc:=nE) (y:=(0:Int)) J J T.bZ (eC eZ) mL mL fun b30=>(ag (nl (th (sq (rg (mv (mv (cpF (key:=30) (i:=0) (l:=n) (c:=n) (b:=b30) (n:=min 1 n) (ys:=([-1]:List Int)) (xs:=List.replicate n (0:Int)) eV J J T.bZ (fun y=>inferInstance) J (by rw[List.length_replicate];omega) (ag (nl (th (sq (bk ?_)))))))))))))))))))
   have hI0_0:((List.replicate n (0:Int)).take 0++([-1]:List Int).take (min 1 n)++(List.replicate n (0:Int)).drop (0+min 1 n))=List.replicate (min 1 n) (-1)++List.replicate (n- (min 1 n)) 0∧(min 1 n)≤n∧(n=0∨1≤(min 1 n)):=by
    exact⟨Lt n,O,O⟩
   refine lp (κ:=Nat × (List Int)) (fun p=> [(4,eqv (.slice none 0 0)),(7,osl 30 (.slice (some ⟨b30,0,none⟩) n n)),(8,int (p.1:Int))]) (fun p=> [(30,own (.slice (some ⟨b30,0,none⟩) n n) 3 1 nE p.2)]) (fun p=>p.2=List.replicate p.1 (-1)++List.replicate (n- p.1) 0∧p.1≤n∧(n=0∨1≤p.1)) (fun p=>n- p.1) ⟨min 1 n,(List.replicate n (0:Int)).take 0++([-1]:List Int).take (min 1 n)++(List.replicate n (0:Int)).drop (0+min 1 n)⟩ hI0_0 ⟨id,id,id,tV⟩ ⟨rI,tV⟩ ?_
   intro⟨cp,xs⟩ hG0
   have hI0:xs=List.replicate cp (-1)++List.replicate (n- cp) 0∧cp≤n∧(n=0∨1≤cp):=hG0
   show Ct _ _ _ _ [(4,eqv (.slice none 0 0)),(7,osl 30 (.slice (some ⟨b30,0,none⟩) n n)),(8,int (cp:Int))] [(30,own (.slice (some ⟨b30,0,none⟩) n n) 3 1 nE xs)] _
   have hxl:xs.length=n:=by rw[hI0.1];simp;omega
   refine sq (sq (rg (mv (mv (lnO J J T.aX (bi J J aO (nl (th ?_))))))))
   refine cd J (fun hc2=> ?_) (fun hc2=> ?_)
   ·try simp at hc2
    refine sk (th (bk ?_))
    refine drH (nh:=10) [0,0,0,6,0,0,48,126,255,511] [(none,[]),(none,[]),(none,[]),(none,[]),(none,[]),(none,[]),(none,[]),(some 30,[30]),(none,[]),(none,[])] T.mixed kR kR ?_
    refine stv (d:=38) (fun β0=>int (cp:Int)) [] J bH (fun β0 _ _ _ _ gq gh kq=>mv' (gq.1.trans J) kq) ?_
    refine stv (d:=39) (fun β0=>osl 30 (.slice (some ⟨b30,0,none⟩) n n)) [] J bH (fun β0 _ _ _ _ gq gh kq=>mv' (gq.1.trans J) kq) ?_
    refine stv (d:=40) (fun β0=>int (cp:Int)) [] J bH (fun β0 _ _ _ _ gq gh kq=>mv' (gq.1.trans J) kq) ?_
    refine stv (d:=41) (fun β0=>eqv (.slice (some ⟨b30,cp,none⟩) (n- cp) (n- cp))) [] J bH (fun β0 _ _ _ _ gq gh kq=>KI (l:=cp) (m:=n) ((gq.1.trans J).trans J) T.aX (gq.2.1.trans J) J O O O O kq) ?_
    refine stv (d:=42) (fun β0=>osl 30 (.slice (some ⟨b30,0,none⟩) n n)) [] J bH (fun β0 _ _ _ _ gq gh kq=>mv' (gq.1.trans J) kq) ?_
    refine stv (d:=43) (fun β0=>int (cp:Int)) [] J bH (fun β0 _ _ _ _ gq gh kq=>mv' (gq.1.trans J) kq) ?_
    refine stv (d:=44) (fun β0=>eqv (.slice (some ⟨b30,0,none⟩) (cp- 0) (n- 0))) [] J bH (fun β0 _ _ _ _ gq gh kq=>KI (l:=0) (m:=cp) ((gq.1.trans J).trans J) T.aX J (gq.2.1.trans J) O O O O kq) ?_
    refine stb (d:=45) 30 (fun β0=>int ((min cp (n- cp):Nat):Int)) (fun β0=>own (.slice (some ⟨b30,0,none⟩) n n) 3 1 nE (xs.take cp++xs.take (min cp (n- cp))++xs.drop (cp+min cp (n- cp)))) [30] rfl (fun β β' hb=>rfl) (fun β β' hb=>rfl) (fun β0 _ _ _ _ gq gh kq=>cpO (key:=30) (i:=cp) (l:=n- cp) (c:=n- cp) (l2:=cp) (c2:=n) (b:=b30) (n:=min cp (n- cp)) (gq.1.trans rfl) (gh.1.trans rfl) (gq.2.1.trans rfl) T.bZ (fun y=>inferInstance) rfl (by rw[hI0.1];simp) (by rw[hI0.1];simp;omega) kq) ?_
    refine stv (d:=46) (fun β0=>int ((cp+(min cp (n- cp)):Nat):Int)) [] J bH (fun β0 _ _ _ _ gq gh kq=>bi (gq.1.trans J) (gq.2.1.trans J) (aG i6) kq) ?_
    refine stv (d:=8) (fun β0=>int ((cp+(min cp (n- cp)):Nat):Int)) [] J bH (fun β0 _ _ _ _ gq gh kq=>ag' (gq.1.trans J) kq) ?_
    refine pnH fun β0=>(nl (eb ?_))
    have hN0:(xs.take cp++xs.take (min cp (n- cp))++xs.drop (cp+min cp (n- cp)))=List.replicate (cp+(min cp (n- cp))) (-1)++List.replicate (n- (cp+(min cp (n- cp)))) 0∧(cp+(min cp (n- cp)))≤n∧(n=0∨1≤(cp+(min cp (n- cp)))):=by
     refine⟨?_,O,O⟩
     rw[hI0.1];exact NV hI0.2.1
    exact ln (⟨cp+(min cp (n- cp)),xs.take cp++xs.take (min cp (n- cp))++xs.drop (cp+min cp (n- cp))⟩:Nat × (List Int)) hN0 dO ⟨id,id,id,tV⟩ ⟨rI,tV⟩
   ·try simp at hc2
    refine ex (xt_ (xt_ (xb (th (sq (rg (mv (ag (nl (th (rt ?_)))))))))))
    have hcp:cp=n:=by omega
    have hxs:xs=List.replicate n (-1):=by rw[hI0.1,hcp];simp
    subst hxs
    exact rE (.slice (some ⟨b30,0,none⟩) n n) [.tmp 4] J [osl 30 (.slice (some ⟨b30,0,none⟩) n n)] ⟨.tmp J,tV⟩ J ⟨rI,tV⟩ eX
theorem JK (l:List ByteArray) (hl:l.length≤1000):
 AL.Fn Tryz.prog 120 [strs l] [] (ι:=Unit) (fun N _=>QQ N (nothing l)) (fun _=> []):=by
 refine fnI Tryz.func120 rfl rfl (fun w0 F0=> ?_)
 refine fcC (aV 0 J) (fun hm0=> ?_)
 refine sq (rg (al (key:=2) T.z28 (eC (eC eZ)) fun b2=>(nl (th (sq (rg (mv (kK (φs:= [sl 1 rE_ l]) (φ:=fre w0.heap.size (sl 1 rE_ l)) ⟨J,tV⟩ (prog.gJ _ O) T.tJ (fun N hN=>fun h=>jN hN h) (bsE (enc:=nE) (xs:= [(-1)]) (css:= [[int (-1)]]) T.bZ ⟨J,J,p1 (φ:=int (-1)) J,tV⟩ J J J J (mv (lnF J T.eD (cl (prog8.xQ l.length O) T.JJ trivial fun N8 v8=>(fzN nE 30 8 noM flat J J (bd (css:= [(1,_)]) T.xI (eC (eC eZ)) ⟨J,J,p1 (φ:=fre w0.heap.size (sl 1 nE (List.replicate l.length (-1)))) J,tV⟩ (kn 9 (agg [fre w0.heap.size (sl 1 nE []),fre w0.heap.size (sl 1 nE (List.replicate l.length (-1)))]) J (jE (cs:= [eqv (.slice none 0 0),fre w0.heap.size (sl 1 nE (List.replicate l.length (-1)))]) (ds:= [fre w0.heap.size (sl 1 nE []),fre w0.heap.size (sl 1 nE (List.replicate l.length (-1)))]) ⟨fun h=>mB h,fun h=>h,tV⟩) (bsO 10 (enc:=uR w0.heap.size) (xs:= [(⟨[],List.replicate l.length (-1)⟩)]) (css:= [[fre w0.heap.size (sl 1 nE []),fre w0.heap.size (sl 1 nE (List.replicate l.length (-1)))]]) T.mT ⟨J,J,pA (cs:= [fre w0.heap.size (sl 1 nE []),fre w0.heap.size (sl 1 nE (List.replicate l.length (-1)))]) J,tV⟩ J J J J fun v10=>(fzN sE 10 10 noM (fun _=>J) J J (bd (css:= [(0,_),(1,_)]) T.oP (eC (eC eZ)) ⟨J,J,p1 (φ:=fre w0.heap.size (sl 1 rE_ l)) J,⟨J,J,p1 (φ:=fre w0.heap.size (sl 2 sE [(⟨[],List.replicate l.length (-1)⟩)])) J,tV⟩⟩ (sPA (cs':= [fre w0.heap.size (sl 1 rE_ l),fre w0.heap.size (sl 2 sE [(⟨[],List.replicate l.length (-1)⟩)])]) J J J T.bF J J (nl (th (rt ?_))))))))))))))))))))))
 have hr0:l=(nothing l).aC:=by
  first|rfl|simp_all|omega
 have hr1: [(⟨[],List.replicate l.length (-1)⟩)]=(nothing l).sT:=by
  first|rfl|simp_all|omega
 exact rE () [.cell 2 28] J [agg [fre w0.heap.size (sl 1 rE_ l),fre w0.heap.size (sl 2 sE [(⟨[],List.replicate l.length (-1)⟩)])]] ⟨.agg J J T.bF J J,tV⟩ (cA2 (fun x0 x1=>rV [agg [fre w0.heap.size (sl 1 rE_ x0),fre w0.heap.size (sl 2 sE x1)]]) hr0 hr1) trivial eX
end prog8
end
section
open ref01 ref03 ref04 ref06 Rungs LeftM
namespace TrimM
theorem uD:∀(ks l:List Int),l.Nodup→(visit l ks).Nodup
 | [],l,h=>h
 |k::ks,l,h=>by
  rw[jL,List.foldl_cons]
  refine uD ks _ ?_
  unfold kB
  split
  ·next hc=>
   simp only [Bool.and_eq_true,Bool.not_eq_true',decide_eq_true_eq] at hc
   exact Bo h (fun hm=>by rw[List.contains_iff_mem.2 hm] at hc;cases hc.2)
  ·exact h
theorem Af (s:SS):∀i,(bq s i).Nodup
 |0=>by simp[bq]
 |i+1=>by
  show List.Nodup (if _ then _ else _)
  split
  ·exact uD _ _ (Af s i)
  ·exact Af s i
theorem uE (s:SS):(order s).Nodup:=Af s _
theorem fresh {l:List Int} (h:l.Nodup) {m:Nat} (hm:m<l.length):ix l m∉l.take m:=fun hx=>by
 have h1:(l.take (m+1)).Nodup:=h.sublist (List.take_sublist _ _)
 rw[bM hm,List.nodup_append] at h1
 exact h1.2.2 _ hx (ix l m) (by simp) rfl
def dV (l:List Int) (y:Int):Int:=match l.findIdx? (fun z=>decide (z=y)) with|some j=>(j:Int)|none=>0
def atL (n:Nat) (l:List Int):List Int:=(List.range n).map fun(y:Nat)=>dV l (y:Int)
theorem NX (n:Nat):List.replicate n 0=atL n []:=by
 unfold atL
 apply List.ext_getElem?
 intro j
 rw[List.getElem?_replicate,List.getElem?_map]
 split
 ·next h=>rw[List.getElem?_range h];rfl
 ·next h=>rw[List.getElem?_eq_none (by simpa using h)];rfl
theorem uV {l:List Int} {x:Int} (h:x∉l):dV (l++ [x]) x=(l.length:Int):=by
 unfold dV
 rw[List.findIdx?_append]
 have:l.findIdx? (fun z=>decide (z=x))=none:=by
  rw[List.findIdx?_eq_none_iff]
  intro z hz
  simp only [decide_eq_false_iff_not]
  exact fun e=>h (by rw[←e];exact hz)
 rw[this];simp
theorem tK {l:List Int} {x y:Int} (h:y≠x):dV (l++ [x]) y=dV l y:=by
 unfold dV
 rw[List.findIdx?_append]
 cases hf:l.findIdx? (fun z=>decide (z=y)) with
 |some j=>rfl
 |none=>
  have:([x]:List Int).findIdx? (fun z=>decide (z=y))=none:=by simp[Ne.symm h]
  rw[this];rfl
theorem NY {n:Nat} {l:List Int} {x:Int} (h:x∉l) (h0:0≤x) (h1:x<(n:Int)):(atL n l).set x.toNat (l.length:Int)=atL n (l++ [x]):=
 lM O (by rw[Int.toNat_of_nonneg h0,uV h]) (fun y _ hne=>tK O)
theorem Va {n:Nat} {l:List Int} {y:Nat} (h:y<n):ix (atL n l) y=dV l (y:Int):=bS h
theorem HR (n:Nat) (l:List Int):(atL n l).length=n:=by simp[atL]
theorem gW (l:List Int) (y:Int):0≤dV l y∧(dV l y<(l.length:Int)∨dV l y=0):=by
 unfold dV
 cases hf:l.findIdx? (fun z=>decide (z=y)) with
 |some j=>
  have:=(List.findIdx?_eq_some_iff_getElem.1 hf).1
  dsimp only;omega
 |none=>dsimp only;omega
theorem kG {l:List Int} {y:Int} (h:y∈l):dV l y<(l.length:Int)∧ix l (dV l y).toNat=y:=by
 unfold dV
 cases hf:l.findIdx? (fun z=>decide (z=y)) with
 |some j=>
  obtain⟨h1,h2,_⟩:=List.findIdx?_eq_some_iff_getElem.1 hf
  refine⟨by dsimp only;omega,?_⟩
  dsimp only
  rw[Int.toNat_natCast,aD h1]
  simpa using h2
 |none=>
  rw[List.findIdx?_eq_none_iff] at hf
  have:=hf y h
  simp at this
theorem HT {l:List Int} (hn:l.Nodup) {i:Nat} (hi:i<l.length):dV l (ix l i)=(i:Int):=by
 obtain⟨h1,h2⟩:=kG (iJ hi)
 have h0:=(gW l (ix l i)).1
 have hj:(dV l (ix l i)).toNat<l.length:=by omega
 have h3:l[(dV l (ix l i)).toNat]=l[i]:=by rw[←aD hj,h2,aD hi]
 have:=(List.getElem_inj hn).1 h3
 omega
noncomputable abbrev aL (s:SS):List Int:=order (aW s)
noncomputable def iZ (s:SS) (x:Int):List Int:=(List.range s.aC.length).map fun(a:Nat)=>if has (aZ (keep s x.toNat)) (a:Int) then dV (aL s) (ix (ix s.sT x.toNat).next a) else-1
noncomputable def fM (s:SS) (x:Int):SA:=⟨keep s x.toNat,iZ s x⟩
noncomputable def half (s:SS) (x:Int):SA:=⟨keep s x.toNat,[]⟩
noncomputable def aI (s:SS) (i:Nat):List SA:=(List.range (aL s).length).map fun j=>if j<i then fM s (ix (aL s) j) else half s (ix (aL s) j)
noncomputable def tR (s:SS):SS × List Int:=if ix (hOl s) 0=true then(nothing s.aC,[]) else(⟨s.aC,(aL s).map (fM s)⟩,aL s)
theorem xR {α β:Type} [Inhabited α] (l:List α) (f:α→β):l.map f=(List.range l.length).map fun j=>f (ix l j):=by
 apply List.ext_getElem?
 intro j
 rw[List.getElem?_map,List.getElem?_map]
 by_cases h:j<l.length
 ·rw[List.getElem?_range h,List.getElem?_eq_getElem h];simp[aD h]
 ·rw[List.getElem?_eq_none O,List.getElem?_eq_none (by simpa using h)];rfl
theorem Lu (s:SS):aI s 0=(aL s).map (half s):=by
 rw[xR]
 unfold aI
 simp
theorem NZ (s:SS):aI s (aL s).length=(aL s).map (fM s):=by
 rw[xR]
 unfold aI
 exact List.map_congr_left (fun j hj=>by rw[if_pos (List.mem_range.1 hj)])
theorem Oa (s:SS) (i:Nat):(aI s i).length=(aL s).length:=by simp[aI]
theorem RX {s:SS} {i:Nat} (hi:i<(aL s).length):ix (aI s i) i=half s (ix (aL s) i):=by
 unfold aI
 rw[bS hi,if_neg O]
theorem Lv {s:SS} {i:Nat} (hi:i<(aL s).length):(aI s i).set i (fM s (ix (aL s) i))=aI s (i+1):=
 lM hi (by rw[if_pos O]) (fun j _ hne=>by
  by_cases h:j<i
  ·rw[if_pos h,if_pos O]
  ·rw[if_neg h,if_neg O])
noncomputable def nxL (s:SS) (x:Int) (m:Nat):List Int:=(List.range s.aC.length).map fun(a:Nat)=>if ((aK 63 (aZ (keep s x.toNat))).take m).contains (a:Int) then dV (aL s) (ix (ix s.sT x.toNat).next a) else-1
theorem Ob (s:SS) (x:Int):List.replicate s.aC.length (-1)=nxL s x 0:=by
 unfold nxL
 simp[List.map_const']
theorem Oc {s:SS} {x:Int} {m a:Nat} (h:(aK 63 (aZ (keep s x.toNat)))[m]?=some (a:Int)) (ha:a<s.aC.length):(nxL s x m).set a (dV (aL s) (ix (ix s.sT x.toNat).next a))=nxL s x (m+1):=by
 obtain⟨hm,he⟩:=List.getElem?_eq_some_iff.1 h
 have e:(aK 63 (aZ (keep s x.toNat))).take (m+1)=(aK 63 (aZ (keep s x.toNat))).take m++ [(a:Int)]:=by rw[List.take_succ_eq_append_getElem hm,he]
 refine lM ha ?_ (fun y _ hne=> ?_)
 ·rw[e,if_pos (by simp)]
 ·rw[e]
  have:(((aK 63 (aZ (keep s x.toNat))).take m++ [(a:Int)]).contains (y:Int))=((aK 63 (aZ (keep s x.toNat))).take m).contains (y:Int):=by
   rw[Bool.eq_iff_iff,List.contains_iff_mem,List.contains_iff_mem,List.mem_append]
   constructor
   ·rintro(h|h)
    ·exact h
    ·simp at h;omega
   ·exact .inl
  rw[this]
theorem RY {s:SS} (hs:oK s) (x:Int):nxL s x (aK 63 (aZ (keep s x.toNat))).length=iZ s x:=by
 unfold nxL iZ
 rw[List.take_length]
 refine List.map_congr_left (fun a ha=> ?_)
 have ha:=List.mem_range.1 ha
 have hn:=hs.n8
 by_cases h:has (aZ (keep s x.toNat)) (a:Int)=true
 ·rw[if_pos h,if_pos (List.contains_iff_mem.2 (eP.2 ⟨a,rfl,O,h⟩))]
 ·rw[if_neg h,if_neg (fun hc=>h (by
   obtain⟨b,hb,_,hh⟩:=eP.1 (List.contains_iff_mem.1 hc)
   have:b=a:=by omega
   subst this;exact hh))]
theorem Lw {s:SS} {m:Nat} {x:Int × List Int} (h:(pP s)[m]?=some x):ix (hOl s) 0=false∧m<(aL s).length∧x.1=ix (aL s) m∧x.2=keep s (ix (aL s) m).toNat:=by
 unfold pP at h
 by_cases h0:ix (hOl s) 0=true
 ·rw[if_pos h0] at h;simp at h
 ·rw[if_neg h0,List.getElem?_map] at h
  have h00:ix (hOl s) 0=false:=by simpa using h0
  by_cases hm:m<(aL s).length
  ·rw[List.getElem?_eq_getElem hm] at h
   simp at h
   subst h
   exact⟨h00,hm,(aD hm).symm,by rw[aD hm]⟩
  ·rw[List.getElem?_eq_none (show(aL s).length≤m by omega)] at h;simp at h
theorem mV (s:SS):1≤(aL s).length:=by
 have h:=tG (aW s) 0 (aW s).sT.length
 rw[Nat.zero_add] at h
 exact h.length_le
theorem fD {s:SS} (h:ix (hOl s) 0=false):tR s=(⟨s.aC,(aL s).map (fM s)⟩,aL s):=by
 unfold tR;rw[if_neg (by simp[h])]
theorem gZ {s:SS} (h:ix (hOl s) 0=true):tR s=(nothing s.aC,[]):=by
 unfold tR;rw[if_pos h]
end TrimM
end
section
open ref01 ref03 ref04 ref06 prog prog2 prog3 prog4 prog6 prog7 prog8 Part Rungs LeftM TrimM
namespace T
theorem Vb:Ent Tryz.prog 119:=aN kR
theorem Vd:Ent Tryz.prog 149:=aN kR
theorem Ve:Ent Tryz.prog 120:=aN kR
theorem z3:eR Tryz.prog 3 [.int .i64 0]:=cR kR
end T
namespace prog9
theorem Bv (s:SS) (hs:oK s):
 AL.Fn Tryz.prog 73 [spec s] [] (ι:=Unit) (fun N _=>tup [agg [fre N (strs (tR s).1.aC),frb (ix (hOl s) 0) N (sl 2 sE (tR s).1.sT)],ints (tR s).2]) (fun _=> []):=by
 refine fnI Tryz.func73 rfl rfl (fun w0 F0=> ?_)
 have hf0:=hs.few0;have hf1:=hs.few1;have hn8:=hs.n8;have hoq:okQ s.sT.length (aL s):=xK hs;have hol:(aL s).length≤s.sT.length:=hoq.le;have hnd:(aL s).Nodup:=uE _;have hop:=mV s
 refine fcC (bW 0 J) (fun hS0=> ?_)
 obtain⟨hsa0,hss0,hse0⟩:=sLn hS0
 refine sq (rg (bx (key:=1) (cs:= [sl 1 rE_ s.aC,sl 2 sE s.sT]) J fun b1=>(al (key:=2) T.z28 (eC (eC eZ)) fun b2=>(ag (nl (th (sq (rg (fP J T.dH (lP J J J T.cM (kK (φs:= [sl 1 rE_ s.aC]) (φ:=fre w0.heap.size (sl 1 rE_ s.aC)) ⟨J,tV⟩ (prog.gJ _ O) T.tJ (fun N hN=>fun h=>jN hN h) (bd (css:= [(0,_)]) T.oP (eC (eC eZ)) ⟨J,J,p1 (φ:=fre w0.heap.size (sl 1 rE_ s.aC)) J,tV⟩ (al (key:=4) T.z28 (eC (eC eZ)) fun b4=>(sPA (cs':= [fre w0.heap.size (sl 1 rE_ s.aC),eqv (.slice none 0 0)]) J J J T.bF J J (nl (th (sq (rg (al (key:=5) T.z66 (eC eZ) fun b5=>(nl (th (sq (rg (fP J T.bL (lP J J J T.bT (fc (aV 21 J) fun hm21=>(lnF J T.cO (mk (key:=23) (m:=s.sT.length) (enc:=nE) (y:=(0:Int)) J J T.bZ (eC eZ) mL mL fun v23=>(al (key:=6) T.z66 (eC eZ) fun b6=>(cI J J J J T.bD J (nl (th (sq (sq (rg (nw 50 3 1 nE (knc 5 0 (osl 50 (.slice none 0 0)) J J dM (nw 40 79 2 sE (knc 4 1 (osl 40 (.slice none 0 0)) J J dM (lPA J J T.bF J (bB (φs:= [agg [sl 1 rE_ s.aC,sl 2 sE s.sT]]) (φ:=clo 149 [fp [sl 1 rE_ s.aC,sl 2 sE s.sT]]) ⟨J,tV⟩ (prog7.RV s) T.Vb (nl (th (bk ?_))))))))))))))))))))))))))))))))))))))))))))
 have hR0:(List.replicate s.sT.length (0:Int))=atL s.sT.length ((aL s).take 0)∧([]:List Int)=(if ix (hOl s) 0=true then [] else(aL s).take 0)∧([]:List SA)=([]:List Int).map (half s):=by
  exact⟨NX _,by split<;>rfl,rfl⟩
 refine rf (κ:=(List Int) × Value × (List Int) × Value × (List SA)) 900 (fun p=> [(1,cell b1 [sl 1 rE_ s.aC,sl 2 sE s.sT]),(2,cell b2 [eqv (.slice none 0 0),eqv (.slice none 0 0)]),(4,cell b4 [fre w0.heap.size (sl 1 rE_ s.aC),osl 40 p.2.2.2.1]),(5,cell b5 [osl 50 p.2.1]),(6,cell b6 [osl 23 v23]),(23,own v23 3 1 nE p.1),(40,own p.2.2.2.1 79 2 sE p.2.2.2.2),(50,own p.2.1 3 1 nE p.2.2.1)]) (fun iR p=>p.1=atL s.sT.length ((aL s).take iR)∧p.2.2.1=(if ix (hOl s) 0=true then [] else(aL s).take iR)∧p.2.2.2.2=p.2.2.1.map (half s)) (fun c p=>False) J (UW s hs) T.Vd J (fun _=>J) (fun _=>J) ⟨List.replicate s.sT.length (0:Int),(.slice none 0 0),([]:List Int),(.slice none 0 0),([]:List SA)⟩ hR0 ⟨rI,rI,rI,rI,rI,rI,rI,rI,tV⟩ ?_ ?_ (fun k h=>h.elim) (fun id k h=>h.elim) (fun c k h=>h.elim)
 ·intro m0 ⟨at_,u50,fr,u40,sts⟩ x0 hG0 hx0 l R w1 M1 F1 hRd
  have hR0:at_=atL s.sT.length ((aL s).take m0)∧fr=(if ix (hOl s) 0=true then [] else(aL s).take m0)∧sts=fr.map (half s):=hG0
  show Ct _ _ _ _ _ ((900,obj l (.loop R)):: [(1,cell b1 [sl 1 rE_ s.aC,sl 2 sE s.sT]),(2,cell b2 [eqv (.slice none 0 0),eqv (.slice none 0 0)]),(4,cell b4 [fre w0.heap.size (sl 1 rE_ s.aC),osl 40 u40]),(5,cell b5 [osl 50 u50]),(6,cell b6 [osl 23 v23]),(23,own v23 3 1 nE at_),(40,own u40 79 2 sE sts),(50,own u50 3 1 nE fr)]) _
  obtain⟨h00,hm0,hxa,hxb⟩:=Lw hx0
  have hob:=hoq.1 m0 hm0
  have hal:at_.length=s.sT.length:=by rw[hR0.1];exact HR _ _
  have hfl:fr.length=m0:=by rw[hR0.2.1,if_neg (by simp[h00])];simp;omega
  have hstl:sts.length=m0:=by rw[hR0.2.2];simp[hfl]
  refine sq (rg (ag (nl (th (rg (ag (nl (aq hRd J (bk (sq (rg (lP J J J T.bD (mv (lP J J J T.bD (lnO J J T.aX (iO J J J T.aX O O (sO (φ:=int (fr.length:Int)) J J J T.aF gB J (y':=(fr.length:Int)) J (nl (th (sq (rg (lP J J J T.bD (mv (bsE (enc:=nE) (xs:= [x0.1]) (css:= [[int x0.1]]) T.bZ ⟨J,J,p1 (φ:=int x0.1) J,tV⟩ J J J J (ap (key:=50) (zs:= [x0.1]) bX J J J T.bZ (by unfold aT at*;simp;omega) (by unfold aT at*;simp;omega) fun v36=>(cI J J J J T.bD J (nl (th (rg (fP J T.bL (lP J J J T.bT (mv (bd (css:= [(0,_)]) T.xI (eC (eC eZ)) ⟨J,J,p1 (φ:=sl 1 nE x0.2) J,tV⟩ (kn 40 (agg [sl 1 nE x0.2,sl 1 nE []]) J (jE (cs:= [sl 1 nE x0.2,eqv (.slice none 0 0)]) (ds:= [sl 1 nE x0.2,sl 1 nE []]) ⟨fun h=>h,fun h=>slnil h,tV⟩) (bsE (enc:=sE) (xs:= [(⟨x0.2,[]⟩)]) (css:= [[sl 1 nE x0.2,sl 1 nE []]]) T.mT ⟨J,J,pA (cs:= [sl 1 nE x0.2,sl 1 nE []]) J,tV⟩ J J J J (ap (key:=40) (zs:= [(⟨x0.2,[]⟩)]) bX J J J T.mT (by unfold aT at*;simp;omega) (by unfold aT at*;simp;omega) fun v42=>(fP J T.bL (cI J J J J T.bT J (nl (eb ?_))))))))))))))))))))))))))))))))))))))))
  have hN0:(at_.set x0.1.toNat (fr.length:Int))=atL s.sT.length ((aL s).take (m0+1))∧(fr++ [x0.1])=(if ix (hOl s) 0=true then [] else(aL s).take (m0+1))∧(sts++ [(⟨x0.2,[]⟩)])=(fr++ [x0.1]).map (half s):=by
   have hfl2:fr.length=((aL s).take m0).length:=by rw[hfl];simp;omega
   refine⟨?_,?_,?_⟩
   ·rw[hR0.1,hxa,hfl2,bM hm0,NY (fresh hnd hm0) hob.1 hob.2]
   ·rw[if_neg (by simp[h00]),bM hm0,hR0.2.1,if_neg (by simp[h00]),hxa]
   ·rw[List.map_append,←hR0.2.2,hxb,hxa];rfl
  exact rqN ⟨at_.set x0.1.toNat (fr.length:Int),v36,fr++ [x0.1],v42,sts++ [(⟨x0.2,[]⟩)]⟩ hN0 ⟨rI,rI,rI,rI,rI,rI,rI,rI,rI,tV⟩
 ·intro⟨at_,u50,fr,u40,sts⟩ hG0
  have hR0:at_=atL s.sT.length ((aL s).take (pP s).length)∧fr=(if ix (hOl s) 0=true then [] else(aL s).take (pP s).length)∧sts=fr.map (half s):=hG0
  show At _ _ _ _ [(1,cell b1 [sl 1 rE_ s.aC,sl 2 sE s.sT]),(2,cell b2 [eqv (.slice none 0 0),eqv (.slice none 0 0)]),(4,cell b4 [fre w0.heap.size (sl 1 rE_ s.aC),osl 40 u40]),(5,cell b5 [osl 50 u50]),(6,cell b6 [osl 23 v23]),(23,own v23 3 1 nE at_),(40,own u40 79 2 sE sts),(50,own u50 3 1 nE fr)]
  refine eb (th (sq (sq (rg (lP rfl rfl rfl T.bD (lnO rfl rfl T.aX (bi rfl rfl dZ (nl (th ?_)))))))))
  refine cd J (fun hc0=> ?_) (fun hc0=> ?_)
  ·try simp at hc0
   have hh0:ix (hOl s) 0=true:=by
    cases h:ix (hOl s) 0 with
    |true=>rfl
    |false=>
     exfalso
     have h2:=hR0.2.1
     rw[if_neg (by simp[h]),tI h,List.take_length] at h2
     have h3:=hop
     rw[hc0] at h2
     rw[show aL s= [] from h2.symm] at h3
     simp at h3
   refine sq (rg (fP J T.dH (lP J J J T.cM (kK (φs:= [sl 1 rE_ s.aC]) (φ:=agg [fre w0.heap.size (sl 1 rE_ (nothing s.aC).aC),fre w0.heap.size (sl 2 sE (nothing s.aC).sT)]) ⟨J,tV⟩ (prog8.JK s.aC O) T.Ve (fun N hN=>fun h=>jE (cs:= [fre N (sl 1 rE_ (nothing s.aC).aC),fre N (sl 2 sE (nothing s.aC).sT)]) (ds:= [fre w0.heap.size (sl 1 rE_ (nothing s.aC).aC),fre w0.heap.size (sl 2 sE (nothing s.aC).sT)]) ⟨fun h=>jN hN h,fun h=>jN hN h,tV⟩ h) (sPA (cs':= [fre w0.heap.size (sl 1 rE_ (nothing s.aC).aC),fre w0.heap.size (sl 2 sE (nothing s.aC).sT)]) J J J T.bF J J (ag (nl (th (rt (rt_ ?_))))))))))
   refine gM 2 1 (frb (ix (hOl s) 0) w0.heap.size (sl 2 sE (nothing s.aC).sT)) rfl rfl (Xi hh0) ?_
   refine knA 3 (sl 1 nE []) rfl slnil ?_
   have hr0:(nothing s.aC).aC=((tR s).1.aC):=by
    rw[gZ hh0]
   have hr1:(nothing s.aC).sT=((tR s).1.sT):=by
    rw[gZ hh0]
   have hr2: []=((tR s).2):=by
    rw[gZ hh0]
   exact rE () [.cell 2 28,.tmp 3] J [agg [fre w0.heap.size (sl 1 rE_ (nothing s.aC).aC),frb (ix (hOl s) 0) w0.heap.size (sl 2 sE (nothing s.aC).sT)],sl 1 nE []] ⟨.agg J J T.bF J J,.tmp J,tV⟩ (cA3 (fun x0 x1 x2=>rV [agg [fre w0.heap.size (sl 1 rE_ x0),frb (ix (hOl s) 0) w0.heap.size (sl 2 sE x1)],sl 1 nE x2]) hr0 hr1 hr2) trivial eX
  ·try simp at hc0
   have h00:ix (hOl s) 0=false:=by
    cases h:ix (hOl s) 0 with
    |false=>rfl
    |true=>exact absurd (by rw[hR0.2.1,if_pos h]) hc0
   have hfr:fr=aL s:=by rw[hR0.2.1,if_neg (by simp[h00]),tI h00,List.take_length]
   have hat:at_=atL s.sT.length (aL s):=by rw[hR0.1,tI h00,List.take_length]
   have hfl:fr.length=(aL s).length:=by rw[hfr]
   have hal:at_.length=s.sT.length:=by rw[hat];exact HR _ _
   refine sk (th (sq (sq (rg (lP J J J T.bD (lnO J J T.aX (mv (nl (th (bk ?_))))))))))
   have hI0_0:0≤fr.length:=by
    first|omega|simp
   have hI0_1:sts=aI s 0:=by
    rw[hR0.2.2,hfr,Lu]
   refine lp (κ:=Nat × (List SA)) (fun p=> [(1,ptr 1 b1 0),(2,ptr 2 b2 0),(3,eqv (.slice none 0 0)),(4,ptr 4 b4 0),(5,ptr 5 b5 0),(6,ptr 6 b6 0),(50,osl 50 u50),(51,int (fr.length:Int)),(52,int (p.1:Int))]) (fun p=> [(1,cell b1 [sl 1 rE_ s.aC,sl 2 sE s.sT]),(2,cell b2 [eqv (.slice none 0 0),eqv (.slice none 0 0)]),(4,cell b4 [fre w0.heap.size (sl 1 rE_ s.aC),osl 40 u40]),(5,cell b5 [osl 50 u50]),(6,cell b6 [osl 23 v23]),(23,own v23 3 1 nE at_),(40,own u40 79 2 sE p.2),(50,own u50 3 1 nE fr)]) (fun p=>(p.1≤fr.length)∧(p.2=aI s p.1)) (fun p=>fr.length- p.1) ⟨0,sts⟩ ⟨hI0_0,hI0_1⟩ ⟨id,id,id,id,id,id,id,id,id,tV⟩ ⟨rI,rI,rI,rI,rI,rI,rI,rI,tV⟩ ?_
   intro⟨k,sts2⟩ hG0
   obtain⟨hk0,hI0⟩:(k≤fr.length)∧(sts2=aI s k):=hG0
   show Ct _ _ _ _ [(1,ptr 1 b1 0),(2,ptr 2 b2 0),(3,eqv (.slice none 0 0)),(4,ptr 4 b4 0),(5,ptr 5 b5 0),(6,ptr 6 b6 0),(50,osl 50 u50),(51,int (fr.length:Int)),(52,int (k:Int))] [(1,cell b1 [sl 1 rE_ s.aC,sl 2 sE s.sT]),(2,cell b2 [eqv (.slice none 0 0),eqv (.slice none 0 0)]),(4,cell b4 [fre w0.heap.size (sl 1 rE_ s.aC),osl 40 u40]),(5,cell b5 [osl 50 u50]),(6,cell b6 [osl 23 v23]),(23,own v23 3 1 nE at_),(40,own u40 79 2 sE sts2),(50,own u50 3 1 nE fr)] _
   have hsl:sts2.length=(aL s).length:=by rw[hI0];exact Oa s k
   refine sq (rg (bi J J aO (nl (th (sq ?_)))))
   refine cd J (fun hc1=> ?_) (fun hc1=> ?_)
   ·try simp at hc1
    have hkl:k<(aL s).length:=by omega
    have hob:=hoq.1 k hkl
    rw[←hfr] at hob
    have hxn:(ix fr k).toNat<s.sT.length:=by omega
    have hox:=hs.st _ hxn
    have hacl:=hox.acl
    have hxl:=hox.len
    have hhf:ix sts2 k=half s (ix fr k):=by rw[hI0,hfr];exact RX hkl
    have hha:(ix sts2 k).aP=keep s (ix fr k).toNat:=by rw[hhf];rfl
    refine sk (th (sq (bk (sq (rg (mv (iO J J J T.aX O O (lO J J gB J T.aF (al (key:=10) T.z3 (eC eZ) fun b10=>(ag (sP (φ:=int (ix fr k)) J J J T.aF J (nl (th (sq (rg (ag (nl (th (sq (sq (rg (fP J T.bL (lP J J J T.bT (mv (iO J J J T.cO O O (fO J T.cK (lO J J gB J T.bD (fc (aV 62 J) fun hm62=>(lnF J T.aX (mv (nl (th (bk ?_)))))))))))))))))))))))))))))))))
    have hI1_0:0≤(ix sts2 k).aP.length:=by
     first|omega|simp
    have hI1_1:(0:Int)=aZ ((keep s (ix fr k).toNat).take 0)∧0≤(0:Int)∧(0:Int)<256:=by
     exact⟨rfl,O,O⟩
    refine lp (κ:=Nat × Int) (fun p=> [(1,ptr 1 b1 0),(2,ptr 2 b2 0),(3,eqv (.slice none 0 0)),(4,ptr 4 b4 0),(5,ptr 5 b5 0),(6,ptr 6 b6 0),(9,int (k:Int)),(10,ptr 10 b10 0),(11,int p.2),(50,osl 50 u50),(51,int (fr.length:Int)),(52,int (k:Int)),(62,sl 1 nE (ix sts2 k).aP),(63,int ((ix sts2 k).aP.length:Int)),(64,int (p.1:Int))]) (fun p=> [(1,cell b1 [sl 1 rE_ s.aC,sl 2 sE s.sT]),(2,cell b2 [eqv (.slice none 0 0),eqv (.slice none 0 0)]),(4,cell b4 [fre w0.heap.size (sl 1 rE_ s.aC),osl 40 u40]),(5,cell b5 [osl 50 u50]),(6,cell b6 [osl 23 v23]),(10,cell b10 [int (ix fr k)]),(23,own v23 3 1 nE at_),(40,own u40 79 2 sE sts2),(50,own u50 3 1 nE fr)]) (fun p=>(p.1≤(ix sts2 k).aP.length)∧(p.2=aZ ((keep s (ix fr k).toNat).take p.1)∧0≤p.2∧p.2<256)) (fun p=>(ix sts2 k).aP.length- p.1) ⟨0,(0:Int)⟩ ⟨hI1_0,hI1_1⟩ ⟨id,id,id,id,id,id,id,id,id,id,id,id,id,id,id,tV⟩ ⟨rI,rI,rI,rI,rI,rI,rI,rI,rI,tV⟩ ?_
    intro⟨k1,cn⟩ hG1
    obtain⟨hk1,hI1⟩:(k1≤(ix sts2 k).aP.length)∧(cn=aZ ((keep s (ix fr k).toNat).take k1)∧0≤cn∧cn<256):=hG1
    show Ct _ _ _ _ [(1,ptr 1 b1 0),(2,ptr 2 b2 0),(3,eqv (.slice none 0 0)),(4,ptr 4 b4 0),(5,ptr 5 b5 0),(6,ptr 6 b6 0),(9,int (k:Int)),(10,ptr 10 b10 0),(11,int cn),(50,osl 50 u50),(51,int (fr.length:Int)),(52,int (k:Int)),(62,sl 1 nE (ix sts2 k).aP),(63,int ((ix sts2 k).aP.length:Int)),(64,int (k1:Int))] [(1,cell b1 [sl 1 rE_ s.aC,sl 2 sE s.sT]),(2,cell b2 [eqv (.slice none 0 0),eqv (.slice none 0 0)]),(4,cell b4 [fre w0.heap.size (sl 1 rE_ s.aC),osl 40 u40]),(5,cell b5 [osl 50 u50]),(6,cell b6 [osl 23 v23]),(10,cell b10 [int (ix fr k)]),(23,own v23 3 1 nE at_),(40,own u40 79 2 sE sts2),(50,own u50 3 1 nE fr)] _
    refine sq (rg (bi J J aO (nl (th (sq ?_)))))
    refine cd J (fun hc2=> ?_) (fun hc2=> ?_)
    ·try simp at hc2
     have hkb:0≤ix (ix sts2 k).aP k1∧ix (ix sts2 k).aP k1<256:=by
         rw[hha] at hc2 ⊢
         exact xN hox (Ae (iJ hc2)).1
     refine sk (th (sq (bk (sq (rg (iF J J T.aX O gB (lF J J T.aF (ag (nl (th (rg (mv (mv (bi J J (vN O O O O) (ag (nl (eb (th (rg (bi J J (aG i6) (mv (nl ?_))))))))))))))))))))))
     have hN0:(k1+1)≤((ix sts2 k).aP).length:=by
         first|omega|simp_all
     have hN1:((cn.toNat|||((ix ((ix sts2 k).aP) k1).toNat):Nat):Int)=aZ ((keep s (ix fr k).toNat).take (k1+1))∧0≤((cn.toNat|||((ix ((ix sts2 k).aP) k1).toNat):Nat):Int)∧((cn.toNat|||((ix ((ix sts2 k).aP) k1).toNat):Nat):Int)<256:=by
         refine⟨?_,O,kU hI1.2.2 hkb.2⟩
         rw[bM (by rw[←hha];omega),iL,←hI1.1,hha]
     exact ln (⟨k1+1,((cn.toNat|||(ix (ix sts2 k).aP k1).toNat:Nat):Int)⟩:Nat × Int) ⟨hN0,hN1⟩ dO ⟨id,id,id,id,id,id,id,id,id,id,id,id,id,id,id,tV⟩ ⟨rI,rI,rI,rI,rI,rI,rI,rI,rI,tV⟩
    ·try simp at hc2
     have hcn:cn=aZ (keep s (ix fr k).toNat):=by rw[hI1.1,show k1=(keep s (ix fr k).toNat).length by rw[←hha];omega,List.take_length]
     refine ex (xt_ (xt_ (xb (th (sq (rg (bsE (enc:=nE) (xs:= [(-1)]) (css:= [[int (-1)]]) T.bZ ⟨J,J,p1 (φ:=int (-1)) J,tV⟩ J J J J (fP J T.dH (lP J J J T.cM (fc (aV 74 J) fun hm74=>(lnF J T.eD (cl (prog8.xQ s.aC.length O) T.JJ trivial fun N76 v76=>(al (key:=14) T.z66 (eC eZ) fun b14=>(cI J J J J T.bD J (nl (th (sq (sq (rg (mv (bB (φs:= [int cn]) (φ:=clo 137 [fp [int cn]]) ⟨J,tV⟩ (prog3.tE cn) T.yX (nl (th (bk ?_))))))))))))))))))))))))
     have hR1:(List.replicate s.aC.length (-1))=nxL s (ix fr k) 0:=by
         exact Ob _ _
     refine rf (κ:=(List Int)) 901 (fun p=> [(1,cell b1 [sl 1 rE_ s.aC,sl 2 sE s.sT]),(2,cell b2 [eqv (.slice none 0 0),eqv (.slice none 0 0)]),(4,cell b4 [fre w0.heap.size (sl 1 rE_ s.aC),osl 40 u40]),(5,cell b5 [osl 50 u50]),(6,cell b6 [osl 23 v23]),(10,cell b10 [int (ix fr k)]),(14,cell b14 [osl 30 v76]),(23,own v23 3 1 nE at_),(30,own v76 3 1 nE p),(40,own u40 79 2 sE sts2),(50,own u50 3 1 nE fr)]) (fun iR p=>p=nxL s (ix fr k) iR) (fun c p=>False) J (Cv cn O O) T.uU J (fun _=>J) (fun _=>J) (List.replicate s.aC.length (-1)) hR1 ⟨rI,rI,rI,rI,rI,rI,rI,rI,rI,rI,rI,tV⟩ ?_ ?_ (fun k h=>h.elim) (fun id k h=>h.elim) (fun c k h=>h.elim)
     ·intro m1 nx x1 hG1 hx1 l R w1 M1 F1 hRd
      have hR1:nx=nxL s (ix fr k) m1:=hG1
      obtain⟨a,rfl,ha63,hha2⟩:=nX hx1
      rw[hcn] at hx1 hha2
      have hgo:=kV hs hxn hha2
      have hnl:nx.length=s.aC.length:=by rw[hR1];simp[nxL]
      refine rg (ag (nl (aq hRd J (bk (dr (nh:=15) [0,0,0,0,8,0,56,120,248,0,1016,2040,4092,8188,16383,32767] T.mixed kR ?_)))))
      refine st_ J (fun _ _ _ gq kq=>lP (gq.1.trans J) J J T.bD kq) ?_
      refine st_ J (fun _ _ _ gq kq=>mv' (gq.1.trans J) kq) ?_
      refine st_ J (fun _ _ _ gq kq=>lP (gq.1.trans J) J J T.bD kq) ?_
      refine st_ J (fun _ _ _ gq kq=>fP (gq.1.trans J) T.bL kq) ?_
      refine st_ J (fun _ _ _ gq kq=>lP (gq.1.trans J) J J T.bT kq) ?_
      refine st_ J (fun _ _ _ gq kq=>lP (gq.1.trans J) J J T.aF kq) ?_
      refine st_ J (fun _ _ _ gq kq=>iF (gq.1.trans J) (gq.2.1.trans J) T.cO O gB kq) ?_
      refine st_ J (fun _ _ _ gq kq=>fF (gq.1.trans J) T.cS kq) ?_
      refine st_ J (fun _ _ _ gq kq=>lF (gq.1.trans J) J T.bD kq) ?_
      refine st_ J (fun _ _ _ gq kq=>mv' (gq.1.trans J) kq) ?_
      refine st_ J (fun _ _ _ gq kq=>iF (gq.1.trans J) (gq.2.1.trans J) T.aX O gB kq) ?_
      refine st_ J (fun _ _ _ gq kq=>lF (gq.1.trans J) J T.aF kq) ?_
      refine st_ J (fun _ _ _ gq kq=>iO (gq.1.trans J) J (gq.2.1.trans J) T.aX O O kq) ?_
      refine st_ J (fun _ _ _ gq kq=>lO (gq.1.trans J) J gB J T.aF kq) ?_
      refine st_ J (fun _ _ _ gq kq=>iO (gq.1.trans J) J (gq.2.1.trans J) T.aX O O kq) ?_
      refine pn (sO (φ:=int (ix at_ (ix (ix s.sT (ix fr k).toNat).next a).toNat)) J J J T.aF gB J (y':=(ix at_ (ix (ix s.sT (ix fr k).toNat).next a).toNat)) J (nl (eb ?_)))
      have hN0:(nx.set a (ix at_ ((ix ((ix s.sT ((ix fr k).toNat)).next) a).toNat)))=nxL s (ix fr k) (m1+1):=by
         rw[←Oc hx1 O,←hR1,hat,Va O,Int.toNat_of_nonneg hgo.2.1]
      exact rqN (nx.set a (ix at_ (ix (ix s.sT (ix fr k).toNat).next a).toNat)) hN0 ⟨rI,rI,rI,rI,rI,rI,rI,rI,rI,rI,rI,rI,tV⟩
     ·intro nx hG1
      have hR1:nx=nxL s (ix fr k) (aK 63 cn).length:=hG1
      refine eb (th (rg (fP rfl T.bL (lP rfl rfl rfl T.bT (mv (lP rfl rfl rfl T.bD (iO rfl rfl rfl T.cO O O (fO rfl T.cS (fz 30 98 rfl rfl (sO (φ:=sl 1 nE nx) rfl rfl rfl T.bD (gN O) rfl (y':=⟨(ix sts2 k).aP,nx⟩) rfl (nl (eb (th (rg (bi rfl rfl (aG i6) (mv (nl ?_)))))))))))))))))
      have hN0:(k+1)≤fr.length:=by
         first|omega|simp_all
      have hN1:(sts2.set k (⟨(ix sts2 k).aP,nx⟩))=aI s (k+1):=by
         rw[hcn,RY hs] at hR1
         rw[←Lv hkl,←hI0,hR1,hha]
         rw[show ix fr k=ix (aL s) k by rw[hfr]]
         rfl
      exact ln (⟨k+1,sts2.set k (⟨(ix sts2 k).aP,nx⟩)⟩:Nat × (List SA)) ⟨hN0,hN1⟩ dO ⟨id,id,id,id,id,id,id,id,id,tV⟩ ⟨rI,rI,rI,rI,rI,rI,rI,rI,tV⟩
   ·try simp at hc1
    refine ex (xt_ (xt_ (xb (th (sq (NA 4 40 1 J J J J (NA 5 50 0 J J J J ?_)))))))
    refine drH (nh:=4) [0,0,1,7] [(none,[4]),(none,[5]),(some 2,[2]),(none,[])] T.mixed kR kR ?_
    refine stv (d:=102) (fun β0=>agg [fre w0.heap.size (sl 1 rE_ s.aC),sl 2 sE sts2]) [4] J bH (fun β0 _ _ _ _ gq gh kq=>lPA (gq.1.trans J) (gh.1.trans J) T.bF J kq) ?_
    refine stv (d:=103) (fun β0=>sl 1 nE fr) [5] J bH (fun β0 _ _ _ _ gq gh kq=>lP (gq.1.trans J) (gh.1.trans J) J T.bD kq) ?_
    refine stw 2 (fun β0=>cell b2 [fre w0.heap.size (sl 1 rE_ s.aC),sl 2 sE sts2]) [2] J bH (fun β0 _ _ _ _ gq gh kq=>sPA (cs':= [fre w0.heap.size (sl 1 rE_ s.aC),sl 2 sE sts2]) (gq.1.trans J) (gh.1.trans J) (gq.2.1.trans J) T.bF J J kq) ?_
    refine stv (d:=3) (fun β0=>sl 1 nE fr) [] J bH (fun β0 _ _ _ _ gq gh kq=>ag' (gq.1.trans J) kq) ?_
    refine pnH fun β0=>(nl (th (rt ?_)))
    refine gM 2 1 (frb (ix (hOl s) 0) w0.heap.size (sl 2 sE sts2)) rfl rfl (Xj h00) ?_
    have hr0:s.aC=((tR s).1.aC):=by
     rw[fD h00]
    have hr1:sts2=((tR s).1.sT):=by
     rw[fD h00,hI0,show k=(aL s).length by omega,NZ]
    have hr2:fr=((tR s).2):=by
     rw[fD h00,hfr]
    exact rE () [.cell 2 28,.tmp 3] J [agg [fre w0.heap.size (sl 1 rE_ s.aC),frb (ix (hOl s) 0) w0.heap.size (sl 2 sE sts2)],sl 1 nE fr] ⟨.agg J J T.bF J J,.tmp J,tV⟩ (cA3 (fun x0 x1 x2=>rV [agg [fre w0.heap.size (sl 1 rE_ x0),frb (ix (hOl s) 0) w0.heap.size (sl 2 sE x1)],sl 1 nE x2]) hr0 hr1 hr2) trivial eX
end prog9
end
section
open Go.Shelf
namespace Itoa
def Hb:Go.Shelf.Ren:=⟨fun|171=>189|243=>204|246=>219|283=>205|284=>206|285=>207|286=>208|129=>174|317=>220|318=>221|319=>222|320=>223|337=>227|338=>228|n=>n,fun|3=>3|9=>9|2=>2|4=>4|171=>251|0=>0|53=>219|37=>181|5=>5|173=>253|212=>267|51=>216|20=>20|213=>268|46=>183|232=>272|233=>273|n=>n,fun|17=>0|18=>1|19=>2|n=>n⟩
theorem RZ:LaysM.n171 Tryz.prog Hb where
 mixed:=by kernel_rfl
 f129:=Tryz.func174.trans (congrArg some kR)
 f171:=Tryz.func189.trans (congrArg some kR)
 f243:=Tryz.func204.trans (congrArg some kR)
 f246:=Tryz.func219.trans (congrArg some kR)
 f283:=Tryz.func205.trans (congrArg some kR)
 f284:=Tryz.func206.trans (congrArg some kR)
 f285:=Tryz.func207.trans (congrArg some kR)
 f286:=Tryz.func208.trans (congrArg some kR)
 f317:=Tryz.func220.trans (congrArg some kR)
 f318:=Tryz.func221.trans (congrArg some kR)
 f319:=Tryz.func222.trans (congrArg some kR)
 f320:=Tryz.func223.trans (congrArg some kR)
 f337:=Tryz.func227.trans (congrArg some kR)
 f338:=Tryz.func228.trans (congrArg some kR)
 t0:=Tryz.underlying0
 a0:=Tryz.isAgg0
 z0:=Tryz.sizeOf0
 v0:=Tryz.zeroValue0
 t2:=Tryz.underlying2
 a2:=Tryz.isAgg2
 z2:=Tryz.sizeOf2
 v2:=Tryz.zeroValue2
 t3:=Tryz.underlying3
 a3:=Tryz.isAgg3
 z3:=Tryz.sizeOf3
 v3:=Tryz.zeroValue3
 t4:=Tryz.underlying4
 a4:=Tryz.isAgg4
 z4:=Tryz.sizeOf4
 v4:=Tryz.zeroValue4
 t5:=Tryz.underlying5
 a5:=Tryz.isAgg5
 z5:=Tryz.sizeOf5
 v5:=Tryz.zeroValue5
 t9:=Tryz.underlying9
 a9:=Tryz.isAgg9
 z9:=Tryz.sizeOf9
 v9:=Tryz.zeroValue9
 t20:=Tryz.underlying20
 a20:=Tryz.isAgg20
 z20:=Tryz.sizeOf20
 v20:=Tryz.zeroValue20
 t37:=Tryz.underlying181
 a37:=Tryz.isAgg181
 z37:=Tryz.sizeOf181
 v37:=Tryz.zeroValue181
 t46:=Tryz.underlying183
 a46:=Tryz.isAgg183
 z46:=Tryz.sizeOf183
 v46:=Tryz.zeroValue183
 t51:=Tryz.underlying216
 a51:=Tryz.isAgg216
 z51:=Tryz.sizeOf216
 v51:=Tryz.zeroValue216
 t53:=Tryz.underlying219
 a53:=Tryz.isAgg219
 z53:=Tryz.sizeOf219
 v53:=Tryz.zeroValue219
 t171:=Tryz.underlying251
 a171:=Tryz.isAgg251
 z171:=Tryz.sizeOf251
 v171:=Tryz.zeroValue251
 t173:=Tryz.underlying253
 a173:=Tryz.isAgg253
 z173:=Tryz.sizeOf253
 v173:=Tryz.zeroValue253
 t212:=Tryz.underlying267
 a212:=Tryz.isAgg267
 z212:=Tryz.sizeOf267
 v212:=Tryz.zeroValue267
 t213:=Tryz.underlying268
 a213:=Tryz.isAgg268
 z213:=Tryz.sizeOf268
 t232:=Tryz.underlying272
 a232:=Tryz.isAgg272
 z232:=Tryz.sizeOf272
 v232:=Tryz.zeroValue272
 t233:=Tryz.underlying273
 a233:=Tryz.isAgg273
 z233:=Tryz.sizeOf273
 v233:=Tryz.zeroValue273
 g17:=by kernel_rfl
 g18:=by kernel_rfl
 g19:=by kernel_rfl
 i0:=by kernel_rfl
 i2:=by kernel_rfl
 i3:=by kernel_rfl
 i4:=by kernel_rfl
 i5:=by kernel_rfl
 i9:=by kernel_rfl
 i20:=by kernel_rfl
 i37:=by kernel_rfl
 i46:=by kernel_rfl
 i51:=by kernel_rfl
 i53:=by kernel_rfl
 i171:=by kernel_rfl
 i173:=by kernel_rfl
 i212:=by kernel_rfl
 i232:=by kernel_rfl
 i233:=by kernel_rfl
 m17:=by kernel_rfl
 m18:=by kernel_rfl
 m19:=by kernel_rfl
def Cy:String:= "internal/strconv.uint64pow10"
def tab:AV:=⟨fun w F _=> ∃g,Tryz.prog.globalNamed Cy=some g∧F g∧Lib.TabIs Tryz.prog w Cy .u64 Lib.pow10Tab,fun {w F w' F' v} hF hw ⟨g,h1,h2,h3⟩=>⟨g,h1,hF g h2,by
 unfold Lib.TabIs World.var? at h3 ⊢
 rw[h1] at h3 ⊢
 simp only [Option.bind_some] at h3 ⊢
 rw[hw g h2];exact h3⟩⟩
instance:Amb tab:=⟨fun _ h=>h⟩
abbrev mC (φ:AV):AV:=both φ tab
def lR (n:Int):ByteArray:=⟨(Lib.itoa n).toArray⟩
theorem Dv {n:Int} (h0: -9223372036854775808≤n) (h1:n≤9223372036854775807):(lR n).size≤21:=by
 have:=Lib.itoa_length_le n h0 h1
 show(Lib.itoa n).toArray.size≤21
 simpa using this
attribute [local semireducible] eqv emp in
theorem HU (n:Int) (h0: -9223372036854775808≤n) (h1:n≤9223372036854775807):Fn0 Tryz.prog 189 [mC (int n)] (str (lR n)):=by
 intro w F vs hvs hb hH
 match vs,hvs with
 | [v],⟨⟨hv,g,hg,hF,ht⟩,_⟩=>
   have hv:v= .int .i64 n:=hv
   subst hv
   refine(Any.strconv_Itoa RZ n h0 h1 w ht).mono ?_
   rintro e w' ⟨rfl,k,os,rfl⟩
   refine⟨(),_,F,rfl,?_⟩
   have hheap:∀b,b<w.heap.size→(Sort.grow (w.drewN k) os).heap[b]?=w.heap[b]?:=fun b hb=>by
     show(w.heap++os)[b]?=_
     rw[Array.getElem?_append_left hb]
   exact { res:=rfl,ok:=vP _ _,sub:=fun _ h=>h,new:=fun b h=> .inl h,foot:=fun b h=>by obtain⟨k,h⟩:=h;exact(show False from h).elim,old:=fun b hb _=>hheap b hb,size:=by show _≤(w.heap++os).size;simp,os:=rfl,tape:=rfl,out:=rfl }
end Itoa
end
section
open ref01 ref03 ref04 ref06 Rungs LeftM TrimM Itoa
namespace Keys
def JL (l:List UInt8):Nat:=l.foldl (fun a d=>a*10+(d.toNat- 48)) 0
theorem Dw (l:List UInt8) (d:UInt8):JL (l++ [d])=JL l*10+(d.toNat- 48):=by simp[JL]
theorem Ag (u:Nat):JL (Lib.decDigits u)=u∧(∀d∈Lib.decDigits u,d≠32)∧Lib.decDigits u≠[]:=by
 induction u using Nat.strongRecOn with
 |ind u ih=>
  have hd:∀k,k<10→(UInt8.ofNat (48+k)).toNat=48+k:=fun k hk=>by
   rw[UInt8.toNat_ofNat'];omega
  have hne:∀k,k<10→UInt8.ofNat (48+k)≠32:=fun k hk e=>by
   have:=congrArg UInt8.toNat e
   rw[hd k hk] at this
   have h2:(32:UInt8).toNat=32:=rfl
   omega
  rw[Lib.decDigits]
  by_cases h:u<10
  ·rw[dif_pos h]
   refine⟨?_,fun d hm=> ?_,by simp⟩
   ·have:=Dw [] (UInt8.ofNat (48+u))
    rw[List.nil_append] at this
    rw[this,hd u h]
    show 0*10+_=u
    omega
   ·have:d=UInt8.ofNat (48+u):=by simpa using hm
    subst this;exact hne u h
  ·rw[dif_neg h]
   obtain⟨h1,h2,h3⟩:=ih (u/10) O
   refine⟨?_,fun d hm=> ?_,by simp⟩
   ·rw[Dw,h1,hd _ O];omega
   ·rcases List.mem_append.1 hm with hm|hm
    ·exact h2 d hm
    ·have:d=UInt8.ofNat (48+u % 10):=by simpa using hm
     subst this;exact hne _ O
theorem Cz {n:Int} (h:0≤n):Lib.itoa n=Lib.decDigits n.toNat:=by unfold Lib.itoa;rw[if_neg O]
theorem vV {m n:Int} (hm:0≤m) (hn:0≤n) (h:Lib.itoa m=Lib.itoa n):m=n:=by
 rw[Cz hm,Cz hn] at h
 have h1:=(Ag m.toNat).1
 have h2:=(Ag n.toNat).1
 rw[h,h2] at h1
 omega
theorem nH {m:Int} (hm:0≤m):∀d∈Lib.itoa m,d≠32:=by
 rw[Cz hm];exact(Ag _).2.1
def jA (l:List Int):List UInt8:=l.flatMap fun t=>32::Lib.itoa t
theorem Bw {a b r s:List UInt8} (ha:∀d∈a,d≠32) (hb:∀d∈b,d≠32) (hr:r= []∨∃t,r=32::t) (hs:s= []∨∃t,s=32::t) (h:a++r=b++s):a=b∧r=s:=by
 induction a generalizing b with
 |nil=>
  cases b with
  |nil=>exact⟨rfl,h⟩
  |cons y b=>
   rcases hr with rfl|⟨t,rfl⟩
   ·simp at h
   ·simp at h;exact absurd h.1.symm (hb y (by simp))
 |cons x a ih=>
  cases b with
  |nil=>
   rcases hs with rfl|⟨t,rfl⟩
   ·simp at h
   ·simp at h;exact absurd h.1 (ha x (by simp))
  |cons y b=>
   simp at h
   obtain⟨h1,h2⟩:=ih (fun d hd=>ha d (by simp[hd])) (fun d hd=>hb d (by simp[hd])) h.2
   exact⟨by rw[h.1,h1],h2⟩
theorem qW (l:List Int):jA l= []∨∃t,jA l=32::t:=by
 cases l with
 |nil=>exact .inl rfl
 |cons x l=>exact .inr ⟨_,rfl⟩
theorem Fu:∀{l m:List Int},(∀x∈l,0≤x)→(∀x∈m,0≤x)→jA l=jA m→l=m
 | [],[],_,_,_=>rfl
 | [],y::m,_,_,h=>by simp[jA] at h
 |x::l,[],_,_,h=>by simp[jA] at h
 |x::l,y::m,hl,hm,h=>by
  have h:32::(Lib.itoa x++jA l)=32::(Lib.itoa y++jA m):=h
  obtain⟨h1,h2⟩:=Bw (nH (hl x (by simp))) (nH (hm y (by simp))) (qW l) (qW m) (List.cons.inj h).2
  rw[vV (hl x (by simp)) (hm y (by simp)) h1,Fu (fun z hz=>hl z (by simp[hz])) (fun z hz=>hm z (by simp[hz])) h2]
theorem Lx (l:List Int) (x:Int):jA (l++ [x])=jA l++32::Lib.itoa x:=by simp[jA]
theorem Dx (a b:List UInt8):(⟨a.toArray⟩:ByteArray)++⟨b.toArray⟩=⟨(a++b).toArray⟩:=by
 apply ByteArray.ext
 rw[ByteArray.data_append]
 simp
def mW (c:Int) (l:List Int):ByteArray:=⟨(Lib.itoa c++jA l).toArray⟩
theorem Od (c:Int):lR c=mW c []:=by unfold lR mW;simp[jA]
theorem Ly (c:Int) (l:List Int) (x:Int):mW c l++(⟨#[32]⟩++lR x)=mW c (l++ [x]):=by
 unfold mW lR
 rw[Lx,show(⟨#[32]⟩:ByteArray)=⟨([32]:List UInt8).toArray⟩ from rfl,Dx,Dx];simp
theorem Lz {a b:List UInt8} (h:(⟨a.toArray⟩:ByteArray)=⟨b.toArray⟩):a=b:=by
 have:=congrArg (fun z:ByteArray=>z.data.toList) h
 simpa using this
theorem Oe {c d:Int} {l m:List Int} (hc:0≤c) (hd:0≤d) (hl:∀x∈l,0≤x) (hm:∀x∈m,0≤x) (h:mW c l=mW d m):c=d∧l=m:=by
 obtain⟨h1,h2⟩:=Bw (nH hc) (nH hd) (qW l) (qW m) (Lz h)
 exact⟨vV hc hd h1,Fu hl hm h2⟩
theorem Og (l:List Int) (h:∀x∈l,0≤x∧x≤9223372036854775807):(jA l).length≤22*l.length:=by
 induction l with
 |nil=>simp[jA]
 |cons x l ih=>
  have h1:=Lib.itoa_length_le x (by have:=h x (by simp);omega) (h x (by simp)).2
  have h2:=ih (fun y hy=>h y (by simp[hy]))
  have:jA (x::l)=32::(Lib.itoa x++jA l):=rfl
  rw[this];simp;omega
theorem Dy (c:Int) (l:List Int) (hc:0≤c∧c≤9223372036854775807) (h:∀x∈l,0≤x∧x≤9223372036854775807):(mW c l).size≤22+22*l.length:=by
 have h1:=Og l h
 have h2:=Lib.itoa_length_le c O hc.2
 show(Lib.itoa c++jA l).toArray.size≤_
 simp;omega
end Keys
end
section
open ref01 ref03 ref04 ref06 prog prog2 prog3 prog4 prog5 prog6 prog7 prog8 prog9 Part Rungs LeftM TrimM Itoa Keys
noncomputable def keeps (s:SS):List (List Int):=(List.range s.sT.length).map (keep s)
namespace prog10
end prog10
end
section
open ref01 ref03 ref04 ref06 Part Rungs LeftM TrimM Itoa Keys
namespace RoundM
theorem Sa {s:SS} (hs:oK s) (x:Nat):(∀t∈keep s x,0≤t∧t<256)∧(keep s x).length≤256:=by
 by_cases hx:x<s.sT.length
 ·have hok:=hs.st x hx
  refine⟨fun t ht=>xN hok (Ae ht).1,?_⟩
  have h1:=List.length_filter_le (fun t=> !ix (hOl s) x&& !eH (ix s.sT x) t (hOl s)) (ix s.sT x).aP
  have h2:=hok.acl
  unfold keep;omega
 ·have e:(ix s.sT x).aP= []:=by
   have:ix s.sT x=default:=by unfold ix;rw[List.getD_eq_getElem?_getD,List.getElem?_eq_none O];rfl
   rw[this];rfl
  have e2:keep s x= []:=by unfold keep;rw[e];rfl
  rw[e2];exact⟨fun t ht=>by simp at ht,by simp⟩
end RoundM
end
section
open ref01 ref03 ref04 ref06 prog prog2 prog3 prog4 prog5 prog6 prog7 prog8 prog9 prog10 Part Rungs LeftM TrimM Itoa Keys RoundM
namespace prog11
end prog11
end
end Go.Proofs.YtnlfjojfgghchaaGreatDoor
