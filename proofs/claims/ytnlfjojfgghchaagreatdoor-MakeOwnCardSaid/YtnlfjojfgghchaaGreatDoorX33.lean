/- The walks of the functions and the plain laws. Own texts of this claim, packed: Mkmkz1. -/
import Derived.Test.YtnlfjojfgghchaaGreatDoorX31
import Derived.Test.YtnlfjojfgghchaaGreatDoorX25
import Derived.Test.YtnlfjojfgghchaaGreatDoorX32
import Derived.Test.YtnlfjojfgghchaaGreatDoorX14
set_option linter.all false
namespace Go.Proofs.YtnlfjojfgghchaaGreatDoor
open AL Go
set_option maxRecDepth 100000
section
open ref01 ref03 judg wit sysw spoil wreck
namespace mkz1
theorem CJ (acs:List ByteArray) (sts:List SA) (W:World) (D:Fz) (vA vS:Value) (hA:(strs acs).p W D (sv vA)) (hS:(sl 2 sE sts).p W D (sv vS)):
 AL.Fn Tryz.prog 38 [agg [eqv (sv vA),eqv (sv vS)]] [(100,rgz D W (eT (sv vS) 2 0))] (ι:=Unit) (fun _ _=>tup []) (fun _=> [(100,rgz D W (eT (sv vS) 2 0))]):=by
 refine fnI Tryz.func38 rfl rfl (fun w0 F0=> ?_)
 have hal:acs.length≤140737488355328:=yH hA
 have hsl:sts.length≤140737488355328:=yH hS
 refine sq (rg (bx (key:=1) (cs:= [eqv (sv vA),eqv (sv vS)]) J fun b1=>(nl (th (sq (sq (rg (fP J T.cD (lP J J J T.bZ (kn 8 (wv W D (sl 1 rE_ acs)) J (Fe hA) (Gw (e:=9) J T.eH (mv (nl (th (bk ?_)))))))))))))))
 have hI0_0:0≤acs.length:=by
  first|omega|simp
 refine lp (κ:=Nat) (fun p=> [(1,ptr 1 b1 0),(9,int (acs.length:Int)),(10,int (p:Int))]) (fun p=> [(1,cell b1 [eqv (sv vA),eqv (sv vS)]),(100,rgz D W (eT (sv vS) 2 0))]) (fun p=>p≤acs.length) (fun p=>acs.length- p) 0 hI0_0 ⟨id,id,id,tV⟩ ⟨rI,rI,tV⟩ ?_
 intro k hG0
 have hk0:k≤acs.length:=hG0
 refine sq (rg (bi J J bA (nl (th (sq ?_)))))
 refine cd J (fun hc0=> ?_) (fun hc0=> ?_)
 ·try simp at hc0
  refine sk (th (sq (bk (sq (rg (mv (ag (nl (th (rg (fP J T.cD (lP J J J T.bZ (mv (kn 14 (wv W D (sl 1 rE_ acs)) J (Fe hA) (Gx (fun _=>Sh.s) J J T.eH O O (stT (key:=100) (φ:=str ({ data:= #[99,104,97,110,103,101,100] })) J J J T.xV J (nl (eb (th (rg (bi J J (aN i6) (mv (nl ?_)))))))))))))))))))))))
  have hN0:(k+1)≤acs.length:=by
   first|omega|simp_all
  exact ln (k+1) hN0 dO ⟨id,id,id,tV⟩ ⟨rI,rI,tV⟩
 ·try simp at hc0
  refine ex (xt_ (xt_ (xb (th (sq (rg (fP J T.bE (lP J J J T.bP (Wm J hS T.cR (mv (nl (th (bk ?_)))))))))))))
  have hI1_0:0≤sts.length:=by
   first|omega|simp
  refine lp (κ:=Nat) (fun p=> [(19,eqv (sv vS)),(20,int (sts.length:Int)),(21,int (p:Int))]) (fun p=> [(1,cell b1 [eqv (sv vA),eqv (sv vS)]),(100,rgz D W (eT (sv vS) 2 0))]) (fun p=>p≤sts.length) (fun p=>sts.length- p) 0 hI1_0 ⟨id,id,id,tV⟩ ⟨rI,rI,tV⟩ ?_
  intro k1 hG1
  have hk1:k1≤sts.length:=hG1
  refine sq (rg (bi J J bA (nl (th (sq ?_)))))
  refine cd J (fun hc1=> ?_) (fun hc1=> ?_)
  ·try simp at hc1
   refine sk (th (sq (bk (sq (rg (UX (xs:=sts) J hS J T.cR O O (XB (key:=100) (i:=k1) (xs:=sts) J J hS (gK O) O QS T.cX (al (key:=4) T.z79 (eC (eC eZ)) fun b4=>(sPA (cs':= [wv W D (sl 1 nE (ix sts k1).aP),wv W D (sl 1 nE (ix sts k1).next)]) J J J T.cX J J (nl (th (sq (sq (rg (fP J T.cE (lP J J J T.aQ ?_))))))))))))))))
   refine fc (wvI 26 rfl) (fun hl26=> ?_)
   have hl26b:(ix sts k1).aP.length≤140737488355328:=hl26
   refine Gw (e:=3) rfl T.aU (mv (nl (th (bk ?_))))
   have hI2_0:0≤(ix sts k1).aP.length:=by
    first|omega|simp
   refine lp (κ:=Nat) (fun p=> [(4,ptr 4 b4 0),(19,eqv (sv vS)),(20,int (sts.length:Int)),(21,int (k1:Int)),(27,int ((ix sts k1).aP.length:Int)),(28,int (p:Int))]) (fun p=> [(1,cell b1 [eqv (sv vA),eqv (sv vS)]),(4,cell b4 [wv W D (sl 1 nE (ix sts k1).aP),wv W D (sl 1 nE (ix sts k1).next)]),(100,rgz D W (eT (sv vS) 2 0))]) (fun p=>p≤(ix sts k1).aP.length) (fun p=>(ix sts k1).aP.length- p) 0 hI2_0 ⟨id,id,id,id,id,id,tV⟩ ⟨rI,rI,rI,tV⟩ ?_
   intro k2 hG2
   have hk2:k2≤(ix sts k1).aP.length:=hG2
   refine sq (rg (bi J J bA (nl (th (sq ?_)))))
   refine cd J (fun hc2=> ?_) (fun hc2=> ?_)
   ·try simp at hc2
    refine sk (th (sq (bk (sq (rg (mv (ag (nl (th (rg (fP J T.cE (lP J J J T.aQ (mv (Gx (fun _=>Sh.i) J J T.aU O O (stT (key:=100) (φ:=int (-5)) J J J T.aH J (nl (eb (th (rg (bi J J (aN i6) (mv (nl ?_))))))))))))))))))))))
    have hN0:(k2+1)≤(ix sts k1).aP.length:=by
     first|omega|simp_all
    exact ln (k2+1) hN0 dO ⟨id,id,id,id,id,id,tV⟩ ⟨rI,rI,rI,tV⟩
   ·try simp at hc2
    refine ex (xt_ (xt_ (xb (th (sq (rg (fP J T.cP (lP J J J T.aQ ?_))))))))
    refine fc (wvI 37 rfl) (fun hl37=> ?_)
    have hl37b:(ix sts k1).next.length≤140737488355328:=hl37
    refine Gw (e:=3) rfl T.aU (mv (nl (th (bk ?_))))
    have hI3_0:0≤(ix sts k1).next.length:=by
     first|omega|simp
    refine lp (κ:=Nat) (fun p=> [(4,ptr 4 b4 0),(19,eqv (sv vS)),(20,int (sts.length:Int)),(21,int (k1:Int)),(38,int ((ix sts k1).next.length:Int)),(39,int (p:Int))]) (fun p=> [(1,cell b1 [eqv (sv vA),eqv (sv vS)]),(4,cell b4 [wv W D (sl 1 nE (ix sts k1).aP),wv W D (sl 1 nE (ix sts k1).next)]),(100,rgz D W (eT (sv vS) 2 0))]) (fun p=>p≤(ix sts k1).next.length) (fun p=>(ix sts k1).next.length- p) 0 hI3_0 ⟨id,id,id,id,id,id,tV⟩ ⟨rI,rI,rI,tV⟩ ?_
    intro k3 hG3
    have hk3:k3≤(ix sts k1).next.length:=hG3
    refine sq (rg (bi J J bA (nl (th (sq ?_)))))
    refine cd J (fun hc3=> ?_) (fun hc3=> ?_)
    ·try simp at hc3
     refine sk (th (sq (bk (sq (rg (mv (ag (nl (th (rg (fP J T.cP (lP J J J T.aQ (mv (Gx (fun _=>Sh.i) J J T.aU O O (stT (key:=100) (φ:=int (-5)) J J J T.aH J (nl (eb (th (rg (bi J J (aN i6) (mv (nl ?_))))))))))))))))))))))
     have hN0:(k3+1)≤(ix sts k1).next.length:=by
      first|omega|simp_all
     exact ln (k3+1) hN0 dO ⟨id,id,id,id,id,id,tV⟩ ⟨rI,rI,rI,tV⟩
    ·try simp at hc3
     refine ex (xt_ (xt_ (xb (eb (th (rg (bi J J (aN i6) (mv (nl ?_)))))))))
     have hN0:(k1+1)≤sts.length:=by
      first|omega|simp_all
     exact ln (k1+1) hN0 dO ⟨id,id,id,tV⟩ ⟨rI,rI,tV⟩
  ·try simp at hc1
   refine ex (xt_ (xt_ (xb ?_)))
   exact rE () [] J [] trivial J ⟨rI,tV⟩ eX
theorem tI (acs:List ByteArray) (sts:List (List (Int × Int))) (W:World) (D:Fz) (vA vS:Value) (hA:(strs acs).p W D (sv vA)) (hS:(sl 1 gE sts).p W D (sv vS)):
 AL.Fn Tryz.prog 39 [agg [eqv (sv vA),eqv (sv vS)]] [(100,rgz D W (eT (sv vS) 1 0))] (ι:=Unit) (fun _ _=>tup []) (fun _=> [(100,rgz D W (eT (sv vS) 1 0))]):=by
 refine fnI Tryz.func39 rfl rfl (fun w0 F0=> ?_)
 have hal:acs.length≤140737488355328:=yH hA
 have hsl:sts.length≤140737488355328:=yH hS
 refine sq (rg (bx (key:=1) (cs:= [eqv (sv vA),eqv (sv vS)]) J fun b1=>(nl (th (sq (sq (rg (fP J T.fR (lP J J J T.bZ (kn 7 (wv W D (sl 1 rE_ acs)) J (Fe hA) (Gw (e:=9) J T.eH (mv (nl (th (bk ?_)))))))))))))))
 have hI0_0:0≤acs.length:=by
  first|omega|simp
 refine lp (κ:=Nat) (fun p=> [(1,ptr 1 b1 0),(8,int (acs.length:Int)),(9,int (p:Int))]) (fun p=> [(1,cell b1 [eqv (sv vA),eqv (sv vS)]),(100,rgz D W (eT (sv vS) 1 0))]) (fun p=>p≤acs.length) (fun p=>acs.length- p) 0 hI0_0 ⟨id,id,id,tV⟩ ⟨rI,rI,tV⟩ ?_
 intro k hG0
 have hk0:k≤acs.length:=hG0
 refine sq (rg (bi J J bA (nl (th (sq ?_)))))
 refine cd J (fun hc0=> ?_) (fun hc0=> ?_)
 ·try simp at hc0
  refine sk (th (sq (bk (sq (rg (mv (ag (nl (th (rg (fP J T.fR (lP J J J T.bZ (mv (kn 13 (wv W D (sl 1 rE_ acs)) J (Fe hA) (Gx (fun _=>Sh.s) J J T.eH O O (stT (key:=100) (φ:=str ({ data:= #[99,104,97,110,103,101,100] })) J J J T.xV J (nl (eb (th (rg (bi J J (aN i6) (mv (nl ?_)))))))))))))))))))))))
  have hN0:(k+1)≤acs.length:=by
   first|omega|simp_all
  exact ln (k+1) hN0 dO ⟨id,id,id,tV⟩ ⟨rI,rI,tV⟩
 ·try simp at hc0
  refine ex (xt_ (xt_ (xb (th (sq (rg (fP J T.bX (lP J J J T.dB (Wm J hS T.fJ (mv (nl (th (bk ?_)))))))))))))
  have hI1_0:0≤sts.length:=by
   first|omega|simp
  refine lp (κ:=Nat) (fun p=> [(18,eqv (sv vS)),(19,int (sts.length:Int)),(20,int (p:Int))]) (fun p=> [(1,cell b1 [eqv (sv vA),eqv (sv vS)]),(100,rgz D W (eT (sv vS) 1 0))]) (fun p=>p≤sts.length) (fun p=>sts.length- p) 0 hI1_0 ⟨id,id,id,tV⟩ ⟨rI,rI,tV⟩ ?_
  intro k1 hG1
  have hk1:k1≤sts.length:=hG1
  refine sq (rg (bi J J bA (nl (th (sq ?_)))))
  refine cd J (fun hc1=> ?_) (fun hc1=> ?_)
  ·try simp at hc1
   refine sk (th (sq (bk (sq (rg (UX (xs:=sts) J hS J T.fJ O O (ldX (key:=100) (i:=k1) (xs:=sts) J J hS (gK O) J O T.fT ?_)))))))
   refine fc (wvI 23 rfl) (fun hl23=> ?_)
   have hl23b:(ix sts k1).length≤140737488355328:=hl23
   refine ag (nl (th (sq (rg (mv (Gw (e:=94) rfl T.dJ (mv (nl (th (bk ?_))))))))))
   have hI2_0:0≤(ix sts k1).length:=by
    first|omega|simp
   refine lp (κ:=Nat) (fun p=> [(4,wv W D (sl 2 pE (ix sts k1))),(18,eqv (sv vS)),(19,int (sts.length:Int)),(20,int (k1:Int)),(25,int ((ix sts k1).length:Int)),(26,int (p:Int))]) (fun p=> [(1,cell b1 [eqv (sv vA),eqv (sv vS)]),(100,rgz D W (eT (sv vS) 1 0))]) (fun p=>p≤(ix sts k1).length) (fun p=>(ix sts k1).length- p) 0 hI2_0 ⟨id,id,id,id,id,id,tV⟩ ⟨rI,rI,tV⟩ ?_
   intro k2 hG2
   have hk2:k2≤(ix sts k1).length:=hG2
   refine sq (rg (bi J J bA (nl (th (sq ?_)))))
   refine cd J (fun hc2=> ?_) (fun hc2=> ?_)
   ·try simp at hc2
    refine sk (th (sq (bk (sq (rg (mv (ag (nl (th (rg (mv (mv (bd (css:= [(0,_),(1,_)]) T.xD (eC (eC eZ)) ⟨J,J,p1 (φ:=int (-5)) J,⟨J,J,p1 (φ:=int (-5)) J,tV⟩⟩ (Gx (fun _=>Sh.i) J J T.dJ O O (Xo (key:=100) (cs:= [int (-5),int (-5)]) J J J T.dG J ⟨inferInstance,inferInstance,tV⟩ (nl (eb (th (rg (bi J J (aN i6) (mv (nl ?_))))))))))))))))))))))
    have hN0:(k2+1)≤(ix sts k1).length:=by
     first|omega|simp_all
    exact ln (k2+1) hN0 dO ⟨id,id,id,id,id,id,tV⟩ ⟨rI,rI,tV⟩
   ·try simp at hc2
    refine ex (xt_ (xt_ (xb (eb (th (rg (bi J J (aN i6) (mv (nl ?_)))))))))
    have hN0:(k1+1)≤sts.length:=by
     first|omega|simp_all
    exact ln (k1+1) hN0 dO ⟨id,id,id,tV⟩ ⟨rI,rI,tV⟩
  ·try simp at hc1
   refine ex (xt_ (xt_ (xb ?_)))
   exact rE () [] J [] trivial J ⟨rI,tV⟩ eX
end mkz1
end
end Go.Proofs.YtnlfjojfgghchaaGreatDoor
