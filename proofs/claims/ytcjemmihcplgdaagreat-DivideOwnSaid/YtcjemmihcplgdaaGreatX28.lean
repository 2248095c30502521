/- The walks of the functions and the plain laws. Own texts of this claim, packed: Zzwreck. -/
import Derived.Test.YtcjemmihcplgdaaGreatX15
import Derived.Test.YtcjemmihcplgdaaGreatX27
import Derived.Test.YtcjemmihcplgdaaGreatX26
set_option linter.all false
namespace Go.Proofs.YtcjemmihcplgdaaGreat
open AL Go
set_option maxRecDepth 100000
section
open ref01 ref03 judg wit sysw spoil
attribute [local semireducible] eqv in
instance:Kinds pE 2 (fun _=>Sh.i):=⟨fun x {w F vs} ha j v hj=>by
 match vs,ha with
 | [a,b],⟨h0,h1,_⟩=>
   match j with
   |0=>simp at hj;subst hj;exact⟨_,_,h0⟩
   |1=>simp at hj;subst hj;exact⟨_,_,h1⟩
   |j+2=>simp at hj⟩
theorem edges_sl (y:List (Int × Int)) {w:World} {F:Fz} {us:List Value} (h:All2 w F (gE y) us) (j:Nat) (u:Value) (hj:us[j]?=some u):∃A m c,u= .slice A m c:=by
 match us,h with
 | [a],⟨h0,_⟩=>
   match j with
   |0=>simp at hj;subst hj;exact sl_is h0
   |j+1=>simp at hj
namespace wreck
theorem Wreck_ok (al:List ByteArray) (sts:List (List (Int × Int))) (W:World) (D:Fz) (vA vS:Value) (hA:(strs al).p W D (sv vA)) (hS:(sl 1 gE sts).p W D (sv vS)):
 AL.Fn Tryz.prog 35 [agg [eqv (sv vA),eqv (sv vS)]] [(100,rgz D W (firstZ (sv vS) 1 0))] (ι:=Unit) (fun _ _=>tup []) (fun _=> [(100,rgz D W (firstZ (sv vS) 1 sts.length))]):=by
 refine fnI Tryz.func35 rfl rfl (fun w0 F0=> ?_)
 have hal:al.length≤140737488355328:=sl_len hA
 have hsl:sts.length≤140737488355328:=sl_len hS
 refine sq (rg (bx (key:=1) (cs:= [eqv (sv vA),eqv (sv vS)]) J fun b1=>(nl (th (sq (sq (rg (fP J T.fld38_0 (lP J J J T.one22 (kn 6 (wv W D (sl 1 rE_ al)) J (eq_wv hA) (lenW (e:=9) J T.sl22 (mv (nl (th (bk ?_)))))))))))))))
 have hI0_0:0≤al.length:=by
  first|omega|simp
 refine lp (κ:=Nat) (fun p=> [(1,ptr 1 b1 0),(7,int (al.length:Int)),(8,int (p:Int))]) (fun p=> [(1,cell b1 [eqv (sv vA),eqv (sv vS)]),(100,rgz D W (firstZ (sv vS) 1 0))]) (fun p=>p≤al.length) (fun p=>al.length- p) 0 hI0_0 ⟨id,id,id,tV⟩ ⟨rI,rI,tV⟩ ?_
 intro k hG0
 have hk0:k≤al.length:=hG0
 refine sq (rg (bi J J b_lss (nl (th (sq ?_)))))
 refine cd J (fun hc0=> ?_) (fun hc0=> ?_)
 ·try simp at hc0
  refine sk (th (sq (bk (sq (rg (mv (ag (nl (th (rg (fP J T.fld38_0 (lP J J J T.one22 (mv (kn 12 (wv W D (sl 1 rE_ al)) J (eq_wv hA) (idxW (fun _=>Sh.s) J J T.sl22 O O (stT (key:=100) (φ:=str ({ data:= #[115,112,111,105,108,116] })) J J J T.one9 J (nl (eb (th (rg (bi J J (b_add i6) (mv (nl ?_)))))))))))))))))))))))
  have hN0:(k+1)≤al.length:=by
   first|omega|simp_all
  exact ln (k+1) hN0 dO ⟨id,id,id,tV⟩ ⟨rI,rI,tV⟩
 ·try simp at hc0
  refine ex (xt_ (xt_ (xb (th (sq (rg (fP J T.fld38_1 (lP J J J T.one36 (kn 17 (wv W D (sl 1 gE sts)) J (eq_wv hS) (lenW (e:=88) J T.sl36 (mv (nl (th (bk ?_))))))))))))))
  have hI1_0:0≤sts.length:=by
   first|omega|simp
  refine lp (κ:=Nat) (fun p=> [(1,ptr 1 b1 0),(18,int (sts.length:Int)),(19,int (p:Int))]) (fun p=> [(1,cell b1 [eqv (sv vA),eqv (sv vS)]),(100,rgz D W (firstZ (sv vS) 1 p))]) (fun p=>p≤sts.length) (fun p=>sts.length- p) 0 hI1_0 ⟨id,id,id,tV⟩ ⟨rI,rI,tV⟩ ?_
  intro k1 hG1
  have hk1:k1≤sts.length:=hG1
  refine sq (rg (bi J J b_lss (nl (th (sq ?_)))))
  refine cd J (fun hc1=> ?_) (fun hc1=> ?_)
  ·try simp at hc1
   refine sk (th (sq (bk (sq (rg (mv (ag (nl (th (sq (sq (rg (fP J T.fld38_1 (lP J J J T.one36 (mv (idxX (xs:=sts) J hS J T.sl36 O O (ldX (key:=100) (i:=k1) (xs:=sts) J J hS (gK O) J O T.one88 ?_)))))))))))))))))
   refine fc (wvI 26 rfl) (fun hl26=> ?_)
   have hl26b:(ix sts k1).length≤140737488355328:=hl26
   refine lenW (e:=94) rfl T.sl88 (mv (nl (th (bk ?_))))
   have hI2_0:0≤(ix sts k1).length:=by
    first|omega|simp
   refine lp (κ:=Nat) (fun p=> [(1,ptr 1 b1 0),(3,int (k1:Int)),(18,int (sts.length:Int)),(19,int (k1:Int)),(27,int ((ix sts k1).length:Int)),(28,int (p:Int))]) (fun p=> [(1,cell b1 [eqv (sv vA),eqv (sv vS)]),(100,rgz D W (firstZ (sv vS) 1 k1))]) (fun p=>p≤(ix sts k1).length) (fun p=>(ix sts k1).length- p) 0 hI2_0 ⟨id,id,id,id,id,id,tV⟩ ⟨rI,rI,tV⟩ ?_
   intro k2 hG2
   have hk2:k2≤(ix sts k1).length:=hG2
   refine sq (rg (bi J J b_lss (nl (th (sq ?_)))))
   refine cd J (fun hc2=> ?_) (fun hc2=> ?_)
   ·try simp at hc2
    refine sk (th (sq (bk (sq (rg (mv (ag (nl (th (rg (fP J T.fld38_1 (lP J J J T.one36 (mv (idxX (xs:=sts) J hS J T.sl36 O O (ldX (key:=100) (i:=k1) (xs:=sts) J J hS (gK O) J O T.one88 (mv (bd (css:= [(0,_),(1,_)]) T.st94 (eC (eC eZ)) ⟨J,J,p1 (φ:=int (-7)) J,⟨J,J,p1 (φ:=int (-7)) J,tV⟩⟩ (idxW (fun _=>Sh.i) J J T.sl88 O O (stTA (key:=100) (cs:= [int (-7),int (-7)]) J J J T.agg94 J ⟨inferInstance,inferInstance,tV⟩ (nl (eb (th (rg (bi J J (b_add i6) (mv (nl ?_))))))))))))))))))))))))))
    have hN0:(k2+1)≤(ix sts k1).length:=by
     first|omega|simp_all
    exact ln (k2+1) hN0 dO ⟨id,id,id,id,id,id,tV⟩ ⟨rI,rI,tV⟩
   ·try simp at hc2
    refine ex (xt_ (xt_ (xb (th (rg (fP J T.fld38_1 (lP J J J T.one36 (mv (idxX (xs:=sts) J hS J T.sl36 O O (stZ1 (key:=100) (i:=k1) (xs:=sts) J J hS O edges_sl T.one88 J (nl (eb (th (rg (bi J J (b_add i6) (mv (nl ?_)))))))))))))))))
    have hN0:(k1+1)≤sts.length:=by
     first|omega|simp_all
    exact ln (k1+1) hN0 dO ⟨id,id,id,tV⟩ ⟨rI,rI,tV⟩
  ·try simp at hc1
   refine ex (xt_ (xt_ (xb ?_)))
   obtain rfl:k1=sts.length:=by omega
   exact rE () [] J [] trivial J ⟨rI,tV⟩ eX
end wreck
end
end Go.Proofs.YtcjemmihcplgdaaGreat
