/- The walks of the functions and the plain laws. Own texts of this claim, packed: MkBase, Mkref01, Mkref03, Mkref04, MkPart, Mkref06, Mkprog, Mkprog2, Mkprog3, Mkprog5, Mkprog4, MkRungs, Mkprog6, MkLeftM. -/
import Derived.Test.YtnlfjojfgghchaaGreatDoorProg
import Derived.Test.YtnlfjojfgghchaaGreatDoorX02
import Derived.KernelRfl
set_option linter.all false
namespace AL
open Go
theorem gB {p:Prop} (h:p:=by first|exact gN (by omega)|exact gI (by omega) (by omega)):p:=h
theorem kR {p:Prop} (h:p:=by kernel_rfl):p:=h
theorem i6 {p:Prop} (h:p:=by unfold I64;omega):p:=h
theorem mL {p:Prop} (h:p:=by unfold aN;omega):p:=h
end AL
namespace Go.Proofs.YtnlfjojfgghchaaGreatDoor
open AL Go
set_option maxRecDepth 100000
section
def nE:Int→List AV:=fun x=> [int x]
abbrev ints (xs:List Int):AV:=sl 1 nE xs
def blE:Bool→List AV:=fun x=> [bl x]
abbrev bls (xs:List Bool):AV:=sl 1 blE xs
def rE_:ByteArray→List AV:=fun x=> [str x]
abbrev strs (xs:List ByteArray):AV:=sl 1 rE_ xs
@[ext] structure SA where
  aP:List Int
  next:List Int
deriving Inhabited,DecidableEq
@[ext] structure SS where
  aC:List ByteArray
  sT:List SA
deriving Inhabited,DecidableEq
def sE:SA→List AV:=fun x=> [ints x.aP,ints x.next]
abbrev state (x:SA):AV:=agg [ints x.aP,ints x.next]
abbrev spec (s:SS):AV:=agg [strs s.aC,sl 2 sE s.sT]
instance (x:Int):OneAll (nE x):=inferInstanceAs (OneAll [int x])
instance (x:Bool):OneAll (blE x):=inferInstanceAs (OneAll [bl x])
instance (x:ByteArray):OneAll (rE_ x):=inferInstanceAs (OneAll [str x])
instance (x:SA):OneAll (sE x):=inferInstanceAs (OneAll [ints x.aP,ints x.next])
instance:FlatE nE:=Kd
instance:FlatE blE:=Kd
instance:FlatE rE_:=Kd
def uU (N:Nat):SA→List AV:=fun x=> [fre N (ints x.aP),fre N (ints x.next)]
abbrev Ru (N:Nat) (s:SS):AV:=agg [fre N (strs s.aC),fre N (sl 2 sE s.sT)]
instance (N:Nat) (x:SA):OneAll (uU N x):=inferInstanceAs (OneAll [fre N (ints x.aP),fre N (ints x.next)])
theorem sLn {s:SS} (h:Inh (spec s)):s.aC.length≤140737488355328∧s.sT.length≤140737488355328∧∀k,k<s.sT.length→(ix s.sT k).aP.length≤140737488355328∧(ix s.sT k).next.length≤140737488355328:=
 ⟨(h.agg 0 rfl).len,(h.agg 1 rfl).len,fun _ hk=>⟨((h.agg 1 rfl).el (gK hk) 0 rfl).len,((h.agg 1 rfl).el (gK hk) 1 rfl).len⟩⟩
theorem BL {x:SA} (h:Inh (state x)):x.aP.length≤140737488355328∧x.next.length≤140737488355328:=
 ⟨(h.agg 0 rfl).len,(h.agg 1 rfl).len⟩
theorem bN {α:Type} [Inhabited α] {xs:List α} {k:Nat} (h:k<xs.length):xs.take (k+1)=xs.take k++ [ix xs k]:=by
 rw[List.take_succ_eq_append_getElem h,aG h]
end
section
def kP (c:Int):Bool:=(decide (97≤c)&&decide (c≤122))||(decide (65≤c)&&decide (c≤90))
def rising (l:List Int):Bool:=(List.range (l.length- 1)).all fun i=>decide (ix l i<ix l (i+1))
def indexOf (l:List ByteArray) (s:ByteArray):Int:=match l.findIdx? (fun x=>decide (x=s)) with|some i=>i|none=> -1
def fR (n s:Int):Bool:=decide (0≤s)&&decide (s<((2^n.toNat:Nat):Int))
def has (s a:Int):Bool:=s.toNat.testBit a.toNat
def aL (n:Nat) (s:Int):List Int:=((List.range n).filter fun(a:Nat)=>has s (a:Int)).map fun(a:Nat)=>(a:Int)
theorem has_eq (s a:Nat):s.testBit a=decide (((s>>>a&&&1:Nat):Int)=1):=by
 rw[Nat.testBit_eq_decide_div_mod_eq,Nat.shiftRight_eq_div_pow,Nat.and_one_is_mod]
 by_cases h:s/2^a % 2=1
 ·simp[h]
 ·have h2:s/2^a % 2=0:=by omega
  simp[h2]
theorem mB (n:Nat) (s:Int):aL (n+1) s=aL n s++(if has s (n:Int) then [(n:Int)] else []):=by
 unfold aL
 rw[List.range_succ,List.filter_append,List.map_append]
 congr 1
 by_cases h:has s (n:Int)<;>simp[h]
theorem Kf (n:Nat) (s:Int):(aL n s).length≤n:=by
 unfold aL
 rw[List.length_map]
 exact Nat.le_trans (List.length_filter_le _ _) (by simp)
theorem uV (n:Nat) (f:Nat→Bool):(List.range (n+1)).all f=((List.range n).all f&&f n):=by
 rw[List.range_succ,List.all_append];simp
theorem qQ {n i:Nat} {f:Nat→Bool} (hi:i<n) (hf:f i=false):(List.range n).all f=false:=by
 cases h:(List.range n).all f
 ·rfl
 ·have:=List.all_eq_true.1 h i (List.mem_range.2 hi)
  rw[hf] at this;cases this
def mS (c:Int):Bool:=kP c||(decide (48≤c)&&decide (c≤57))||decide (c=45)||decide (c=95)
def jB (s:ByteArray):Bool:=decide (1≤s.size)&&decide (s.size≤20)&&kP (iE s 0)&&(List.range s.size).all fun i=>mS (iE s i)
def cZ (l:List ByteArray):Bool:=decide (l.length≤8)&&(List.range l.length).all fun i=>jB (ix l i)&&decide (indexOf l (ix l i)=(i:Int))
theorem mJ {α:Type} [Inhabited α] {xs:List α} {k:Nat} (h:k<xs.length) (p:α→Bool):(xs.take (k+1)).all p=((xs.take k).all p&&p (ix xs k)):=by
 rw[bN h,List.all_append];simp
theorem mT {α:Type} [Inhabited α] {xs:List α} {k:Nat} (h:k<xs.length) {p:α→Bool} (hp:p (ix xs k)=false):xs.all p=false:=by
 cases hh:xs.all p
 ·rfl
 ·have:=List.all_eq_true.1 hh (ix xs k) (by rw[aG h];exact List.getElem_mem h)
  rw[hp] at this;cases this
theorem uW {α:Type} [Inhabited α] {xs:List α} {p:α→Bool} (hh:xs.all p=true) {k:Nat} (h:k<xs.length):p (ix xs k)=true:=List.all_eq_true.1 hh _ (by rw[aG h];exact List.getElem_mem h)
namespace T
theorem aT:IsSlice Tryz.prog 66 3 1:=eL kR
theorem aH:dI Tryz.prog 3:=eH kR
end T
namespace ref01
theorem Ic (xs ys:List Int):
 Fn0 Tryz.prog 49 [ints xs,ints ys] (bl (decide (xs=ys))):=by
 refine fnI Tryz.func49 rfl rfl (fun w0 F0=> ?_)
 refine fcC (bL 0 J) (fun hm0=> ?_)
 refine fcC (bL 1 J) (fun hm1=> ?_)
 refine sq (rg (ag (nl (th (sq (sq (rg (mv (lnF J T.aT (mv (lnF J T.aT (bi J J fV (nl (th ?_))))))))))))))
 refine cd J (fun hc0=> ?_) (fun hc0=> ?_)
 ·try simp at hc0
  refine sq (rg (ag (nl (th (rt (rt_ ?_))))))
  have hr0:false=(decide (xs=ys)):=by
   rw[decide_eq_false];intro h;subst h;simp at hc0
  exact rE () [.tmp 4] J [bl false] ⟨.tmp J,tV⟩ (cA1 (fun x0=>rV [bl x0]) hr0) trivial eX
 ·try simp at hc0
  refine sk (th (sq (sq (rg (mv (lnF J T.aT (mv (nl (th (bk ?_))))))))))
  have hI0_0:0≤xs.length:=by
   first|omega|simp
  have hI0_1:xs.take 0=ys.take 0:=by
   simp
  refine lp (κ:=Nat) (fun p=> [(1,sl 1 nE ys),(12,sl 1 nE xs),(13,int (xs.length:Int)),(14,int (p:Int))]) (fun p=> []) (fun p=>(p≤xs.length)∧(xs.take p=ys.take p)) (fun p=>xs.length- p) 0 ⟨hI0_0,hI0_1⟩ ⟨id,id,id,id,tV⟩ trivial ?_
  intro k hG0
  obtain⟨hk0,hI0⟩:(k≤xs.length)∧(xs.take k=ys.take k):=hG0
  refine sq (rg (bi J J aZ (nl (th (sq ?_)))))
  refine cd J (fun hc1=> ?_) (fun hc1=> ?_)
  ·try simp at hc1
   refine sk (th (sq (bk (sq (rg (mv (iF J J T.aT O gB (lF J J T.aH (ag (ag (nl (th (sq (rg (mv (mv (mv (iF J J T.aT O gB (lF J J T.aH (bi J J fV (nl (th ?_))))))))))))))))))))))
   refine cd J (fun hc2=> ?_) (fun hc2=> ?_)
   ·try simp at hc2
    refine sq (rg (ag (nl (th (rt (rb (rt_ (rt_ (rb (rt_ ?_))))))))))
    have hr0:false=(decide (xs=ys)):=by
     rw[decide_eq_false];intro h;subst h;simp at hc2
    exact rE () [.tmp 4] J [bl false] ⟨.tmp J,tV⟩ (cA1 (fun x0=>rV [bl x0]) hr0) trivial eX
   ·try simp at hc2
    refine sk (eb (th (rg (bi J J (aM i6) (mv (nl ?_))))))
    have hN0:(k+1)≤xs.length:=by
     first|omega|simp_all
    have hN1:xs.take (k+1)=ys.take (k+1):=by
     rw[bN O,bN O,hI0];try simp at hc2
     rw[hc2]
    exact ln (k+1) ⟨hN0,hN1⟩ dO ⟨id,id,id,id,tV⟩ trivial
  ·try simp at hc1
   refine ex (xt_ (xt_ (xb (th (sq (rg (ag (nl (th (rt ?_))))))))))
   have hr0:true=(decide (xs=ys)):=by
    rw[decide_eq_true]
    rw[show k=xs.length by omega,List.take_length] at hI0
    rw[hI0,show xs.length=ys.length by omega,List.take_length]
   exact rE () [.tmp 4] J [bl true] ⟨.tmp J,tV⟩ (cA1 (fun x0=>rV [bl x0]) hr0) trivial eX
end ref01
end
section
open ref01
def wt (x:SA):Nat:=x.aP.length+x.next.length
def part (s:SS) (k:Nat):Nat:=s.aC.length+s.sT.length+((s.sT.take k).map wt).sum
def size (s:SS):Nat:=part s s.sT.length
def few (s:SS) (most:Int):Bool:=decide ((size s:Int)≤most)
theorem tI {s:SS} {k:Nat} (h:k<s.sT.length):part s (k+1)=part s k+((ix s.sT k).aP.length+(ix s.sT k).next.length):=by
 unfold part
 rw[bN h,List.map_append,List.sum_append]
 simp[wt];omega
theorem xP {s:SS} {k j:Nat} (h:k≤j):part s k≤part s j:=by
 induction j with
 |zero=>have:k=0:=by omega
        subst this;exact Nat.le_refl _
 |succ j ih=>
  by_cases e:k=j+1
  ·subst e;exact Nat.le_refl _
  ·have:=ih O
   by_cases hj:j<s.sT.length
   ·rw[tI hj];omega
   ·unfold part at*
    rw[List.take_of_length_le (show s.sT.length≤j+1 by omega)]
    rw[List.take_of_length_le (show s.sT.length≤j by omega)] at this
    exact this
theorem Sn (s:SS):s.aC.length+s.sT.length≤size s∧∀k,k<s.sT.length→(ix s.sT k).aP.length+(ix s.sT k).next.length≤size s:=by
 refine⟨?_,fun k hk=> ?_⟩
 ·have:=xP (s:=s) (show 0≤s.sT.length by omega)
  unfold size
  unfold part at this ⊢
  simp at this ⊢
 ·have h1:=tI (s:=s) hk
  have h2:=xP (s:=s) (show k+1≤s.sT.length by omega)
  unfold size;omega
def jH (x:SA) (n:Nat) (t:Int):Bool:=fR (n:Int) t&&(aL n t).all fun a=>decide (0≤ix x.next a.toNat)
def iK (x:SA) (N:Int) (n:Nat):Bool:=decide ((x.next.length:Int)=(n:Int))&&rising x.aP&&x.next.all (fun j=>decide (-1≤j)&&decide (j<N))&&x.aP.all (jH x n)
theorem OG {n:Nat} {t:Int} (hn:n≤8) (h:fR (n:Int) t=true):0≤t∧t<256:=by
 unfold fR at h
 simp only [Bool.and_eq_true,decide_eq_true_eq,Int.toNat_natCast] at h
 have:2^n≤2^8:=Nat.pow_le_pow_right O hn
 omega
def cC (s:SS):Bool:=cZ s.aC&&decide (1≤s.sT.length)&&decide (s.sT.length≤500)&&s.sT.all fun x=>iK x (s.sT.length:Int) s.aC.length
theorem iX {l:List ByteArray} (h:cZ l=true):l.length≤8:=by
 unfold cZ at h;simp at h;exact h.1
def isNone (s:SS):Bool:=decide (s.aC.length=0)&&decide (s.sT.length=0)
def nothing (l:List ByteArray):SS:=⟨l,[⟨[],List.replicate l.length (-1)⟩]⟩
namespace T
theorem eD:cS Tryz.prog 28 0 0:=bZ kR
theorem dE:dI Tryz.prog 22:=eH kR
theorem iL:IsSlice Tryz.prog 22 9 1:=eL kR
theorem bO:cS Tryz.prog 28 1 1:=bZ kR
theorem cM:dI Tryz.prog 26:=eH kR
theorem dB:IsSlice Tryz.prog 26 79 2:=eL kR
theorem mixed:Tryz.prog.follows .mixedOrders=true:=by kernel_rfl
theorem cY:cS Tryz.prog 79 0 0:=bZ kR
theorem bF:dI Tryz.prog 66:=eH kR
theorem eM:cS Tryz.prog 79 1 1:=bZ kR
theorem eO:gS Tryz.prog 79 2:=fU kR
theorem z79:dM Tryz.prog 79 [.slice none 0 0,.slice none 0 0]:=cE kR
theorem z28:dM Tryz.prog 28 [.slice none 0 0,.slice none 0 0]:=cE kR
theorem cQ:dW Tryz.prog 66 3 1 8 [.int .i64 0]:=gP kR kR
theorem Db:dW Tryz.prog 22 9 1 16 [.string ⟨#[]⟩]:=gP kR kR
theorem rP:dW Tryz.prog 26 79 2 48 [.slice none 0 0,.slice none 0 0]:=gP kR kR
theorem uB:fY Tryz.prog 28 [(0,1),(1,1)] [.slice none 0 0,.slice none 0 0]:=fG kR kR
theorem bA:gS Tryz.prog 28 2:=fU kR
theorem Aq:fY Tryz.prog 79 [(0,1),(1,1)] [.slice none 0 0,.slice none 0 0]:=fG kR kR
end T
namespace ref03
theorem FK (s:SS) (most:Int) (hm:most≤1000000):
 Fn0 Tryz.prog 46 [spec s,int most] (bl (few s most)):=by
 refine fnI Tryz.func46 rfl rfl (fun w0 F0=> ?_)
 refine fcC (bW 0 J) (fun hS0=> ?_)
 obtain⟨hsa0,hss0,hse0⟩:=sLn hS0
 refine sq (rg (bx (key:=2) (cs:= [sl 1 rE_ s.aC,sl 2 sE s.sT]) J fun b2=>(ag (nl (th (sq (rg (fP J T.eD (lP J J J T.dE (fc (bL 8 J) fun hm8=>(lnF J T.iL (fP J T.bO (lP J J J T.cM (fc (bL 11 J) fun hm11=>(lnF J T.dB (bi J J (aM i6) (ag (nl (th (sq (sq (rg (ag (nl (th (bk ?_))))))))))))))))))))))))))
 have hI0_0:0≤s.sT.length∧((s.aC.length+s.sT.length:Nat):Int)=(part s 0:Int):=by
  refine⟨O,?_⟩
  unfold part;simp
 refine lp (κ:=Nat × Int) (fun p=> [(1,int most),(2,ptr 2 b2 0),(4,bl false),(5,int p.2),(6,int (p.1:Int))]) (fun p=> [(2,cell b2 [sl 1 rE_ s.aC,sl 2 sE s.sT])]) (fun p=>p.1≤s.sT.length∧p.2=(part s p.1:Int)) (fun p=>s.sT.length- p.1) ⟨0,((s.aC.length+s.sT.length:Nat):Int)⟩ hI0_0 ⟨id,id,id,id,id,tV⟩ ⟨rI,tV⟩ ?_
 intro⟨k,n⟩ hG0
 have hI0:k≤s.sT.length∧n=(part s k:Int):=hG0
 show Ct _ _ _ _ [(1,int most),(2,ptr 2 b2 0),(4,bl false),(5,int n),(6,int (k:Int))] [(2,cell b2 [sl 1 rE_ s.aC,sl 2 sE s.sT])] _
 refine sq (sq (rg (mv (fP J T.bO (lP J J J T.cM (lnF J T.dB (bi J J aZ (mv ?_))))))))
 apply fT (t:=19) (pd:=23) rfl
 rotate_left
 ·intro hg0 fin
  have hg0':=hg0
  try simp at hg0'
  exact gy J J J hg0 (mv (gy J J J hg0 (mv (gy J J J hg0 (bi J J tD (pkT J hg0 J (drp (X:= [(22,_),(21,_),(20,_)]) ⟨J,J,J,tV⟩ fin)))))))
 ·intro hg0 fin
  exact gn J J J hg0 J J (gn J J J hg0 J J (gn J J J hg0 J J (pkF J hg0 J (drp (X:= [(22,_),(21,_),(20,_)]) ⟨J,J,J,tV⟩ fin))))
 refine nl (th ?_)
 refine cd J (fun hc0=> ?_) (fun hc0=> ?_)
 ·try simp at hc0
  have hl:=hse0 k O
  refine sk (th (sq (bk (dr (nh:=18) [0,0,2,0,14,30,62,126,0,256,0,1792,3840,7936,16128,32766,65535,131071] T.mixed kR ?_))))
  refine st_ J (fun _ _ _ gq kq=>mv' (gq.1.trans J) kq) ?_
  refine st_ J (fun _ _ _ gq kq=>fP (gq.1.trans J) T.bO kq) ?_
  refine st_ J (fun _ _ _ gq kq=>lP (gq.1.trans J) J J T.cM kq) ?_
  refine st_ J (fun _ _ _ gq kq=>mv' (gq.1.trans J) kq) ?_
  refine st_ J (fun _ _ _ gq kq=>iF (gq.1.trans J) (gq.2.1.trans J) T.dB O gB kq) ?_
  refine st_ J (fun _ _ _ gq kq=>fF (gq.1.trans J) T.cY kq) ?_
  refine st_ J (fun _ _ _ gq kq=>lF (gq.1.trans J) J T.bF kq) ?_
  refine st_ J (fun _ _ _ gq kq=>lnF (gq.1.trans J) T.aT kq) ?_
  refine st_ J (fun _ _ _ gq kq=>fP (gq.1.trans J) T.bO kq) ?_
  refine st_ J (fun _ _ _ gq kq=>lP (gq.1.trans J) J J T.cM kq) ?_
  refine st_ J (fun _ _ _ gq kq=>mv' (gq.1.trans J) kq) ?_
  refine st_ J (fun _ _ _ gq kq=>iF (gq.1.trans J) (gq.2.1.trans J) T.dB O gB kq) ?_
  refine st_ J (fun _ _ _ gq kq=>fF (gq.1.trans J) T.eM kq) ?_
  refine st_ J (fun _ _ _ gq kq=>lF (gq.1.trans J) J T.bF kq) ?_
  refine st_ J (fun _ _ _ gq kq=>lnF (gq.1.trans J) T.aT kq) ?_
  refine st_ J (fun _ _ _ gq kq=>bi (gq.1.trans J) (gq.2.1.trans J) (aM i6) kq) ?_
  refine st_ J (fun _ _ _ gq kq=>bi (gq.1.trans J) (gq.2.1.trans J) (aM i6) kq) ?_
  refine st_ J (fun _ _ _ gq kq=>ag' (gq.1.trans J) kq) ?_
  refine pn (nl (eb (th (rg (mv (bi J J (aM i6) (ag (nl ?_))))))))
  have hN0:(k+1)≤s.sT.length∧(n+(((ix s.sT k).aP.length+(ix s.sT k).next.length:Nat):Int))=(part s (k+1):Int):=by
   have h:=tI (s:=s) (k:=k) O
   refine⟨O,?_⟩
   rw[h];omega
  exact ln (⟨k+1,n+(((ix s.sT k).aP.length+(ix s.sT k).next.length:Nat):Int)⟩:Nat × Int) hN0 dO ⟨id,id,id,id,id,tV⟩ ⟨rI,tV⟩
 ·try simp at hc0
  refine ex (xt_ (xt_ (xb (th (sq (rg (mv (mv (bi J J tD (ag (nl (th (rt ?_)))))))))))))
  have hr0:(decide (n≤most))=(few s most):=by
   unfold few size
   have h1:=xP (s:=s) hI0.1
   by_cases h2:k<s.sT.length
   ·rw[decide_eq_false O,decide_eq_false O]
   ·rw[hI0.2,show k=s.sT.length by omega]
  exact rE () [.tmp 4] J [bl (decide (n≤most))] ⟨.tmp J,tV⟩ (cA1 (fun x0=>rV [bl x0]) hr0) trivial eX
theorem eV (s:SS) (hs:size s≤100000000):
 AL.Fn Tryz.prog 18 [spec s] [] (ι:=Unit) (fun N _=>Ru N s) (fun _=> []):=by
 refine fnI Tryz.func18 rfl rfl (fun w0 F0=> ?_)
 obtain⟨hb0,hb1⟩:=Sn s
 refine fcC (bW 0 J) (fun hS0=> ?_)
 obtain⟨hsa0,hss0,hse0⟩:=sLn hS0
 refine sq (rg (bx (key:=1) (cs:= [sl 1 rE_ s.aC,sl 2 sE s.sT]) J fun b1=>(al (key:=2) T.z28 (eC (eC eZ)) fun b2=>(nl (th (sq (rg (fP J T.eD (lP J J J T.dE (uT (enc:=rE_) (ys:=s.aC) J J T.Db mL flat (bd (css:= [(0,_)]) T.uB (eC (eC eZ)) ⟨J,J,p1 (φ:=fre w0.heap.size (sl 1 rE_ s.aC)) J,tV⟩ (al (key:=3) T.z28 (eC (eC eZ)) fun b3=>(sPA (cs':= [fre w0.heap.size (sl 1 rE_ s.aC),eqv (.slice none 0 0)]) J J J T.bA J J (nl (th (sq (sq (rg (fP J T.bO (lP J J J T.cM (fc (bL 11 J) fun hm11=>(lnF J T.dB (mv (nl (th (bk ?_))))))))))))))))))))))))))
 refine nwC 30 79 2 (uU w0.heap.size) (nS 3 1 (osl 30 (.slice none 0 0)) rfl rfl dR ?_)
 have hI0_0:0≤s.sT.length:=by
  first|omega|simp
 have hI0_1:([]:List SA)=s.sT.take 0:=by
  rfl
 refine lp (κ:=Nat × Value × (List SA)) (fun p=> [(2,ptr 2 b2 0),(3,ptr 3 b3 0),(11,sl 2 sE s.sT),(12,int (s.sT.length:Int)),(13,int (p.1:Int))]) (fun p=> [(1,cell b1 [sl 1 rE_ s.aC,sl 2 sE s.sT]),(2,cell b2 [eqv (.slice none 0 0),eqv (.slice none 0 0)]),(3,cell b3 [fre w0.heap.size (sl 1 rE_ s.aC),osl 30 p.2.1]),(30,own p.2.1 79 2 (uU w0.heap.size) p.2.2)]) (fun p=>(p.1≤s.sT.length)∧(p.2.2=s.sT.take p.1)) (fun p=>s.sT.length- p.1) ⟨0,(.slice none 0 0),([]:List SA)⟩ ⟨hI0_0,hI0_1⟩ ⟨id,id,id,id,id,tV⟩ ⟨rI,rI,rI,rI,tV⟩ ?_
 intro⟨k,v,acc⟩ hG0
 obtain⟨hk0,hI0⟩:(k≤s.sT.length)∧(acc=s.sT.take k):=hG0
 show Ct _ _ _ _ [(2,ptr 2 b2 0),(3,ptr 3 b3 0),(11,sl 2 sE s.sT),(12,int (s.sT.length:Int)),(13,int (k:Int))] [(1,cell b1 [sl 1 rE_ s.aC,sl 2 sE s.sT]),(2,cell b2 [eqv (.slice none 0 0),eqv (.slice none 0 0)]),(3,cell b3 [fre w0.heap.size (sl 1 rE_ s.aC),osl 30 v]),(30,own v 79 2 (uU w0.heap.size) acc)] _
 have hlen:acc.length≤k:=by rw[hI0];simp;omega
 refine sq (rg (bi J J aZ (nl (th (sq ?_)))))
 refine cd J (fun hc0=> ?_) (fun hc0=> ?_)
 ·try simp at hc0
  have hb2:=hb1 k O
  refine sk (th (sq (bk (sq (rg (iF J J T.dB O gB (lFA J T.eO (Nat.le_of_ble_eq_true J) (al (key:=5) T.z79 (eC (eC eZ)) fun b5=>(sPA (cs':= [sl 1 nE (ix s.sT k).aP,sl 1 nE (ix s.sT k).next]) J J J T.eO J J (nl (th (dr (nh:=10) [0,1,0,4,12,0,32,124,252,508,1023,2047,4095] T.mixed kR ?_))))))))))))
  refine st_ J (fun _ _ _ gq kq=>fP (gq.1.trans J) T.bO kq) ?_
  refine st_ J (fun _ _ _ gq kq=>lP (gq.1.trans J) J J T.cM kq) ?_
  refine st_ J (fun _ _ _ gq kq=>fP (gq.1.trans J) T.cY kq) ?_
  refine st_ J (fun _ _ _ gq kq=>lP (gq.1.trans J) J J T.bF kq) ?_
  refine st_ J (fun _ _ _ gq kq=>uT (enc:=nE) (ys:=(ix s.sT k).aP) J (gq.1.trans J) T.cQ mL flat kq) ?_
  refine st_ J (fun _ _ _ gq kq=>fP (gq.1.trans J) T.eM kq) ?_
  refine st_ J (fun _ _ _ gq kq=>lP (gq.1.trans J) J J T.bF kq) ?_
  refine st_ J (fun _ _ _ gq kq=>uT (enc:=nE) (ys:=(ix s.sT k).next) J (gq.1.trans J) T.cQ mL flat kq) ?_
  refine st_ J (fun _ _ _ gq kq=>bd (css:= [(0,_),(1,_)]) T.Aq (eC (eC eZ)) ⟨J,J,p1 (φ:=fre w0.heap.size (sl 1 nE (ix s.sT k).aP)) (by exact(gq.1.trans J)),⟨J,J,p1 (φ:=fre w0.heap.size (sl 1 nE (ix s.sT k).next)) (by exact(gq.2.1.trans J)),tV⟩⟩ kq) ?_
  refine st_ J (fun _ _ _ gq kq=>bsE (enc:=uU w0.heap.size) (xs:= [(ix s.sT k)]) (css:= [[fre w0.heap.size (sl 1 nE (ix s.sT k).aP),fre w0.heap.size (sl 1 nE (ix s.sT k).next)]]) T.rP ⟨J,J,pA (cs:= [fre w0.heap.size (sl 1 nE (ix s.sT k).aP),fre w0.heap.size (sl 1 nE (ix s.sT k).next)]) (by exact(gq.1.trans J)),tV⟩ J J J J kq) ?_
  refine pn (ap (key:=30) (zs:= [(ix s.sT k)]) cB J J J T.rP (by unfold aN at*;simp;omega) (by unfold aN at*;simp;omega) fun v27=>(fP J T.bO (cK J J J J T.cM J (nl (eb (th (rg (bi J J (aM i6) (mv (nl ?_))))))))))
  have hN0:(k+1)≤s.sT.length:=by
   first|omega|simp_all
  have hN1:(acc++ [(ix s.sT k)])=s.sT.take (k+1):=by
   rw[hI0,bN O]
  exact ln (⟨k+1,v27,acc++ [(ix s.sT k)]⟩:Nat × Value × (List SA)) ⟨hN0,hN1⟩ dO ⟨id,id,id,id,id,tV⟩ ⟨rI,rI,rI,rI,tV⟩
 ·try simp at hc0
  refine ex (xt_ (xt_ (xb (th (sq (rg (Ke sE 3 30 1 noM (fun _=>J) J J J (by decide) (lPA J J T.bA J (sPA (cs':= [fre w0.heap.size (sl 1 rE_ s.aC),fre w0.heap.size (sl 2 sE acc)]) J J J T.bA J J (nl (th (rt ?_))))))))))))
  have hr0:acc=s.sT:=by
   rw[hI0,show k=s.sT.length by omega,List.take_length]
  exact rE () [.cell 2 28] J [agg [fre w0.heap.size (sl 1 rE_ s.aC),fre w0.heap.size (sl 2 sE acc)]] ⟨.agg J J T.bA J J,tV⟩ (cA1 (fun x0=>rV [agg [fre w0.heap.size (sl 1 rE_ s.aC),fre w0.heap.size (sl 2 sE x0)]]) hr0) trivial eX
end ref03
end
section
open ref01 ref03
structure okState (x:SA) (N n:Nat):Prop where
 len:x.next.length=n
 nx:∀a,a<n→ -1≤ix x.next a∧ix x.next a<(N:Int)
 ac:∀i,i<x.aP.length→0≤ix x.aP i∧ix x.aP i<256
 go:∀i,i<x.aP.length→∀a:Nat,has (ix x.aP i) (a:Int)=true→a<n∧0≤ix x.next a
 rise:rising x.aP=true
structure oK (s:SS):Prop where
 acts:cZ s.aC=true
 n8:s.aC.length≤8
 few0:1≤s.sT.length
 few1:s.sT.length≤10000
 st:∀k,k<s.sT.length→okState (ix s.sT k) s.sT.length s.aC.length
theorem Kg {x:SA} {N n:Nat} (hn:n≤8) (h:iK x (N:Int) n=true):okState x N n:=by
 unfold iK at h
 simp only [Bool.and_eq_true,decide_eq_true_eq] at h
 obtain⟨⟨⟨h1,h2⟩,h3⟩,h4⟩:=h
 have hset:∀i,i<x.aP.length→jH x n (ix x.aP i)=true:=fun i hi=>uW h4 hi
 refine⟨O,fun a ha=> ?_,fun i hi=> ?_,fun i hi a ha=> ?_,h2⟩
 ·have:=uW h3 (k:=a) O
  simpa using this
 ·have:=hset i hi
  unfold jH at this
  simp only [Bool.and_eq_true] at this
  exact OG hn this.1
 ·have h5:=hset i hi
  unfold jH at h5
  simp only [Bool.and_eq_true] at h5
  have han:a<n:=by
   have h6:=h5.1
   unfold fR at h6
   simp only [Bool.and_eq_true,decide_eq_true_eq,Int.toNat_natCast] at h6
   unfold has at ha
   rw[Int.toNat_natCast] at ha
   have h7:2^a≤(ix x.aP i).toNat:=Nat.ge_two_pow_of_testBit ha
   have h8:(ix x.aP i).toNat<2^n:=by omega
   have h9:2^a<2^n:=Nat.lt_of_le_of_lt h7 h8
   exact(Nat.pow_lt_pow_iff_right O).1 h9
  refine⟨han,?_⟩
  have hm:(a:Int)∈aL n (ix x.aP i):=List.mem_map.2 ⟨a,List.mem_filter.2 ⟨List.mem_range.2 han,ha⟩,rfl⟩
  have:=List.all_eq_true.1 h5.2 _ hm
  simpa using this
theorem eJ {s:SS} (h:cC s=true):oK s:=by
 unfold cC at h
 simp only [Bool.and_eq_true,decide_eq_true_eq] at h
 obtain⟨⟨⟨h1,h2⟩,h3⟩,h4⟩:=h
 have hn:=iX h1
 exact⟨h1,hn,h2,O,fun k hk=>Kg hn (uW h4 hk)⟩
def iP (x:SA) (t:Int) (h:List Bool):Bool:=(List.range x.next.length).any fun a=>decide (0≤ix x.next a)&&has t (a:Int)&&ix h (ix x.next a).toNat
def Closed (s:SS) (H:Nat→Prop):Prop:=∀x,x<s.sT.length→(∀i,i<(ix s.sT x).aP.length→∃a,a<(ix s.sT x).next.length∧0≤ix (ix s.sT x).next a∧has (ix (ix s.sT x).aP i) (a:Int)=true∧H (ix (ix s.sT x).next a).toNat)→H x
def Hol (s:SS) (x:Nat):Prop:=∀H,Closed s H→H x
theorem vV (s:SS):Closed s (Hol s):=fun x hx h H hH=>hH x hx (fun i hi=>by
 obtain⟨a,h1,h2,h3,h4⟩:=h i hi
 exact⟨a,h1,h2,h3,h4 H hH⟩)
theorem kQ {x:SA} {t:Int} {h:List Bool}:iP x t h=true↔∃a,a<x.next.length∧0≤ix x.next a∧has t (a:Int)=true∧ix h (ix x.next a).toNat=true:=by
 unfold iP
 rw[List.any_eq_true]
 constructor
 ·rintro⟨a,ha,hf⟩
  simp only [Bool.and_eq_true,decide_eq_true_eq] at hf
  exact⟨a,List.mem_range.1 ha,hf.1.1,hf.1.2,hf.2⟩
 ·rintro⟨a,ha,h1,h2,h3⟩
  exact⟨a,List.mem_range.2 ha,by simp[h1,h2,h3]⟩
open Classical in
noncomputable def hOl (s:SS):List Bool:=(List.range s.sT.length).map fun x=>decide (Hol s x)
theorem vW (s:SS):(hOl s).length=s.sT.length:=by simp[hOl]
theorem mC {α:Type} [Inhabited α] {xs:List α} {k:Nat} (hk:k<xs.length) (y:α) (j:Nat):ix (xs.set k y) j=if j=k then y else ix xs j:=by
 unfold ix
 by_cases h:j=k
 ·subst h;simp[hk]
 ·simp[h,List.getD,List.getElem?_set_ne (Ne.symm h)]
theorem count_set {l:List Bool} {k:Nat} (hk:k<l.length) (h:ix l k=false):(l.set k true).count false<l.count false:=by
 rw[aG hk] at h
 have h1:=List.count_set (l:=l) (i:=k) (a:=true) (b:=false) hk
 rw[h1,h]
 have:0<l.count false:=List.count_pos_iff.2 (by rw[←h];exact List.getElem_mem hk)
 simp
 omega
theorem Ec {l:List Int} (h:rising l=true) {i:Nat} (hi:i+1<l.length):ix l i<ix l (i+1):=by
 unfold rising at h
 have:=List.all_eq_true.1 h i (List.mem_range.2 O)
 simpa using this
theorem Ed {l:List Int} (h:rising l=true) (h0:∀i,i<l.length→0≤ix l i):∀i,i<l.length→(i:Int)≤ix l i
 |0,hi=>by simpa using h0 0 hi
 |i+1,hi=>by
  have h1:=Ed h h0 i O
  have h2:=Ec h (i:=i) hi
  omega
theorem okState.acl {x:SA} {N n:Nat} (h:okState x N n):x.aP.length≤256:=by
 rcases Nat.lt_or_ge 256 x.aP.length with hlt|hle
 ·have h1:=Ed h.rise (fun i hi=>(h.ac i hi).1) 256 hlt
  have h2:=(h.ac 256 hlt).2
  omega
 ·exact hle
def aV (l:List Int):Int:=l.foldl (fun u t=>((u.toNat|||t.toNat:Nat):Int)) 0
theorem jP (l:List Int) (t:Int):aV (l++ [t])=(((aV l).toNat|||t.toNat:Nat):Int):=by simp[aV]
theorem oR {a b:Int} (ha:a<256) (hb:b<256):((a.toNat|||b.toNat:Nat):Int)<256:=by
 have:=Nat.or_lt_two_pow (x:=a.toNat) (y:=b.toNat) (n:=8) O O
 omega
noncomputable def keep (s:SS) (x:Nat):List Int:=(ix s.sT x).aP.filter fun t=> !ix (hOl s) x&& !iP (ix s.sT x) t (hOl s)
def cut (x:SA) (u:Int):List Int:=(List.range x.next.length).map fun(a:Nat)=>if has u (a:Int) then ix x.next a else-1
noncomputable def vX (s:SS) (x:Nat):SA:=⟨keep s x,cut (ix s.sT x) (aV (keep s x))⟩
noncomputable def aQ (s:SS):SS:=⟨s.aC,(List.range s.sT.length).map (vX s)⟩
theorem rQ {α:Type} [Inhabited α] {xs:List α} {k:Nat} (h:k<xs.length) (p:α→Bool):(xs.take (k+1)).filter p=(xs.take k).filter p++(if p (ix xs k) then [ix xs k] else []):=by
 rw[bN h,List.filter_append]
 congr 1
 by_cases hp:p (ix xs k)<;>simp[hp]
def visit (l ks:List Int):List Int:=ks.foldl (fun l k=>if decide (0≤k)&& !l.contains k then l++ [k] else l) l
theorem BM (l ks:List Int) (k:Int):visit l (ks++ [k])=if decide (0≤k)&& !(visit l ks).contains k then visit l ks++ [k] else visit l ks:=by simp[visit]
def bq (s:SS):Nat→List Int
 |0=> [0]
 |i+1=>if i<(bq s i).length then visit (bq s i) (ix s.sT (ix (bq s i) i).toNat).next else bq s i
def order (s:SS):List Int:=bq s s.sT.length
theorem Ee {s:SS} {i:Nat} (h:(bq s i).length≤i):∀j,bq s (i+j)=bq s i
 |0=>rfl
 |j+1=>by
  have ih:=Ee h j
  show(if i+j<(bq s (i+j)).length then _ else bq s (i+j))=_
  rw[ih,if_neg O]
def marks (n:Nat) (l:List Int):List Bool:=(List.range n).map fun(x:Nat)=>l.contains (x:Int)
theorem nF (n:Nat) (l:List Int):(marks n l).length=n:=by simp[marks]
theorem Ar {n:Nat} {l:List Int} {x:Nat} (h:x<n):ix (marks n l) x=l.contains (x:Int):=by
 rw[aG (by rw[nF];exact h)]
 simp[marks]
theorem qB {n:Nat} {l:List Int} {k:Int} (h0:0≤k):(marks n l).set k.toNat true=marks n (l++ [k]):=by
 apply List.ext_getElem (by simp[marks])
 intro i h1 h2
 rw[List.getElem_set]
 simp only [marks,List.getElem_map,List.getElem_range,List.contains_eq_mem,List.mem_append,List.mem_singleton]
 split
 ·next e=>subst e;simp;right;omega
 ·next e=>
  have:¬((i:Int)=k):=by omega
  simp[this]
def okQ (n:Nat) (l:List Int):Prop:=(∀i,i<l.length→0≤ix l i∧ix l i<(n:Int))∧(marks n l).count true=l.length∧1≤l.length
theorem okQ.le {n:Nat} {l:List Int} (h:okQ n l):l.length≤n:=by
 rw[←h.2.1]
 exact Nat.le_trans List.count_le_length (by rw[nF];exact Nat.le_refl _)
theorem Sq (l:List Int) (k:Int) (i:Nat):ix (l++ [k]) i=if i<l.length then ix l i else if i=l.length then k else default:=by
 unfold ix
 by_cases h:i<l.length
 ·simp[h,List.getD,List.getElem?_append_left h]
 ·by_cases h2:i=l.length
  ·subst h2;simp[List.getD]
  ·rw[if_neg h,if_neg h2,List.getD_eq_getElem?_getD,List.getElem?_eq_none (by simp;omega)];rfl
theorem FL {n:Nat} {l:List Int} {k:Int} (h:okQ n l) (h0:0≤k) (h1:k<(n:Int)) (hc:l.contains k=false):okQ n (l++ [k]):=by
 refine⟨fun i hi=> ?_,?_,by simp⟩
 ·rw[Sq]
  simp at hi
  split
  ·next h2=>exact h.1 i h2
  ·rw[if_pos O];exact⟨h0,h1⟩
 ·rw[←qB h0]
  have hk:k.toNat<(marks n l).length:=by rw[nF];omega
  have h2:=List.count_set (l:=marks n l) (i:=k.toNat) (a:=true) (b:=true) hk
  have h3:(marks n l)[k.toNat]=false:=by
   have:=Ar (n:=n) (l:=l) (x:=k.toNat) O
   rw[aG hk,Int.toNat_of_nonneg h0,hc] at this
   exact this
  rw[h2,h3]
  simp[h.2.1]
theorem OH {n:Nat} (h:1≤n):okQ n [0]:=by
 refine⟨fun i hi=> ?_,?_,by simp⟩
 ·have:i=0:=by simpa using hi
  subst this
  show 0≤(0:Int)∧(0:Int)<(n:Int)
  omega
 ·have e:marks n []=List.replicate n false:=by
   apply List.ext_getElem (by simp[marks])
   intro i h1 h2
   simp[marks]
  have:=qB (n:=n) (l:= []) (k:=0) O
  rw[←show([]:List Int)++ [0]= [0] from rfl,←this,e]
  have h2:=List.count_set (l:=List.replicate n false) (i:=0) (a:=true) (b:=true) (by simp;omega)
  show((List.replicate n false).set 0 true).count true=1
  rw[h2]
  simp[List.count_replicate]
theorem Kh (n:Nat):(List.replicate n false).set 0 true=marks n [0]:=by
 have e:marks n []=List.replicate n false:=by
  apply List.ext_getElem (by simp[marks])
  intro i h1 h2
  simp[marks]
 have:=qB (n:=n) (l:= []) (k:=0) O
 rw[e] at this
 exact this
namespace ref04
end ref04
end
section
namespace Part
def qZ (rel:Nat→Nat→Bool):Nat→List Int × List Int
 |0=>([],[])
 |k+1=>match(qZ rel k).2.findIdx? (fun y=>rel k y.toNat) with
  |some j=>((qZ rel k).1++ [(j:Int)],(qZ rel k).2)
  |none=>((qZ rel k).1++ [((qZ rel k).2.length:Int)],(qZ rel k).2++ [(k:Int)])
structure Yw (n:Nat) (rel:Nat→Nat→Bool):Prop where
 refl:∀x,x<n→rel x x=true
 symm:∀x y,x<n→y<n→rel x y=true→rel y x=true
 trans:∀x y z,x<n→y<n→z<n→rel x y=true→rel y z=true→rel x z=true
structure Yt (rel:Nat→Nat→Bool) (k:Nat) (nx fs:List Int):Prop where
 len:nx.length=k
 fs0:∀j,j<fs.length→0≤ix fs j∧ix fs j<(k:Int)
 at_:∀j,j<fs.length→ix nx (ix fs j).toNat=(j:Int)
 cls:∀x,x<k→0≤ix nx x∧ix nx x<(fs.length:Int)∧rel x (ix fs (ix nx x).toNat).toNat=true
 dis:∀i j,i<fs.length→j<fs.length→rel (ix fs i).toNat (ix fs j).toNat=true→i=j
end Part
end
section
open ref01 ref03 ref04 Part
def Sr (class_:List Int) (k j:Int):Bool:=(decide (k<0) !=decide (j<0))||(decide (0≤k)&&decide (ix class_ k.toNat≠ix class_ j.toNat))
def LM (class_:List Int) (a b:List Int):Bool:=(List.range a.length).all fun i=> !Sr class_ (ix a i) (ix b i)
def alike (s:SS) (class_:List Int) (x y:Nat):Bool:=decide (ix class_ x=ix class_ y)&&decide ((ix s.sT x).aP=(ix s.sT y).aP)&&LM class_ (ix s.sT x).next (ix s.sT y).next
theorem cG {α:Type} [Inhabited α] {f:Nat→α} {n x:Nat} (h:x<n):ix ((List.range n).map f) x=f x:=by
 rw[aG (by simpa using h)];simp
theorem fW {s:SS} {x:Nat} (h:x<s.sT.length):ix (aQ s).sT x=vX s x:=cG h
theorem gC (s:SS):(aQ s).sT.length=s.sT.length:=by simp[aQ]
theorem Su (x:SA) (u:Int):(cut x u).length=x.next.length:=by simp[cut]
theorem xQ {x:SA} {u:Int} {a:Nat} (h:a<x.next.length):ix (cut x u) a=if has u (a:Int) then ix x.next a else-1:=cG h
theorem lK {s:SS} (h:oK s) {x:Nat} (hx:x<s.sT.length):(ix (aQ s).sT x).next.length=s.aC.length:=by
 rw[fW hx]
 show(cut _ _).length=_
 rw[Su];exact(h.st x hx).len
theorem FM {s:SS} (h:oK s) {x:Nat} (hx:x<s.sT.length) {a:Nat} (ha:a<(ix (aQ s).sT x).next.length):ix (ix (aQ s).sT x).next a<(s.sT.length:Int):=by
 rw[lK h hx] at ha
 rw[fW hx]
 show ix (cut _ _) a<_
 rw[xQ (by rw[(h.st x hx).len];exact ha)]
 split
 ·exact((h.st x hx).nx a ha).2
 ·omega
noncomputable def itR (s:SS):Nat→List Int × Nat
 |0=>(List.replicate s.sT.length 0,0)
 |i+1=>((qZ (alike (aQ s) (itR s i).1) s.sT.length).1,(qZ (alike (aQ s) (itR s i).1) s.sT.length).2.length)
theorem Eg {n:Nat}:∀(ks l:List Int),okQ n l→(∀i,i<ks.length→ix ks i<(n:Int))→okQ n (visit l ks)
 | [],l,h,_=>h
 |k::ks,l,h,hk=>by
  have hk0:k<(n:Int):=hk 0 (by simp)
  have ht:∀i,i<ks.length→ix ks i<(n:Int):=fun i hi=>hk (i+1) (by simpa using hi)
  show okQ n (visit (if decide (0≤k)&& !l.contains k then l++ [k] else l) ks)
  refine Eg ks _ ?_ ht
  split
  ·next hc=>
   simp only [Bool.and_eq_true,decide_eq_true_eq,Bool.not_eq_true'] at hc
   exact FL h hc.1 hk0 hc.2
  ·exact h
theorem FN {s:SS} (h1:1≤s.sT.length) (hn:∀k,k<s.sT.length→∀a,a<(ix s.sT k).next.length→ix (ix s.sT k).next a<(s.sT.length:Int)):∀i,okQ s.sT.length (bq s i)
 |0=>OH h1
 |i+1=>by
  have ih:=FN h1 hn i
  unfold bq
  split
  ·next hi=>
   have:=ih.1 i hi
   exact Eg _ _ ih (fun a ha=>hn _ O a ha)
  ·exact ih
theorem xR {s:SS} (h:oK s):okQ s.sT.length (order (aQ s)):=by
 have:=FN (s:=aQ s) (by rw[gC];exact h.few0) (fun k hk a ha=>by rw[gC] at hk ⊢;exact FM h hk ha) (aQ s).sT.length
 rw[gC] at this
 unfold order
 rw[gC];exact this
namespace ref06
end ref06
end
section
open ref01 ref03 ref04 ref06 Part
theorem BO (l:List ByteArray) (s:ByteArray):(0≤indexOf l s↔s∈l):=by
 unfold indexOf
 cases h:l.findIdx? (fun x=>decide (x=s)) with
 |none=>
  rw[List.findIdx?_eq_none_iff] at h
  simp
  intro hm
  have:=h s hm
  simp at this
 |some i=>
  rw[List.findIdx?_eq_some_iff_getElem] at h
  obtain⟨h1,h2,_⟩:=h
  simp at h2
  simp
  rw[←h2];exact List.getElem_mem h1
theorem Rv {s:ByteArray} (h:¬s=⟨#[]⟩):1≤s.size:=by
 rcases Nat.eq_zero_or_pos s.size with h0|h0
 ·exact absurd (by
   cases s with
   |mk d=>simp[ByteArray.size] at h0;simp[h0]) h
 ·exact h0
theorem xS {l:List ByteArray} {k:Nat} (hk:k<l.length):(indexOf l (ix l k)=(k:Int))↔¬ix l k∈l.take k:=by
 unfold indexOf
 cases h:l.findIdx? (fun x=>decide (x=ix l k)) with
 |none=>
  rw[List.findIdx?_eq_none_iff] at h
  have:=h (ix l k) (by rw[aG hk];exact List.getElem_mem hk)
  simp at this
 |some i=>
  rw[List.findIdx?_eq_some_iff_getElem] at h
  obtain⟨h1,h2,h3⟩:=h
  simp at h2
  constructor
  ·intro e hm
   have e:(i:Int)=(k:Int):=e
   have e:i=k:=by omega
   subst e
   obtain⟨j,hj,he⟩:=List.mem_take_iff_getElem.1 hm
   have:=h3 j O
   simp at this
   exact this he
  ·intro hn
   rcases Nat.lt_trichotomy i k with hlt|e|hgt
   ·exact absurd (List.mem_take_iff_getElem.2 ⟨i,O,h2⟩) hn
   ·simp[e]
   ·have:=h3 k hgt
    rw[aG hk] at this
    simp at this
namespace T
theorem Ki:Tryz.prog.underlying 9=some .string:=by kernel_rfl
theorem LN:Ent Tryz.prog 178:=aR kR
theorem Kj:dI Tryz.prog 9:=eH kR
theorem Va:Ent Tryz.prog 179:=aR kR
theorem Vb:Ent Tryz.prog 145:=aR kR
theorem Vd:Ent Tryz.prog 146:=aR kR
end T
namespace prog
theorem BQ (c:Int):
 Fn0 Tryz.prog 178 [u8 c] (bl (kP c)):=by
 refine fnI Tryz.func178 rfl rfl (fun w0 F0=> ?_)
 refine sq (rg (ag (nl (th (sq (rg (mv (bi J J jG (mv ?_)))))))))
 apply fT (t:=5) (pd:=8) rfl
 rotate_left
 ·intro hg0 fin
  have hg0':=hg0
  try simp at hg0'
  exact gy J J J hg0 (mv (gy J J J hg0 (bi J J tD (pkT J hg0 J (drp (X:= [(7,_),(6,_)]) ⟨J,J,tV⟩ fin)))))
 ·intro hg0 fin
  exact gn J J J hg0 J J (gn J J J hg0 J J (pkF J hg0 J (drp (X:= [(7,_),(6,_)]) ⟨J,J,tV⟩ fin)))
 refine mv ?_
 apply gOr (t:=9) (pd:=16) rfl
 rotate_left
 ·intro hg1 fin
  have hg1':=hg1
  try simp at hg1'
  refine gy rfl rfl rfl hg1 (mv (gy rfl rfl rfl hg1 (bi rfl rfl jG (gy rfl rfl rfl hg1 (mv ?_)))))
  apply fT (t:=12) (pd:=15) rfl
  rotate_left
  ·intro hg2 fin
   have hg2':=hg2
   try simp at hg2'
   exact gy J J J hg2 (mv (gy J J J hg2 (bi J J tD (gy J J J hg1 (pkT J hg2 J (drp (X:= [(14,_),(13,_)]) ⟨J,J,tV⟩ fin))))))
  ·intro hg2 fin
   exact gn J J J hg2 J J (gn J J J hg2 J J (gy J J J hg1 (pkF J hg2 J (drp (X:= [(14,_),(13,_)]) ⟨J,J,tV⟩ fin))))
  exact pkF rfl hg1 rfl (drp (X:= [(15,_),(12,_),(11,_),(10,_)]) ⟨rfl,rfl,rfl,rfl,tV⟩ fin)
 ·intro hg1 fin
  exact gn J J J hg1 J J (gn J J J hg1 J J (gn J J J hg1 J J (gu J J J J J (gu J J J J J (gn J J J hg1 J J (pkT J hg1 J (drp (X:= [(15,_),(14,_),(13,_),(12,_),(11,_),(10,_)]) ⟨J,J,J,J,J,J,tV⟩ fin)))))))
 refine ag (nl (th (rt ?_)))
 have hr0:(((decide (97≤c))&&(decide (c≤122)))||((decide (65≤c))&&(decide (c≤90))))=(kP c):=by
  first|rfl|simp_all|omega
 exact rE () [.tmp 2] J [bl (((decide (97≤c))&&(decide (c≤122)))||((decide (65≤c))&&(decide (c≤90))))] ⟨.tmp J,tV⟩ (cA1 (fun x0=>rV [bl x0]) hr0) trivial eX
theorem OI (s:ByteArray):
 Fn0 Tryz.prog 145 [str s] (bl (jB s)):=by
 refine fnI Tryz.func145 rfl rfl (fun w0 F0=> ?_)
 refine sq (rg (ag (nl (th (sq (sq (rg (mv (bi J J Lv (mv ?_))))))))))
 apply gOr (t:=7) (pd:=11) rfl
 rotate_left
 ·intro hg0 fin
  have hg0':=hg0
  try simp at hg0'
  exact gy J J J hg0 (mv (gy J J J hg0 (lnS J T.Ki (gy J J J hg0 (bi J J jA (pkF J hg0 J (drp (X:= [(10,_),(9,_),(8,_)]) ⟨J,J,J,tV⟩ fin)))))))
 ·intro hg0 fin
  exact gn J J J hg0 J J (gn J J J hg0 J J (gn J J J hg0 J J (pkT J hg0 J (drp (X:= [(10,_),(9,_),(8,_)]) ⟨J,J,J,tV⟩ fin))))
 refine mv ?_
 apply gOr (t:=12) (pd:=17) rfl
 rotate_left
 ·intro hg1 fin
  have hg1':=hg1
  try simp at hg1'
  have hs1:1≤s.size:=Rv (fun e=>by rw[decide_eq_true e] at hg1;cases hg1)
  exact gy J J J hg1 (mv (gy J J J hg1 (UW J J T.Ki O O (gy J J J hg1 (bI (φs:= [u8 (iE s 0)]) (φ:=bl (kP (iE s 0))) ⟨J,tV⟩ (prog.BQ _) T.LN (gy J J J hg1 (no J (pkF J hg1 J (drp (X:= [(16,_),(15,_),(14,_),(13,_)]) ⟨J,J,J,J,tV⟩ fin)))))))))
 ·intro hg1 fin
  exact gn J J J hg1 J J (gn J J J hg1 J J (gn J J J hg1 J J (gn J J J hg1 J J (pkT J hg1 J (drp (X:= [(16,_),(15,_),(14,_),(13,_)]) ⟨J,J,J,J,tV⟩ fin)))))
 refine nl (th ?_)
 refine cd J (fun hc0=> ?_) (fun hc0=> ?_)
 ·try simp at hc0
  refine sq (rg (ag (nl (th (rt (rt_ ?_))))))
  have hr0:false=(jB s):=by
   unfold jB
   by_cases h0:1≤s.size
   ·by_cases h2:s.size≤20
    ·by_cases h1:kP (iE s 0)=true
     ·exfalso
      rcases hc0 with(h|h)|h
      ·subst h;simp[ByteArray.size] at h0
      ·omega
      ·rw[h1] at h;cases h
     ·simp[h1]
    ·simp[h2]
   ·simp[h0]
  exact rE () [.tmp 2] J [bl false] ⟨.tmp J,tV⟩ (cA1 (fun x0=>rV [bl x0]) hr0) trivial eX
 ·try simp at hc0
  have hs1:1≤s.size:=Rv (by simpa using hc0.1.1)
  refine sk (th (sq (sq (rg (mv (lnS J T.Ki (mv (nl (th (bk ?_))))))))))
  have hI0_0:0≤s.size:=by
   first|omega|simp
  have hI0_1:(List.range 0).all (fun i=>mS (iE s i))=true:=by
   simp
  refine lp (κ:=Nat) (fun p=> [(0,str s),(19,int (s.size:Int)),(20,int (p:Int))]) (fun p=> []) (fun p=>(p≤s.size)∧((List.range p).all (fun i=>mS (iE s i))=true)) (fun p=>s.size- p) 0 ⟨hI0_0,hI0_1⟩ ⟨id,id,id,tV⟩ trivial ?_
  intro k hG0
  obtain⟨hk0,hI0⟩:(k≤s.size)∧((List.range k).all (fun i=>mS (iE s i))=true):=hG0
  refine sq (rg (bi J J aZ (nl (th (sq ?_)))))
  refine cd J (fun hc1=> ?_) (fun hc1=> ?_)
  ·try simp at hc1
   refine sk (th (sq (bk (sq (rg (mv (ag (nl (th (sq (rg (mv (mv (UW J J T.Ki O O (ag (nl (th (sq (rg (mv (bI (φs:= [u8 (iE s k)]) (φ:=bl (kP (iE s k))) ⟨J,tV⟩ (prog.BQ _) T.LN (no J (mv ?_)))))))))))))))))))))))
   apply fT (t:=29) (pd:=36) rfl
   rotate_left
   ·intro hg2 fin
    have hg2':=hg2
    try simp at hg2'
    refine gy rfl rfl rfl hg2 (mv (gy rfl rfl rfl hg2 (bi rfl rfl aZ (gy rfl rfl rfl hg2 (mv ?_)))))
    apply gOr (t:=32) (pd:=35) rfl
    rotate_left
    ·intro hg3 fin
     have hg3':=hg3
     try simp at hg3'
     exact gy J J J hg3 (mv (gy J J J hg3 (bi J J jA (gy J J J hg2 (pkF J hg3 J (drp (X:= [(34,_),(33,_)]) ⟨J,J,tV⟩ fin))))))
    ·intro hg3 fin
     exact gn J J J hg3 J J (gn J J J hg3 J J (gy J J J hg2 (pkT J hg3 J (drp (X:= [(34,_),(33,_)]) ⟨J,J,tV⟩ fin))))
    exact pkT rfl hg2 rfl (drp (X:= [(35,_),(32,_),(31,_),(30,_)]) ⟨rfl,rfl,rfl,rfl,tV⟩ fin)
   ·intro hg2 fin
    exact gn J J J hg2 J J (gn J J J hg2 J J (gn J J J hg2 J J (gu J J J J J (gu J J J J J (gn J J J hg2 J J (pkF J hg2 J (drp (X:= [(35,_),(34,_),(33,_),(32,_),(31,_),(30,_)]) ⟨J,J,J,J,J,J,tV⟩ fin)))))))
   refine mv ?_
   apply fT (t:=37) (pd:=40) rfl
   rotate_left
   ·intro hg4 fin
    have hg4':=hg4
    try simp at hg4'
    exact gy J J J hg4 (mv (gy J J J hg4 (bi J J fV (pkT J hg4 J (drp (X:= [(39,_),(38,_)]) ⟨J,J,tV⟩ fin)))))
   ·intro hg4 fin
    exact gn J J J hg4 J J (gn J J J hg4 J J (pkF J hg4 J (drp (X:= [(39,_),(38,_)]) ⟨J,J,tV⟩ fin)))
   refine mv ?_
   apply fT (t:=41) (pd:=44) rfl
   rotate_left
   ·intro hg5 fin
    have hg5':=hg5
    try simp at hg5'
    exact gy J J J hg5 (mv (gy J J J hg5 (bi J J fV (pkT J hg5 J (drp (X:= [(43,_),(42,_)]) ⟨J,J,tV⟩ fin)))))
   ·intro hg5 fin
    exact gn J J J hg5 J J (gn J J J hg5 J J (pkF J hg5 J (drp (X:= [(43,_),(42,_)]) ⟨J,J,tV⟩ fin)))
   refine nl (th ?_)
   refine cd J (fun hc2=> ?_) (fun hc2=> ?_)
   ·try simp at hc2
    refine sq (rg (ag (nl (th (rt (rb (rt_ (rt_ (rb (rt_ ?_))))))))))
    have hr0:false=(jB s):=by
     unfold jB
     rw[qQ (i:=k) O ?_]
     ·simp
     ·simp[mS,hc2.1.1.1]
      omega
    exact rE () [.tmp 2] J [bl false] ⟨.tmp J,tV⟩ (cA1 (fun x0=>rV [bl x0]) hr0) trivial eX
   ·try simp at hc2
    refine sk (eb (th (rg (bi J J (aM i6) (mv (nl ?_))))))
    have hN0:(k+1)≤s.size:=by
     first|omega|simp_all
    have hN1:(List.range (k+1)).all (fun i=>mS (iE s i))=true:=by
     rw[uV,hI0]
     simp[mS]
     by_cases h1:kP (iE s k)=true
     ·simp[h1]
     ·simp[h1] at hc2
      simp[h1]
      omega
    exact ln (k+1) ⟨hN0,hN1⟩ dO ⟨id,id,id,tV⟩ trivial
  ·try simp at hc1
   refine ex (xt_ (xt_ (xb (th (sq (rg (ag (nl (th (rt ?_))))))))))
   have hr0:true=(jB s):=by
    unfold jB
    rw[show s.size=k by omega,hI0]
    simp[hc0.2]
    omega
   exact rE () [.tmp 2] J [bl true] ⟨.tmp J,tV⟩ (cA1 (fun x0=>rV [bl x0]) hr0) trivial eX
theorem LO (l:List ByteArray) (s:ByteArray):
 Fn0 Tryz.prog 179 [strs l,str s] (int (indexOf l s)):=by
 refine fnI Tryz.func179 rfl rfl (fun w0 F0=> ?_)
 refine fcC (bL 0 J) (fun hm0=> ?_)
 refine sq (rg (ag (nl (th (sq (sq (rg (mv (lnF J T.iL (mv (nl (th (bk ?_)))))))))))))
 have hI0_0:0≤l.length:=by
  first|omega|simp
 have hI0_1:∀x∈l.take 0,x≠s:=by
  simp
 refine lp (κ:=Nat) (fun p=> [(0,sl 1 rE_ l),(1,str s),(7,int (l.length:Int)),(8,int (p:Int))]) (fun p=> []) (fun p=>(p≤l.length)∧(∀x∈l.take p,x≠s)) (fun p=>l.length- p) 0 ⟨hI0_0,hI0_1⟩ ⟨id,id,id,id,tV⟩ trivial ?_
 intro k hG0
 obtain⟨hk0,hI0⟩:(k≤l.length)∧(∀x∈l.take k,x≠s):=hG0
 refine sq (rg (bi J J aZ (nl (th (sq ?_)))))
 refine cd J (fun hc0=> ?_) (fun hc0=> ?_)
 ·try simp at hc0
  refine sk (th (sq (bk (sq (rg (mv (ag (nl (th (sq (rg (mv (mv (mv (iF J J T.iL O gB (lF J J T.Kj (bi J J Lv (nl (th ?_)))))))))))))))))))
  refine cd J (fun hc1=> ?_) (fun hc1=> ?_)
  ·try simp at hc1
   refine sq (rg (mv (ag (nl (th (rt (rb (rt_ (rt_ (rb (rt_ ?_)))))))))))
   have hr0:((k:Int):Int)=(indexOf l s):=by
    unfold indexOf
    have:l.findIdx? (fun x=>decide (x=s))=some k:=by
     rw[List.findIdx?_eq_some_iff_getElem]
     refine⟨O,by simpa [aG (show k<l.length by omega)] using hc1.symm,fun j hj=> ?_⟩
     have:=hI0 l[j] (List.mem_take_iff_getElem.2 ⟨j,O,rfl⟩)
     simpa using this
    rw[this]
   exact rE () [.tmp 4] J [int (k:Int)] ⟨.tmp J,tV⟩ (cA1 (fun x0=>rV [int x0]) hr0) trivial eX
  ·try simp at hc1
   refine sk (eb (th (rg (bi J J (aM i6) (mv (nl ?_))))))
   have hN0:(k+1)≤l.length:=by
    first|omega|simp_all
   have hN1:∀x∈l.take (k+1),x≠s:=by
    rw[bN O]
    intro x hx
    rcases List.mem_append.1 hx with hx|hx
    ·exact hI0 x hx
    ·simp at hx;subst hx;exact fun e=>hc1 e.symm
   exact ln (k+1) ⟨hN0,hN1⟩ dO ⟨id,id,id,id,tV⟩ trivial
 ·try simp at hc0
  refine ex (xt_ (xt_ (xb (th (sq (rg (ag (nl (th (rt ?_))))))))))
  have hr0:((-1):Int)=(indexOf l s):=by
   unfold indexOf
   have:l.findIdx? (fun x=>decide (x=s))=none:=by
    rw[List.findIdx?_eq_none_iff]
    intro x hx
    have hk2:k=l.length:=by omega
    rw[hk2,List.take_length] at hI0
    simp[hI0 x hx]
   rw[this]
  exact rE () [.tmp 4] J [int (-1)] ⟨.tmp J,tV⟩ (cA1 (fun x0=>rV [int x0]) hr0) trivial eX
theorem FO (l:List ByteArray) (s:ByteArray):
 Fn0 Tryz.prog 146 [strs l,str s] (bl (decide (0≤indexOf l s))):=by
 refine fnI Tryz.func146 rfl rfl (fun w0 F0=> ?_)
 refine fcC (bL 0 J) (fun hm0=> ?_)
 refine sq (rg (ag (nl (th (sq (rg (mv (mv (bI (φs:= [sl 1 rE_ l,str s]) (φ:=int (indexOf l s)) ⟨J,J,tV⟩ (prog.LO _ _) T.Va (bi J J jG (ag (nl (th (rt ?_))))))))))))))
 have hr0:(decide (0≤(indexOf l s)))=(decide (0≤indexOf l s)):=by
  first|rfl|simp_all|omega
 exact rE () [.tmp 4] J [bl (decide (0≤(indexOf l s)))] ⟨.tmp J,tV⟩ (cA1 (fun x0=>rV [bl x0]) hr0) trivial eX
theorem Eh (l:List ByteArray):
 Fn0 Tryz.prog 113 [strs l] (bl (cZ l)):=by
 refine fnI Tryz.func113 rfl rfl (fun w0 F0=> ?_)
 refine fcC (bL 0 J) (fun hm0=> ?_)
 refine sq (rg (ag (nl (th (sq (sq (rg (mv (lnF J T.iL (bi J J jA (nl (th ?_))))))))))))
 refine cd J (fun hc0=> ?_) (fun hc0=> ?_)
 ·try simp at hc0
  refine sq (rg (ag (nl (th (rt (rt_ ?_))))))
  have hr0:false=(cZ l):=by
   unfold cZ
   rw[decide_eq_false O];rfl
  exact rE () [.tmp 2] J [bl false] ⟨.tmp J,tV⟩ (cA1 (fun x0=>rV [bl x0]) hr0) trivial eX
 ·try simp at hc0
  refine sk (th (sq (sq (rg (mv (lnF J T.iL (mv (nl (th (bk ?_))))))))))
  have hI0_0:0≤l.length:=by
   first|omega|simp
  have hI0_1:(List.range 0).all (fun i=>jB (ix l i)&&decide (indexOf l (ix l i)=(i:Int)))=true:=by
   simp
  refine lp (κ:=Nat) (fun p=> [(0,sl 1 rE_ l),(8,sl 1 rE_ l),(9,int (l.length:Int)),(10,int (p:Int))]) (fun p=> []) (fun p=>(p≤l.length)∧((List.range p).all (fun i=>jB (ix l i)&&decide (indexOf l (ix l i)=(i:Int)))=true)) (fun p=>l.length- p) 0 ⟨hI0_0,hI0_1⟩ ⟨id,id,id,id,tV⟩ trivial ?_
  intro k hG0
  obtain⟨hk0,hI0⟩:(k≤l.length)∧((List.range k).all (fun i=>jB (ix l i)&&decide (indexOf l (ix l i)=(i:Int)))=true):=hG0
  refine sq (rg (bi J J aZ (nl (th (sq ?_)))))
  refine cd J (fun hc1=> ?_) (fun hc1=> ?_)
  ·try simp at hc1
   refine sk (th (sq (bk (sq (rg (mv (iF J J T.iL O gB (lF J J T.Kj (ag (ag (nl (th (sq (rg (mv (bI (φs:= [str (ix l k)]) (φ:=bl (jB (ix l k))) ⟨J,tV⟩ (prog.OI _) T.Vb (no J (mv ?_))))))))))))))))))
   apply gOr (t:=18) (pd:=24) rfl
   rotate_left
   ·intro hg0 fin
    have hg0':=hg0
    try simp at hg0'
    exact gy J J J hg0 (mv (gy J J J hg0 (mv (gy J J J hg0 (UX (l:=0) (m:=k) J T.iL J J O O (gy J J J hg0 (mv (gy J J J hg0 (bI (φs:= [sl 1 rE_ (l.take k),str (ix l k)]) (φ:=bl (decide (0≤indexOf (l.take k) (ix l k)))) ⟨J,J,tV⟩ (prog.FO _ _) T.Vd (pkF J hg0 J (drp (X:= [(23,_),(22,_),(21,_),(20,_),(19,_)]) ⟨J,J,J,J,J,tV⟩ fin)))))))))))
   ·intro hg0 fin
    exact gn J J J hg0 J J (gn J J J hg0 J J (gn J J J hg0 J J (gn J J J hg0 J J (gn J J J hg0 J J (pkT J hg0 J (drp (X:= [(23,_),(22,_),(21,_),(20,_),(19,_)]) ⟨J,J,J,J,J,tV⟩ fin))))))
   refine nl (th ?_)
   refine cd J (fun hc2=> ?_) (fun hc2=> ?_)
   ·try simp at hc2
    refine sq (rg (ag (nl (th (rt (rb (rt_ (rt_ (rb (rt_ ?_))))))))))
    have hr0:false=(cZ l):=by
     unfold cZ
     rw[qQ (i:=k) O ?_]
     ·simp
     ·by_cases h:jB (ix l k)=true
      ·have h2:=(BO (l.take k) (ix l k)).1 (by simpa [h] using hc2)
       have h3:¬indexOf l (ix l k)=(k:Int):=fun e=>(xS O).1 e h2
       simp[h3]
      ·simp[h]
    exact rE () [.tmp 2] J [bl false] ⟨.tmp J,tV⟩ (cA1 (fun x0=>rV [bl x0]) hr0) trivial eX
   ·try simp at hc2
    refine sk (eb (th (rg (bi J J (aM i6) (mv (nl ?_))))))
    have hN0:(k+1)≤l.length:=by
     first|omega|simp_all
    have hN1:(List.range (k+1)).all (fun i=>jB (ix l i)&&decide (indexOf l (ix l i)=(i:Int)))=true:=by
     rw[uV,hI0]
     have h1:indexOf l (ix l k)=(k:Int):=(xS O).2 (fun hm=>by
      have h2:=(BO (l.take k) (ix l k)).2 hm
      have:=hc2.2;omega)
     simp[hc2.1,h1]
    exact ln (k+1) ⟨hN0,hN1⟩ dO ⟨id,id,id,id,tV⟩ trivial
  ·try simp at hc1
   refine ex (xt_ (xt_ (xb (th (sq (rg (ag (nl (th (rt ?_))))))))))
   have hr0:true=(cZ l):=by
    unfold cZ
    rw[show l.length=k by omega,hI0,decide_eq_true O];rfl
   exact rE () [.tmp 2] J [bl true] ⟨.tmp J,tV⟩ (cA1 (fun x0=>rV [bl x0]) hr0) trivial eX
theorem fI (l:List ByteArray) (hl:l.length≤1000000):
 AL.Fn Tryz.prog 92 [strs l] [] (ι:=Unit) (fun N _=>fre N (strs l)) (fun _=> []):=by
 refine fnI Tryz.func92 rfl rfl (fun w0 F0=> ?_)
 refine fcC (bL 0 J) (fun hm0=> ?_)
 refine sq (rg (ag (nl (th (sq (sq (rg (mv (XX J T.iL.und fun nb4 hnb4=>(nl (th ?_)))))))))))
 refine cd J (fun hc0=> ?_) (fun hc0=> ?_)
 ·try simp at hc0
  refine sq (rg (ag (nl (th (rt (rt_ ?_))))))
  refine knA 2 (fre w0.heap.size (sl 1 rE_ [])) rfl mA ?_
  have hr0: []=l:=by
   rw[hnb4 hc0]
  exact rE () [.tmp 2] J [fre w0.heap.size (sl 1 rE_ [])] ⟨.tmp J,tV⟩ (cA1 (fun x0=>rV [fre w0.heap.size (sl 1 rE_ x0)]) hr0) trivial eX
 ·try simp at hc0
  refine sk (th (sq (rg (bs0 5 rE_ T.Db fun v5=>(mv (ap (key:=5) (zs:=l) cB J J J T.Db (by unfold aN at*;simp;omega) (by unfold aN at*;simp;omega) fun v7=>(ag (nl (th (rt ?_))))))))))
  refine Ya rE_ 5 2 noM flat rfl rfl ?_
  have hr0:([]++l)=l:=by
   first|rfl|simp_all|omega
  exact rE () [.tmp 2] J [fre w0.heap.size (sl 1 rE_ ([]++l))] ⟨.tmp J,tV⟩ (cA1 (fun x0=>rV [fre w0.heap.size (sl 1 rE_ x0)]) hr0) trivial eX
theorem iY (xs ys:List ByteArray):
 Fn0 Tryz.prog 68 [strs xs,strs ys] (bl (decide (xs=ys))):=by
 refine fnI Tryz.func68 rfl rfl (fun w0 F0=> ?_)
 refine fcC (bL 0 J) (fun hm0=> ?_)
 refine fcC (bL 1 J) (fun hm1=> ?_)
 refine sq (rg (ag (nl (th (sq (sq (rg (mv (lnF J T.iL (mv (lnF J T.iL (bi J J fV (nl (th ?_))))))))))))))
 refine cd J (fun hc0=> ?_) (fun hc0=> ?_)
 ·try simp at hc0
  refine sq (rg (ag (nl (th (rt (rt_ ?_))))))
  have hr0:false=(decide (xs=ys)):=by
   rw[decide_eq_false];intro h;subst h;simp at hc0
  exact rE () [.tmp 4] J [bl false] ⟨.tmp J,tV⟩ (cA1 (fun x0=>rV [bl x0]) hr0) trivial eX
 ·try simp at hc0
  refine sk (th (sq (sq (rg (mv (lnF J T.iL (mv (nl (th (bk ?_))))))))))
  have hI0_0:0≤xs.length:=by
   first|omega|simp
  have hI0_1:xs.take 0=ys.take 0:=by
   simp
  refine lp (κ:=Nat) (fun p=> [(0,sl 1 rE_ xs),(1,sl 1 rE_ ys),(12,int (xs.length:Int)),(13,int (p:Int))]) (fun p=> []) (fun p=>(p≤xs.length)∧(xs.take p=ys.take p)) (fun p=>xs.length- p) 0 ⟨hI0_0,hI0_1⟩ ⟨id,id,id,id,tV⟩ trivial ?_
  intro k hG0
  obtain⟨hk0,hI0⟩:(k≤xs.length)∧(xs.take k=ys.take k):=hG0
  refine sq (rg (bi J J aZ (nl (th (sq ?_)))))
  refine cd J (fun hc1=> ?_) (fun hc1=> ?_)
  ·try simp at hc1
   refine sk (th (sq (bk (sq (rg (mv (ag (nl (th (sq (dr (nh:=9) [0,0,3,7,0,0,48,112,255] T.mixed kR ?_)))))))))))
   refine st_ J (fun _ _ _ gq kq=>mv' (gq.1.trans J) kq) ?_
   refine st_ J (fun _ _ _ gq kq=>mv' (gq.1.trans J) kq) ?_
   refine st_ J (fun _ _ _ gq kq=>iF (gq.1.trans J) (gq.2.1.trans J) T.iL O gB kq) ?_
   refine st_ J (fun _ _ _ gq kq=>lF (gq.1.trans J) J T.Kj kq) ?_
   refine st_ J (fun _ _ _ gq kq=>mv' (gq.1.trans J) kq) ?_
   refine st_ J (fun _ _ _ gq kq=>mv' (gq.1.trans J) kq) ?_
   refine st_ J (fun _ _ _ gq kq=>iF (gq.1.trans J) (gq.2.1.trans J) T.iL O gB kq) ?_
   refine st_ J (fun _ _ _ gq kq=>lF (gq.1.trans J) J T.Kj kq) ?_
   refine st_ J (fun _ _ _ gq kq=>bi (gq.1.trans J) (gq.2.1.trans J) UO kq) ?_
   refine pn (nl (th ?_))
   refine cd J (fun hc2=> ?_) (fun hc2=> ?_)
   ·try simp at hc2
    refine sq (rg (ag (nl (th (rt (rb (rt_ (rt_ (rb (rt_ ?_))))))))))
    have hr0:false=(decide (xs=ys)):=by
     rw[decide_eq_false];intro h;subst h;simp at hc2
    exact rE () [.tmp 4] J [bl false] ⟨.tmp J,tV⟩ (cA1 (fun x0=>rV [bl x0]) hr0) trivial eX
   ·try simp at hc2
    refine sk (eb (th (rg (bi J J (aM i6) (mv (nl ?_))))))
    have hN0:(k+1)≤xs.length:=by
     first|omega|simp_all
    have hN1:xs.take (k+1)=ys.take (k+1):=by
     rw[bN O,bN O,hI0];try simp at hc2
     rw[hc2]
    exact ln (k+1) ⟨hN0,hN1⟩ dO ⟨id,id,id,id,tV⟩ trivial
  ·try simp at hc1
   refine ex (xt_ (xt_ (xb (th (sq (rg (ag (nl (th (rt ?_))))))))))
   have hr0:true=(decide (xs=ys)):=by
    rw[decide_eq_true]
    rw[show k=xs.length by omega,List.take_length] at hI0
    rw[hI0,show xs.length=ys.length by omega,List.take_length]
   exact rE () [.tmp 4] J [bl true] ⟨.tmp J,tV⟩ (cA1 (fun x0=>rV [bl x0]) hr0) trivial eX
end prog
end
section
open ref01 ref03 ref04 ref06 prog Part
def dH (s:SS):Prop:=∀k,k<s.sT.length→∀i,i<(ix s.sT k).aP.length→ix (ix s.sT k).aP i<2^63
def mK (u:Int) (nx:List Int) (k:Nat):Prop:=∀a:Nat,u.toNat.testBit a=true↔a<k∧0≤ix nx a
theorem LQ {u:Int} {nx:List Int} {k:Nat} (h:mK u nx k) (h0:0≤ix nx k):mK ((u.toNat|||2^k:Nat):Int) nx (k+1):=fun a=>by
 rw[Int.toNat_natCast,Nat.testBit_or,Nat.testBit_two_pow,Bool.or_eq_true,h a,decide_eq_true_eq]
 constructor
 ·rintro(h1|rfl)
  ·exact⟨O,h1.2⟩
  ·exact⟨O,h0⟩
 ·intro h1
  by_cases e:k=a
  ·exact .inr e
  ·exact .inl ⟨O,h1.2⟩
theorem OJ {u:Int} {nx:List Int} {k:Nat} (h:mK u nx k) (h0:ix nx k<0):mK u nx (k+1):=fun a=>by
 rw[h a]
 constructor
 ·exact fun h1=>⟨O,h1.2⟩
 ·intro h1
  refine⟨?_,h1.2⟩
  by_cases e:k=a
  ·subst e;omega
  ·omega
theorem FP {m n:Nat}:m^^^ (m&&&n)=0↔∀a,m.testBit a=true→n.testBit a=true:=by
 constructor
 ·intro h a ha
  have:=congrArg (fun z=>z.testBit a) h
  simp only [Nat.testBit_xor,Nat.testBit_and,ha,Nat.zero_testBit,Bool.true_and] at this
  cases hn:n.testBit a
  ·rw[hn] at this;cases this
  ·rfl
 ·intro h
  apply Nat.eq_of_testBit_eq
  intro a
  simp only [Nat.testBit_xor,Nat.testBit_and,Nat.zero_testBit]
  cases hm:m.testBit a
  ·rfl
  ·rw[h a hm];rfl
theorem Ek {x:SA} {n:Nat} {u t:Int} (hn:n≤8) (hl:x.next.length=n) (hc:mK u x.next n) (h0:0≤t):jH x n t=true↔t.toNat^^^ (t.toNat&&&u.toNat)=0:=by
 rw[FP]
 constructor
 ·intro h a ha
  unfold jH at h
  simp only [Bool.and_eq_true] at h
  have hb:=h.1
  unfold fR at hb
  simp only [Bool.and_eq_true,decide_eq_true_eq,Int.toNat_natCast] at hb
  have han:a<n:=by
   have h7:2^a≤t.toNat:=Nat.ge_two_pow_of_testBit ha
   have h9:2^a<2^n:=by omega
   exact(Nat.pow_lt_pow_iff_right O).1 h9
  have hm:(a:Int)∈aL n t:=List.mem_map.2 ⟨a,List.mem_filter.2 ⟨List.mem_range.2 han,by unfold has;rw[Int.toNat_natCast];exact ha⟩,rfl⟩
  have:=List.all_eq_true.1 h.2 _ hm
  exact(hc a).2 ⟨han,by simpa using this⟩
 ·intro h
  have hlt:t.toNat<2^n:=Nat.lt_pow_two_of_testBit _ (fun i hi=>by
   cases hti:t.toNat.testBit i
   ·rfl
   ·have:=((hc i).1 (h i hti)).1;omega)
  unfold jH fR
  simp only [Bool.and_eq_true,decide_eq_true_eq,Int.toNat_natCast]
  refine⟨⟨h0,O⟩,List.all_eq_true.2 (fun z hz=> ?_)⟩
  obtain⟨a,ha,rfl⟩:=List.mem_map.1 hz
  have h1:=(List.mem_filter.1 ha).2
  unfold has at h1
  rw[Int.toNat_natCast] at h1
  have:=((hc a).1 (h a h1)).2
  simpa using this
theorem LR {x:SA} {n:Nat} {t:Int} (h0:t<0):jH x n t=false:=by
 unfold jH fR
 rw[decide_eq_false O];rfl
theorem LU {l:List Int} (h:∀j,j+1<l.length→ix l j<ix l (j+1)):rising l=true:=by
 unfold rising
 exact List.all_eq_true.2 (fun i hi=>by have:=List.mem_range.1 hi;simpa using h i O)
theorem Kk {l:List Int} {j:Nat} (h:j+1<l.length) (hh:ix l (j+1)≤ix l j):rising l=false:=by
 unfold rising
 exact qQ (i:=j) O (by simp;omega)
theorem LV {l:List Int} {p:Int→Bool} (h:∀j,j<l.length→p (ix l j)=true):l.all p=true:=List.all_eq_true.2 (fun x hx=>by
 obtain⟨j,hj,rfl⟩:=List.getElem_of_mem hx
 rw[←aG hj];exact h j hj)
namespace T
theorem LW:Ent Tryz.prog 113:=aR kR
end T
namespace prog2
theorem iB (s:SS) (hsm:dH s):
 Fn0 Tryz.prog 67 [spec s] (bl (cC s)):=by
 refine fnI Tryz.func67 rfl rfl (fun w0 F0=> ?_)
 refine fcC (bW 0 J) (fun hS0=> ?_)
 obtain⟨hsa0,hss0,hse0⟩:=sLn hS0
 refine sq (rg (bx (key:=1) (cs:= [sl 1 rE_ s.aC,sl 2 sE s.sT]) J fun b1=>(ag (nl (th (sq (rg (fP J T.bO (lP J J J T.cM (fc (bL 12 J) fun hm12=>(lnF J T.dB (ag (nl (th (sq (sq (rg (fP J T.eD (lP J J J T.dE (bI (φs:= [sl 1 rE_ s.aC]) (φ:=bl (cZ s.aC)) ⟨J,tV⟩ (prog.Eh _) T.LW (no J (mv ?_))))))))))))))))))))))
 apply gOr (t:=18) (pd:=21) rfl
 rotate_left
 ·intro hg0 fin
  have hg0':=hg0
  try simp at hg0'
  exact gy J J J hg0 (mv (gy J J J hg0 (bi J J aZ (pkF J hg0 J (drp (X:= [(20,_),(19,_)]) ⟨J,J,tV⟩ fin)))))
 ·intro hg0 fin
  exact gn J J J hg0 J J (gn J J J hg0 J J (pkT J hg0 J (drp (X:= [(20,_),(19,_)]) ⟨J,J,tV⟩ fin)))
 refine mv ?_
 apply gOr (t:=22) (pd:=25) rfl
 rotate_left
 ·intro hg1 fin
  have hg1':=hg1
  try simp at hg1'
  exact gy J J J hg1 (mv (gy J J J hg1 (bi J J jA (pkF J hg1 J (drp (X:= [(24,_),(23,_)]) ⟨J,J,tV⟩ fin)))))
 ·intro hg1 fin
  exact gn J J J hg1 J J (gn J J J hg1 J J (pkT J hg1 J (drp (X:= [(24,_),(23,_)]) ⟨J,J,tV⟩ fin)))
 refine nl (th ?_)
 refine cd J (fun hc0=> ?_) (fun hc0=> ?_)
 ·try simp at hc0
  refine sq (rg (ag (nl (th (rt (rt_ ?_))))))
  have hr0:false=(cC s):=by
   unfold cC
   by_cases h:cZ s.aC=true
   ·simp[h] at hc0 ⊢
    omega
   ·simp[h]
  exact rE () [.tmp 2] J [bl false] ⟨.tmp J,tV⟩ (cA1 (fun x0=>rV [bl x0]) hr0) trivial eX
 ·try simp at hc0
  have hact:=iX (l:=s.aC) (by simp_all)
  refine sk (th (sq (sq (rg (fP J T.bO (lP J J J T.cM (lnF J T.dB (mv (nl (th (bk ?_)))))))))))
  have hI0_0:0≤s.sT.length:=by
   first|omega|simp
  have hI0_1:(s.sT.take 0).all (fun x=>iK x (s.sT.length:Int) s.aC.length)=true:=by
   simp
  refine lp (κ:=Nat) (fun p=> [(1,ptr 1 b1 0),(3,int (s.sT.length:Int)),(27,sl 2 sE s.sT),(28,int (s.sT.length:Int)),(29,int (p:Int))]) (fun p=> [(1,cell b1 [sl 1 rE_ s.aC,sl 2 sE s.sT])]) (fun p=>(p≤s.sT.length)∧((s.sT.take p).all (fun x=>iK x (s.sT.length:Int) s.aC.length)=true)) (fun p=>s.sT.length- p) 0 ⟨hI0_0,hI0_1⟩ ⟨id,id,id,id,id,tV⟩ ⟨rI,tV⟩ ?_
  intro k hG0
  obtain⟨hk0,hI0⟩:(k≤s.sT.length)∧((s.sT.take k).all (fun x=>iK x (s.sT.length:Int) s.aC.length)=true):=hG0
  refine sq (rg (bi J J aZ (nl (th (sq ?_)))))
  refine cd J (fun hc1=> ?_) (fun hc1=> ?_)
  ·try simp at hc1
   refine sk (th (sq (bk (sq (rg (iF J J T.dB O gB (lFA J T.eO (Nat.le_of_ble_eq_true J) (al (key:=5) T.z79 (eC (eC eZ)) fun b5=>(sPA (cs':= [sl 1 nE (ix s.sT k).aP,sl 1 nE (ix s.sT k).next]) J J J T.eO J J (nl (th (sq (sq (rg (fP J T.eM (lP J J J T.bF (fc (bL 34 J) fun hm34=>(lnF J T.aT (fP J T.eD (lP J J J T.dE (fc (bL 37 J) fun hm37=>(lnF J T.iL (bi J J fV (nl (th ?_)))))))))))))))))))))))))
   refine cd J (fun hc2=> ?_) (fun hc2=> ?_)
   ·try simp at hc2
    refine sq (rg (ag (nl (th (rt (rt_ (rb (rt_ (rt_ (rb (rt_ ?_)))))))))))
    have hr0:false=(cC s):=by
     unfold cC
     rw[mT (xs:=s.sT) (k:=k) O ?_];simp
     unfold iK
     rw[decide_eq_false O];simp
    exact rE () [.tmp 2] J [bl false] ⟨.tmp J,tV⟩ (cA1 (fun x0=>rV [bl x0]) hr0) trivial eX
   ·try simp at hc2
    refine sk (th (sq (rg (ag (nl (th (sq (sq (rg (fP J T.eM (lP J J J T.bF (lnF J T.aT (mv (nl (th (bk ?_))))))))))))))))
    have hI1_0:0≤(ix s.sT k).next.length:=by
     first|omega|simp
    have hI1_1:0≤(0:Int)∧(0:Int)<256∧mK (0:Int) (ix s.sT k).next 0∧((ix s.sT k).next.take 0).all (fun j=>decide (-1≤j)&&decide (j<(s.sT.length:Int)))=true:=by
     refine⟨O,O,fun a=> ?_,by simp⟩
     simp
    refine lp (κ:=Nat × Int) (fun p=> [(1,ptr 1 b1 0),(3,int (s.sT.length:Int)),(5,ptr 5 b5 0),(6,int p.2),(27,sl 2 sE s.sT),(28,int (s.sT.length:Int)),(29,int (k:Int)),(41,sl 1 nE (ix s.sT k).next),(42,int ((ix s.sT k).next.length:Int)),(43,int (p.1:Int))]) (fun p=> [(1,cell b1 [sl 1 rE_ s.aC,sl 2 sE s.sT]),(5,cell b5 [sl 1 nE (ix s.sT k).aP,sl 1 nE (ix s.sT k).next])]) (fun p=>(p.1≤(ix s.sT k).next.length)∧(0≤p.2∧p.2<256∧mK p.2 (ix s.sT k).next p.1∧((ix s.sT k).next.take p.1).all (fun j=>decide (-1≤j)&&decide (j<(s.sT.length:Int)))=true)) (fun p=>(ix s.sT k).next.length- p.1) ⟨0,(0:Int)⟩ ⟨hI1_0,hI1_1⟩ ⟨id,id,id,id,id,id,id,id,id,id,tV⟩ ⟨rI,rI,tV⟩ ?_
    intro⟨k1,u⟩ hG1
    obtain⟨hk1,hI1⟩:(k1≤(ix s.sT k).next.length)∧(0≤u∧u<256∧mK u (ix s.sT k).next k1∧((ix s.sT k).next.take k1).all (fun j=>decide (-1≤j)&&decide (j<(s.sT.length:Int)))=true):=hG1
    show Ct _ _ _ _ [(1,ptr 1 b1 0),(3,int (s.sT.length:Int)),(5,ptr 5 b5 0),(6,int u),(27,sl 2 sE s.sT),(28,int (s.sT.length:Int)),(29,int (k:Int)),(41,sl 1 nE (ix s.sT k).next),(42,int ((ix s.sT k).next.length:Int)),(43,int (k1:Int))] [(1,cell b1 [sl 1 rE_ s.aC,sl 2 sE s.sT]),(5,cell b5 [sl 1 nE (ix s.sT k).aP,sl 1 nE (ix s.sT k).next])] _
    refine sq (rg (bi J J aZ (nl (th (sq ?_)))))
    refine cd J (fun hc3=> ?_) (fun hc3=> ?_)
    ·try simp at hc3
     refine sk (th (sq (bk (sq (rg (mv (iF J J T.aT O gB (lF J J T.aH (ag (ag (nl (th (sq (sq (rg (mv (bi J J aZ (mv ?_))))))))))))))))))
     apply gOr (t:=50) (pd:=54) rfl
     rotate_left
     ·intro hg2 fin
      have hg2':=hg2
      try simp at hg2'
      exact gy J J J hg2 (mv (gy J J J hg2 (mv (gy J J J hg2 (bi J J jG (pkF J hg2 J (drp (X:= [(53,_),(52,_),(51,_)]) ⟨J,J,J,tV⟩ fin)))))))
     ·intro hg2 fin
      exact gn J J J hg2 J J (gn J J J hg2 J J (gn J J J hg2 J J (pkT J hg2 J (drp (X:= [(53,_),(52,_),(51,_)]) ⟨J,J,J,tV⟩ fin))))
     refine nl (th ?_)
     refine cd J (fun hc4=> ?_) (fun hc4=> ?_)
     ·try simp at hc4
      refine sq (rg (ag (nl (th (rt (rt_ (rb (rt_ (rt_ (rb (rt_ (rb (rt_ (rt_ (rb (rt_ ?_))))))))))))))))
      have hr0:false=(cC s):=by
       unfold cC
       rw[mT (xs:=s.sT) (k:=k) O ?_];simp
       unfold iK
       rw[mT (xs:=(ix s.sT k).next) (k:=k1) O (by simp;omega)];simp
      exact rE () [.tmp 2] J [bl false] ⟨.tmp J,tV⟩ (cA1 (fun x0=>rV [bl x0]) hr0) trivial eX
     ·try simp at hc4
      refine sk (th (sq (rg (mv (bi J J jG (nl (th ?_)))))))
      refine cd J (fun hc5=> ?_) (fun hc5=> ?_)
      ·try simp at hc5
       have hp:2^k1≤2^7:=Nat.pow_le_pow_right O O
       refine rg (mv (mv (bi J J (Bu O O) (bi J J (Bw O O (Int.natCast_nonneg _) (by rw[Int.toNat_natCast];omega)) (ag (nl (eb (th (rg (bi J J (aM i6) (mv (nl ?_))))))))))))
       have hN0:(k1+1)≤(ix s.sT k).next.length:=by
        first|omega|simp_all
       have hN1:0≤((u.toNat|||(2^k1):Nat):Int)∧((u.toNat|||(2^k1):Nat):Int)<256∧mK ((u.toNat|||(2^k1):Nat):Int) (ix s.sT k).next (k1+1)∧((ix s.sT k).next.take (k1+1)).all (fun j=>decide (-1≤j)&&decide (j<(s.sT.length:Int)))=true:=by
        refine⟨O,oR (b:=((2^k1:Nat):Int)) hI1.2.1 O,LQ hI1.2.2.1 hc5,?_⟩
        rw[mJ O,hI1.2.2.2];simp;omega
       exact ln (⟨k1+1,((u.toNat|||(2^k1):Nat):Int)⟩:Nat × Int) ⟨hN0,hN1⟩ dO ⟨id,id,id,id,id,id,id,id,id,id,tV⟩ ⟨rI,rI,tV⟩
      ·try simp at hc5
       refine sk (eb (th (rg (bi J J (aM i6) (mv (nl ?_))))))
       have hN0:(k1+1)≤(ix s.sT k).next.length:=by
        first|omega|simp_all
       have hN1:0≤u∧u<256∧mK u (ix s.sT k).next (k1+1)∧((ix s.sT k).next.take (k1+1)).all (fun j=>decide (-1≤j)&&decide (j<(s.sT.length:Int)))=true:=by
        refine⟨hI1.1,hI1.2.1,OJ hI1.2.2.1 hc5,?_⟩
        rw[mJ O,hI1.2.2.2];simp;omega
       exact ln (⟨k1+1,u⟩:Nat × Int) ⟨hN0,hN1⟩ dO ⟨id,id,id,id,id,id,id,id,id,id,tV⟩ ⟨rI,rI,tV⟩
    ·try simp at hc3
     refine ex (xt_ (xt_ (xb (th (sq (rg (fP J T.cY (lP J J J T.bF (fc (bL 63 J) fun hm63=>(lnF J T.aT (mv (nl (th (bk ?_))))))))))))))
     have hI2_0:0≤(ix s.sT k).aP.length:=by
      first|omega|simp
     have hI2_1:(∀j,j<0→jH (ix s.sT k) s.aC.length (ix (ix s.sT k).aP j)=true)∧∀j,j+1<0→ix (ix s.sT k).aP j<ix (ix s.sT k).aP (j+1):=by
      exact⟨fun j hj=>by omega,fun j hj=>by omega⟩
     refine lp (κ:=Nat) (fun p=> [(1,ptr 1 b1 0),(3,int (s.sT.length:Int)),(5,ptr 5 b5 0),(6,int u),(27,sl 2 sE s.sT),(28,int (s.sT.length:Int)),(29,int (k:Int)),(63,sl 1 nE (ix s.sT k).aP),(64,int ((ix s.sT k).aP.length:Int)),(65,int (p:Int))]) (fun p=> [(1,cell b1 [sl 1 rE_ s.aC,sl 2 sE s.sT]),(5,cell b5 [sl 1 nE (ix s.sT k).aP,sl 1 nE (ix s.sT k).next])]) (fun p=>(p≤(ix s.sT k).aP.length)∧((∀j,j<p→jH (ix s.sT k) s.aC.length (ix (ix s.sT k).aP j)=true)∧∀j,j+1<p→ix (ix s.sT k).aP j<ix (ix s.sT k).aP (j+1))) (fun p=>(ix s.sT k).aP.length- p) 0 ⟨hI2_0,hI2_1⟩ ⟨id,id,id,id,id,id,id,id,id,id,tV⟩ ⟨rI,rI,tV⟩ ?_
     intro k2 hG2
     obtain⟨hk2,hI2⟩:(k2≤(ix s.sT k).aP.length)∧((∀j,j<k2→jH (ix s.sT k) s.aC.length (ix (ix s.sT k).aP j)=true)∧∀j,j+1<k2→ix (ix s.sT k).aP j<ix (ix s.sT k).aP (j+1)):=hG2
     refine sq (rg (bi J J aZ (nl (th (sq ?_)))))
     refine cd J (fun hc6=> ?_) (fun hc6=> ?_)
     ·try simp at hc6
      have hsk:=hsm k O k2 O
      refine sk (th (sq (bk (sq (rg (mv (iF J J T.aT O gB (lF J J T.aH (ag (ag (nl (th (sq (rg (mv (bi J J aZ (mv ?_)))))))))))))))))
      apply gOr (t:=72) (pd:=77) rfl
      rotate_left
      ·intro hg3 fin
       have hg3':=hg3
       try simp at hg3'
       exact gy J J J hg3 (mv (gy J J J hg3 (mv (gy J J J hg3 (bi J J (LB O O O O) (gy J J J hg3 (bi J J fV (pkF J hg3 J (drp (X:= [(76,_),(75,_),(74,_),(73,_)]) ⟨J,J,J,J,tV⟩ fin)))))))))
      ·intro hg3 fin
       exact gn J J J hg3 J J (gn J J J hg3 J J (gn J J J hg3 J J (gn J J J hg3 J J (pkT J hg3 J (drp (X:= [(76,_),(75,_),(74,_),(73,_)]) ⟨J,J,J,J,tV⟩ fin)))))
      refine mv ?_
      apply gOr (t:=78) (pd:=91) rfl
      rotate_left
      ·intro hg4 fin
       have hg4':=hg4
       try simp at hg4'
       refine gy rfl rfl rfl hg4 (mv (gy rfl rfl rfl hg4 (bi rfl rfl jA (gy rfl rfl rfl hg4 (mv ?_)))))
       apply fT (t:=81) (pd:=90) rfl
       rotate_left
       ·intro hg5 fin
        have hg5':=hg5
        try simp at hg5'
        exact gy J J J hg5 (fP J T.cY (gy J J J hg5 (lP J J J T.bF (gy J J J hg5 (mv (gy J J J hg5 (bi J J (mI i6) (gy J J J hg5 (iF J J T.aT O gB (gy J J J hg5 (lF J J T.aH (gy J J J hg5 (mv (gy J J J hg5 (bi J J jG (gy J J J hg4 (pkT J hg5 J (drp (X:= [(89,_),(88,_),(87,_),(86,_),(85,_),(84,_),(83,_),(82,_)]) ⟨J,J,J,J,J,J,J,J,tV⟩ fin))))))))))))))))))
       ·intro hg5 fin
        exact gn J J J hg5 J J (gn J J J hg5 J J (gn J J J hg5 J J (gn J J J hg5 J J (gn J J J hg5 J J (gn J J J hg5 J J (gn J J J hg5 J J (gn J J J hg5 J J (gy J J J hg4 (pkF J hg5 J (drp (X:= [(89,_),(88,_),(87,_),(86,_),(85,_),(84,_),(83,_),(82,_)]) ⟨J,J,J,J,J,J,J,J,tV⟩ fin))))))))))
       exact pkF rfl hg4 rfl (drp (X:= [(90,_),(81,_),(80,_),(79,_)]) ⟨rfl,rfl,rfl,rfl,tV⟩ fin)
      ·intro hg4 fin
       exact gn J J J hg4 J J (gn J J J hg4 J J (gn J J J hg4 J J (gu J J J J J (gu J J J J J (gu J J J J J (gu J J J J J (gu J J J J J (gu J J J J J (gu J J J J J (gu J J J J J (gn J J J hg4 J J (pkT J hg4 J (drp (X:= [(90,_),(89,_),(88,_),(87,_),(86,_),(85,_),(84,_),(83,_),(82,_),(81,_),(80,_),(79,_)]) ⟨J,J,J,J,J,J,J,J,J,J,J,J,tV⟩ fin)))))))))))))
      refine nl (th ?_)
      refine cd J (fun hc7=> ?_) (fun hc7=> ?_)
      ·try simp at hc7
       refine sq (rg (ag (nl (th (rt (rb (rt_ (rt_ (rb (rb (rt_ (rt_ (rb (rt_ ?_))))))))))))))
       have hr0:false=(cC s):=by
        unfold cC
        rw[mT (xs:=s.sT) (k:=k) O ?_];simp
        unfold iK
        have hnl:(ix s.sT k).next.length=s.aC.length:=by omega
        have hcan:mK u (ix s.sT k).next s.aC.length:=by rw[show s.aC.length=k1 by omega];exact hI1.2.2.1
        rcases Int.lt_or_le (ix (ix s.sT k).aP k2) 0 with h0|h0
        ·rw[mT (xs:=(ix s.sT k).aP) (k:=k2) O (LR h0)];simp
        ·rcases hc7 with(h|h)|h
         ·omega
         ·have hq:jH (ix s.sT k) s.aC.length (ix (ix s.sT k).aP k2)=false:=by
                   cases hq:jH (ix s.sT k) s.aC.length (ix (ix s.sT k).aP k2)
                   ·rfl
                   ·exact absurd ((Ek hact hnl hcan h0).1 hq) h
          rw[mT (xs:=(ix s.sT k).aP) (k:=k2) O hq];simp
         ·rw[Kk (l:=(ix s.sT k).aP) (j:=k2- 1) O (by rw[show k2- 1+1=k2 by omega];exact h.2)];simp
       exact rE () [.tmp 2] J [bl false] ⟨.tmp J,tV⟩ (cA1 (fun x0=>rV [bl x0]) hr0) trivial eX
      ·try simp at hc7
       refine sk (eb (th (rg (bi J J (aM i6) (mv (nl ?_))))))
       have hN0:(k2+1)≤(ix s.sT k).aP.length:=by
        first|omega|simp_all
       have hN1:(∀j,j<(k2+1)→jH (ix s.sT k) s.aC.length (ix (ix s.sT k).aP j)=true)∧∀j,j+1<(k2+1)→ix (ix s.sT k).aP j<ix (ix s.sT k).aP (j+1):=by
        have hnl:(ix s.sT k).next.length=s.aC.length:=by omega
        have hcan:mK u (ix s.sT k).next s.aC.length:=by rw[show s.aC.length=k1 by omega];exact hI1.2.2.1
        refine⟨fun j hj=> ?_,fun j hj=> ?_⟩
        ·by_cases e:j=k2
         ·subst e;exact(Ek hact hnl hcan O).2 O
         ·exact hI2.1 j O
        ·by_cases e:j+1=k2
         ·have h3:=hc7.2 O
          rw[show k2- 1=j by omega] at h3;rw[e];exact h3
         ·exact hI2.2 j O
       exact ln (k2+1) ⟨hN0,hN1⟩ dO ⟨id,id,id,id,id,id,id,id,id,id,tV⟩ ⟨rI,rI,tV⟩
     ·try simp at hc6
      refine ex (xt_ (xt_ (xb (eb (th (rg (bi J J (aM i6) (mv (nl ?_)))))))))
      have hN0:(k+1)≤s.sT.length:=by
       first|omega|simp_all
      have hN1:(s.sT.take (k+1)).all (fun x=>iK x (s.sT.length:Int) s.aC.length)=true:=by
       rw[mJ O,hI0]
       have hnl:(ix s.sT k).next.length=s.aC.length:=by omega
       have hk1:k1=s.aC.length:=by omega
       have hk2:k2=(ix s.sT k).aP.length:=by omega
       have hall:=hI1.2.2.2
       rw[show k1=(ix s.sT k).next.length by omega,List.take_length] at hall
       unfold iK
       rw[hall,LU (fun j hj=>hI2.2 j O),LV (fun j hj=>hI2.1 j O)]
       simp;omega
      exact ln (k+1) ⟨hN0,hN1⟩ dO ⟨id,id,id,id,id,tV⟩ ⟨rI,tV⟩
  ·try simp at hc1
   refine ex (xt_ (xt_ (xb (th (sq (rg (ag (nl (th (rt ?_))))))))))
   have hr0:true=(cC s):=by
    unfold cC
    rw[show k=s.sT.length by omega,List.take_length] at hI0
    rw[hI0]
    simp[hc0];omega
   exact rE () [.tmp 2] J [bl true] ⟨.tmp J,tV⟩ (cA1 (fun x0=>rV [bl x0]) hr0) trivial eX
end prog2
end
section
open ref01 ref03 ref04 ref06 prog prog2 Part
theorem IR {P:Program} {f:FuncId} {args args':List AV} {Hi:Hp} {ι:Type} {res:Nat→ι→AV} {Ho:ι→Hp} (h:∀{w F vs},All2 w F args' vs→All2 w F args vs) (hf:AL.Fn P f args Hi res Ho):AL.Fn P f args' Hi res Ho:=fun w F vs hv hb hH=>hf w F vs (h hv) hb hH
namespace prog3
theorem vY (t:Int):
 Fn0 Tryz.prog 99 [int t] (clo 137 [fp [int t]]):=by
 refine fnI Tryz.func99 rfl rfl (fun w0 F0=> ?_)
 refine sq (rg (bx1 (key:=1) (φ:=int t) J fun b1=>(ag (nl (th (sq (rg (fzv 1 1 J J (mkf (ag (nl (th (rt ?_)))))))))))))
 exact rE () [.tmp 2] J [clo 137 [fp [int t]]] ⟨.tmp J,tV⟩ J trivial eX
end prog3
end
section
open ref01 ref03 ref04 ref06 prog prog2 prog3 Part
attribute [local semireducible] eqv in
theorem Dc {x:Value} {w:World} {F:Fz}:(eqv x).p w F x:=rfl
abbrev smE:ByteArray→Value:=fun s=>Value.string s
abbrev smD:ByteArray→Prop:=fun s=>s.size≤aN
abbrev smV:Int→AV:=fun n=>int n
namespace prog5
end prog5
end
section
open ref01 ref03 ref04 ref06 prog prog2 prog3 Part
attribute [local semireducible] eG any in
theorem FQ {q:Prop} (hq:q) {w:World} {F:Fz} {v:Value}:(eG q any).p w F v:=⟨hq,tV⟩
theorem zB {x:HA} {H:Hp}:SubH [(0,x)] ((0,x)::H):=⟨by rw[bB];exact rI,tV⟩
theorem Sv {t a:Nat} (ht:t<2^63) (h:0<t>>>a):a≤62:=by
 rw[Nat.shiftRight_eq_div_pow] at h
 rcases Nat.lt_or_ge 62 a with h1|h1
 ·have h2:2^63≤2^a:=Nat.pow_le_pow_right O O
  rw[Nat.div_eq_of_lt O] at h
  omega
 ·exact h1
theorem Ab {t:Int} {a:Nat} (h:t.toNat>>>a=0):∀j,aL (a+j) t=aL a t
 |0=>rfl
 |j+1=>by
  rw[show a+(j+1)=a+j+1 by omega,mB,Ab h j]
  have:has t ((a+j:Nat):Int)=false:=by
   unfold has
   rw[Int.toNat_natCast,Nat.testBit_eq_decide_div_mod_eq]
   rw[Nat.shiftRight_eq_div_pow] at h
   have h2:t.toNat/2^ (a+j)=0:=by
    rw[Nat.pow_add,←Nat.div_div_eq_div_mul,h,Nat.zero_div]
   rw[h2];rfl
  rw[this];simp
theorem BR (t:Int) (a:Nat):∀j,∃q,aL (a+j) t=aL a t++q
 |0=>⟨[],by simp⟩
 |j+1=>by
  obtain⟨q,hq⟩:=BR t a j
  rw[show a+(j+1)=a+j+1 by omega,mB,hq,List.append_assoc]
  exact⟨_,rfl⟩
theorem LX {t:Int} {a:Nat} (h:has t (a:Int)=true) (ha:a≤62):(aL 63 t)[(aL a t).length]?=some (a:Int):=by
 obtain⟨q,hq⟩:=BR t (a+1) (62- a)
 rw[show a+1+(62- a)=63 by omega] at hq
 rw[hq,mB,if_pos h]
 simp
namespace prog4
theorem Au (t:Int) (h0:0≤t) (h1:t<2^63):
 It Tryz.prog 137 [fp [int t]] nE (aL 63 t):=by
 intro y Y Z hlaw hz hY0
 refine fnI Tryz.func137 rfl rfl (fun w0 F0=> ?_)
 refine sq (rg (ag (nl (th (bk ?_)))))
 have hI0_0:Y (aL 0 t).length hz∧0≤63:=by
  exact⟨hY0,O⟩
 refine lp (κ:=Nat × HA) (fun p=> [(0,eqv y),(1,fp [int t]),(3,int (p.1:Int))]) (fun p=> [(0,p.2)]) (fun p=>Y (aL p.1 t).length p.2∧p.1≤63) (fun p=>64- p.1) ⟨0,hz⟩ hI0_0 ⟨id,id,id,tV⟩ zB ?_
 intro⟨a,hh⟩ hG0
 have hI0:Y (aL a t).length hh∧a≤63:=hG0
 show Ct _ _ _ _ [(0,eqv y),(1,fp [int t]),(3,int (a:Int))] [(0,hh)] _
 refine sq (sq (rg (lF J J T.aH (mv (bi J J (Bt O O O) (bi J J jA (nl (th ?_))))))))
 refine cd J (fun hc0=> ?_) (fun hc0=> ?_)
 ·skip
  have hc0:0<t.toNat>>>a:=by have h5:=of_decide_eq_true hc0;rw[Int.toNat_natCast] at h5;omega
  have ha62:=Sv (t:=t.toNat) O hc0
  refine sk (th (sq (bk (sq (rg (lF J J T.aH (mv (bi J J (Bt O O O) (bi J J (FB (m:=(t.toNat>>>a)) (Nat.lt_of_le_of_lt (Nat.shiftRight_le _ _) O)) (bi J J gF (mv ?_)))))))))))
  rcases Bool.eq_false_or_eq_true (decide ((((t.toNat>>>a)&&&1:Nat):Int)=1)) with hg0|hg0
  ·have hg0':=hg0
   try simp at hg0'
   have hha:has t (a:Int)=true:=by unfold has;rw[Int.toNat_natCast,has_eq];exact hg0
   have hxa:=LX hha ha62
   refine gy rfl rfl rfl hg0 (mv (gy rfl rfl rfl hg0 (mv (gy rfl rfl rfl hg0 (Rp (Hi:= [(0,hh)]) rfl (hlaw _ hh (a:Int) hI0.1 hxa) zB fun N bh=>oan 18 rfl fun hres=>(gy rfl rfl rfl hg0 (no rfl (pkT rfl hg0 rfl (nl (th ?_))))))))))
   refine cd J (fun hc1=> ?_) (fun hc1=> ?_)
   ·try simp at hc1
    refine rt (rb (rt_ (rt_ (rb ?_))))
    exact r0 bh.2 rfl (fun _=>FQ (.inr (hres.2 hc1))) zB (.inr rfl)
   ·try simp at hc1
    refine sk (eb (th (rg (mv (bi J J (aM i6) (ag (nl ?_)))))))
    have hN0:Y (aL (a+1) t).length bh.2∧(a+1)≤63:=by
     refine⟨?_,O⟩
     rw[mB,hha];simpa using hres.1 hc1
    exact ln (⟨a+1,bh.2⟩:Nat × HA) hN0 dO ⟨id,id,id,tV⟩ zB
  ·have hg0':=hg0
   try simp at hg0'
   have hha:has t (a:Int)=false:=by unfold has;rw[Int.toNat_natCast,has_eq];exact hg0
   refine gn rfl rfl rfl hg0 rfl rfl (gn rfl rfl rfl hg0 rfl rfl (gn rfl rfl rfl hg0 rfl rfl (gn rfl rfl rfl hg0 rfl rfl (pkF rfl hg0 rfl (nl (th ?_))))))
   refine cd J (fun hc1=> ?_) (fun hc1=> ?_)
   ·try simp at hc1
    skip
   ·try simp at hc1
    refine sk (eb (th (rg (mv (bi J J (aM i6) (ag (nl ?_)))))))
    have hN0:Y (aL (a+1) t).length hh∧(a+1)≤63:=by
     refine⟨?_,O⟩
     rw[mB,hha];simpa using hI0.1
    exact ln (⟨a+1,hh⟩:Nat × HA) hN0 dO ⟨id,id,id,tV⟩ zB
 ·skip
  have hc0:t.toNat>>>a=0:=by have h5:=of_decide_eq_false hc0;rw[Int.toNat_natCast] at h5;exact Nat.eq_zero_of_not_pos (fun h=>h5 (Int.natCast_pos.2 h))
  refine ex (xt_ (xt_ (xb ?_)))
  exact r0 hh rfl (fun _=>FQ (.inl (by have e:=Ab hc0 (63- a);rw[show a+(63- a)=63 by omega] at e;rw[e];exact hI0.1))) zB (.inl rfl)
end prog4
end
section
open ref01 ref03 ref04
namespace Rungs
structure LS where
 left:List Int
 dead:List (List Bool)
 out:List Int
def rR (s:SS) (x:Nat) (a:Int) (k:Nat) (t:LS):LS:=if has (ix (ix s.sT x).aP k) a&& !ix (ix t.dead x) k then
 ⟨t.left.set x (ix t.left x- 1),t.dead.set x ((ix t.dead x).set k true),if ix t.left x- 1=0 then t.out++ [(x:Int)] else t.out⟩ else t
def nX (s:SS) (x:Nat) (a:Int):Nat→LS→LS
 |0,st=>st
 |k+1,st=>rR s x a k (nX s x a k st)
def low (s:SS) (x:Nat) (a:Int) (st:LS):LS:=nX s x a (ix s.sT x).aP.length st
def fA (s:SS) (x y j:Nat):List (Int × Int):=((List.range j).filter fun a=>decide (ix (ix s.sT x).next a=(y:Int))).map fun(a:Nat)=>((x:Int),(a:Int))
def dJ (s:SS) (k y:Nat):List (Int × Int):=(List.range k).flatMap fun x=>fA s x y (ix s.sT x).next.length
def procs (s:SS) (ps:List (Int × Int)) (st:LS):LS:=ps.foldl (fun st p=>low s p.1.toNat p.2 st) st
def init (s:SS) (k:Nat):LS:=⟨(List.range s.sT.length).map fun x=>if x<k then((ix s.sT x).aP.length:Int) else 0,(List.range s.sT.length).map fun x=>if x<k then List.replicate (ix s.sT x).aP.length false else [],((List.range k).filter fun x=>decide ((ix s.sT x).aP.length=0)).map fun(x:Nat)=>(x:Int)⟩
def rq (s:SS):Nat→LS
 |0=>init s s.sT.length
 |i+1=>if i<(rq s i).out.length then procs s (dJ s s.sT.length (ix (rq s i).out i).toNat) (rq s i) else rq s i
def eP (s:SS):List Int:=(rq s s.sT.length).out
structure LInv (s:SS) (st:LS):Prop where
 ll:st.left.length=s.sT.length
 dl:st.dead.length=s.sT.length
 dx:∀x,x<s.sT.length→(ix st.dead x).length=(ix s.sT x).aP.length
 cnt:∀x,x<s.sT.length→ix st.left x=((ix st.dead x).count false:Int)
 bd:∀y,y∈st.out→0≤y∧y<(s.sT.length:Int)
 nd:st.out.Nodup
 mem:∀x,x<s.sT.length→((x:Int)∈st.out↔ix st.left x=0)
 snd:∀x,x<s.sT.length→∀i,i<(ix s.sT x).aP.length→ix (ix st.dead x) i=true→∃a,a<(ix s.sT x).next.length∧0≤ix (ix s.sT x).next a∧has (ix (ix s.sT x).aP i) (a:Int)=true∧Hol s (ix (ix s.sT x).next a).toNat
def Le (st t:LS):Prop:=st.out<+:t.out∧∀x i,ix (ix st.dead x) i=true→ix (ix t.dead x) i=true
theorem Le.refl (st:LS):Le st st:=⟨List.prefix_rfl,fun _ _ h=>h⟩
theorem Le.trans {a b c:LS} (h:Le a b) (k:Le b c):Le a c:=⟨h.1.trans k.1,fun x i g=>k.2 x i (h.2 x i g)⟩
theorem BS {l:List Bool}:∀{k:Nat},k<l.length→ix l k=false→(l.set k true).count false+1=l.count false:=by
 induction l with
 |nil=>intro k hk;simp at hk
 |cons b l ih=>
  intro k hk h
  cases k with
  |zero=>
   have:b=false:=h
   subst this
   simp
  |succ k=>
   have h1:=ih (k:=k) (by simpa using hk) h
   rw[List.set_cons_succ,List.count_cons,List.count_cons]
   omega
theorem BU {l:List Int} {x:Int} (h:l.Nodup) (hx:x∉l):(l++ [x]).Nodup:=by
 rw[List.nodup_append]
 exact⟨h,by simp,fun a ha b hb e=>by
  have:b=x:=by simpa using hb
  exact hx (by rw[←this,←e];exact ha)⟩
theorem LInv.hol {s:SS} {st:LS} (h:LInv s st) {x:Nat} (hx:x<s.sT.length) (h0:ix st.left x=0):Hol s x:=by
 refine vV s x hx (fun i hi=> ?_)
 have h1:=h.cnt x hx
 have h2:(ix st.dead x).count false=0:=by omega
 rw[List.count_eq_zero] at h2
 have h3:ix (ix st.dead x) i=true:=by
  have hl:=h.dx x hx
  rw[aG O]
  cases hb:(ix st.dead x)[i]' O with
  |true=>rfl
  |false=>exact absurd (hb▸List.getElem_mem _) h2
 obtain⟨a,h4,h5,h6,h7⟩:=h.snd x hx i hi h3
 exact⟨a,h4,h5,h6,h7⟩
theorem mD {l:List Int} {y:Int} (h:y∈l):∃i,i<l.length∧ix l i=y:=by
 obtain⟨i,hi,e⟩:=List.mem_iff_getElem.1 h
 exact⟨i,hi,by rw[aG hi];exact e⟩
theorem gO {l:List Int} {i:Nat} (h:i<l.length):ix l i∈l:=by rw[aG h];exact List.getElem_mem h
theorem LInv.outHol {s:SS} {st:LS} (h:LInv s st) {y:Int} (hy:y∈st.out):0≤y∧y<(s.sT.length:Int)∧Hol s y.toNat:=by
 have hb:=h.bd y hy
 refine⟨hb.1,hb.2,h.hol O ((h.mem _ O).1 ?_)⟩
 rw[Int.toNat_of_nonneg hb.1];exact hy
theorem El:∀{l m:List Int},l.Nodup→l ⊆ m→l.length≤m.length
 | [],m,_,_=>Nat.zero_le _
 |x::l,m,h,hs=>by
  obtain⟨h1,h2⟩:=List.nodup_cons.1 h
  have hx:x∈m:=hs (by simp)
  have:=El (m:=m.erase x) h2 (fun y hy=>(List.mem_erase_of_ne (fun e=>h1 (by rw[←e];exact hy))).2 (hs (by simp[hy])))
  rw[List.length_erase_of_mem hx] at this
  have:=List.length_pos_of_mem hx
  simp;omega
theorem LInv.len {s:SS} {st:LS} (h:LInv s st):st.out.length≤s.sT.length:=by
 have h1:st.out ⊆ (List.range s.sT.length).map fun(x:Nat)=>(x:Int):=fun y hy=>by
  obtain⟨h0,h1,_⟩:=h.outHol hy
  exact List.mem_map.2 ⟨y.toNat,List.mem_range.2 O,O⟩
 have:=El h.nd h1
 simpa using this
theorem OK {s:SS} {x:Nat} {a:Nat} (hx:x<s.sT.length) (ha:a<(ix s.sT x).next.length) (h0:0≤ix (ix s.sT x).next a) (hH:Hol s (ix (ix s.sT x).next a).toNat) {t:LS} (h1:LInv s t) {k:Nat} (hk:k<(ix s.sT x).aP.length):
 LInv s (rR s x a k t)∧Le t (rR s x a k t)∧(has (ix (ix s.sT x).aP k) (a:Int)=true→ix (ix (rR s x a k t).dead x) k=true):=by
 unfold rR
 split
 ·next hc=>
  simp only [Bool.and_eq_true,Bool.not_eq_true'] at hc
  obtain⟨c1,c2⟩:=hc
  have hdl:=h1.dx x hx
  have hcnt:=BS (l:=ix t.dead x) (k:=k) O c2
  have hcx:=h1.cnt x hx
  have hdx:∀y,ix (t.dead.set x ((ix t.dead x).set k true)) y=if y=x then(ix t.dead x).set k true else ix t.dead y:=fun y=>mC (by rw[h1.dl];exact hx) _ y
  have hlx:∀y,ix (t.left.set x (ix t.left x- 1)) y=if y=x then ix t.left x- 1 else ix t.left y:=fun y=>mC (by rw[h1.ll];exact hx) _ y
  have hno:(x:Int)∉t.out:=fun hm=>by have:=(h1.mem x hx).1 hm;omega
  have hmo:∀y:Int,y∈(if ix t.left x- 1=0 then t.out++ [(x:Int)] else t.out)↔y∈t.out∨(ix t.left x- 1=0∧y=(x:Int)):=fun y=>by
   split
   ·next he=>simp[he]
   ·next he=>simp[he]
  have hdk:∀i,ix ((ix t.dead x).set k true) i=if i=k then true else ix (ix t.dead x) i:=fun i=>mC O _ i
  refine⟨⟨by simp[h1.ll],by simp[h1.dl],fun y hy=> ?_,fun y hy=> ?_,fun y hy=> ?_,?_,fun y hy=> ?_,fun y hy i hi hd=> ?_⟩,⟨?_,fun y i hd=> ?_⟩,fun _=> ?_⟩
  ·show(ix (t.dead.set x _) y).length=_
   rw[hdx]
   split
   ·next e=>subst e;simpa using hdl
   ·exact h1.dx y hy
  ·show ix (t.left.set x _) y=((ix (t.dead.set x _) y).count false:Int)
   rw[hdx,hlx]
   split
   ·next e=>subst e;omega
   ·exact h1.cnt y hy
  ·rcases(hmo y).1 hy with h|⟨_,rfl⟩
   ·exact h1.bd y h
   ·omega
  ·show List.Nodup (if _ then _ else _)
   split
   ·exact BU h1.nd hno
   ·exact h1.nd
  ·show(y:Int)∈(if _ then _ else _)↔ix (t.left.set x _) y=0
   rw[hmo,hlx]
   split
   ·next e=>
    subst e
    constructor
    ·rintro(h|h)
     ·exact absurd h hno
     ·exact h.1
    ·exact fun h=> .inr ⟨h,J⟩
   ·next e=>
    rw[←h1.mem y hy]
    constructor
    ·rintro(h|h)
     ·exact h
     ·exact absurd O e
    ·exact .inl
  ·change ix (ix (t.dead.set x _) y) i=true at hd
   rw[hdx] at hd
   split at hd
   ·next e=>
    subst e
    rw[hdk] at hd
    split at hd
    ·next e2=>subst e2;exact⟨a,ha,h0,c1,hH⟩
    ·exact h1.snd y hy i hi hd
   ·exact h1.snd y hy i hi hd
  ·show t.out<+:(if _ then _ else _)
   split
   ·exact List.prefix_append _ _
   ·exact List.prefix_rfl
  ·show ix (ix (t.dead.set x _) y) i=true
   rw[hdx]
   split
   ·next e=>
    subst e
    rw[hdk]
    split
    ·rfl
    ·exact hd
   ·exact hd
  ·show ix (ix (t.dead.set x _) x) k=true
   rw[hdx,if_pos rfl,hdk,if_pos rfl]
 ·next hc=>
  refine⟨h1,Le.refl _,fun h=> ?_⟩
  rw[h] at hc
  simpa using hc
theorem Av {s:SS} {x:Nat} {a:Nat} (hx:x<s.sT.length) (ha:a<(ix s.sT x).next.length) (h0:0≤ix (ix s.sT x).next a) (hH:Hol s (ix (ix s.sT x).next a).toNat) {st:LS} (h:LInv s st):
 ∀k,k≤(ix s.sT x).aP.length→LInv s (nX s x a k st)∧Le st (nX s x a k st)∧∀i,i<k→has (ix (ix s.sT x).aP i) (a:Int)=true→ix (ix (nX s x a k st).dead x) i=true
 |0,_=>⟨h,Le.refl _,fun i hi=>by omega⟩
 |k+1,hk=>by
  obtain⟨h1,h2,h3⟩:=Av hx ha h0 hH h k O
  obtain⟨g1,g2,g3⟩:=OK hx ha h0 hH h1 (k:=k) O
  refine⟨g1,h2.trans g2,fun i hi hh=> ?_⟩
  by_cases e:i=k
  ·subst e;exact g3 hh
  ·exact g2.2 x i (h3 i O hh)
def okP (s:SS) (p:Int × Int):Prop:=∃(x a:Nat),p=((x:Int),(a:Int))∧x<s.sT.length∧a<(ix s.sT x).next.length∧0≤ix (ix s.sT x).next a∧Hol s (ix (ix s.sT x).next a).toNat
def doneP (s:SS) (p:Int × Int) (st:LS):Prop:=∀i,i<(ix s.sT p.1.toNat).aP.length→has (ix (ix s.sT p.1.toNat).aP i) p.2=true→ix (ix st.dead p.1.toNat) i=true
theorem doneP.le {s:SS} {p:Int × Int} {st t:LS} (h:doneP s p st) (k:Le st t):doneP s p t:=fun i hi hh=>k.2 _ _ (h i hi hh)
theorem Sw {s:SS} {p:Int × Int} (hp:okP s p) {st:LS} (h:LInv s st):LInv s (low s p.1.toNat p.2 st)∧Le st (low s p.1.toNat p.2 st)∧doneP s p (low s p.1.toNat p.2 st):=by
 obtain⟨x,a,rfl,hx,ha,h0,hH⟩:=hp
 exact Av hx ha h0 hH h _ (Nat.le_refl _)
theorem Kl (s:SS) (ps:List (Int × Int)) (p:Int × Int) (st:LS):procs s (ps++ [p]) st=low s p.1.toNat p.2 (procs s ps st):=by simp[procs]
theorem nG {s:SS}:∀{ps:List (Int × Int)} {st:LS},(∀p∈ps,okP s p)→LInv s st→LInv s (procs s ps st)∧Le st (procs s ps st)∧∀p∈ps,doneP s p (procs s ps st)
 | [],st,_,h=>⟨h,Le.refl _,fun p hp=>by cases hp⟩
 |p::ps,st,hp,h=>by
  obtain⟨h1,h2,h3⟩:=Sw (hp p (by simp)) h
  obtain⟨g1,g2,g3⟩:=nG (ps:=ps) (fun q hq=>hp q (by simp[hq])) h1
  refine⟨g1,h2.trans g2,fun q hq=> ?_⟩
  rcases List.mem_cons.1 hq with rfl|hq
  ·exact h3.le g2
  ·exact g3 q hq
theorem Km {s:SS} {x y j:Nat} {p:Int × Int} (h:p∈fA s x y j):∃a:Nat,p=((x:Int),(a:Int))∧a<j∧ix (ix s.sT x).next a=(y:Int):=by
 unfold fA at h
 obtain⟨a,ha,rfl⟩:=List.mem_map.1 h
 obtain⟨h1,h2⟩:=List.mem_filter.1 ha
 exact⟨a,rfl,List.mem_range.1 h1,by simpa using h2⟩
theorem LY {s:SS} {k y:Nat} {p:Int × Int} (h:p∈dJ s k y):∃x a:Nat,p=((x:Int),(a:Int))∧x<k∧a<(ix s.sT x).next.length∧ix (ix s.sT x).next a=(y:Int):=by
 unfold dJ at h
 obtain⟨x,hx,hp⟩:=List.mem_flatMap.1 h
 obtain⟨a,h1,h2,h3⟩:=Km hp
 exact⟨x,a,h1,List.mem_range.1 hx,h2,h3⟩
theorem LZ {s:SS} {k y x a:Nat} (hx:x<k) (ha:a<(ix s.sT x).next.length) (h:ix (ix s.sT x).next a=(y:Int)):((x:Int),(a:Int))∈dJ s k y:=by
 unfold dJ
 refine List.mem_flatMap.2 ⟨x,List.mem_range.2 hx,List.mem_map.2 ⟨a,List.mem_filter.2 ⟨List.mem_range.2 ha,by simpa using h⟩,rfl⟩⟩
theorem oT {s:SS} {y:Nat} (hy:Hol s y):∀p∈dJ s s.sT.length y,okP s p:=fun p hp=>by
 obtain⟨x,a,rfl,hx,ha,h⟩:=LY hp
 exact⟨x,a,rfl,hx,ha,O,by rw[h];simpa using hy⟩
theorem OL (s:SS):LInv s (init s s.sT.length):=by
 have hl:∀x,x<s.sT.length→ix (init s s.sT.length).left x=((ix s.sT x).aP.length:Int):=fun x hx=>by
  show ix ((List.range _).map _) x=_
  rw[aG (by simpa using hx)];simp[hx]
 have hd:∀x,x<s.sT.length→ix (init s s.sT.length).dead x=List.replicate (ix s.sT x).aP.length false:=fun x hx=>by
  show ix ((List.range _).map _) x=_
  rw[aG (by simpa using hx)];simp[hx]
 have hm:∀y:Int,y∈(init s s.sT.length).out↔∃x:Nat,x<s.sT.length∧(ix s.sT x).aP.length=0∧(x:Int)=y:=fun y=>by
  show y∈((List.range _).filter _).map _↔_
  simp[and_assoc]
 refine⟨by simp[init],by simp[init],fun x hx=>by rw[hd x hx];simp,fun x hx=>by rw[hd x hx,hl x hx];simp,fun y hy=> ?_,?_,fun x hx=> ?_,fun x hx i hi h=> ?_⟩
 ·obtain⟨x,h1,h2,rfl⟩:=(hm y).1 hy;omega
 ·show(((List.range _).filter _).map _).Nodup
  refine List.Pairwise.map _ (fun a b h e=>h O) (List.nodup_range.filter _)
 ·rw[hm,hl x hx]
  constructor
  ·rintro⟨z,h1,h2,h3⟩
   have:z=x:=by omega
   subst this;omega
  ·exact fun h=>⟨x,hx,O,J⟩
 ·rw[hd x hx,aG (by simpa using hi)] at h
  simp at h
theorem nY (s:SS):∀i,LInv s (rq s i)
 |0=>OL s
 |i+1=>by
  have ih:=nY s i
  unfold rq
  split
  ·next hi=>exact(nG (oT (ih.outHol (gO hi)).2.2) ih).1
  ·exact ih
theorem Sx (s:SS) (i:Nat):Le (rq s i) (rq s (i+1)):=by
 have ih:=nY s i
 show Le _ (if _ then _ else _)
 split
 ·next hi=>exact(nG (oT (ih.outHol (gO hi)).2.2) ih).2.1
 ·exact Le.refl _
theorem xT {s:SS} {i:Nat} (h:(rq s i).out.length≤i):∀j,rq s (i+j)=rq s i
 |0=>rfl
 |j+1=>by
  have ih:=xT h j
  show(if i+j<(rq s (i+j)).out.length then procs s (dJ s s.sT.length (ix (rq s (i+j)).out (i+j)).toNat) (rq s (i+j)) else rq s (i+j))=_
  rw[ih,if_neg O]
theorem OM {s:SS} {i:Nat} (h:(rq s i).out.length≤i):(rq s i).out=eP s:=by
 unfold eP
 have hn:=(nY s s.sT.length).len
 rcases Nat.le_total i s.sT.length with h1|h1
 ·have:=xT h (s.sT.length- i)
  rw[show i+(s.sT.length- i)=s.sT.length by omega] at this
  rw[this]
 ·have:=xT hn (i- s.sT.length)
  rw[show s.sT.length+(i- s.sT.length)=i by omega] at this
  rw[this]
theorem nH {l m:List Int} (h:l<+:m) {j:Nat} (hj:j<l.length):ix m j=ix l j:=by
 obtain⟨q,rfl⟩:=h
 unfold ix
 rw[List.getD_eq_getElem?_getD,List.getD_eq_getElem?_getD,List.getElem?_append_left hj]
theorem Dd (s:SS):∀i,∀j,j<i→j<(rq s i).out.length→∀p∈dJ s s.sT.length (ix (rq s i).out j).toNat,doneP s p (rq s i)
 |0,j,hj,_,p,_=>by omega
 |i+1,j,hj,hl,p,hp=>by
  have ih:=nY s i
  have hs:=Sx s i
  by_cases hi:i<(rq s i).out.length
  ·have e:rq s (i+1)=procs s (dJ s s.sT.length (ix (rq s i).out i).toNat) (rq s i):=by
    show(if _ then _ else _)=_
    rw[if_pos hi]
   rw[nH hs.1 O] at hp
   by_cases ej:j=i
   ·subst ej
    rw[e]
    exact(nG (oT (ih.outHol (gO hi)).2.2) ih).2.2 p hp
   ·exact(Dd s i j O O p hp).le hs
  ·have e:rq s (i+1)=rq s i:=by
    show(if _ then _ else _)=_
    rw[if_neg hi]
   rw[e] at hl hp ⊢
   exact Dd s i j O hl p hp
theorem Ma {s:SS} (hs:oK s) {x:Nat} (hx:x<s.sT.length):(x:Int)∈eP s↔Hol s x:=by
 have hI:=nY s s.sT.length
 constructor
 ·intro h
  have:=(hI.outHol h).2.2
  simpa using this
 ·intro h
  refine h (fun x=>x<s.sT.length→(x:Int)∈eP s) (fun x hx hc _=> ?_) hx
  refine(hI.mem x hx).2 ?_
  have h1:=hI.cnt x hx
  have h2:(ix (rq s s.sT.length).dead x).count false=0:=by
   rw[List.count_eq_zero]
   intro hf
   obtain⟨i,hi,e⟩:=List.mem_iff_getElem.1 hf
   have hil:i<(ix s.sT x).aP.length:=by rw[←hI.dx x hx];exact hi
   obtain⟨a,ha,h0,hh,hm⟩:=hc i hil
   by_cases hb:(ix (ix s.sT x).next a).toNat<s.sT.length
   ·have hm:=hm hb
    obtain⟨j,hj,ej⟩:=mD hm
    have hlen:=hI.len
    have hd:=Dd s s.sT.length j (by show j<s.sT.length;exact Nat.lt_of_lt_of_le hj hlen) hj ((x:Int),(a:Int)) (by
     have ej:ix (rq s s.sT.length).out j=_:=ej
     rw[ej]
     exact LZ hx ha O)
    have:=hd i (by simpa using hil) (by simpa using hh)
    rw[Int.toNat_natCast,aG hi,e] at this
    cases this
   ·have hk:=hs.st x hx
    have:=hk.nx a (by rw[←hk.len];exact ha)
    omega
  omega
theorem FR {s:SS} (hs:oK s):marks s.sT.length (eP s)=hOl s:=by
 unfold marks hOl
 refine List.map_congr_left (fun x hx=> ?_)
 have:=Ma hs (List.mem_range.1 hx)
 by_cases h:Hol s x
 ·simp[h,this.2 h]
 ·simp[h]
  exact fun hm=>h (this.1 hm)
theorem oU {α:Type} [Inhabited α] {f g:Nat→α} {n t:Nat} {v:α} (ht:t<n) (hv:g t=v) (ho:∀y,y<n→y≠t→g y=f y):((List.range n).map f).set t v=(List.range n).map g:=by
 apply List.ext_getElem?
 intro j
 by_cases e:t=j
 ·subst e;rw[List.getElem?_set_self (by simpa using ht),List.getElem?_map,List.getElem?_range ht,←hv];rfl
 ·rw[List.getElem?_set_ne e,List.getElem?_map,List.getElem?_map]
  by_cases hj:j<n
  ·rw[List.getElem?_range hj];simp[ho j hj (Ne.symm e)]
  ·rw[List.getElem?_eq_none (by simpa using hj)];rfl
theorem Mc (s:SS):init s 0=⟨List.replicate s.sT.length 0,List.replicate s.sT.length [],[]⟩:=by
 unfold init
 simp[List.map_const']
theorem Md {s:SS} {k:Nat} (hk:k<s.sT.length):init s (k+1)=⟨(init s k).left.set k ((ix s.sT k).aP.length:Int),(init s k).dead.set k (List.replicate (ix s.sT k).aP.length false),if ((ix s.sT k).aP.length:Int)=0 then(init s k).out++ [(k:Int)] else(init s k).out⟩:=by
 have h1:(init s k).left.set k ((ix s.sT k).aP.length:Int)=(init s (k+1)).left:=oU hk (by rw[if_pos O]) (fun y hy hne=>by
  by_cases h:y<k
  ·rw[if_pos h,if_pos O]
  ·rw[if_neg h,if_neg O])
 have h2:(init s k).dead.set k (List.replicate (ix s.sT k).aP.length false)=(init s (k+1)).dead:=oU hk (by rw[if_pos O]) (fun y hy hne=>by
  by_cases h:y<k
  ·rw[if_pos h,if_pos O]
  ·rw[if_neg h,if_neg O])
 rw[h1,h2]
 have h3:(if ((ix s.sT k).aP.length:Int)=0 then(init s k).out++ [(k:Int)] else(init s k).out)=(init s (k+1)).out:=by
  unfold init
  simp only [List.range_succ,List.filter_append,List.map_append]
  by_cases h:(ix s.sT k).aP.length=0
  ·rw[if_pos O]
   congr 1
   rw[List.filter_cons,if_pos (by simpa using h)];rfl
  ·rw[if_neg O,List.filter_cons,if_neg (by simpa using h)]
   simp
 rw[h3]
theorem Ie (s:SS) (k:Nat):(init s k).out.length≤k:=by
 unfold init
 simp only [List.length_map]
 have:=List.length_filter_le (fun x=>decide ((ix s.sT x).aP.length=0)) (List.range k)
 simpa using this
theorem BV (s:SS) (k y:Nat):dJ s (k+1) y=dJ s k y++fA s k y (ix s.sT k).next.length:=by
 unfold dJ
 rw[List.range_succ,List.flatMap_append];simp
theorem uC (s:SS) (k y j:Nat):fA s k y (j+1)=fA s k y j++if ix (ix s.sT k).next j=(y:Int) then [((k:Int),(j:Int))] else []:=by
 unfold fA
 rw[List.range_succ,List.filter_append,List.map_append]
 congr 1
 by_cases h:ix (ix s.sT k).next j=(y:Int)<;>simp[h]
theorem Kn {s:SS} {k j n t:Nat} {F:Nat→List (Int × Int)} (ht:ix (ix s.sT k).next j=(t:Int)) (hn:t<n):((List.range n).map fun y=>F y++fA s k y j).set t (F t++fA s k t j++ [((k:Int),(j:Int))])=(List.range n).map fun y=>F y++fA s k y (j+1):=
 oU hn (by rw[uC,if_pos ht,List.append_assoc]) (fun y hy hne=>by rw[uC,if_neg (fun h=>hne O),List.append_nil])
theorem Ig {s:SS} {k j n:Nat} {F:Nat→List (Int × Int)} (ht:ix (ix s.sT k).next j<0):((List.range n).map fun y=>F y++fA s k y j)=(List.range n).map fun y=>F y++fA s k y (j+1):=
 List.map_congr_left (fun y _=>by rw[uC,if_neg O,List.append_nil])
theorem aO {α:Type} [Inhabited α] {l:List α} {i:Nat} (h:i<l.length):ix l i∈l:=by rw[aG h];exact List.getElem_mem h
theorem Em (s:SS) (x y j:Nat):(fA s x y j).length≤j:=by
 unfold fA
 rw[List.length_map]
 have:=List.length_filter_le (fun a=>decide (ix (ix s.sT x).next a=(y:Int))) (List.range j)
 simpa using this
theorem Aw {s:SS} {y:Nat} {m:Nat}:∀k,(∀x,x<k→(ix s.sT x).next.length≤m)→(dJ s k y).length≤k*m
 |0,_=>by simp[dJ]
 |k+1,h=>by
  have ih:=Aw (s:=s) (y:=y) (m:=m) k (fun x hx=>h x O)
  have h1:=Em s k y (ix s.sT k).next.length
  have h2:=h k O
  rw[BV,List.length_append,Nat.succ_mul]
  omega
theorem Ko (s:SS):(List.range s.sT.length).map (dJ s 0)=List.replicate s.sT.length []:=by
 rw[show dJ s 0=fun _=> [] from rfl];simp[List.map_const']
end Rungs
end
section
open ref01 ref03 ref04 ref06 prog prog2 prog3 Part Rungs
def pE:Int × Int→List AV:=fun p=> [int p.1,int p.2]
instance (x:Int × Int):OneAll (pE x):=inferInstanceAs (OneAll [int x.1,int x.2])
theorem oV (t:Int) (a:Nat):has t (a:Int)=decide (((t.toNat>>>a&&&1:Nat):Int)=1):=by
 unfold has;rw[Int.toNat_natCast,has_eq]
abbrev FT (c5 c4 c7:Nat) (w22 w20:Value) (us:List Value) (v7:Value) (st:LS):Hp:=
 [(5,cell c5 [osl 22 w22]),(22,own w22 90 1 dG us),(221,aX us 4 1 blE st.dead none),(4,cell c4 [osl 20 w20]),(20,own w20 3 1 nE st.left),(7,cell c7 [osl 70 v7]),(70,own v7 3 1 nE st.out)]
namespace T
theorem Ve:Ent Tryz.prog 177:=aR kR
theorem BX:dI Tryz.prog 121:=eH kR
theorem Kq:IsSlice Tryz.prog 121 90 1:=eL kR
theorem pR:dI Tryz.prog 90:=eH kR
theorem rS:IsSlice Tryz.prog 90 4 1:=eL kR
theorem iG:dI Tryz.prog 4:=eH kR
theorem z66:dM Tryz.prog 66 [.slice none 0 0]:=cE kR
theorem Xp:dW Tryz.prog 121 90 1 24 [.slice none 0 0]:=gP kR kR
theorem Yb:dM Tryz.prog 121 [.slice none 0 0]:=cE kR
theorem Kr:dW Tryz.prog 81 65 1 24 [.slice none 0 0]:=gP kR kR
theorem Kt:dW Tryz.prog 90 4 1 1 [.bool false]:=gP kR kR
theorem Ay:IsSlice Tryz.prog 81 65 1:=eL kR
theorem pS:dI Tryz.prog 65:=eH kR
theorem xU:fY Tryz.prog 80 [(0,1),(1,1)] [.int .i64 0,.int .i64 0]:=Sl kR kR
theorem rT:dW Tryz.prog 65 80 2 16 [.int .i64 0,.int .i64 0]:=gP kR kR
theorem jE:IsSlice Tryz.prog 65 80 2:=eL kR
theorem fS:gS Tryz.prog 80 2:=fU kR
theorem z80:dM Tryz.prog 80 [.int .i64 0,.int .i64 0]:=cE kR
theorem kL:Tryz.prog.underlying 80=some (.array 2 3):=by kernel_rfl
end T
namespace prog6
theorem OO (s:SS) (hs:oK s) (x a:Nat) (hx:x<s.sT.length) (ha:a<(ix s.sT x).next.length) (h0:0≤ix (ix s.sT x).next a) (hH:Hol s (ix (ix s.sT x).next a).toNat) (st:LS) (hst:LInv s st) (c5 c4 c7:Nat) (w22 w20 w7:Value) (us:List Value) (hus:us.length=s.sT.length):
 AL.Fn Tryz.prog 177 [int (x:Int),int (a:Int),fp [strs s.aC,sl 2 sE s.sT],ptr 5 c5 0,ptr 4 c4 0,ptr 7 c7 0] (FT c5 c4 c7 w22 w20 us w7 st) (fun _ (_:Value)=>tup []) (fun v=>FT c5 c4 c7 w22 w20 us v (low s x (a:Int) st)):=by
 refine fnI Tryz.func177 rfl rfl (fun w0 F0=> ?_)
 have hf1:=hs.few1;have hox:=hs.st x hx;have hal:=hox.acl;have hn8:=hs.n8;have hln:=hox.len
 refine sq (rg (fF J T.bO (lF J J T.cM (mv (iF J J T.dB O gB (fF J T.cY (lF J J T.bF (fc (bL 15 J) fun hm15=>(lnF J T.aT (mv (nl (th (bk ?_)))))))))))))
 have hI0_0:0≤(ix s.sT x).aP.length:=by
  first|omega|simp
 have hI0_1:(⟨st.left,st.dead,st.out⟩:LS)=(nX s x (a:Int) 0 st):=by
  rfl
 refine lp (κ:=Nat × (List Int) × (List (List Bool)) × Value × (List Int)) (fun p=> [(0,int (x:Int)),(1,int (a:Int)),(3,ptr 5 c5 0),(4,ptr 4 c4 0),(5,ptr 7 c7 0),(15,sl 1 nE (ix s.sT x).aP),(16,int ((ix s.sT x).aP.length:Int)),(17,int (p.1:Int))]) (fun p=> [(4,cell c4 [osl 20 w20]),(5,cell c5 [osl 22 w22]),(7,cell c7 [osl 70 p.2.2.2.1]),(20,own w20 3 1 nE p.2.1),(22,own w22 90 1 dG us),(70,own p.2.2.2.1 3 1 nE p.2.2.2.2),(221,aX us 4 1 blE p.2.2.1 none)]) (fun p=>(p.1≤(ix s.sT x).aP.length)∧((⟨p.2.1,p.2.2.1,p.2.2.2.2⟩:LS)=(nX s x (a:Int) p.1 st))) (fun p=>(ix s.sT x).aP.length- p.1) ⟨0,st.left,st.dead,w7,st.out⟩ ⟨hI0_0,hI0_1⟩ ⟨id,id,id,id,id,id,id,id,tV⟩ ⟨rI,rI,rI,rI,rI,rI,rI,tV⟩ ?_
 intro⟨k,left,dead,u7,out⟩ hG0
 obtain⟨hk0,hI0⟩:(k≤(ix s.sT x).aP.length)∧((⟨left,dead,out⟩:LS)=(nX s x (a:Int) k st)):=hG0
 show Ct _ _ _ _ [(0,int (x:Int)),(1,int (a:Int)),(3,ptr 5 c5 0),(4,ptr 4 c4 0),(5,ptr 7 c7 0),(15,sl 1 nE (ix s.sT x).aP),(16,int ((ix s.sT x).aP.length:Int)),(17,int (k:Int))] [(4,cell c4 [osl 20 w20]),(5,cell c5 [osl 22 w22]),(7,cell c7 [osl 70 u7]),(20,own w20 3 1 nE left),(22,own w22 90 1 dG us),(70,own u7 3 1 nE out),(221,aX us 4 1 blE dead none)] _
 obtain⟨hL,hLe,_⟩:=Av hx ha h0 hH hst k hk0
 rw[←hI0] at hL
 have hac:=fun h=>hox.ac k h
 have hll:=hL.ll
 have hdl:=hL.dl
 have hdx:=hL.dx x hx
 have hcn:=hL.cnt x hx
 have hol:=hL.len
 dsimp only at hll hdl hdx hcn hol
 refine sq (rg (bi J J aZ (nl (th (sq ?_)))))
 refine cd J (fun hc0=> ?_) (fun hc0=> ?_)
 ·try simp at hc0
  refine sk (th (sq (bk (sq (rg (mv (iF J J T.aT O gB (lF J J T.aH (ag (ag (nl (th (sq (rg (mv (mv (bi J J (Bt O O O) (bi J J (FB (m:=((ix (ix s.sT x).aP k).toNat>>>a)) (Nat.lt_of_le_of_lt (Nat.shiftRight_le _ _) (by have:=hac hc0;omega))) (bi J J gF (mv ?_))))))))))))))))))))
  apply fT (t:=27) (pd:=36) rfl
  rotate_left
  ·intro hg0 fin
   have hg0':=hg0
   try simp at hg0'
   exact gy J J J hg0 (lP J J J T.BX (gy J J J hg0 (mv (gy J J J hg0 (iO J J J T.Kq O O (gy J J J hg0 (lO J J gB J T.pR (tkB 221 31 x J J (by decide) (gK O) (gK O) (kn 31 (osl 31 (ix us x)) J dR (gy J J J hg0 (mv (gy J J J hg0 (iO J J J T.rS O O (gy J J J hg0 (lO J J gB J T.iG (gvR 221 31 x J J (by decide) (gK O) (gK O) (gy J J J hg0 (no J (pkT J hg0 J (drp (X:= [(35,_),(34,_),(33,_),(32,_),(31,_),(31,_),(30,_),(29,_),(28,_)]) ⟨J,J,J,J,J,J,J,J,J,tV⟩ fin))))))))))))))))))))
  ·intro hg0 fin
   exact gn J J J hg0 J J (gn J J J hg0 J J (gn J J J hg0 J J (gn J J J hg0 J J (gn J J J hg0 J J (gn J J J hg0 J J (gn J J J hg0 J J (gn J J J hg0 J J (pkF J hg0 J (drp (X:= [(35,_),(34,_),(33,_),(32,_),(31,_),(30,_),(29,_),(28,_)]) ⟨J,J,J,J,J,J,J,J,tV⟩ fin)))))))))
  refine nl (th ?_)
  refine cd J (fun hc1=> ?_) (fun hc1=> ?_)
  ·try simp at hc1
   refine sq (rg (lP J J J T.BX (mv (iO J J J T.Kq O O (lO J J gB J T.pR (tkB 221 40 x J J (by decide) (gK O) (gK O) (kn 40 (osl 40 (ix us x)) J dR (mv (iO J J J T.rS O O (sO (φ:=bl true) J J J T.iG gB J (y':=true) J (nl (th (sq (rg (gvU 221 40 x J J (by decide) (gK O) (lP J J J T.bF (mv (iO J J J T.aT O O (lO J J gB J T.aH (bi J J (mI (by have hcl:=List.count_le_length (a:=false) (l:=ix dead x);unfold I64;omega)) (iO J J J T.aT O O (sO (φ:=int ((ix left x)- 1)) J J J T.aH gB J (y':=((ix left x)- 1)) J (nl (th (sq (rg (lP J J J T.bF (mv (iO J J J T.aT O (by simp;omega) (lO J J (by first|exact gN (by simp;omega)|exact gI O (by simp;omega)) J T.aH (bi J J gF (nl (th ?_)))))))))))))))))))))))))))))))))
   refine cd J (fun hc2=> ?_) (fun hc2=> ?_)
   ·try simp at hc2
    refine rg (lP J J J T.bF (mv (bsE (enc:=nE) (xs:= [(x:Int)]) (css:= [[int (x:Int)]]) T.cQ ⟨J,J,p1 (φ:=int (x:Int)) J,tV⟩ J J J J (ap (key:=70) (zs:= [(x:Int)]) cB J J J T.cQ (by unfold aN at*;simp;omega) (by unfold aN at*;simp;omega) fun v57=>(cK J J J J T.bF J (nl (eb (th (rg (bi J J (aM i6) (mv (nl ?_))))))))))))
    have hN0:(k+1)≤(ix s.sT x).aP.length:=by
     first|omega|simp_all
    have hN1:(⟨(left.set x ((ix left x)- 1)),(dead.set x ((ix dead x).set k true)),(out++ [(x:Int)])⟩:LS)=(nX s x (a:Int) (k+1) st):=by
     show _=rR s x a k (nX s x a k st)
     rw[←hI0]
     unfold rR
     have hcc:(has (ix (ix s.sT x).aP k) (a:Int)&& !ix (ix dead x) k)=true:=by rw[oV];simpa using hc1
     have hz:ix left x- 1=0:=by simpa [mC (xs:=left) (k:=x) O] using hc2
     simp[hcc,hz]
    exact ln (⟨k+1,left.set x ((ix left x)- 1),dead.set x ((ix dead x).set k true),v57,out++ [(x:Int)]⟩:Nat × (List Int) × (List (List Bool)) × Value × (List Int)) ⟨hN0,hN1⟩ dO ⟨id,id,id,id,id,id,id,id,tV⟩ ⟨rI,rI,rI,rI,rI,rI,rI,tV⟩
   ·try simp at hc2
    refine sk (eb (th (rg (bi J J (aM i6) (mv (nl ?_))))))
    have hN0:(k+1)≤(ix s.sT x).aP.length:=by
     first|omega|simp_all
    have hN1:(⟨(left.set x ((ix left x)- 1)),(dead.set x ((ix dead x).set k true)),out⟩:LS)=(nX s x (a:Int) (k+1) st):=by
     show _=rR s x a k (nX s x a k st)
     rw[←hI0]
     unfold rR
     have hcc:(has (ix (ix s.sT x).aP k) (a:Int)&& !ix (ix dead x) k)=true:=by rw[oV];simpa using hc1
     have hz:¬ix left x- 1=0:=by simpa [mC (xs:=left) (k:=x) O] using hc2
     simp[hcc,hz]
    exact ln (⟨k+1,left.set x ((ix left x)- 1),dead.set x ((ix dead x).set k true),u7,out⟩:Nat × (List Int) × (List (List Bool)) × Value × (List Int)) ⟨hN0,hN1⟩ dO ⟨id,id,id,id,id,id,id,id,tV⟩ ⟨rI,rI,rI,rI,rI,rI,rI,tV⟩
  ·try simp at hc1
   refine sk (eb (th (rg (bi J J (aM i6) (mv (nl ?_))))))
   have hN0:(k+1)≤(ix s.sT x).aP.length:=by
    first|omega|simp_all
   have hN1:(⟨left,dead,out⟩:LS)=(nX s x (a:Int) (k+1) st):=by
    show _=rR s x a k (nX s x a k st)
    rw[←hI0]
    unfold rR
    have hcc:(has (ix (ix s.sT x).aP k) (a:Int)&& !ix (ix dead x) k)=false:=by rw[oV];simpa using hc1
    simp[hcc]
   exact ln (⟨k+1,left,dead,u7,out⟩:Nat × (List Int) × (List (List Bool)) × Value × (List Int)) ⟨hN0,hN1⟩ dO ⟨id,id,id,id,id,id,id,id,tV⟩ ⟨rI,rI,rI,rI,rI,rI,rI,tV⟩
 ·try simp at hc0
  refine ex (xt_ (xt_ (xb ?_)))
  have hlow:low s x (a:Int) st=⟨left,dead,out⟩:=by unfold low;rw[hI0,show(ix s.sT x).aP.length=k by omega]
  exact rE u7 [] J [] trivial J (by show SubH (FT c5 c4 c7 w22 w20 us u7 (low s x (a:Int) st)) _;rw[hlow];exact⟨rI,rI,rI,rI,rI,rI,rI,tV⟩) eX
theorem OP (s:SS) (hs:oK s):
 Fn0 Tryz.prog 144 [spec s] (ints (eP s)):=by
 refine fnI Tryz.func144 rfl rfl (fun w0 F0=> ?_)
 have hf1:=hs.few1;have hn8:=hs.n8
 refine fcC (bW 0 J) (fun hS0=> ?_)
 obtain⟨hsa0,hss0,hse0⟩:=sLn hS0
 refine sq (rg (bx (key:=1) (cs:= [sl 1 rE_ s.aC,sl 2 sE s.sT]) J fun b1=>(ag (nl (th (sq (rg (fzv 1 1 J J (fF J T.bO (lF J J T.cM (fc (bL 17 J) fun hm17=>(lnF J T.dB (ag (nl (th (sq (rg (mv (mk (key:=20) (m:=s.sT.length) (enc:=nE) (y:=(0:Int)) J J T.cQ (eC eZ) mL mL fun v20=>(al (key:=4) T.z66 (eC eZ) fun b4=>(cK J J J J T.bF J (nl (th (sq (rg (mv (mk (key:=22) (m:=s.sT.length) (enc:=dG) (y:=(.slice none 0 0:Value)) J J T.Xp (eC eZ) mL mL fun v22=>(al (key:=5) T.Yb (eC eZ) fun b5=>(cK J J J J T.BX J (nl (th (sq (rg (nbB 221 s.sT.length 4 1 blE (mv (mk (key:=24) (m:=s.sT.length) (enc:=dG) (y:=(.slice none 0 0:Value)) J J T.Kr (eC eZ) mL mL fun v24=>(ag (nl (th (sq (rg (al (key:=7) T.z66 (eC eZ) fun b7=>(nl (th (sq (sq (rg (nw 70 3 1 nE (knc 7 0 (osl 70 (.slice none 0 0)) J J dR (nbB 241 s.sT.length 80 2 pE (fF J T.bO (lF J J T.cM (lnF J T.dB (mv (nl (th (bk ?_)))))))))))))))))))))))))))))))))))))))))))))))))))))))))
 have hI0_0:0≤s.sT.length:=by
  first|omega|simp
 have hI0_1:(List.replicate s.sT.length (.slice none 0 0:Value)).length=s.sT.length∧(List.replicate s.sT.length (.slice none 0 0:Value)).length=s.sT.length∧(⟨(List.replicate s.sT.length (0:Int)),(List.replicate s.sT.length []),([]:List Int)⟩:LS)=init s 0∧(List.replicate s.sT.length [])=(List.range s.sT.length).map (dJ s 0):=by
  exact⟨by simp,by simp,by rw[Mc],(Ko s).symm⟩
 refine lp (κ:=Nat × (List Value) × (List (List Bool)) × (List Int) × Value × (List Int) × (List Value) × (List (List (Int × Int)))) (fun p=> [(1,fp [sl 1 rE_ s.aC,sl 2 sE s.sT]),(2,eqv (.slice none 0 0)),(4,ptr 4 b4 0),(5,ptr 5 b5 0),(6,osl 24 v24),(7,ptr 7 b7 0),(26,sl 2 sE s.sT),(27,int (s.sT.length:Int)),(28,int (p.1:Int))]) (fun p=> [(4,cell b4 [osl 20 v20]),(5,cell b5 [osl 22 v22]),(7,cell b7 [osl 70 p.2.2.2.2.1]),(20,own v20 3 1 nE p.2.2.2.1),(22,own v22 90 1 dG p.2.1),(24,own v24 65 1 dG p.2.2.2.2.2.2.1),(70,own p.2.2.2.2.1 3 1 nE p.2.2.2.2.2.1),(221,aX p.2.1 4 1 blE p.2.2.1 none),(241,aX p.2.2.2.2.2.2.1 80 2 pE p.2.2.2.2.2.2.2 none)]) (fun p=>(p.1≤s.sT.length)∧(p.2.1.length=s.sT.length∧p.2.2.2.2.2.2.1.length=s.sT.length∧(⟨p.2.2.2.1,p.2.2.1,p.2.2.2.2.2.1⟩:LS)=init s p.1∧p.2.2.2.2.2.2.2=(List.range s.sT.length).map (dJ s p.1))) (fun p=>s.sT.length- p.1) ⟨0,List.replicate s.sT.length (.slice none 0 0:Value),List.replicate s.sT.length [],List.replicate s.sT.length (0:Int),(.slice none 0 0),([]:List Int),List.replicate s.sT.length (.slice none 0 0:Value),List.replicate s.sT.length []⟩ ⟨hI0_0,hI0_1⟩ ⟨id,id,id,id,id,id,id,id,id,tV⟩ ⟨rI,rI,rI,rI,rI,rI,rI,rI,rI,tV⟩ ?_
 intro⟨k,us,dead,left,u7,out,us2,into⟩ hG0
 obtain⟨hk0,hI0⟩:(k≤s.sT.length)∧(us.length=s.sT.length∧us2.length=s.sT.length∧(⟨left,dead,out⟩:LS)=init s k∧into=(List.range s.sT.length).map (dJ s k)):=hG0
 show Ct _ _ _ _ [(1,fp [sl 1 rE_ s.aC,sl 2 sE s.sT]),(2,eqv (.slice none 0 0)),(4,ptr 4 b4 0),(5,ptr 5 b5 0),(6,osl 24 v24),(7,ptr 7 b7 0),(26,sl 2 sE s.sT),(27,int (s.sT.length:Int)),(28,int (k:Int))] [(4,cell b4 [osl 20 v20]),(5,cell b5 [osl 22 v22]),(7,cell b7 [osl 70 u7]),(20,own v20 3 1 nE left),(22,own v22 90 1 dG us),(24,own v24 65 1 dG us2),(70,own u7 3 1 nE out),(221,aX us 4 1 blE dead none),(241,aX us2 80 2 pE into none)] _
 obtain⟨hul,hul2,hst,hin⟩:=hI0
 have hdl:dead.length=s.sT.length:=by have:=congrArg (fun z=>z.dead.length) hst;simpa [init] using this
 have hll:left.length=s.sT.length:=by have:=congrArg (fun z=>z.left.length) hst;simpa [init] using this
 have hil:into.length=s.sT.length:=by rw[hin];simp
 have hol:out.length≤s.sT.length:=by have:=congrArg (fun z=>z.out.length) hst;have h2:=Ie s k;dsimp only at this;omega
 refine sq (rg (bi J J aZ (nl (th (sq ?_)))))
 refine cd J (fun hc0=> ?_) (fun hc0=> ?_)
 ·try simp at hc0
  have hox:=hs.st k hc0;have hxl:=hox.len;have hxa:=hox.acl
  refine sk (th (sq (bk (sq (rg (mv (iF J J T.dB O gB (lFA J T.eO (Nat.le_of_ble_eq_true J) (al (key:=9) T.z79 (eC (eC eZ)) fun b9=>(ag (sPA (cs':= [sl 1 nE (ix s.sT k).aP,sl 1 nE (ix s.sT k).next]) J J J T.eO J J (nl (th (sq (OB 221 99 k J J (by decide) (gK O) (gK O) ?_)))))))))))))))
  refine drH (nh:=15) [0,0,0,0,0,16,48,0,128,384,896,115,2163,8191,16383] [(none,[4]),(none,[]),(none,[5]),(none,[]),(none,[]),(none,[9]),(none,[]),(none,[]),(none,[9]),(none,[]),(some 43,[]),(none,[20]),(some 20,[20]),(none,[22]),(some 22,[22])] T.mixed kR kR ?_
  refine stv (d:=33) (fun β0=>osl 20 v20) [4] J bH (fun β0 _ _ _ _ gq gh kq=>lP (gq.1.trans J) (gh.1.trans J) J T.bF kq) ?_
  refine stv (d:=34) (fun β0=>int (k:Int)) [] J bH (fun β0 _ _ _ _ gq gh kq=>mv' (gq.1.trans J) kq) ?_
  refine stv (d:=35) (fun β0=>osl 22 v22) [5] J bH (fun β0 _ _ _ _ gq gh kq=>lP (gq.1.trans J) (gh.1.trans J) J T.BX kq) ?_
  refine stv (d:=36) (fun β0=>int (k:Int)) [] J bH (fun β0 _ _ _ _ gq gh kq=>mv' (gq.1.trans J) kq) ?_
  refine stv (d:=37) (fun β0=>ptr 9 b9 0) [] J bH (fun β0 _ _ _ _ gq gh kq=>fP (gq.1.trans J) T.cY kq) ?_
  refine stv (d:=38) (fun β0=>sl 1 nE (ix s.sT k).aP) [9] J bH (fun β0 _ _ _ _ gq gh kq=>lP (gq.1.trans J) (gh.1.trans J) J T.bF kq) ?_
  refine stv (d:=39) (fun β0=>int ((ix s.sT k).aP.length:Int)) [] J bH (fun β0 _ _ _ _ gq gh kq=>lnF (gq.1.trans J) T.aT kq) ?_
  refine stv (d:=40) (fun β0=>ptr 9 b9 0) [] J bH (fun β0 _ _ _ _ gq gh kq=>fP (gq.1.trans J) T.cY kq) ?_
  refine stv (d:=41) (fun β0=>sl 1 nE (ix s.sT k).aP) [9] J bH (fun β0 _ _ _ _ gq gh kq=>lP (gq.1.trans J) (gh.1.trans J) J T.bF kq) ?_
  refine stv (d:=42) (fun β0=>int ((ix s.sT k).aP.length:Int)) [] J bH (fun β0 _ _ _ _ gq gh kq=>lnF (gq.1.trans J) T.aT kq) ?_
  refine stm (m:=(ix s.sT k).aP.length) (enc:=blE) (y:=false) 43 T.Kt (eC eZ) mL mL (fun β0 _ gq=>⟨(gq.1.trans rfl),(gq.2.1.trans rfl)⟩) ?_
  refine stv (d:=44) (fun β0=>dL 20 v20 1 k 0) [20] J bH (fun β0 _ _ _ _ gq gh kq=>iO (gq.1.trans J) (gh.1.trans J) (gq.2.1.trans J) T.aT O O kq) ?_
  refine stw 20 (fun β0=>own v20 3 1 nE (left.set k ((ix s.sT k).aP.length:Int))) [20] J bH (fun β0 _ _ _ _ gq gh kq=>sO (φ:=int ((ix s.sT k).aP.length:Int)) (gq.1.trans J) (gh.1.trans J) (gq.2.1.trans J) T.aH gB J (y':=((ix s.sT k).aP.length:Int)) J kq) ?_
  refine stv (d:=45) (fun β0=>dL 22 v22 1 k 0) [22] J bH (fun β0 _ _ _ _ gq gh kq=>iO (gq.1.trans J) (gh.1.trans J) (gq.2.1.trans J) T.Kq O O kq) ?_
  refine stw 22 (fun β0=>own v22 90 1 dG (us.set k (.slice (some ⟨gbk (β0 10),0,none⟩) (ix s.sT k).aP.length (ix s.sT k).aP.length))) [22] J (fun β β' hb=>by first|rw[hb 10 J]|(dsimp only;rw[hb 10 J])) (fun β0 _ _ _ _ gq gh kq=>sO (φ:=eqv (.slice (some ⟨gbk (β0 10),0,none⟩) (ix s.sT k).aP.length (ix s.sT k).aP.length)) (gq.1.trans J) (gh.1.trans J) ((gq.2.1.trans J).trans dV) T.pR gB J (y':=(.slice (some ⟨gbk (β0 10),0,none⟩) (ix s.sT k).aP.length (ix s.sT k).aP.length)) J kq) ?_
  refine pnH fun β0=>(nl (th (sq (sq (rg (gvB (us:=us) 221 43 k J J (by decide) O (lP J J J T.bF (mv (iO J J J T.aT O (by simp;omega) (lO J J (by first|exact gN (by simp;omega)|exact gI O (by simp;omega)) J T.aH (bi J J gF (nl (th ?_)))))))))))))
  refine jn (κ:=Value × (List Int)) (fun p=> [(1,fp [sl 1 rE_ s.aC,sl 2 sE s.sT]),(2,eqv (.slice none 0 0)),(4,ptr 4 b4 0),(5,ptr 5 b5 0),(6,osl 24 v24),(7,ptr 7 b7 0),(8,int (k:Int)),(9,ptr 9 b9 0),(26,sl 2 sE s.sT),(27,int (s.sT.length:Int)),(28,int (k:Int))]) (fun p=> [(4,cell b4 [osl 20 v20]),(5,cell b5 [osl 22 v22]),(7,cell b7 [osl 70 p.1]),(9,cell b9 [sl 1 nE (ix s.sT k).aP,sl 1 nE (ix s.sT k).next]),(20,own v20 3 1 nE (left.set k ((ix s.sT k).aP.length:Int))),(22,own v22 90 1 dG (us.set k (.slice (some ⟨gbk (β0 10),0,none⟩) (ix s.sT k).aP.length (ix s.sT k).aP.length))),(24,own v24 65 1 dG us2),(70,own p.1 3 1 nE p.2),(99,own (ix us k) 4 1 blE (ix dead k)),(221,aX (us.set k (.slice (some ⟨gbk (β0 10),0,none⟩) (ix s.sT k).aP.length (ix s.sT k).aP.length)) 4 1 blE (dead.set k (List.replicate (ix s.sT k).aP.length false)) none),(241,aX us2 80 2 pE into none)]) (fun p=>p.2=if ((ix s.sT k).aP.length:Int)=0 then out++ [(k:Int)] else out) ?_ ?_
  ·
   refine cd J (fun hc1=> ?_) (fun hc1=> ?_)
   ·try simp at hc1
    refine rg (lP J J J T.bF (mv (bsE (enc:=nE) (xs:= [(k:Int)]) (css:= [[int (k:Int)]]) T.cQ ⟨J,J,p1 (φ:=int (k:Int)) J,tV⟩ J J J J (ap (key:=70) (zs:= [(k:Int)]) cB J J J T.cQ (by unfold aN at*;simp;omega) (by unfold aN at*;simp;omega) fun v54=>(cK J J J J T.bF J (nl ?_))))))
    have hN0:(out++ [(k:Int)])=if ((ix s.sT k).aP.length:Int)=0 then out++ [(k:Int)] else out:=by
     rw[mC O,if_pos (by simp)] at hc1
     rw[if_pos hc1]
    exact jx ⟨v54,out++ [(k:Int)]⟩ hN0 ⟨id,id,id,id,id,id,id,id,id,id,id,tV⟩ ⟨rI,rI,rI,rI,rI,rI,rI,rI,rI,rI,rI,tV⟩
   ·try simp at hc1
    refine sk ?_
    have hN0:out=if ((ix s.sT k).aP.length:Int)=0 then out++ [(k:Int)] else out:=by
     rw[mC O,if_pos (by simp)] at hc1
     rw[if_neg hc1]
    exact jx ⟨u7,out⟩ hN0 ⟨id,id,id,id,id,id,id,id,id,id,id,tV⟩ ⟨rI,rI,rI,rI,rI,rI,rI,rI,rI,rI,rI,tV⟩
  ·intro⟨w7,ou⟩ hG
   have hJ1:ou=if ((ix s.sT k).aP.length:Int)=0 then out++ [(k:Int)] else out:=hG
   skip
   show At _ _ _ [(1,fp [sl 1 rE_ s.aC,sl 2 sE s.sT]),(2,eqv (.slice none 0 0)),(4,ptr 4 b4 0),(5,ptr 5 b5 0),(6,osl 24 v24),(7,ptr 7 b7 0),(8,int (k:Int)),(9,ptr 9 b9 0),(26,sl 2 sE s.sT),(27,int (s.sT.length:Int)),(28,int (k:Int))] [(4,cell b4 [osl 20 v20]),(5,cell b5 [osl 22 v22]),(7,cell b7 [osl 70 w7]),(9,cell b9 [sl 1 nE (ix s.sT k).aP,sl 1 nE (ix s.sT k).next]),(20,own v20 3 1 nE (left.set k ((ix s.sT k).aP.length:Int))),(22,own v22 90 1 dG (us.set k (.slice (some ⟨gbk (β0 10),0,none⟩) (ix s.sT k).aP.length (ix s.sT k).aP.length))),(24,own v24 65 1 dG us2),(70,own w7 3 1 nE ou),(99,own (ix us k) 4 1 blE (ix dead k)),(221,aX (us.set k (.slice (some ⟨gbk (β0 10),0,none⟩) (ix s.sT k).aP.length (ix s.sT k).aP.length)) 4 1 blE (dead.set k (List.replicate (ix s.sT k).aP.length false)) none),(241,aX us2 80 2 pE into none)]
   refine th (sq (rg (fP rfl T.eM (lP rfl rfl rfl T.bF (fc (bL 56 rfl) fun hm56=>(lnF rfl T.aT (mv (nl (th (bk ?_))))))))))
   have hI1_0:0≤(ix s.sT k).next.length:=by
    first|omega|simp
   have hI1_1:us2.length=s.sT.length∧into=(List.range s.sT.length).map (fun y=>dJ s k y++fA s k y 0):=by
    exact⟨hul2,by rw[hin];exact List.map_congr_left (fun y _=>by simp[fA])⟩
   refine lp (κ:=Nat × (List Value) × (List (List (Int × Int)))) (fun p=> [(1,fp [sl 1 rE_ s.aC,sl 2 sE s.sT]),(2,eqv (.slice none 0 0)),(4,ptr 4 b4 0),(5,ptr 5 b5 0),(6,osl 24 v24),(7,ptr 7 b7 0),(8,int (k:Int)),(26,sl 2 sE s.sT),(27,int (s.sT.length:Int)),(28,int (k:Int)),(56,sl 1 nE (ix s.sT k).next),(57,int ((ix s.sT k).next.length:Int)),(58,int (p.1:Int))]) (fun p=> [(4,cell b4 [osl 20 v20]),(5,cell b5 [osl 22 v22]),(7,cell b7 [osl 70 w7]),(9,cell b9 [sl 1 nE (ix s.sT k).aP,sl 1 nE (ix s.sT k).next]),(20,own v20 3 1 nE (left.set k ((ix s.sT k).aP.length:Int))),(22,own v22 90 1 dG (us.set k (.slice (some ⟨gbk (β0 10),0,none⟩) (ix s.sT k).aP.length (ix s.sT k).aP.length))),(24,own v24 65 1 dG p.2.1),(70,own w7 3 1 nE ou),(99,own (ix us k) 4 1 blE (ix dead k)),(221,aX (us.set k (.slice (some ⟨gbk (β0 10),0,none⟩) (ix s.sT k).aP.length (ix s.sT k).aP.length)) 4 1 blE (dead.set k (List.replicate (ix s.sT k).aP.length false)) none),(241,aX p.2.1 80 2 pE p.2.2 none)]) (fun p=>(p.1≤(ix s.sT k).next.length)∧(p.2.1.length=s.sT.length∧p.2.2=(List.range s.sT.length).map (fun y=>dJ s k y++fA s k y p.1))) (fun p=>(ix s.sT k).next.length- p.1) ⟨0,us2,into⟩ ⟨hI1_0,hI1_1⟩ ⟨id,id,id,id,id,id,id,id,id,id,id,id,id,tV⟩ ⟨rI,rI,rI,rI,rI,rI,rI,rI,rI,rI,rI,tV⟩ ?_
   intro⟨k1,us3,into3⟩ hG1
   obtain⟨hk1,hI1⟩:(k1≤(ix s.sT k).next.length)∧(us3.length=s.sT.length∧into3=(List.range s.sT.length).map (fun y=>dJ s k y++fA s k y k1)):=hG1
   show Ct _ _ _ _ [(1,fp [sl 1 rE_ s.aC,sl 2 sE s.sT]),(2,eqv (.slice none 0 0)),(4,ptr 4 b4 0),(5,ptr 5 b5 0),(6,osl 24 v24),(7,ptr 7 b7 0),(8,int (k:Int)),(26,sl 2 sE s.sT),(27,int (s.sT.length:Int)),(28,int (k:Int)),(56,sl 1 nE (ix s.sT k).next),(57,int ((ix s.sT k).next.length:Int)),(58,int (k1:Int))] [(4,cell b4 [osl 20 v20]),(5,cell b5 [osl 22 v22]),(7,cell b7 [osl 70 w7]),(9,cell b9 [sl 1 nE (ix s.sT k).aP,sl 1 nE (ix s.sT k).next]),(20,own v20 3 1 nE (left.set k ((ix s.sT k).aP.length:Int))),(22,own v22 90 1 dG (us.set k (.slice (some ⟨gbk (β0 10),0,none⟩) (ix s.sT k).aP.length (ix s.sT k).aP.length))),(24,own v24 65 1 dG us3),(70,own w7 3 1 nE ou),(99,own (ix us k) 4 1 blE (ix dead k)),(221,aX (us.set k (.slice (some ⟨gbk (β0 10),0,none⟩) (ix s.sT k).aP.length (ix s.sT k).aP.length)) 4 1 blE (dead.set k (List.replicate (ix s.sT k).aP.length false)) none),(241,aX us3 80 2 pE into3 none)] _
   have hul3:=hI1.1
   have hil3:into3.length=s.sT.length:=by rw[hI1.2];simp
   refine sq (rg (bi J J aZ (nl (th (sq ?_)))))
   refine cd J (fun hc2=> ?_) (fun hc2=> ?_)
   ·try simp at hc2
    have hnx:=hox.nx k1 O
    refine sk (th (sq (bk (sq (rg (mv (iF J J T.aT O gB (lF J J T.aH (ag (ag (nl (th (sq (rg (mv (bi J J jG (nl (th ?_))))))))))))))))))
    refine cd J (fun hc3=> ?_) (fun hc3=> ?_)
    ·try simp at hc3
     have hpb:(ix into3 (ix (ix s.sT k).next k1).toNat).length≤80000:=by
      rw[hI1.2,cG O,List.length_append]
      have h1:=Aw (s:=s) (y:=(ix (ix s.sT k).next k1).toNat) (m:=8) k (fun x hx=>by rw[(hs.st x O).len];exact hn8)
      have h2:=Em s k (ix (ix s.sT k).next k1).toNat k1
      omega
     refine rg (mv (mv (mv (mv (iO J J J T.Ay O O (lO J J gB J T.pS (tkB 241 75 (ix (ix s.sT k).next k1).toNat J J (by decide) (gK O) (gK O) (kn 70 (osl 75 (ix us3 (ix (ix s.sT k).next k1).toNat)) J dR (mv (mv (bd (css:= [(0,_),(1,_)]) T.xU (eC (eC eZ)) ⟨J,J,p1 (φ:=int (k:Int)) J,⟨J,J,p1 (φ:=int (k1:Int)) J,tV⟩⟩ (bs (css:= [[int (k:Int),int (k1:Int)]]) T.rT ⟨J,J,pA (cs:= [int (k:Int),int (k1:Int)]) J,tV⟩ J J J (ap (key:=75) (zs:= [((k:Int),(k1:Int))]) cB J J J T.rT (by unfold aN at*;simp;omega) (by unfold aN at*;simp;omega) fun v75=>(iO J J J T.Ay O O (sOO (k2:=75) J J dV J T.pS gB J (y':=v75) J (gvB (us:=us3) 241 75 (ix (ix s.sT k).next k1).toNat J J (by decide) O (nl (eb (th (rg (bi J J (aM i6) (mv (nl ?_)))))))))))))))))))))))
     have hN0:(k1+1)≤(ix s.sT k).next.length:=by
      first|omega|simp_all
     have hN1:(us3.set (ix (ix s.sT k).next k1).toNat v75).length=s.sT.length∧(into3.set (ix (ix s.sT k).next k1).toNat ((ix into3 (ix (ix s.sT k).next k1).toNat)++ [((k:Int),(k1:Int))]))=(List.range s.sT.length).map (fun y=>dJ s k y++fA s k y (k1+1)):=by
      have ht:(ix (ix s.sT k).next k1).toNat<s.sT.length:=by omega
      refine⟨by simpa using hul3,?_⟩
      have e:ix into3 (ix (ix s.sT k).next k1).toNat=dJ s k (ix (ix s.sT k).next k1).toNat++fA s k (ix (ix s.sT k).next k1).toNat k1:=by rw[hI1.2];exact cG ht
      rw[e,hI1.2]
      exact Kn O ht
     exact ln (⟨k1+1,us3.set (ix (ix s.sT k).next k1).toNat v75,into3.set (ix (ix s.sT k).next k1).toNat ((ix into3 (ix (ix s.sT k).next k1).toNat)++ [((k:Int),(k1:Int))])⟩:Nat × (List Value) × (List (List (Int × Int)))) ⟨hN0,hN1⟩ dO ⟨id,id,id,id,id,id,id,id,id,id,id,id,id,tV⟩ ⟨rI,rI,rI,rI,rI,rI,rI,rI,rI,rI,rI,tV⟩
    ·try simp at hc3
     refine sk (eb (th (rg (bi J J (aM i6) (mv (nl ?_))))))
     have hN0:(k1+1)≤(ix s.sT k).next.length:=by
      first|omega|simp_all
     have hN1:us3.length=s.sT.length∧into3=(List.range s.sT.length).map (fun y=>dJ s k y++fA s k y (k1+1)):=by
      refine⟨hul3,?_⟩
      rw[hI1.2]
      exact Ig O
     exact ln (⟨k1+1,us3,into3⟩:Nat × (List Value) × (List (List (Int × Int)))) ⟨hN0,hN1⟩ dO ⟨id,id,id,id,id,id,id,id,id,id,id,id,id,tV⟩ ⟨rI,rI,rI,rI,rI,rI,rI,rI,rI,rI,rI,tV⟩
   ·try simp at hc2
    refine ex (xt_ (xt_ (xb (eb (th (rg (bi J J (aM i6) (mv (nl ?_)))))))))
    have hN0:(k+1)≤s.sT.length:=by
     first|omega|simp_all
    have hN1:(us.set k (.slice (some ⟨gbk (β0 10),0,none⟩) (ix s.sT k).aP.length (ix s.sT k).aP.length)).length=s.sT.length∧us3.length=s.sT.length∧(⟨(left.set k ((ix s.sT k).aP.length:Int)),(dead.set k (List.replicate (ix s.sT k).aP.length false)),ou⟩:LS)=init s (k+1)∧into3=(List.range s.sT.length).map (dJ s (k+1)):=by
     rw[Md hc0,←hst,hJ1]
     refine⟨by simpa using hul,hI1.1,rfl,?_⟩
     rw[hI1.2,show k1=(ix s.sT k).next.length by omega]
     exact List.map_congr_left (fun y _=>(BV s k y).symm)
    exact ln (⟨k+1,us.set k (.slice (some ⟨gbk (β0 10),0,none⟩) (ix s.sT k).aP.length (ix s.sT k).aP.length),dead.set k (List.replicate (ix s.sT k).aP.length false),left.set k ((ix s.sT k).aP.length:Int),w7,ou,us3,into3⟩:Nat × (List Value) × (List (List Bool)) × (List Int) × Value × (List Int) × (List Value) × (List (List (Int × Int)))) ⟨hN0,hN1⟩ dO ⟨id,id,id,id,id,id,id,id,id,tV⟩ ⟨rI,rI,rI,rI,rI,rI,rI,rI,rI,tV⟩
 ·try simp at hc0
  refine ex (xt_ (xt_ (xb (th (sq (rg (mkf (ag (nl (th (sq (sq (rg (ag (nl (th (bk ?_)))))))))))))))))
  have hkn:k=s.sT.length:=by omega
  have hI2_0:(⟨left,dead,out⟩:LS)=rq s 0∧0≤out.length:=by
   rw[hst,hkn]
   exact⟨rfl,Nat.zero_le _⟩
  refine lp (κ:=Nat × (List (List Bool)) × (List Int) × Value × (List Int)) (fun p=> [(2,eqv (.slice none 0 0)),(6,osl 24 v24),(7,ptr 7 b7 0),(12,clo 177 [fp [sl 1 rE_ s.aC,sl 2 sE s.sT],ptr 5 b5 0,ptr 4 b4 0,ptr 7 b7 0]),(13,int (p.1:Int))]) (fun p=> [(4,cell b4 [osl 20 v20]),(5,cell b5 [osl 22 v22]),(7,cell b7 [osl 70 p.2.2.2.1]),(20,own v20 3 1 nE p.2.2.1),(22,own v22 90 1 dG us),(24,own v24 65 1 dG us2),(70,own p.2.2.2.1 3 1 nE p.2.2.2.2),(221,aX us 4 1 blE p.2.1 none),(241,aX us2 80 2 pE into none)]) (fun p=>(⟨p.2.2.1,p.2.1,p.2.2.2.2⟩:LS)=rq s p.1∧p.1≤p.2.2.2.2.length) (fun p=>s.sT.length- p.1) ⟨0,dead,left,u7,out⟩ hI2_0 ⟨id,id,id,id,id,tV⟩ ⟨rI,rI,rI,rI,rI,rI,rI,rI,rI,tV⟩ ?_
  intro⟨i,dead,left,u7,out⟩ hG2
  have hI2:(⟨left,dead,out⟩:LS)=rq s i∧i≤out.length:=hG2
  show Ct _ _ _ _ [(2,eqv (.slice none 0 0)),(6,osl 24 v24),(7,ptr 7 b7 0),(12,clo 177 [fp [sl 1 rE_ s.aC,sl 2 sE s.sT],ptr 5 b5 0,ptr 4 b4 0,ptr 7 b7 0]),(13,int (i:Int))] [(4,cell b4 [osl 20 v20]),(5,cell b5 [osl 22 v22]),(7,cell b7 [osl 70 u7]),(20,own v20 3 1 nE left),(22,own v22 90 1 dG us),(24,own v24 65 1 dG us2),(70,own u7 3 1 nE out),(221,aX us 4 1 blE dead none),(241,aX us2 80 2 pE into none)] _
  have hL:=nY s i
  rw[←hI2.1] at hL
  have hll:=hL.ll
  have hdl:=hL.dl
  have hol:=hL.len
  dsimp only at hll hdl hol
  refine sq (sq (rg (mv (lP J J J T.bF (lnO J J T.aT (bi J J aZ (nl (th ?_))))))))
  refine cd J (fun hc4=> ?_) (fun hc4=> ?_)
  ·try simp at hc4
   have hoy:=hL.outHol (gO hc4)
   dsimp only at hoy
   have hHy:=hoy.2.2
   have hiy:ix into (ix out i).toNat=dJ s s.sT.length (ix out i).toNat:=by rw[hin,hkn];exact cG O
   have hpb:(ix into (ix out i).toNat).length≤80000:=by
    rw[hiy]
    have h1:=Aw (s:=s) (y:=(ix out i).toNat) (m:=8) s.sT.length (fun x hx=>by rw[(hs.st x hx).len];exact hn8)
    omega
   refine sk (th (sq (bk (sq (rg (mv (lP J J J T.bF (mv (iO J J J T.aT O O (lO J J gB J T.aH (iO J J J T.Ay O O (lO J J gB J T.pS (tkB 241 92 (ix out i).toNat J J (by decide) (gK O) (gK O) (kn 92 (osl 92 (ix us2 (ix out i).toNat)) J dR (lnO J J T.jE (mv (nl (th (bk ?_)))))))))))))))))))
   have hI3_0:0≤(ix into (ix out i).toNat).length:=by
    first|omega|simp
   have hI3_1:(⟨left,dead,out⟩:LS)=procs s ((dJ s s.sT.length (ix out i).toNat).take 0) (rq s i):=by
    rw[List.take_zero];exact hI2.1
   refine lp (κ:=Nat × (List (List Bool)) × (List Int) × Value × (List Int)) (fun p=> [(2,eqv (.slice none 0 0)),(6,osl 24 v24),(7,ptr 7 b7 0),(12,clo 177 [fp [sl 1 rE_ s.aC,sl 2 sE s.sT],ptr 5 b5 0,ptr 4 b4 0,ptr 7 b7 0]),(13,int (i:Int)),(92,osl 92 (ix us2 (ix out i).toNat)),(93,int ((ix into (ix out i).toNat).length:Int)),(94,int (p.1:Int))]) (fun p=> [(4,cell b4 [osl 20 v20]),(5,cell b5 [osl 22 v22]),(7,cell b7 [osl 70 p.2.2.2.1]),(20,own v20 3 1 nE p.2.2.1),(22,own v22 90 1 dG us),(24,own v24 65 1 dG us2),(70,own p.2.2.2.1 3 1 nE p.2.2.2.2),(92,own (ix us2 (ix out i).toNat) 80 2 pE (ix into (ix out i).toNat)),(221,aX us 4 1 blE p.2.1 none),(241,aX us2 80 2 pE into (some (ix out i).toNat))]) (fun p=>(p.1≤(ix into (ix out i).toNat).length)∧((⟨p.2.2.1,p.2.1,p.2.2.2.2⟩:LS)=procs s ((dJ s s.sT.length (ix out i).toNat).take p.1) (rq s i))) (fun p=>(ix into (ix out i).toNat).length- p.1) ⟨0,dead,left,u7,out⟩ ⟨hI3_0,hI3_1⟩ ⟨id,id,id,id,id,id,id,id,tV⟩ ⟨rI,rI,rI,rI,rI,rI,rI,rI,rI,rI,tV⟩ ?_
   intro⟨k3,dead3,left3,u73,out3⟩ hG3
   obtain⟨hk3,hI3⟩:(k3≤(ix into (ix out i).toNat).length)∧((⟨left3,dead3,out3⟩:LS)=procs s ((dJ s s.sT.length (ix out i).toNat).take k3) (rq s i)):=hG3
   show Ct _ _ _ _ [(2,eqv (.slice none 0 0)),(6,osl 24 v24),(7,ptr 7 b7 0),(12,clo 177 [fp [sl 1 rE_ s.aC,sl 2 sE s.sT],ptr 5 b5 0,ptr 4 b4 0,ptr 7 b7 0]),(13,int (i:Int)),(92,osl 92 (ix us2 (ix out i).toNat)),(93,int ((ix into (ix out i).toNat).length:Int)),(94,int (k3:Int))] [(4,cell b4 [osl 20 v20]),(5,cell b5 [osl 22 v22]),(7,cell b7 [osl 70 u73]),(20,own v20 3 1 nE left3),(22,own v22 90 1 dG us),(24,own v24 65 1 dG us2),(70,own u73 3 1 nE out3),(92,own (ix us2 (ix out i).toNat) 80 2 pE (ix into (ix out i).toNat)),(221,aX us 4 1 blE dead3 none),(241,aX us2 80 2 pE into (some (ix out i).toNat))] _
   refine sq (rg (bi J J aZ (nl (th (sq ?_)))))
   refine cd J (fun hc5=> ?_) (fun hc5=> ?_)
   ·try simp at hc5
    obtain⟨px,pa,hpe,hpx,hpa,hp0,hpH⟩:=oT hHy (ix (ix into (ix out i).toNat) k3) (by rw[←hiy];exact aO O)
    have hps:=nG (ps:=(dJ s s.sT.length (ix out i).toNat).take k3) (fun p hp=>oT hHy p (List.mem_of_mem_take hp)) (nY s i)
    rw[←hI3] at hps
    have hp1:(ix (ix into (ix out i).toNat) k3).1=(px:Int):=by rw[hpe]
    have hp2:(ix (ix into (ix out i).toNat) k3).2=(pa:Int):=by rw[hpe]
    refine sk (th (sq (bk (sq (rg (iO J J J T.jE O O (lOA J J gB T.fS (by decide) (al (key:=15) T.z80 (eC (eC eZ)) fun b15=>(sPA (cs':= [int ((ix (ix into (ix out i).toNat) k3).1),int ((ix (ix into (ix out i).toNat) k3).2)]) J J J T.fS J J (nl (th (rg (mv (iPA J J T.kL T.aH J (lP J J J T.aH (iPA J J T.kL T.aH J (lP J J J T.aH (Rs (Hi:=FT b5 b4 b7 v22 v20 us u73 (⟨left3,dead3,out3⟩:LS)) (ι:=Value) (res:=fun _ _=>tup []) (Ho:=fun v=>FT b5 b4 b7 v22 v20 us v (low s px (pa:Int) (⟨left3,dead3,out3⟩:LS))) J (by show AL.Fn _ _ [int (ix (ix into (ix out i).toNat) k3).1,int (ix (ix into (ix out i).toNat) k3).2,_,_,_,_] _ _ _;rw[hp1,hp2];exact OO s hs px pa hpx hpa hp0 hpH (⟨left3,dead3,out3⟩:LS) hps.1 b5 b4 b7 v22 v20 u73 us hul) T.Ve ⟨rI,rI,rI,rI,rI,rI,rI,tV⟩ fun N z=>(nl (eb (th (rg (bi J J (aM i6) (mv (nl ?_)))))))))))))))))))))))))
    have hN0:(k3+1)≤(ix into (ix out i).toNat).length:=by
     first|omega|simp_all
    have hN1:(⟨(low s px (pa:Int) (⟨left3,dead3,out3⟩:LS)).left,(low s px (pa:Int) (⟨left3,dead3,out3⟩:LS)).dead,(low s px (pa:Int) (⟨left3,dead3,out3⟩:LS)).out⟩:LS)=procs s ((dJ s s.sT.length (ix out i).toNat).take (k3+1)) (rq s i):=by
     rw[bN (by rw[←hiy];omega),Kl,←hI3,←hiy,hpe]
     rfl
    exact ln (⟨k3+1,(low s px (pa:Int) (⟨left3,dead3,out3⟩:LS)).dead,(low s px (pa:Int) (⟨left3,dead3,out3⟩:LS)).left,z,(low s px (pa:Int) (⟨left3,dead3,out3⟩:LS)).out⟩:Nat × (List (List Bool)) × (List Int) × Value × (List Int)) ⟨hN0,hN1⟩ dO ⟨id,id,id,id,id,id,id,id,tV⟩ ⟨rI,rI,rI,rI,rI,rI,rI,rI,rI,rI,tV⟩
   ·try simp at hc5
    refine ex (xt_ (xt_ (xb (eb (th (rg (gvS 241 92 (ix out i).toNat J J (by decide) (gK O) (gK O) (mv (bi J J (aM i6) (ag (nl ?_)))))))))))
    have hN0:(⟨left3,dead3,out3⟩:LS)=rq s (i+1)∧(i+1)≤out3.length:=by
     have hps:=nG (oT hHy) (nY s i)
     rw[show k3=(dJ s s.sT.length (ix out i).toNat).length by rw[←hiy];omega,List.take_length] at hI3
     rw[←hI3,←hI2.1] at hps
     have hpl:=hps.2.1.1.length_le
     refine⟨?_,by dsimp only at hpl;omega⟩
     rw[hI3]
     show _=if _ then _ else _
     rw[←hI2.1,if_pos hc4]
    exact ln (⟨i+1,dead3,left3,u73,out3⟩:Nat × (List (List Bool)) × (List Int) × Value × (List Int)) hN0 dO ⟨id,id,id,id,id,tV⟩ ⟨rI,rI,rI,rI,rI,rI,rI,rI,rI,tV⟩
  ·try simp at hc4
   refine ex (xt_ (xt_ (xb (th (sq (rg (lP J J J T.bF (ag (nl (th (rt ?_)))))))))))
   refine fzA 70 2 rfl rfl ?_
   have hr0:out=(eP s):=by
    have hR:=OM (s:=s) (i:=i) (by rw[←hI2.1];exact hc4)
    rw[←hR,←hI2.1]
   exact rE () [.tmp 2] J [sl 1 nE out] ⟨.tmp J,tV⟩ (cA1 (fun x0=>rV [sl 1 nE x0]) hr0) trivial eX
end prog6
end
section
open ref01 ref03 ref04 ref06 Rungs
namespace LeftM
theorem dZ {n:Nat} {t x:Int}:x∈aL n t↔∃a:Nat,x=(a:Int)∧a<n∧has t (a:Int)=true:=by
 unfold aL
 constructor
 ·intro h
  obtain⟨a,ha,rfl⟩:=List.mem_map.1 h
  obtain⟨h1,h2⟩:=List.mem_filter.1 ha
  exact⟨a,rfl,List.mem_range.1 h1,h2⟩
 ·rintro⟨a,rfl,h1,h2⟩
  exact List.mem_map.2 ⟨a,List.mem_filter.2 ⟨List.mem_range.2 h1,h2⟩,rfl⟩
theorem lL {n m:Nat} {t x:Int} (h:(aL n t)[m]?=some x):∃a:Nat,x=(a:Int)∧a<n∧has t (a:Int)=true:=dZ.1 (List.mem_of_getElem? h)
def Ku (x:SA) (t:Int) (h:List Bool):Bool:=(aL 63 t).all fun a=> !ix h (ix x.next a.toNat).toNat
theorem IU {x:SA} {N n:Nat} (hx:okState x N n) (hn:n≤8) {t:Int} (ht:t∈x.aP) (h:List Bool):Ku x t h= !iP x t h:=by
 obtain⟨i,hi,e⟩:=mD ht
 have hgo:=hx.go i hi
 rw[e] at hgo
 unfold Ku
 rw[Bool.eq_iff_iff,List.all_eq_true,Bool.not_eq_true',←Bool.not_eq_true,kQ]
 constructor
 ·rintro h1 ⟨a,h2,h3,h4,h5⟩
  have:=h1 (a:Int) (dZ.2 ⟨a,rfl,by have:=hx.len;omega,h4⟩)
  rw[Int.toNat_natCast,h5] at this
  cases this
 ·intro h1 x' hx'
  obtain⟨a,rfl,h2,h3⟩:=dZ.1 hx'
  obtain⟨h4,h5⟩:=hgo a h3
  rw[Int.toNat_natCast]
  cases hb:ix h (ix x.next a).toNat with
  |false=>rfl
  |true=>exact absurd ⟨a,by have:=hx.len;omega,h5,h3,hb⟩ h1
theorem Me {x:SA} {t:Int} {h:List Bool} {m:Nat} {a:Int} (ha:(aL 63 t)[m]?=some a):((aL 63 t).take (m+1)).all (fun a=> !ix h (ix x.next a.toNat).toNat)=(((aL 63 t).take m).all (fun a=> !ix h (ix x.next a.toNat).toNat)&& !ix h (ix x.next a.toNat).toNat):=by
 have hm:=(List.getElem?_eq_some_iff.1 ha)
 obtain⟨hm,rfl⟩:=hm
 rw[List.take_succ_eq_append_getElem hm,List.all_append];simp
theorem Vf {u t:Int} {a:Nat}:has ((u.toNat|||t.toNat:Nat):Int) (a:Int)=(has u (a:Int)||has t (a:Int)):=by
 unfold has
 rw[Int.toNat_natCast,Int.toNat_natCast,Nat.testBit_or]
theorem oW (l:List Int):0≤aV l:=by
 rcases List.eq_nil_or_concat l with rfl|⟨l',t,rfl⟩
 ·exact Int.le_refl _
 ·rw[List.concat_eq_append,jP];omega
theorem FU {α:Type} {p:List α→Prop} (h0:p []) (h1:∀l a,p l→p (l++ [a])) (l:List α):p l:=by
 have:∀n (l:List α),l.length=n→p l:=fun n=>by
  induction n with
  |zero=>intro l hl;rw[List.eq_nil_of_length_eq_zero hl];exact h0
  |succ n ih=>
   intro l hl
   rcases List.eq_nil_or_concat l with rfl|⟨l',t,rfl⟩
   ·exact h0
   ·rw[List.concat_eq_append] at hl ⊢
    exact h1 _ _ (ih l' (by simpa using hl))
 exact this _ l rfl
theorem cO (l:List Int) (a:Nat):has (aV l) (a:Int)=true↔∃t∈l,has t (a:Int)=true:=by
 refine FU (p:=fun l=>has (aV l) (a:Int)=true↔∃t∈l,has t (a:Int)=true) ?_ (fun l t ih=> ?_) l
 ·simp[aV,has]
 ·rw[jP,Vf,Bool.or_eq_true,ih]
  constructor
  ·rintro(⟨u,h1,h2⟩|h)
   ·exact⟨u,by simp[h1],h2⟩
   ·exact⟨t,by simp,h⟩
  ·rintro⟨u,h1,h2⟩
   rcases List.mem_append.1 h1 with h|h
   ·exact .inl ⟨u,h,h2⟩
   ·have:u=t:=by simpa using h
    subst this;exact .inr h2
theorem FV (l:List Int) (h:∀t∈l,t<256):aV l<256:=by
 refine FU (p:=fun l=>(∀t∈l,t<256)→aV l<256) (fun _=>by decide) (fun l t ih h=> ?_) l h
 rw[jP]
 exact oR (ih (fun u hu=>h u (by simp[hu]))) (h t (by simp))
theorem Az {s:SS} {x:Nat} {t:Int} (h:t∈keep s x):t∈(ix s.sT x).aP∧ix (hOl s) x=false∧iP (ix s.sT x) t (hOl s)=false:=by
 unfold keep at h
 obtain⟨h1,h2⟩:=List.mem_filter.1 h
 simp only [Bool.and_eq_true,Bool.not_eq_true'] at h2
 exact⟨h1,h2.1,h2.2⟩
theorem kC {s:SS} {x:Nat} (h:ix (hOl s) x=false):keep s x=(ix s.sT x).aP.filter fun t=> !iP (ix s.sT x) t (hOl s):=by
 unfold keep;rw[h];simp
theorem qC {x:SA} {N n:Nat} (hx:okState x N n) {t:Int} (ht:t∈x.aP):0≤t∧t<256:=by
 obtain⟨i,hi,rfl⟩:=mD ht
 exact hx.ac i hi
theorem FX {x:SA} {N n:Nat} (hx:okState x N n) {t:Int} (ht:t∈x.aP) {a:Nat} (h:has t (a:Int)=true):a<n∧0≤ix x.next a:=by
 obtain⟨i,hi,rfl⟩:=mD ht
 exact hx.go i hi a h
theorem kS {s:SS} (hs:oK s) {x:Nat} (hx:x<s.sT.length) {a:Nat} (h:has (aV (keep s x)) (a:Int)=true):
 a<(ix s.sT x).next.length∧0≤ix (ix s.sT x).next a∧ix (ix s.sT x).next a<(s.sT.length:Int)∧ix (hOl s) (ix (ix s.sT x).next a).toNat=false:=by
 obtain⟨t,ht,hh⟩:=(cO _ _).1 h
 obtain⟨h1,h2,h3⟩:=Az ht
 have hok:=hs.st x hx
 obtain⟨h4,h5⟩:=FX hok h1 hh
 rw[←hok.len] at h4
 refine⟨h4,h5,(hok.nx a (by rw[←hok.len];exact h4)).2,?_⟩
 cases hb:ix (hOl s) (ix (ix s.sT x).next a).toNat with
 |false=>rfl
 |true=>
  rw[kQ.2 ⟨a,h4,h5,hh,hb⟩] at h3;cases h3
def jZ (l:List Int) (k:Int):List Int:=if decide (0≤k)&& !l.contains k then l++ [k] else l
theorem jF (l ks:List Int):visit l ks=ks.foldl jZ l:=rfl
theorem rU {p:Nat→Bool} {g:Nat→Int}:∀(xs:List Nat) (l:List Int),visit l (xs.map fun a=>if p a then g a else-1)=visit l ((xs.filter p).map g)
 | [],l=>rfl
 |x::xs,l=>by
  rw[jF,jF]
  by_cases h:p x=true
  ·rw[List.filter_cons,if_pos h,List.map_cons,List.map_cons,List.foldl_cons,List.foldl_cons,if_pos h]
   exact rU xs _
  ·rw[List.filter_cons,if_neg h,List.map_cons,List.foldl_cons,if_neg h]
   have:jZ l (-1)=l:=rfl
   rw[this]
   exact rU xs l
theorem xV {p:Nat→Bool} {m:Nat}:∀j,(∀a,p a=true→a<m)→(List.range (m+j)).filter p=(List.range m).filter p
 |0,_=>rfl
 |j+1,h=>by
  rw[show m+(j+1)=m+j+1 by omega,List.range_succ,List.filter_append,xV j h]
  have:p (m+j)=false:=by
   cases hp:p (m+j) with
   |false=>rfl
   |true=>have:=h _ hp;omega
  simp[this]
theorem BZ {x:SA} {u:Int} (hl:x.next.length≤63) (h:∀a:Nat,has u (a:Int)=true→a<x.next.length):aL 63 u=aL x.next.length u:=by
 unfold aL
 have:=xV (p:=fun a=>has u (a:Int)) (m:=x.next.length) (63- x.next.length) h
 rw[show x.next.length+(63- x.next.length)=63 by omega] at this
 rw[this]
theorem Mf {x:SA} {u:Int} (hl:x.next.length≤63) (h:∀a:Nat,has u (a:Int)=true→a<x.next.length) (l:List Int):visit l (cut x u)=visit l ((aL 63 u).map fun a=>ix x.next a.toNat):=by
 unfold cut
 rw[rU,BZ hl h]
 unfold aL
 rw[List.map_map]
 rfl
theorem gV:∀(ks l:List Int),l<+:visit l ks
 | [],l=>List.prefix_rfl
 |k::ks,l=>by
  rw[jF,List.foldl_cons]
  refine List.IsPrefix.trans ?_ (gV ks _)
  unfold jZ
  split
  ·exact List.prefix_append _ _
  ·exact List.prefix_rfl
theorem Sy (s:SS) (i:Nat):bq s i<+:bq s (i+1):=by
 show _<+:(if _ then _ else _)
 split
 ·exact gV _ _
 ·exact List.prefix_rfl
theorem tJ (s:SS) (i:Nat):∀j,bq s i<+:bq s (i+j)
 |0=>List.prefix_rfl
 |j+1=>(tJ s i j).trans (Sy s (i+j))
theorem mU {s:SS} (h:oK s) {i:Nat} (hi:i≤s.sT.length):bq (aQ s) i<+:order (aQ s):=by
 have:=tJ (aQ s) i ((aQ s).sT.length- i)
 rw[gC] at this
 rw[show i+(s.sT.length- i)=s.sT.length by omega] at this
 unfold order
 rw[gC];exact this
theorem Ca {s:SS} (h:oK s) {i:Nat} (hi:(bq (aQ s) i).length≤i) (hn:i≤s.sT.length):bq (aQ s) i=order (aQ s):=by
 have:=Ee hi (s.sT.length- i)
 rw[show i+(s.sT.length- i)=s.sT.length by omega] at this
 unfold order
 rw[gC];exact this.symm
theorem Kv {s:SS} (h:oK s) (i:Nat):okQ s.sT.length (bq (aQ s) i):=by
 have:=FN (s:=aQ s) (by rw[gC];exact h.few0) (fun k hk a ha=>by rw[gC] at hk ⊢;exact FM h hk ha) i
 rw[gC] at this
 exact this
theorem De {s:SS} (h:oK s) {i:Nat} (hi:i<(bq (aQ s) i).length):bq (aQ s) (i+1)=visit (bq (aQ s) i) ((aL 63 (aV (keep s (ix (bq (aQ s) i) i).toNat))).map fun a=>ix (ix s.sT (ix (bq (aQ s) i) i).toNat).next a.toNat):=by
 have hb:=(Kv h i).1 i hi
 have hx:(ix (bq (aQ s) i) i).toNat<s.sT.length:=by omega
 show(if _ then _ else _)=_
 rw[if_pos hi,fW hx]
 have hok:=h.st _ hx
 have hn8:=h.n8
 exact Mf (by have:=hok.len;omega) (fun a ha=>(kS h hx ha).1) _
theorem tK {y:Int}:∀(ks l:List Int),y∈visit l ks→y∈l∨y∈ks
 | [],l,h=> .inl h
 |k::ks,l,h=>by
  rw[jF,List.foldl_cons] at h
  rcases tK ks _ h with h|h
  ·unfold jZ at h
   split at h
   ·rcases List.mem_append.1 h with h|h
    ·exact .inl h
    ·exact .inr (by simp at h;simp[h])
   ·exact .inl h
  ·exact .inr (by simp[h])
theorem vZ {s:SS} (h:oK s) (h0:ix (hOl s) 0=false):∀i,∀y∈bq (aQ s) i,ix (hOl s) y.toNat=false
 |0,y,hy=>by
  have:y=0:=by simpa [bq] using hy
  subst this;exact h0
 |i+1,y,hy=>by
  by_cases hi:i<(bq (aQ s) i).length
  ·rw[De h hi] at hy
   rcases tK _ _ hy with hy|hy
   ·exact vZ h h0 i y hy
   ·obtain⟨a,ha,rfl⟩:=List.mem_map.1 hy
    obtain⟨a',rfl,_,hh⟩:=dZ.1 ha
    have hb:=(Kv h i).1 i hi
    exact(kS h O hh).2.2.2
  ·have e:bq (aQ s) (i+1)=bq (aQ s) i:=by
    show(if _ then _ else _)=_
    rw[if_neg hi]
   rw[e] at hy
   exact vZ h h0 i y hy
noncomputable def pT (s:SS):List (Int × List Int):=if ix (hOl s) 0=true then [] else(order (aQ s)).map fun x=>(x,keep s x.toNat)
theorem OQ {s:SS} (h:oK s) (h0:ix (hOl s) 0=false) {i:Nat} (hn:i≤s.sT.length) (hi:i<(bq (aQ s) i).length):(pT s)[i]?=some (ix (bq (aQ s) i) i,keep s (ix (bq (aQ s) i) i).toNat):=by
 have hp:=mU h hn
 have hl:=hp.length_le
 unfold pT
 rw[h0]
 rw[if_neg (by simp),List.getElem?_map,List.getElem?_eq_getElem O,←aG O,nH hp hi];rfl
theorem tL {s:SS} (h0:ix (hOl s) 0=false):(pT s).length=(order (aQ s)).length:=by
 unfold pT
 rw[h0];simp
end LeftM
end
end Go.Proofs.YtnlfjojfgghchaaGreatDoor
