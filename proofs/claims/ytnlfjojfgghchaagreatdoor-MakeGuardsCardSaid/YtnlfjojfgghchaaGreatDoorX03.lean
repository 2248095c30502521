/- The walks of the functions and the plain laws. Own texts of this claim, packed: MkBase, Mkref01, Mkref03, Mkref04, MkPart, Mkref06, Mkprog. -/
import Derived.Test.YtnlfjojfgghchaaGreatDoorProg
import Derived.Test.YtnlfjojfgghchaaGreatDoorX02
import Derived.KernelRfl
set_option linter.all false
namespace AL
open Go
theorem gB {p:Prop} (h:p:=by first|exact gN (by omega)|exact gI (by omega) (by omega)):p:=h
theorem kR {p:Prop} (h:p:=by kernel_rfl):p:=h
theorem i6 {p:Prop} (h:p:=by unfold I64;omega):p:=h
theorem mL {p:Prop} (h:p:=by unfold aQ;omega):p:=h
end AL
namespace Go.Proofs.YtnlfjojfgghchaaGreatDoor
open AL Go
set_option maxRecDepth 100000
section
def nE:Int→List AV:=fun x=> [int x]
abbrev ints (xs:List Int):AV:=sl 1 nE xs
def blE:Bool→List AV:=fun x=> [bl x]
abbrev bls (xs:List Bool):AV:=sl 1 blE xs
def rE_:ByteArray→List AV:=fun x=> [str x]
abbrev strs (xs:List ByteArray):AV:=sl 1 rE_ xs
@[ext] structure SA where
  aP:List Int
  next:List Int
deriving Inhabited,DecidableEq
@[ext] structure SS where
  aC:List ByteArray
  sT:List SA
deriving Inhabited,DecidableEq
def sE:SA→List AV:=fun x=> [ints x.aP,ints x.next]
abbrev state (x:SA):AV:=agg [ints x.aP,ints x.next]
abbrev spec (s:SS):AV:=agg [strs s.aC,sl 2 sE s.sT]
instance (x:Int):OneAll (nE x):=inferInstanceAs (OneAll [int x])
instance (x:Bool):OneAll (blE x):=inferInstanceAs (OneAll [bl x])
instance (x:ByteArray):OneAll (rE_ x):=inferInstanceAs (OneAll [str x])
instance (x:SA):OneAll (sE x):=inferInstanceAs (OneAll [ints x.aP,ints x.next])
instance:FlatE nE:=Jm
instance:FlatE blE:=Jm
instance:FlatE rE_:=Jm
def uS (N:Nat):SA→List AV:=fun x=> [fre N (ints x.aP),fre N (ints x.next)]
abbrev Qz (N:Nat) (s:SS):AV:=agg [fre N (strs s.aC),fre N (sl 2 sE s.sT)]
instance (N:Nat) (x:SA):OneAll (uS N x):=inferInstanceAs (OneAll [fre N (ints x.aP),fre N (ints x.next)])
theorem sLn {s:SS} (h:Inh (spec s)):s.aC.length≤140737488355328∧s.sT.length≤140737488355328∧∀k,k<s.sT.length→(ix s.sT k).aP.length≤140737488355328∧(ix s.sT k).next.length≤140737488355328:=
 ⟨(h.agg 0 rfl).len,(h.agg 1 rfl).len,fun _ hk=>⟨((h.agg 1 rfl).el (gK hk) 0 rfl).len,((h.agg 1 rfl).el (gK hk) 1 rfl).len⟩⟩
theorem lU {x:SA} (h:Inh (state x)):x.aP.length≤140737488355328∧x.next.length≤140737488355328:=
 ⟨(h.agg 0 rfl).len,(h.agg 1 rfl).len⟩
theorem bJ {α:Type} [Inhabited α] {xs:List α} {k:Nat} (h:k<xs.length):xs.take (k+1)=xs.take k++ [ix xs k]:=by
 rw[List.take_succ_eq_append_getElem h,aF h]
end
section
def fU (c:Int):Bool:=(decide (97≤c)&&decide (c≤122))||(decide (65≤c)&&decide (c≤90))
def rising (l:List Int):Bool:=(List.range (l.length- 1)).all fun i=>decide (ix l i<ix l (i+1))
def indexOf (l:List ByteArray) (s:ByteArray):Int:=match l.findIdx? (fun x=>decide (x=s)) with|some i=>i|none=> -1
def eG (n s:Int):Bool:=decide (0≤s)&&decide (s<((2^n.toNat:Nat):Int))
def has (s a:Int):Bool:=s.toNat.testBit a.toNat
def aL (n:Nat) (s:Int):List Int:=((List.range n).filter fun(a:Nat)=>has s (a:Int)).map fun(a:Nat)=>(a:Int)
theorem has_eq (s a:Nat):s.testBit a=decide (((s>>>a&&&1:Nat):Int)=1):=by
 rw[Nat.testBit_eq_decide_div_mod_eq,Nat.shiftRight_eq_div_pow,Nat.and_one_is_mod]
 by_cases h:s/2^a % 2=1
 ·simp[h]
 ·have h2:s/2^a % 2=0:=by omega
  simp[h2]
theorem jL (n:Nat) (s:Int):aL (n+1) s=aL n s++(if has s (n:Int) then [(n:Int)] else []):=by
 unfold aL
 rw[List.range_succ,List.filter_append,List.map_append]
 congr 1
 by_cases h:has s (n:Int)<;>simp[h]
theorem Jn (n:Nat) (s:Int):(aL n s).length≤n:=by
 unfold aL
 rw[List.length_map]
 exact Nat.le_trans (List.length_filter_le _ _) (by simp)
theorem jT (n:Nat) (f:Nat→Bool):(List.range (n+1)).all f=((List.range n).all f&&f n):=by
 rw[List.range_succ,List.all_append];simp
theorem jA {n i:Nat} {f:Nat→Bool} (hi:i<n) (hf:f i=false):(List.range n).all f=false:=by
 cases h:(List.range n).all f
 ·rfl
 ·have:=List.all_eq_true.1 h i (List.mem_range.2 hi)
  rw[hf] at this;cases this
def gR (c:Int):Bool:=fU c||(decide (48≤c)&&decide (c≤57))||decide (c=45)||decide (c=95)
def dQ (s:ByteArray):Bool:=decide (1≤s.size)&&decide (s.size≤20)&&fU (dX s 0)&&(List.range s.size).all fun i=>gR (dX s i)
def bZ (l:List ByteArray):Bool:=decide (l.length≤8)&&(List.range l.length).all fun i=>dQ (ix l i)&&decide (indexOf l (ix l i)=(i:Int))
theorem eQ {α:Type} [Inhabited α] {xs:List α} {k:Nat} (h:k<xs.length) (p:α→Bool):(xs.take (k+1)).all p=((xs.take k).all p&&p (ix xs k)):=by
 rw[bJ h,List.all_append];simp
theorem fV {α:Type} [Inhabited α] {xs:List α} {k:Nat} (h:k<xs.length) {p:α→Bool} (hp:p (ix xs k)=false):xs.all p=false:=by
 cases hh:xs.all p
 ·rfl
 ·have:=List.all_eq_true.1 hh (ix xs k) (by rw[aF h];exact List.getElem_mem h)
  rw[hp] at this;cases this
theorem uT {α:Type} [Inhabited α] {xs:List α} {p:α→Bool} (hh:xs.all p=true) {k:Nat} (h:k<xs.length):p (ix xs k)=true:=List.all_eq_true.1 hh _ (by rw[aF h];exact List.getElem_mem h)
namespace T
theorem aU:IsSlice Tryz.prog 66 3 1:=gU kR
theorem mixed:Tryz.prog.follows .mixedOrders=true:=by kernel_rfl
theorem aH:eF Tryz.prog 3:=fT kR
theorem dW:IsSlice Tryz.prog 22 9 1:=gU kR
theorem xA:eF Tryz.prog 9:=fT kR
theorem Er:Ent Tryz.prog 51:=aN kR
theorem bS:eL Tryz.prog 66 3 1 8 [.int .i64 0]:=jK kR kR
theorem vQ:Tryz.prog.underlying 9=some .string:=by kernel_rfl
theorem KF:Ent Tryz.prog 141:=aN kR
theorem Ur:Ent Tryz.prog 104:=aN kR
theorem Us:Ent Tryz.prog 105:=aN kR
end T
namespace ref01
theorem Be (s a:Int) (h0:0≤s) (h1:s<2^63) (h2:0≤a) (h3:a≤64):
 Fn0 Tryz.prog 51 [int s,int a] (bl (has s a)):=by
 refine fnI Tryz.func51 rfl rfl (fun w0 F0=> ?_)
 refine sq (rg (ag (nl (th (sq (rg (mv (mv (bi J J (AP O O O) (bi J J (EP (m:=(s.toNat>>>a.toNat)) (Nat.lt_of_le_of_lt (Nat.shiftRight_le _ _) O)) (bi J J eS (ag (nl (th (rt ?_)))))))))))))))
 have hr0:(decide ((((s.toNat>>>a.toNat)&&&1:Nat):Int)=1))=(has s a):=by
  exact(has_eq _ _).symm
 exact rE () [.tmp 4] J [bl (decide ((((s.toNat>>>a.toNat)&&&1:Nat):Int)=1))] ⟨.tmp J,tV⟩ (cA1 (fun x0=>rV [bl x0]) hr0) trivial eX
theorem Df (c:Int):
 Fn0 Tryz.prog 141 [u8 c] (bl (fU c)):=by
 refine fnI Tryz.func141 rfl rfl (fun w0 F0=> ?_)
 refine sq (rg (ag (nl (th (sq (rg (mv (bi J J fK (mv ?_)))))))))
 apply cZ (t:=5) (pd:=8) rfl
 rotate_left
 ·intro hg0 fin
  have hg0':=hg0
  try simp at hg0'
  exact gy J J J hg0 (mv (gy J J J hg0 (bi J J nV (pkT J hg0 J (drp (X:= [(7,_),(6,_)]) ⟨J,J,tV⟩ fin)))))
 ·intro hg0 fin
  exact gn J J J hg0 J J (gn J J J hg0 J J (pkF J hg0 J (drp (X:= [(7,_),(6,_)]) ⟨J,J,tV⟩ fin)))
 refine mv ?_
 apply gOr (t:=9) (pd:=16) rfl
 rotate_left
 ·intro hg1 fin
  have hg1':=hg1
  try simp at hg1'
  refine gy rfl rfl rfl hg1 (mv (gy rfl rfl rfl hg1 (bi rfl rfl fK (gy rfl rfl rfl hg1 (mv ?_)))))
  apply cZ (t:=12) (pd:=15) rfl
  rotate_left
  ·intro hg2 fin
   have hg2':=hg2
   try simp at hg2'
   exact gy J J J hg2 (mv (gy J J J hg2 (bi J J nV (gy J J J hg1 (pkT J hg2 J (drp (X:= [(14,_),(13,_)]) ⟨J,J,tV⟩ fin))))))
  ·intro hg2 fin
   exact gn J J J hg2 J J (gn J J J hg2 J J (gy J J J hg1 (pkF J hg2 J (drp (X:= [(14,_),(13,_)]) ⟨J,J,tV⟩ fin))))
  exact pkF rfl hg1 rfl (drp (X:= [(15,_),(12,_),(11,_),(10,_)]) ⟨rfl,rfl,rfl,rfl,tV⟩ fin)
 ·intro hg1 fin
  exact gn J J J hg1 J J (gn J J J hg1 J J (gn J J J hg1 J J (gu J J J J J (gu J J J J J (gn J J J hg1 J J (pkT J hg1 J (drp (X:= [(15,_),(14,_),(13,_),(12,_),(11,_),(10,_)]) ⟨J,J,J,J,J,J,tV⟩ fin)))))))
 refine ag (nl (th (rt ?_)))
 have hr0:(((decide (97≤c))&&(decide (c≤122)))||((decide (65≤c))&&(decide (c≤90))))=(fU c):=by
  first|rfl|simp_all|omega
 exact rE () [.tmp 2] J [bl (((decide (97≤c))&&(decide (c≤122)))||((decide (65≤c))&&(decide (c≤90))))] ⟨.tmp J,tV⟩ (cA1 (fun x0=>rV [bl x0]) hr0) trivial eX
theorem KG (l:List Int):
 Fn0 Tryz.prog 106 [ints l] (bl (rising l)):=by
 refine fnI Tryz.func106 rfl rfl (fun w0 F0=> ?_)
 refine fcC (aT 0 J) (fun hm0=> ?_)
 refine sq (rg (ag (nl (th (sq (sq (rg (ag (nl (th (bk ?_)))))))))))
 have hI0_0:(0+1≤l.length∨l.length=0∧0=0)∧(List.range 0).all (fun i=>decide (ix l i<ix l (i+1)))=true:=by
  refine⟨O,by simp⟩
 refine lp (κ:=Nat) (fun p=> [(0,sl 1 nE l),(3,int ((p+1:Nat):Int))]) (fun p=> []) (fun p=>(p+1≤l.length∨l.length=0∧p=0)∧(List.range p).all (fun i=>decide (ix l i<ix l (i+1)))=true) (fun p=>l.length- p) 0 hI0_0 ⟨id,id,tV⟩ trivial ?_
 intro k hG0
 have hI0:(k+1≤l.length∨l.length=0∧k=0)∧(List.range k).all (fun i=>decide (ix l i<ix l (i+1)))=true:=hG0
 refine sq (sq (rg (mv (mv (lnF J T.aU (bi J J aO (nl (th ?_))))))))
 refine cd J (fun hc0=> ?_) (fun hc0=> ?_)
 ·try simp at hc0
  refine sk (th (sq (bk (sq (dr (nh:=10) [0,0,2,7,15,0,0,96,224,511] T.mixed kR ?_)))))
  refine st_ J (fun _ _ _ gq kq=>mv' (gq.1.trans J) kq) ?_
  refine st_ J (fun _ _ _ gq kq=>mv' (gq.1.trans J) kq) ?_
  refine st_ J (fun _ _ _ gq kq=>bi (gq.1.trans J) J (kZ i6) kq) ?_
  refine st_ J (fun _ _ _ gq kq=>iF (gq.1.trans J) (gq.2.1.trans J) T.aU O gB kq) ?_
  refine st_ J (fun _ _ _ gq kq=>lF (gq.1.trans J) J T.aH kq) ?_
  refine st_ J (fun _ _ _ gq kq=>mv' (gq.1.trans J) kq) ?_
  refine st_ J (fun _ _ _ gq kq=>mv' (gq.1.trans J) kq) ?_
  refine st_ J (fun _ _ _ gq kq=>iF (gq.1.trans J) (gq.2.1.trans J) T.aU O gB kq) ?_
  refine st_ J (fun _ _ _ gq kq=>lF (gq.1.trans J) J T.aH kq) ?_
  refine st_ J (fun _ _ _ gq kq=>bi (gq.1.trans J) (gq.2.1.trans J) fK kq) ?_
  refine pn (nl (th ?_))
  refine cd J (fun hc1=> ?_) (fun hc1=> ?_)
  ·try simp at hc1
   have hlt:k<l.length- 1:=by omega
   refine sq (rg (ag (nl (th (rt (rb (rt_ (rt_ (rb (rt_ ?_))))))))))
   have hr0:false=(rising l):=by
    exact(jA hlt (by simp;omega)).symm
   exact rE () [.tmp 2] J [bl false] ⟨.tmp J,tV⟩ (cA1 (fun x0=>rV [bl x0]) hr0) trivial eX
  ·try simp at hc1
   refine sk (eb (th (rg (mv (bi J J (aG i6) (ag (nl ?_)))))))
   have hN0:((k+1)+1≤l.length∨l.length=0∧(k+1)=0)∧(List.range (k+1)).all (fun i=>decide (ix l i<ix l (i+1)))=true:=by
    refine⟨O,?_⟩
    rw[jT,hI0.2]
    simp at hc1 ⊢
    exact hc1
   exact ln (k+1) hN0 dO ⟨id,id,tV⟩ trivial
 ·try simp at hc0
  refine ex (xt_ (xt_ (xb (th (sq (rg (ag (nl (th (rt ?_))))))))))
  have hr0:true=(rising l):=by
   unfold rising
   rw[show l.length- 1=k by omega]
   exact hI0.2.symm
  exact rE () [.tmp 2] J [bl true] ⟨.tmp J,tV⟩ (cA1 (fun x0=>rV [bl x0]) hr0) trivial eX
theorem NE (l:List ByteArray) (s:ByteArray):
 Fn0 Tryz.prog 105 [strs l,str s] (int (indexOf l s)):=by
 refine fnI Tryz.func105 rfl rfl (fun w0 F0=> ?_)
 refine fcC (aT 0 J) (fun hm0=> ?_)
 refine sq (rg (ag (nl (th (sq (sq (rg (mv (lnF J T.dW (mv (nl (th (bk ?_)))))))))))))
 have hI0_0:0≤l.length:=by
  first|omega|simp
 have hI0_1:∀x∈l.take 0,x≠s:=by
  simp
 refine lp (κ:=Nat) (fun p=> [(1,str s),(7,sl 1 rE_ l),(8,int (l.length:Int)),(9,int (p:Int))]) (fun p=> []) (fun p=>(p≤l.length)∧(∀x∈l.take p,x≠s)) (fun p=>l.length- p) 0 ⟨hI0_0,hI0_1⟩ ⟨id,id,id,id,tV⟩ trivial ?_
 intro k hG0
 obtain⟨hk0,hI0⟩:(k≤l.length)∧(∀x∈l.take k,x≠s):=hG0
 refine sq (rg (bi J J aO (nl (th (sq ?_)))))
 refine cd J (fun hc0=> ?_) (fun hc0=> ?_)
 ·try simp at hc0
  refine sk (th (sq (bk (sq (rg (mv (iF J J T.dW O gB (lF J J T.xA (ag (ag (nl (th (sq (rg (mv (mv (bi J J EI (nl (th ?_)))))))))))))))))))
  refine cd J (fun hc1=> ?_) (fun hc1=> ?_)
  ·try simp at hc1
   refine sq (rg (mv (ag (nl (th (rt (rb (rt_ (rt_ (rb (rt_ ?_)))))))))))
   have hr0:((k:Int):Int)=(indexOf l s):=by
    unfold indexOf
    have:l.findIdx? (fun x=>decide (x=s))=some k:=by
     rw[List.findIdx?_eq_some_iff_getElem]
     refine⟨O,by simpa [aF (show k<l.length by omega)] using hc1,fun j hj=> ?_⟩
     have:=hI0 l[j] (List.mem_take_iff_getElem.2 ⟨j,O,rfl⟩)
     simpa using this
    rw[this]
   exact rE () [.tmp 4] J [int (k:Int)] ⟨.tmp J,tV⟩ (cA1 (fun x0=>rV [int x0]) hr0) trivial eX
  ·try simp at hc1
   refine sk (eb (th (rg (bi J J (aG i6) (mv (nl ?_))))))
   have hN0:(k+1)≤l.length:=by
    first|omega|simp_all
   have hN1:∀x∈l.take (k+1),x≠s:=by
    rw[bJ O]
    intro x hx
    rcases List.mem_append.1 hx with hx|hx
    ·exact hI0 x hx
    ·simp at hx;subst hx;exact hc1
   exact ln (k+1) ⟨hN0,hN1⟩ dO ⟨id,id,id,id,tV⟩ trivial
 ·try simp at hc0
  refine ex (xt_ (xt_ (xb (th (sq (rg (ag (nl (th (rt ?_))))))))))
  have hr0:((-1):Int)=(indexOf l s):=by
   unfold indexOf
   have:l.findIdx? (fun x=>decide (x=s))=none:=by
    rw[List.findIdx?_eq_none_iff]
    intro x hx
    have hk2:k=l.length:=by omega
    rw[hk2,List.take_length] at hI0
    simp[hI0 x hx]
   rw[this]
  exact rE () [.tmp 4] J [int (-1)] ⟨.tmp J,tV⟩ (cA1 (fun x0=>rV [int x0]) hr0) trivial eX
theorem KH (n s:Int) (h0:0≤n) (h1:n<63):
 Fn0 Tryz.prog 31 [int n,int s] (bl (eG n s)):=by
 refine fnI Tryz.func31 rfl rfl (fun w0 F0=> ?_)
 refine sq (rg (ag (nl (th (sq (rg (mv (bi J J fK (mv ?_)))))))))
 apply cZ (t:=7) (pd:=12) rfl
 rotate_left
 ·intro hg0 fin
  have hg0':=hg0
  try simp at hg0'
  exact gy J J J hg0 (mv (gy J J J hg0 (mv (gy J J J hg0 (bi J J (pX O O) (gy J J J hg0 (bi J J aO (pkT J hg0 J (drp (X:= [(11,_),(10,_),(9,_),(8,_)]) ⟨J,J,J,J,tV⟩ fin)))))))))
 ·intro hg0 fin
  exact gn J J J hg0 J J (gn J J J hg0 J J (gn J J J hg0 J J (gn J J J hg0 J J (pkF J hg0 J (drp (X:= [(11,_),(10,_),(9,_),(8,_)]) ⟨J,J,J,J,tV⟩ fin)))))
 refine ag (nl (th (rt ?_)))
 have hr0:((decide (0≤s))&&(decide (s<((2^n.toNat:Nat):Int))))=(eG n s):=by
  first|rfl|simp_all|omega
 exact rE () [.tmp 4] J [bl ((decide (0≤s))&&(decide (s<((2^n.toNat:Nat):Int))))] ⟨.tmp J,tV⟩ (cA1 (fun x0=>rV [bl x0]) hr0) trivial eX
theorem Ro (n:Nat) (s:Int) (hn:n≤64) (h0:0≤s) (h1:s<2^63):
 Fn0 Tryz.prog 107 [int (n:Int),int s] (ints (aL n s)):=by
 refine fnI Tryz.func107 rfl rfl (fun w0 F0=> ?_)
 refine sq (rg (ag (kn 4 (sl 1 nE []) J slnil (nl (th (sq (rg (nw 5 3 1 nE (ag (rtg (key:=5) 5 J (nl (th (sq (sq (rg (mv (mv (nl (th (bk ?_))))))))))))))))))))
 have hI0_0:0≤n:=by
  first|omega|simp
 have hI0_1:([]:List Int)=aL 0 s:=by
  rfl
 refine lp (κ:=Nat × Value × (List Int)) (fun p=> [(1,int s),(4,sl 1 nE []),(5,osl 5 p.2.1),(7,int (n:Int)),(8,int (p.1:Int))]) (fun p=> [(5,own p.2.1 3 1 nE p.2.2)]) (fun p=>(p.1≤n)∧(p.2.2=aL p.1 s)) (fun p=>n- p.1) ⟨0,(.slice none 0 0),([]:List Int)⟩ ⟨hI0_0,hI0_1⟩ ⟨id,id,id,id,id,tV⟩ ⟨rI,tV⟩ ?_
 intro⟨k,v,acc⟩ hG0
 obtain⟨hk0,hI0⟩:(k≤n)∧(acc=aL k s):=hG0
 show Ct _ _ _ _ [(1,int s),(4,sl 1 nE []),(5,osl 5 v),(7,int (n:Int)),(8,int (k:Int))] [(5,own v 3 1 nE acc)] _
 have hll:=Jn k s
 rw[←hI0] at hll
 refine sq (rg (bi J J aO (nl (th (sq ?_)))))
 refine cd J (fun hc0=> ?_) (fun hc0=> ?_)
 ·try simp at hc0
  refine sk (th (sq (bk (sq (rg (mv (ag (nl (th (sq (rg (mv (mv (aZ (φs:= [int s,int (k:Int)]) (φ:=bl (has s (k:Int))) ⟨J,J,tV⟩ (ref01.Be _ _ O O O O) T.Er (nl (th ?_))))))))))))))))
  refine cd J (fun hc1=> ?_) (fun hc1=> ?_)
  ·try simp at hc1
   refine rg (mv (mv (bsE (enc:=nE) (xs:= [(k:Int)]) (css:= [[int (k:Int)]]) T.bS ⟨J,J,p1 (φ:=int (k:Int)) J,tV⟩ J J J J (ap (key:=5) (zs:= [(k:Int)]) bP J J J T.bS (by unfold aQ at*;simp;omega) (by unfold aQ at*;simp;omega) fun v17=>(ag (nl (eb (th (rg (bi J J (aG i6) (mv (nl ?_))))))))))))
   have hN0:(k+1)≤n:=by
    first|omega|simp_all
   have hN1:(acc++ [(k:Int)])=aL (k+1) s:=by
    rw[jL,hc1];simp[hI0]
   exact ln (⟨k+1,v17,acc++ [(k:Int)]⟩:Nat × Value × (List Int)) ⟨hN0,hN1⟩ dO ⟨id,id,id,id,id,tV⟩ ⟨rI,tV⟩
  ·try simp at hc1
   refine sk (eb (th (rg (bi J J (aG i6) (mv (nl ?_))))))
   have hN0:(k+1)≤n:=by
    first|omega|simp_all
   have hN1:acc=aL (k+1) s:=by
    rw[jL,hc1];simp[hI0]
   exact ln (⟨k+1,v,acc⟩:Nat × Value × (List Int)) ⟨hN0,hN1⟩ dO ⟨id,id,id,id,id,tV⟩ ⟨rI,tV⟩
 ·try simp at hc0
  refine ex (xt_ (xt_ (xb (th (sq (rg (mv (ag (nl (th (rt ?_)))))))))))
  refine fzA 5 4 rfl rfl ?_
  have hr0:acc=(aL n s):=by
   rw[hI0];congr 1;omega
  exact rE () [.tmp 4] J [sl 1 nE acc] ⟨.tmp J,tV⟩ (cA1 (fun x0=>rV [sl 1 nE x0]) hr0) trivial eX
theorem Rp (s:ByteArray):
 Fn0 Tryz.prog 104 [str s] (bl (dQ s)):=by
 refine fnI Tryz.func104 rfl rfl (fun w0 F0=> ?_)
 refine sq (rg (ag (nl (th (sq (sq (rg (mv (lnS J T.vQ (bi J J aO (mv ?_)))))))))))
 apply gOr (t:=8) (pd:=12) rfl
 rotate_left
 ·intro hg0 fin
  have hg0':=hg0
  try simp at hg0'
  exact gy J J J hg0 (mv (gy J J J hg0 (lnS J T.vQ (gy J J J hg0 (bi J J fJ (pkF J hg0 J (drp (X:= [(11,_),(10,_),(9,_)]) ⟨J,J,J,tV⟩ fin)))))))
 ·intro hg0 fin
  exact gn J J J hg0 J J (gn J J J hg0 J J (gn J J J hg0 J J (pkT J hg0 J (drp (X:= [(11,_),(10,_),(9,_)]) ⟨J,J,J,tV⟩ fin))))
 refine mv ?_
 apply gOr (t:=13) (pd:=18) rfl
 rotate_left
 ·intro hg1 fin
  have hg1':=hg1
  try simp at hg1'
  exact gy J J J hg1 (mv (gy J J J hg1 (Ji J J T.vQ O O (gy J J J hg1 (aZ (φs:= [u8 (dX s 0)]) (φ:=bl (fU (dX s 0))) ⟨J,tV⟩ (ref01.Df _) T.KF (gy J J J hg1 (no J (pkF J hg1 J (drp (X:= [(17,_),(16,_),(15,_),(14,_)]) ⟨J,J,J,J,tV⟩ fin)))))))))
 ·intro hg1 fin
  exact gn J J J hg1 J J (gn J J J hg1 J J (gn J J J hg1 J J (gn J J J hg1 J J (pkT J hg1 J (drp (X:= [(17,_),(16,_),(15,_),(14,_)]) ⟨J,J,J,J,tV⟩ fin)))))
 refine nl (th ?_)
 refine cd J (fun hc0=> ?_) (fun hc0=> ?_)
 ·try simp at hc0
  refine sq (rg (ag (nl (th (rt (rt_ ?_))))))
  have hr0:false=(dQ s):=by
   unfold dQ
   by_cases h1:fU (dX s 0)=true
   ·simp[h1] at hc0
    rw[show(decide (1≤s.size)&&decide (s.size≤20))=false by simp;omega];simp
   ·simp[h1]
  exact rE () [.tmp 2] J [bl false] ⟨.tmp J,tV⟩ (cA1 (fun x0=>rV [bl x0]) hr0) trivial eX
 ·try simp at hc0
  refine sk (th (sq (sq (rg (mv (lnS J T.vQ (mv (nl (th (bk ?_))))))))))
  have hI0_0:0≤s.size:=by
   first|omega|simp
  have hI0_1:(List.range 0).all (fun i=>gR (dX s i))=true:=by
   simp
  refine lp (κ:=Nat) (fun p=> [(0,str s),(20,int (s.size:Int)),(21,int (p:Int))]) (fun p=> []) (fun p=>(p≤s.size)∧((List.range p).all (fun i=>gR (dX s i))=true)) (fun p=>s.size- p) 0 ⟨hI0_0,hI0_1⟩ ⟨id,id,id,tV⟩ trivial ?_
  intro k hG0
  obtain⟨hk0,hI0⟩:(k≤s.size)∧((List.range k).all (fun i=>gR (dX s i))=true):=hG0
  refine sq (rg (bi J J aO (nl (th (sq ?_)))))
  refine cd J (fun hc1=> ?_) (fun hc1=> ?_)
  ·try simp at hc1
   refine sk (th (sq (bk (sq (rg (mv (ag (nl (th (sq (rg (mv (mv (Ji J J T.vQ O O (ag (nl (th (sq (rg (mv (aZ (φs:= [u8 (dX s k)]) (φ:=bl (fU (dX s k))) ⟨J,tV⟩ (ref01.Df _) T.KF (no J (mv ?_)))))))))))))))))))))))
   apply cZ (t:=30) (pd:=37) rfl
   rotate_left
   ·intro hg2 fin
    have hg2':=hg2
    try simp at hg2'
    refine gy rfl rfl rfl hg2 (mv (gy rfl rfl rfl hg2 (bi rfl rfl aO (gy rfl rfl rfl hg2 (mv ?_)))))
    apply gOr (t:=33) (pd:=36) rfl
    rotate_left
    ·intro hg3 fin
     have hg3':=hg3
     try simp at hg3'
     exact gy J J J hg3 (mv (gy J J J hg3 (bi J J fJ (gy J J J hg2 (pkF J hg3 J (drp (X:= [(35,_),(34,_)]) ⟨J,J,tV⟩ fin))))))
    ·intro hg3 fin
     exact gn J J J hg3 J J (gn J J J hg3 J J (gy J J J hg2 (pkT J hg3 J (drp (X:= [(35,_),(34,_)]) ⟨J,J,tV⟩ fin))))
    exact pkT rfl hg2 rfl (drp (X:= [(36,_),(33,_),(32,_),(31,_)]) ⟨rfl,rfl,rfl,rfl,tV⟩ fin)
   ·intro hg2 fin
    exact gn J J J hg2 J J (gn J J J hg2 J J (gn J J J hg2 J J (gu J J J J J (gu J J J J J (gn J J J hg2 J J (pkF J hg2 J (drp (X:= [(36,_),(35,_),(34,_),(33,_),(32,_),(31,_)]) ⟨J,J,J,J,J,J,tV⟩ fin)))))))
   refine mv ?_
   apply cZ (t:=38) (pd:=41) rfl
   rotate_left
   ·intro hg4 fin
    have hg4':=hg4
    try simp at hg4'
    exact gy J J J hg4 (mv (gy J J J hg4 (bi J J fR (pkT J hg4 J (drp (X:= [(40,_),(39,_)]) ⟨J,J,tV⟩ fin)))))
   ·intro hg4 fin
    exact gn J J J hg4 J J (gn J J J hg4 J J (pkF J hg4 J (drp (X:= [(40,_),(39,_)]) ⟨J,J,tV⟩ fin)))
   refine mv ?_
   apply cZ (t:=42) (pd:=45) rfl
   rotate_left
   ·intro hg5 fin
    have hg5':=hg5
    try simp at hg5'
    exact gy J J J hg5 (mv (gy J J J hg5 (bi J J fR (pkT J hg5 J (drp (X:= [(44,_),(43,_)]) ⟨J,J,tV⟩ fin)))))
   ·intro hg5 fin
    exact gn J J J hg5 J J (gn J J J hg5 J J (pkF J hg5 J (drp (X:= [(44,_),(43,_)]) ⟨J,J,tV⟩ fin)))
   refine nl (th ?_)
   refine cd J (fun hc2=> ?_) (fun hc2=> ?_)
   ·try simp at hc2
    refine sq (rg (ag (nl (th (rt (rb (rt_ (rt_ (rb (rt_ ?_))))))))))
    have hr0:false=(dQ s):=by
     unfold dQ
     rw[jA (i:=k) O ?_]
     ·simp
     ·simp[gR,hc2.1.1.1]
      omega
    exact rE () [.tmp 2] J [bl false] ⟨.tmp J,tV⟩ (cA1 (fun x0=>rV [bl x0]) hr0) trivial eX
   ·try simp at hc2
    refine sk (eb (th (rg (bi J J (aG i6) (mv (nl ?_))))))
    have hN0:(k+1)≤s.size:=by
     first|omega|simp_all
    have hN1:(List.range (k+1)).all (fun i=>gR (dX s i))=true:=by
     rw[jT,hI0]
     simp[gR]
     by_cases h1:fU (dX s k)=true
     ·simp[h1]
     ·simp[h1] at hc2
      simp[h1]
      omega
    exact ln (k+1) ⟨hN0,hN1⟩ dO ⟨id,id,id,tV⟩ trivial
  ·try simp at hc1
   refine ex (xt_ (xt_ (xb (th (sq (rg (ag (nl (th (rt ?_))))))))))
   have hr0:true=(dQ s):=by
    unfold dQ
    rw[show s.size=k by omega,hI0]
    simp[hc0.2]
    omega
   exact rE () [.tmp 2] J [bl true] ⟨.tmp J,tV⟩ (cA1 (fun x0=>rV [bl x0]) hr0) trivial eX
theorem tF (l:List ByteArray):
 Fn0 Tryz.prog 56 [strs l] (bl (bZ l)):=by
 refine fnI Tryz.func56 rfl rfl (fun w0 F0=> ?_)
 refine fcC (aT 0 J) (fun hm0=> ?_)
 refine sq (rg (ag (nl (th (sq (sq (rg (mv (lnF J T.dW (bi J J fJ (nl (th ?_))))))))))))
 refine cd J (fun hc0=> ?_) (fun hc0=> ?_)
 ·try simp at hc0
  refine sq (rg (ag (nl (th (rt (rt_ ?_))))))
  have hr0:false=(bZ l):=by
   unfold bZ
   rw[decide_eq_false O];rfl
  exact rE () [.tmp 2] J [bl false] ⟨.tmp J,tV⟩ (cA1 (fun x0=>rV [bl x0]) hr0) trivial eX
 ·try simp at hc0
  refine sk (th (sq (sq (rg (mv (lnF J T.dW (mv (nl (th (bk ?_))))))))))
  have hI0_0:0≤l.length:=by
   first|omega|simp
  have hI0_1:(List.range 0).all (fun i=>dQ (ix l i)&&decide (indexOf l (ix l i)=(i:Int)))=true:=by
   simp
  refine lp (κ:=Nat) (fun p=> [(0,sl 1 rE_ l),(8,sl 1 rE_ l),(9,int (l.length:Int)),(10,int (p:Int))]) (fun p=> []) (fun p=>(p≤l.length)∧((List.range p).all (fun i=>dQ (ix l i)&&decide (indexOf l (ix l i)=(i:Int)))=true)) (fun p=>l.length- p) 0 ⟨hI0_0,hI0_1⟩ ⟨id,id,id,id,tV⟩ trivial ?_
  intro k hG0
  obtain⟨hk0,hI0⟩:(k≤l.length)∧((List.range k).all (fun i=>dQ (ix l i)&&decide (indexOf l (ix l i)=(i:Int)))=true):=hG0
  refine sq (rg (bi J J aO (nl (th (sq ?_)))))
  refine cd J (fun hc1=> ?_) (fun hc1=> ?_)
  ·try simp at hc1
   refine sk (th (sq (bk (sq (rg (mv (iF J J T.dW O gB (lF J J T.xA (ag (ag (nl (th (sq (rg (mv (aZ (φs:= [str (ix l k)]) (φ:=bl (dQ (ix l k))) ⟨J,tV⟩ (ref01.Rp _) T.Ur (no J (mv ?_))))))))))))))))))
   apply gOr (t:=18) (pd:=24) rfl
   rotate_left
   ·intro hg0 fin
    have hg0':=hg0
    try simp at hg0'
    exact gy J J J hg0 (mv (gy J J J hg0 (mv (gy J J J hg0 (aZ (φs:= [sl 1 rE_ l,str (ix l k)]) (φ:=int (indexOf l (ix l k))) ⟨J,J,tV⟩ (ref01.NE _ _) T.Us (gy J J J hg0 (mv (gy J J J hg0 (bi J J fR (pkF J hg0 J (drp (X:= [(23,_),(22,_),(21,_),(20,_),(19,_)]) ⟨J,J,J,J,J,tV⟩ fin)))))))))))
   ·intro hg0 fin
    exact gn J J J hg0 J J (gn J J J hg0 J J (gn J J J hg0 J J (gn J J J hg0 J J (gn J J J hg0 J J (pkT J hg0 J (drp (X:= [(23,_),(22,_),(21,_),(20,_),(19,_)]) ⟨J,J,J,J,J,tV⟩ fin))))))
   refine nl (th ?_)
   refine cd J (fun hc2=> ?_) (fun hc2=> ?_)
   ·try simp at hc2
    refine sq (rg (ag (nl (th (rt (rb (rt_ (rt_ (rb (rt_ ?_))))))))))
    have hr0:false=(bZ l):=by
     unfold bZ
     rw[jA (i:=k) O ?_]
     ·simp
     ·by_cases h:dQ (ix l k)=true
      ·simpa [h] using hc2
      ·simp[h]
    exact rE () [.tmp 2] J [bl false] ⟨.tmp J,tV⟩ (cA1 (fun x0=>rV [bl x0]) hr0) trivial eX
   ·try simp at hc2
    refine sk (eb (th (rg (bi J J (aG i6) (mv (nl ?_))))))
    have hN0:(k+1)≤l.length:=by
     first|omega|simp_all
    have hN1:(List.range (k+1)).all (fun i=>dQ (ix l i)&&decide (indexOf l (ix l i)=(i:Int)))=true:=by
     rw[jT,hI0]
     simpa using hc2
    exact ln (k+1) ⟨hN0,hN1⟩ dO ⟨id,id,id,id,tV⟩ trivial
  ·try simp at hc1
   refine ex (xt_ (xt_ (xb (th (sq (rg (ag (nl (th (rt ?_))))))))))
   have hr0:true=(bZ l):=by
    unfold bZ
    rw[show l.length=k by omega,hI0,decide_eq_true O];rfl
   exact rE () [.tmp 2] J [bl true] ⟨.tmp J,tV⟩ (cA1 (fun x0=>rV [bl x0]) hr0) trivial eX
theorem uA (xs ys:List Int):
 Fn0 Tryz.prog 49 [ints xs,ints ys] (bl (decide (xs=ys))):=by
 refine fnI Tryz.func49 rfl rfl (fun w0 F0=> ?_)
 refine fcC (aT 0 J) (fun hm0=> ?_)
 refine fcC (aT 1 J) (fun hm1=> ?_)
 refine sq (rg (ag (nl (th (sq (sq (rg (mv (lnF J T.aU (mv (lnF J T.aU (bi J J fR (nl (th ?_))))))))))))))
 refine cd J (fun hc0=> ?_) (fun hc0=> ?_)
 ·try simp at hc0
  refine sq (rg (ag (nl (th (rt (rt_ ?_))))))
  have hr0:false=(decide (xs=ys)):=by
   rw[decide_eq_false];intro h;subst h;simp at hc0
  exact rE () [.tmp 4] J [bl false] ⟨.tmp J,tV⟩ (cA1 (fun x0=>rV [bl x0]) hr0) trivial eX
 ·try simp at hc0
  refine sk (th (sq (sq (rg (mv (lnF J T.aU (mv (nl (th (bk ?_))))))))))
  have hI0_0:0≤xs.length:=by
   first|omega|simp
  have hI0_1:xs.take 0=ys.take 0:=by
   simp
  refine lp (κ:=Nat) (fun p=> [(1,sl 1 nE ys),(12,sl 1 nE xs),(13,int (xs.length:Int)),(14,int (p:Int))]) (fun p=> []) (fun p=>(p≤xs.length)∧(xs.take p=ys.take p)) (fun p=>xs.length- p) 0 ⟨hI0_0,hI0_1⟩ ⟨id,id,id,id,tV⟩ trivial ?_
  intro k hG0
  obtain⟨hk0,hI0⟩:(k≤xs.length)∧(xs.take k=ys.take k):=hG0
  refine sq (rg (bi J J aO (nl (th (sq ?_)))))
  refine cd J (fun hc1=> ?_) (fun hc1=> ?_)
  ·try simp at hc1
   refine sk (th (sq (bk (sq (rg (mv (iF J J T.aU O gB (lF J J T.aH (ag (ag (nl (th (sq (rg (mv (mv (mv (iF J J T.aU O gB (lF J J T.aH (bi J J fR (nl (th ?_))))))))))))))))))))))
   refine cd J (fun hc2=> ?_) (fun hc2=> ?_)
   ·try simp at hc2
    refine sq (rg (ag (nl (th (rt (rb (rt_ (rt_ (rb (rt_ ?_))))))))))
    have hr0:false=(decide (xs=ys)):=by
     rw[decide_eq_false];intro h;subst h;simp at hc2
    exact rE () [.tmp 4] J [bl false] ⟨.tmp J,tV⟩ (cA1 (fun x0=>rV [bl x0]) hr0) trivial eX
   ·try simp at hc2
    refine sk (eb (th (rg (bi J J (aG i6) (mv (nl ?_))))))
    have hN0:(k+1)≤xs.length:=by
     first|omega|simp_all
    have hN1:xs.take (k+1)=ys.take (k+1):=by
     rw[bJ O,bJ O,hI0];try simp at hc2
     rw[hc2]
    exact ln (k+1) ⟨hN0,hN1⟩ dO ⟨id,id,id,id,tV⟩ trivial
  ·try simp at hc1
   refine ex (xt_ (xt_ (xb (th (sq (rg (ag (nl (th (rt ?_))))))))))
   have hr0:true=(decide (xs=ys)):=by
    rw[decide_eq_true]
    rw[show k=xs.length by omega,List.take_length] at hI0
    rw[hI0,show xs.length=ys.length by omega,List.take_length]
   exact rE () [.tmp 4] J [bl true] ⟨.tmp J,tV⟩ (cA1 (fun x0=>rV [bl x0]) hr0) trivial eX
theorem oT (xs ys:List ByteArray):
 Fn0 Tryz.prog 28 [strs xs,strs ys] (bl (decide (xs=ys))):=by
 refine fnI Tryz.func28 rfl rfl (fun w0 F0=> ?_)
 refine fcC (aT 0 J) (fun hm0=> ?_)
 refine fcC (aT 1 J) (fun hm1=> ?_)
 refine sq (rg (ag (nl (th (sq (sq (rg (mv (lnF J T.dW (mv (lnF J T.dW (bi J J fR (nl (th ?_))))))))))))))
 refine cd J (fun hc0=> ?_) (fun hc0=> ?_)
 ·try simp at hc0
  refine sq (rg (ag (nl (th (rt (rt_ ?_))))))
  have hr0:false=(decide (xs=ys)):=by
   rw[decide_eq_false];intro h;subst h;simp at hc0
  exact rE () [.tmp 4] J [bl false] ⟨.tmp J,tV⟩ (cA1 (fun x0=>rV [bl x0]) hr0) trivial eX
 ·try simp at hc0
  refine sk (th (sq (sq (rg (mv (lnF J T.dW (mv (nl (th (bk ?_))))))))))
  have hI0_0:0≤xs.length:=by
   first|omega|simp
  have hI0_1:xs.take 0=ys.take 0:=by
   simp
  refine lp (κ:=Nat) (fun p=> [(1,sl 1 rE_ ys),(12,sl 1 rE_ xs),(13,int (xs.length:Int)),(14,int (p:Int))]) (fun p=> []) (fun p=>(p≤xs.length)∧(xs.take p=ys.take p)) (fun p=>xs.length- p) 0 ⟨hI0_0,hI0_1⟩ ⟨id,id,id,id,tV⟩ trivial ?_
  intro k hG0
  obtain⟨hk0,hI0⟩:(k≤xs.length)∧(xs.take k=ys.take k):=hG0
  refine sq (rg (bi J J aO (nl (th (sq ?_)))))
  refine cd J (fun hc1=> ?_) (fun hc1=> ?_)
  ·try simp at hc1
   refine sk (th (sq (bk (sq (rg (mv (iF J J T.dW O gB (lF J J T.xA (ag (ag (nl (th (sq (rg (mv (mv (mv (iF J J T.dW O gB (lF J J T.xA (bi J J Kq (nl (th ?_))))))))))))))))))))))
   refine cd J (fun hc2=> ?_) (fun hc2=> ?_)
   ·try simp at hc2
    refine sq (rg (ag (nl (th (rt (rb (rt_ (rt_ (rb (rt_ ?_))))))))))
    have hr0:false=(decide (xs=ys)):=by
     rw[decide_eq_false];intro h;subst h;simp at hc2
    exact rE () [.tmp 4] J [bl false] ⟨.tmp J,tV⟩ (cA1 (fun x0=>rV [bl x0]) hr0) trivial eX
   ·try simp at hc2
    refine sk (eb (th (rg (bi J J (aG i6) (mv (nl ?_))))))
    have hN0:(k+1)≤xs.length:=by
     first|omega|simp_all
    have hN1:xs.take (k+1)=ys.take (k+1):=by
     rw[bJ O,bJ O,hI0];try simp at hc2
     rw[hc2]
    exact ln (k+1) ⟨hN0,hN1⟩ dO ⟨id,id,id,id,tV⟩ trivial
  ·try simp at hc1
   refine ex (xt_ (xt_ (xb (th (sq (rg (ag (nl (th (rt ?_))))))))))
   have hr0:true=(decide (xs=ys)):=by
    rw[decide_eq_true]
    rw[show k=xs.length by omega,List.take_length] at hI0
    rw[hI0,show xs.length=ys.length by omega,List.take_length]
   exact rE () [.tmp 4] J [bl true] ⟨.tmp J,tV⟩ (cA1 (fun x0=>rV [bl x0]) hr0) trivial eX
end ref01
end
section
open ref01
def wt (x:SA):Nat:=x.aP.length+x.next.length
def part (s:SS) (k:Nat):Nat:=s.aC.length+s.sT.length+((s.sT.take k).map wt).sum
def size (s:SS):Nat:=part s s.sT.length
def few (s:SS) (most:Int):Bool:=decide ((size s:Int)≤most)
theorem xB {s:SS} {k:Nat} (h:k<s.sT.length):part s (k+1)=part s k+((ix s.sT k).aP.length+(ix s.sT k).next.length):=by
 unfold part
 rw[bJ h,List.map_append,List.sum_append]
 simp[wt];omega
theorem xC {s:SS} {k j:Nat} (h:k≤j):part s k≤part s j:=by
 induction j with
 |zero=>have:k=0:=by omega
        subst this;exact Nat.le_refl _
 |succ j ih=>
  by_cases e:k=j+1
  ·subst e;exact Nat.le_refl _
  ·have:=ih O
   by_cases hj:j<s.sT.length
   ·rw[xB hj];omega
   ·unfold part at*
    rw[List.take_of_length_le (show s.sT.length≤j+1 by omega)]
    rw[List.take_of_length_le (show s.sT.length≤j by omega)] at this
    exact this
theorem Rq (s:SS):s.aC.length+s.sT.length≤size s∧∀k,k<s.sT.length→(ix s.sT k).aP.length+(ix s.sT k).next.length≤size s:=by
 refine⟨?_,fun k hk=> ?_⟩
 ·have:=xC (s:=s) (show 0≤s.sT.length by omega)
  unfold size
  unfold part at this ⊢
  simp at this ⊢
 ·have h1:=xB (s:=s) hk
  have h2:=xC (s:=s) (show k+1≤s.sT.length by omega)
  unfold size;omega
def fW (x:SA) (n:Nat) (t:Int):Bool:=eG (n:Int) t&&(aL n t).all fun a=>decide (0≤ix x.next a.toNat)
def cT (x:SA) (N:Int) (n:Nat):Bool:=decide ((x.next.length:Int)=(n:Int))&&rising x.aP&&x.next.all (fun j=>decide (-1≤j)&&decide (j<N))&&x.aP.all (fW x n)
theorem Fe {n:Nat} {t:Int} (hn:n≤8) (h:eG (n:Int) t=true):0≤t∧t<256:=by
 unfold eG at h
 simp only [Bool.and_eq_true,decide_eq_true_eq,Int.toNat_natCast] at h
 have:2^n≤2^8:=Nat.pow_le_pow_right O hn
 omega
theorem KI {n:Nat} {t:Int} {k:Nat} (h:k<(aL n t).length):0≤ix (aL n t) k∧ix (aL n t) k<(n:Int):=by
 have hm:ix (aL n t) k∈aL n t:=by rw[aF h];exact List.getElem_mem h
 unfold aL at hm
 obtain⟨a,ha,hk⟩:=List.mem_map.1 hm
 have:=List.mem_range.1 (List.mem_filter.1 ha).1
 unfold aL
 rw[←hk];omega
def bT (s:SS):Bool:=bZ s.aC&&decide (1≤s.sT.length)&&decide (s.sT.length≤500)&&s.sT.all fun x=>cT x (s.sT.length:Int) s.aC.length
theorem gF {l:List ByteArray} (h:bZ l=true):l.length≤8:=by
 unfold bZ at h;simp at h;exact h.1
def isNone (s:SS):Bool:=decide (s.aC.length=0)&&decide (s.sT.length=0)
def nothing (l:List ByteArray):SS:=⟨l,[⟨[],List.replicate l.length (-1)⟩]⟩
namespace T
theorem cP:fD Tryz.prog 28 0 0:=eK kR
theorem cK:eF Tryz.prog 22:=fT kR
theorem bA:fD Tryz.prog 28 1 1:=eK kR
theorem bM:eF Tryz.prog 26:=fT kR
theorem cE:IsSlice Tryz.prog 26 79 2:=gU kR
theorem cJ:fD Tryz.prog 79 0 0:=eK kR
theorem aY:eF Tryz.prog 66:=fT kR
theorem bR:fD Tryz.prog 79 1 1:=eK kR
theorem Ut:Ent Tryz.prog 106:=aN kR
theorem QA:Ent Tryz.prog 31:=aN kR
theorem Uu:Ent Tryz.prog 107:=aN kR
theorem QB:Ent Tryz.prog 56:=aN kR
theorem cR:iU Tryz.prog 79 2:=jJ kR
theorem z79:eW Tryz.prog 79 [.slice none 0 0,.slice none 0 0]:=cY kR
theorem WO:Ent Tryz.prog 57:=aN kR
theorem Jo:Ent Tryz.prog 28:=aN kR
theorem Jp:Ent Tryz.prog 49:=aN kR
theorem z28:eW Tryz.prog 28 [.slice none 0 0,.slice none 0 0]:=cY kR
theorem uB:eL Tryz.prog 22 9 1 16 [.string ⟨#[]⟩]:=jK kR kR
theorem kS:eL Tryz.prog 26 79 2 48 [.slice none 0 0,.slice none 0 0]:=jK kR kR
theorem nA:iZ Tryz.prog 28 [(0,1),(1,1)] [.slice none 0 0,.slice none 0 0]:=jB kR kR
theorem aW:iU Tryz.prog 28 2:=jJ kR
theorem vR:iZ Tryz.prog 79 [(0,1),(1,1)] [.slice none 0 0,.slice none 0 0]:=jB kR kR
end T
namespace ref03
theorem Ff (s:SS) (most:Int) (hm:most≤1000000):
 Fn0 Tryz.prog 46 [spec s,int most] (bl (few s most)):=by
 refine fnI Tryz.func46 rfl rfl (fun w0 F0=> ?_)
 refine fcC (bV 0 J) (fun hS0=> ?_)
 obtain⟨hsa0,hss0,hse0⟩:=sLn hS0
 refine sq (rg (bx (key:=2) (cs:= [sl 1 rE_ s.aC,sl 2 sE s.sT]) J fun b2=>(ag (nl (th (sq (rg (fP J T.cP (lP J J J T.cK (fc (aT 8 J) fun hm8=>(lnF J T.dW (fP J T.bA (lP J J J T.bM (fc (aT 11 J) fun hm11=>(lnF J T.cE (bi J J (aG i6) (ag (nl (th (sq (sq (rg (ag (nl (th (bk ?_))))))))))))))))))))))))))
 have hI0_0:0≤s.sT.length∧((s.aC.length+s.sT.length:Nat):Int)=(part s 0:Int):=by
  refine⟨O,?_⟩
  unfold part;simp
 refine lp (κ:=Nat × Int) (fun p=> [(1,int most),(2,ptr 2 b2 0),(4,bl false),(5,int p.2),(6,int (p.1:Int))]) (fun p=> [(2,cell b2 [sl 1 rE_ s.aC,sl 2 sE s.sT])]) (fun p=>p.1≤s.sT.length∧p.2=(part s p.1:Int)) (fun p=>s.sT.length- p.1) ⟨0,((s.aC.length+s.sT.length:Nat):Int)⟩ hI0_0 ⟨id,id,id,id,id,tV⟩ ⟨rI,tV⟩ ?_
 intro⟨k,n⟩ hG0
 have hI0:k≤s.sT.length∧n=(part s k:Int):=hG0
 show Ct _ _ _ _ [(1,int most),(2,ptr 2 b2 0),(4,bl false),(5,int n),(6,int (k:Int))] [(2,cell b2 [sl 1 rE_ s.aC,sl 2 sE s.sT])] _
 refine sq (sq (rg (mv (fP J T.bA (lP J J J T.bM (lnF J T.cE (bi J J aO (mv ?_))))))))
 apply cZ (t:=19) (pd:=23) rfl
 rotate_left
 ·intro hg0 fin
  have hg0':=hg0
  try simp at hg0'
  exact gy J J J hg0 (mv (gy J J J hg0 (mv (gy J J J hg0 (bi J J nV (pkT J hg0 J (drp (X:= [(22,_),(21,_),(20,_)]) ⟨J,J,J,tV⟩ fin)))))))
 ·intro hg0 fin
  exact gn J J J hg0 J J (gn J J J hg0 J J (gn J J J hg0 J J (pkF J hg0 J (drp (X:= [(22,_),(21,_),(20,_)]) ⟨J,J,J,tV⟩ fin))))
 refine nl (th ?_)
 refine cd J (fun hc0=> ?_) (fun hc0=> ?_)
 ·try simp at hc0
  have hl:=hse0 k O
  refine sk (th (sq (bk (dr (nh:=18) [0,0,2,0,14,30,62,126,0,256,0,1792,3840,7936,16128,32766,65535,131071] T.mixed kR ?_))))
  refine st_ J (fun _ _ _ gq kq=>mv' (gq.1.trans J) kq) ?_
  refine st_ J (fun _ _ _ gq kq=>fP (gq.1.trans J) T.bA kq) ?_
  refine st_ J (fun _ _ _ gq kq=>lP (gq.1.trans J) J J T.bM kq) ?_
  refine st_ J (fun _ _ _ gq kq=>mv' (gq.1.trans J) kq) ?_
  refine st_ J (fun _ _ _ gq kq=>iF (gq.1.trans J) (gq.2.1.trans J) T.cE O gB kq) ?_
  refine st_ J (fun _ _ _ gq kq=>fF (gq.1.trans J) T.cJ kq) ?_
  refine st_ J (fun _ _ _ gq kq=>lF (gq.1.trans J) J T.aY kq) ?_
  refine st_ J (fun _ _ _ gq kq=>lnF (gq.1.trans J) T.aU kq) ?_
  refine st_ J (fun _ _ _ gq kq=>fP (gq.1.trans J) T.bA kq) ?_
  refine st_ J (fun _ _ _ gq kq=>lP (gq.1.trans J) J J T.bM kq) ?_
  refine st_ J (fun _ _ _ gq kq=>mv' (gq.1.trans J) kq) ?_
  refine st_ J (fun _ _ _ gq kq=>iF (gq.1.trans J) (gq.2.1.trans J) T.cE O gB kq) ?_
  refine st_ J (fun _ _ _ gq kq=>fF (gq.1.trans J) T.bR kq) ?_
  refine st_ J (fun _ _ _ gq kq=>lF (gq.1.trans J) J T.aY kq) ?_
  refine st_ J (fun _ _ _ gq kq=>lnF (gq.1.trans J) T.aU kq) ?_
  refine st_ J (fun _ _ _ gq kq=>bi (gq.1.trans J) (gq.2.1.trans J) (aG i6) kq) ?_
  refine st_ J (fun _ _ _ gq kq=>bi (gq.1.trans J) (gq.2.1.trans J) (aG i6) kq) ?_
  refine st_ J (fun _ _ _ gq kq=>ag' (gq.1.trans J) kq) ?_
  refine pn (nl (eb (th (rg (mv (bi J J (aG i6) (ag (nl ?_))))))))
  have hN0:(k+1)≤s.sT.length∧(n+(((ix s.sT k).aP.length+(ix s.sT k).next.length:Nat):Int))=(part s (k+1):Int):=by
   have h:=xB (s:=s) (k:=k) O
   refine⟨O,?_⟩
   rw[h];omega
  exact ln (⟨k+1,n+(((ix s.sT k).aP.length+(ix s.sT k).next.length:Nat):Int)⟩:Nat × Int) hN0 dO ⟨id,id,id,id,id,tV⟩ ⟨rI,tV⟩
 ·try simp at hc0
  refine ex (xt_ (xt_ (xb (th (sq (rg (mv (mv (bi J J nV (ag (nl (th (rt ?_)))))))))))))
  have hr0:(decide (n≤most))=(few s most):=by
   unfold few size
   have h1:=xC (s:=s) hI0.1
   by_cases h2:k<s.sT.length
   ·rw[decide_eq_false O,decide_eq_false O]
   ·rw[hI0.2,show k=s.sT.length by omega]
  exact rE () [.tmp 4] J [bl (decide (n≤most))] ⟨.tmp J,tV⟩ (cA1 (fun x0=>rV [bl x0]) hr0) trivial eX
theorem NF (x:SA) (N:Int) (n:Nat) (hn:n≤8):
 Fn0 Tryz.prog 57 [state x,int N,int (n:Int)] (bl (cT x N n)):=by
 refine fnI Tryz.func57 rfl rfl (fun w0 F0=> ?_)
 refine fcC (bV 0 J) (fun hS0=> ?_)
 obtain⟨hxa0,hxn0⟩:=lU hS0
 refine sq (rg (bx (key:=3) (cs:= [sl 1 nE x.aP,sl 1 nE x.next]) J fun b3=>(ag (nl (th (sq (sq (rg (fP J T.bR (lP J J J T.aY (fc (aT 14 J) fun hm14=>(lnF J T.aU (mv (bi J J fR (mv ?_)))))))))))))))
 apply gOr (t:=18) (pd:=23) rfl
 rotate_left
 ·intro hg0 fin
  have hg0':=hg0
  try simp at hg0'
  exact gy J J J hg0 (fP J T.cJ (gy J J J hg0 (lP J J J T.aY (gy J J J hg0 (aZ (φs:= [sl 1 nE x.aP]) (φ:=bl (rising x.aP)) ⟨J,tV⟩ (ref01.KG _) T.Ut (gy J J J hg0 (no J (pkF J hg0 J (drp (X:= [(22,_),(21,_),(20,_),(19,_)]) ⟨J,J,J,J,tV⟩ fin)))))))))
 ·intro hg0 fin
  exact gn J J J hg0 J J (gn J J J hg0 J J (gn J J J hg0 J J (gn J J J hg0 J J (pkT J hg0 J (drp (X:= [(22,_),(21,_),(20,_),(19,_)]) ⟨J,J,J,J,tV⟩ fin)))))
 refine nl (th ?_)
 refine cd J (fun hc0=> ?_) (fun hc0=> ?_)
 ·try simp at hc0
  refine sq (rg (ag (nl (th (rt (rt_ ?_))))))
  have hr0:false=(cT x N n):=by
   unfold cT
   by_cases h:rising x.aP=true
   ·simp[h] at hc0
    rw[decide_eq_false O];rfl
   ·simp[h]
  exact rE () [.tmp 6] J [bl false] ⟨.tmp J,tV⟩ (cA1 (fun x0=>rV [bl x0]) hr0) trivial eX
 ·try simp at hc0
  refine sk (th (sq (sq (rg (fP J T.bR (lP J J J T.aY (lnF J T.aU (mv (nl (th (bk ?_)))))))))))
  have hI0_0:0≤x.next.length:=by
   first|omega|simp
  have hI0_1:(x.next.take 0).all (fun j=>decide (-1≤j)&&decide (j<N))=true:=by
   simp
  refine lp (κ:=Nat) (fun p=> [(1,int N),(2,int (n:Int)),(3,ptr 3 b3 0),(25,sl 1 nE x.next),(26,int (x.next.length:Int)),(27,int (p:Int))]) (fun p=> [(3,cell b3 [sl 1 nE x.aP,sl 1 nE x.next])]) (fun p=>(p≤x.next.length)∧((x.next.take p).all (fun j=>decide (-1≤j)&&decide (j<N))=true)) (fun p=>x.next.length- p) 0 ⟨hI0_0,hI0_1⟩ ⟨id,id,id,id,id,id,tV⟩ ⟨rI,tV⟩ ?_
  intro k hG0
  obtain⟨hk0,hI0⟩:(k≤x.next.length)∧((x.next.take k).all (fun j=>decide (-1≤j)&&decide (j<N))=true):=hG0
  refine sq (rg (bi J J aO (nl (th (sq ?_)))))
  refine cd J (fun hc1=> ?_) (fun hc1=> ?_)
  ·try simp at hc1
   refine sk (th (sq (bk (sq (rg (iF J J T.aU O gB (lF J J T.aH (ag (nl (th (sq (rg (mv (bi J J aO (mv ?_)))))))))))))))
   apply gOr (t:=33) (pd:=37) rfl
   rotate_left
   ·intro hg1 fin
    have hg1':=hg1
    try simp at hg1'
    exact gy J J J hg1 (mv (gy J J J hg1 (mv (gy J J J hg1 (bi J J fK (pkF J hg1 J (drp (X:= [(36,_),(35,_),(34,_)]) ⟨J,J,J,tV⟩ fin)))))))
   ·intro hg1 fin
    exact gn J J J hg1 J J (gn J J J hg1 J J (gn J J J hg1 J J (pkT J hg1 J (drp (X:= [(36,_),(35,_),(34,_)]) ⟨J,J,J,tV⟩ fin))))
   refine nl (th ?_)
   refine cd J (fun hc2=> ?_) (fun hc2=> ?_)
   ·try simp at hc2
    refine sq (rg (ag (nl (th (rt (rb (rt_ (rt_ (rb (rt_ ?_))))))))))
    have hr0:false=(cT x N n):=by
     unfold cT
     rw[fV (xs:=x.next) (k:=k) O (by simp;omega)];simp
    exact rE () [.tmp 6] J [bl false] ⟨.tmp J,tV⟩ (cA1 (fun x0=>rV [bl x0]) hr0) trivial eX
   ·try simp at hc2
    refine sk (eb (th (rg (bi J J (aG i6) (mv (nl ?_))))))
    have hN0:(k+1)≤x.next.length:=by
     first|omega|simp_all
    have hN1:(x.next.take (k+1)).all (fun j=>decide (-1≤j)&&decide (j<N))=true:=by
     rw[eQ O,hI0]
     simp
     omega
    exact ln (k+1) ⟨hN0,hN1⟩ dO ⟨id,id,id,id,id,id,tV⟩ ⟨rI,tV⟩
  ·try simp at hc1
   refine ex (xt_ (xt_ (xb (th (sq (sq (rg (fP J T.cJ (lP J J J T.aY (fc (aT 40 J) fun hm40=>(lnF J T.aU (mv (nl (th (bk ?_)))))))))))))))
   have hI1_0:0≤x.aP.length:=by
    first|omega|simp
   have hI1_1:(x.aP.take 0).all (fW x n)=true:=by
    simp
   refine lp (κ:=Nat) (fun p=> [(2,int (n:Int)),(3,ptr 3 b3 0),(40,sl 1 nE x.aP),(41,int (x.aP.length:Int)),(42,int (p:Int))]) (fun p=> [(3,cell b3 [sl 1 nE x.aP,sl 1 nE x.next])]) (fun p=>(p≤x.aP.length)∧((x.aP.take p).all (fW x n)=true)) (fun p=>x.aP.length- p) 0 ⟨hI1_0,hI1_1⟩ ⟨id,id,id,id,id,tV⟩ ⟨rI,tV⟩ ?_
   intro k1 hG1
   obtain⟨hk1,hI1⟩:(k1≤x.aP.length)∧((x.aP.take k1).all (fW x n)=true):=hG1
   refine sq (rg (bi J J aO (nl (th (sq ?_)))))
   refine cd J (fun hc3=> ?_) (fun hc3=> ?_)
   ·try simp at hc3
    refine sk (th (sq (bk (sq (rg (iF J J T.aU O gB (lF J J T.aH (ag (nl (th (sq (sq (rg (mv (mv (aZ (φs:= [int (n:Int),int (ix x.aP k1)]) (φ:=bl (eG (n:Int) (ix x.aP k1))) ⟨J,J,tV⟩ (ref01.KH _ _ O O) T.QA (no J (nl (th ?_)))))))))))))))))))
    refine cd J (fun hc4=> ?_) (fun hc4=> ?_)
    ·try simp at hc4
     refine sq (rg (ag (nl (th (rt (rt_ (rb (rt_ (rt_ (rb (rt_ ?_)))))))))))
     have hr0:false=(cT x N n):=by
      unfold cT
      rw[fV (xs:=x.aP) (k:=k1) O (by simp[fW,hc4])];simp
     exact rE () [.tmp 6] J [bl false] ⟨.tmp J,tV⟩ (cA1 (fun x0=>rV [bl x0]) hr0) trivial eX
    ·try simp at hc4
     have hset:=Fe O hc4
     refine sk (th (sq (rg (mv (mv (aZ (φs:= [int (n:Int),int (ix x.aP k1)]) (φ:=sl 1 nE (aL n (ix x.aP k1))) ⟨J,J,tV⟩ (ref01.Ro n _ O O O) T.Uu (fc (aT 52 J) fun hm52=>(lnF J T.aU (mv (nl (th (bk ?_))))))))))))
     have hI2_0:0≤(aL n (ix x.aP k1)).length:=by
      first|omega|simp
     have hI2_1:((aL n (ix x.aP k1)).take 0).all (fun a=>decide (0≤ix x.next a.toNat))=true:=by
      simp
     refine lp (κ:=Nat) (fun p=> [(2,int (n:Int)),(3,ptr 3 b3 0),(40,sl 1 nE x.aP),(41,int (x.aP.length:Int)),(42,int (k1:Int)),(52,sl 1 nE (aL n (ix x.aP k1))),(53,int ((aL n (ix x.aP k1)).length:Int)),(54,int (p:Int))]) (fun p=> [(3,cell b3 [sl 1 nE x.aP,sl 1 nE x.next])]) (fun p=>(p≤(aL n (ix x.aP k1)).length)∧(((aL n (ix x.aP k1)).take p).all (fun a=>decide (0≤ix x.next a.toNat))=true)) (fun p=>(aL n (ix x.aP k1)).length- p) 0 ⟨hI2_0,hI2_1⟩ ⟨id,id,id,id,id,id,id,id,tV⟩ ⟨rI,tV⟩ ?_
     intro k2 hG2
     obtain⟨hk2,hI2⟩:(k2≤(aL n (ix x.aP k1)).length)∧(((aL n (ix x.aP k1)).take k2).all (fun a=>decide (0≤ix x.next a.toNat))=true):=hG2
     refine sq (rg (bi J J aO (nl (th (sq ?_)))))
     refine cd J (fun hc5=> ?_) (fun hc5=> ?_)
     ·try simp at hc5
      have hb:=KI (n:=n) (t:=ix x.aP k1) (k:=k2) O
      refine sk (th (sq (bk (sq (rg (iF J J T.aU O gB (lF J J T.aH (ag (nl (th (sq (rg (fP J T.bR (lP J J J T.aY (mv (iF J J T.aU O gB (lF J J T.aH (bi J J aO (nl (th ?_))))))))))))))))))))
      refine cd J (fun hc6=> ?_) (fun hc6=> ?_)
      ·try simp at hc6
       refine sq (rg (ag (nl (th (rt (rb (rt_ (rt_ (rb (rb (rt_ (rt_ (rb (rt_ ?_))))))))))))))
       have hr0:false=(cT x N n):=by
        unfold cT
        rw[fV (xs:=x.aP) (k:=k1) O ?_];simp
        unfold fW
        rw[fV (xs:=aL n (ix x.aP k1)) (k:=k2) O (by simpa using hc6)];simp
       exact rE () [.tmp 6] J [bl false] ⟨.tmp J,tV⟩ (cA1 (fun x0=>rV [bl x0]) hr0) trivial eX
      ·try simp at hc6
       refine sk (eb (th (rg (bi J J (aG i6) (mv (nl ?_))))))
       have hN0:(k2+1)≤(aL n (ix x.aP k1)).length:=by
        first|omega|simp_all
       have hN1:((aL n (ix x.aP k1)).take (k2+1)).all (fun a=>decide (0≤ix x.next a.toNat))=true:=by
        rw[eQ O,hI2]
        simpa using hc6
       exact ln (k2+1) ⟨hN0,hN1⟩ dO ⟨id,id,id,id,id,id,id,id,tV⟩ ⟨rI,tV⟩
     ·try simp at hc5
      refine ex (xt_ (xt_ (xb (eb (th (rg (bi J J (aG i6) (mv (nl ?_)))))))))
      have hN0:(k1+1)≤x.aP.length:=by
       first|omega|simp_all
      have hN1:(x.aP.take (k1+1)).all (fW x n)=true:=by
       rw[eQ O,hI1]
       unfold fW
       rw[hc4]
       rw[show k2=(aL n (ix x.aP k1)).length by omega,List.take_length] at hI2
       rw[hI2];rfl
      exact ln (k1+1) ⟨hN0,hN1⟩ dO ⟨id,id,id,id,id,tV⟩ ⟨rI,tV⟩
   ·try simp at hc3
    refine ex (xt_ (xt_ (xb (th (sq (rg (ag (nl (th (rt ?_))))))))))
    have hr0:true=(cT x N n):=by
     unfold cT
     rw[show k=x.next.length by omega,List.take_length] at hI0
     rw[show k1=x.aP.length by omega,List.take_length] at hI1
     rw[hI0,hI1]
     simp[hc0]
    exact rE () [.tmp 6] J [bl true] ⟨.tmp J,tV⟩ (cA1 (fun x0=>rV [bl x0]) hr0) trivial eX
theorem tF (s:SS):
 Fn0 Tryz.prog 21 [spec s] (bl (bT s)):=by
 refine fnI Tryz.func21 rfl rfl (fun w0 F0=> ?_)
 refine fcC (bV 0 J) (fun hS0=> ?_)
 obtain⟨hsa0,hss0,hse0⟩:=sLn hS0
 refine sq (rg (bx (key:=1) (cs:= [sl 1 rE_ s.aC,sl 2 sE s.sT]) J fun b1=>(ag (nl (th (sq (sq (rg (fP J T.cP (lP J J J T.cK (aZ (φs:= [sl 1 rE_ s.aC]) (φ:=bl (bZ s.aC)) ⟨J,tV⟩ (ref01.tF _) T.QB (no J (mv ?_)))))))))))))
 apply gOr (t:=9) (pd:=14) rfl
 rotate_left
 ·intro hg0 fin
  have hg0':=hg0
  try simp at hg0'
  exact gy J J J hg0 (fP J T.bA (gy J J J hg0 (lP J J J T.bM (gy J J J hg0 (fc (aT 11 J) fun hm11=>(lnF J T.cE (gy J J J hg0 (bi J J aO (pkF J hg0 J (drp (X:= [(13,_),(12,_),(11,_),(10,_)]) ⟨J,J,J,J,tV⟩ fin))))))))))
 ·intro hg0 fin
  exact gn J J J hg0 J J (gn J J J hg0 J J (gn J J J hg0 J J (gn J J J hg0 J J (pkT J hg0 J (drp (X:= [(13,_),(12,_),(11,_),(10,_)]) ⟨J,J,J,J,tV⟩ fin)))))
 refine mv ?_
 apply gOr (t:=15) (pd:=20) rfl
 rotate_left
 ·intro hg1 fin
  have hg1':=hg1
  try simp at hg1'
  exact gy J J J hg1 (fP J T.bA (gy J J J hg1 (lP J J J T.bM (gy J J J hg1 (fc (aT 17 J) fun hm17=>(lnF J T.cE (gy J J J hg1 (bi J J fJ (pkF J hg1 J (drp (X:= [(19,_),(18,_),(17,_),(16,_)]) ⟨J,J,J,J,tV⟩ fin))))))))))
 ·intro hg1 fin
  exact gn J J J hg1 J J (gn J J J hg1 J J (gn J J J hg1 J J (gn J J J hg1 J J (pkT J hg1 J (drp (X:= [(19,_),(18,_),(17,_),(16,_)]) ⟨J,J,J,J,tV⟩ fin)))))
 refine nl (th ?_)
 refine cd J (fun hc0=> ?_) (fun hc0=> ?_)
 ·try simp at hc0
  refine sq (rg (ag (nl (th (rt (rt_ ?_))))))
  have hr0:false=(bT s):=by
   unfold bT
   by_cases h:bZ s.aC=true
   ·simp[h] at hc0 ⊢
    omega
   ·simp[h]
  exact rE () [.tmp 2] J [bl false] ⟨.tmp J,tV⟩ (cA1 (fun x0=>rV [bl x0]) hr0) trivial eX
 ·try simp at hc0
  have hact:=gF (l:=s.aC) (by simp_all)
  refine sk (th (sq (sq (rg (fP J T.bA (lP J J J T.bM (fc (aT 22 J) fun hm22=>(lnF J T.cE (mv (nl (th (bk ?_))))))))))))
  have hI0_0:0≤s.sT.length:=by
   first|omega|simp
  have hI0_1:(s.sT.take 0).all (fun x=>cT x (s.sT.length:Int) s.aC.length)=true:=by
   simp
  refine lp (κ:=Nat) (fun p=> [(1,ptr 1 b1 0),(22,sl 2 sE s.sT),(23,int (s.sT.length:Int)),(24,int (p:Int))]) (fun p=> [(1,cell b1 [sl 1 rE_ s.aC,sl 2 sE s.sT])]) (fun p=>(p≤s.sT.length)∧((s.sT.take p).all (fun x=>cT x (s.sT.length:Int) s.aC.length)=true)) (fun p=>s.sT.length- p) 0 ⟨hI0_0,hI0_1⟩ ⟨id,id,id,id,tV⟩ ⟨rI,tV⟩ ?_
  intro k hG0
  obtain⟨hk0,hI0⟩:(k≤s.sT.length)∧((s.sT.take k).all (fun x=>cT x (s.sT.length:Int) s.aC.length)=true):=hG0
  refine sq (rg (bi J J aO (nl (th (sq ?_)))))
  refine cd J (fun hc1=> ?_) (fun hc1=> ?_)
  ·try simp at hc1
   refine sk (th (sq (bk (sq (rg (iF J J T.cE O gB (lFA J T.cR (Nat.le_of_ble_eq_true J) (al (key:=4) T.z79 (eC (eC eZ)) fun b4=>(sPA (cs':= [sl 1 nE (ix s.sT k).aP,sl 1 nE (ix s.sT k).next]) J J J T.cR J J (nl (th (sq (rg (lPA J J T.cR J (fP J T.bA (lP J J J T.bM (lnF J T.cE (fP J T.cP (lP J J J T.cK (fc (aT 33 J) fun hm33=>(lnF J T.dW (aZ (φs:= [agg [sl 1 nE (ix s.sT k).aP,sl 1 nE (ix s.sT k).next],int (s.sT.length:Int),int (s.aC.length:Int)]) (φ:=bl (cT (ix s.sT k) (s.sT.length:Int) s.aC.length)) ⟨J,J,J,tV⟩ (ref03.NF (ix s.sT k) _ s.aC.length O) T.WO (no J (nl (th ?_)))))))))))))))))))))))))
   refine cd J (fun hc2=> ?_) (fun hc2=> ?_)
   ·try simp at hc2
    refine sq (rg (ag (nl (th (rt (rb (rt_ (rt_ (rb (rt_ ?_))))))))))
    have hr0:false=(bT s):=by
     unfold bT
     rw[fV (xs:=s.sT) (k:=k) O (by simpa using hc2)];simp
    exact rE () [.tmp 2] J [bl false] ⟨.tmp J,tV⟩ (cA1 (fun x0=>rV [bl x0]) hr0) trivial eX
   ·try simp at hc2
    refine sk (eb (th (rg (bi J J (aG i6) (mv (nl ?_))))))
    have hN0:(k+1)≤s.sT.length:=by
     first|omega|simp_all
    have hN1:(s.sT.take (k+1)).all (fun x=>cT x (s.sT.length:Int) s.aC.length)=true:=by
     rw[eQ O,hI0]
     simpa using hc2
    exact ln (k+1) ⟨hN0,hN1⟩ dO ⟨id,id,id,id,tV⟩ ⟨rI,tV⟩
  ·try simp at hc1
   refine ex (xt_ (xt_ (xb (th (sq (rg (ag (nl (th (rt ?_))))))))))
   have hr0:true=(bT s):=by
    unfold bT
    rw[show k=s.sT.length by omega,List.take_length] at hI0
    rw[hI0]
    simp[hc0];omega
   exact rE () [.tmp 2] J [bl true] ⟨.tmp J,tV⟩ (cA1 (fun x0=>rV [bl x0]) hr0) trivial eX
theorem Rs (s:SS):
 Fn0 Tryz.prog 20 [spec s] (bl (isNone s)):=by
 refine fnI Tryz.func20 rfl rfl (fun w0 F0=> ?_)
 refine fcC (bV 0 J) (fun hS0=> ?_)
 obtain⟨hsa0,hss0,hse0⟩:=sLn hS0
 refine sq (rg (bx (key:=1) (cs:= [sl 1 rE_ s.aC,sl 2 sE s.sT]) J fun b1=>(ag (nl (th (sq (rg (fP J T.cP (lP J J J T.cK (fc (aT 4 J) fun hm4=>(lnF J T.dW (bi J J eS (mv ?_)))))))))))))
 apply cZ (t:=7) (pd:=12) rfl
 rotate_left
 ·intro hg0 fin
  have hg0':=hg0
  try simp at hg0'
  exact gy J J J hg0 (fP J T.bA (gy J J J hg0 (lP J J J T.bM (gy J J J hg0 (fc (aT 9 J) fun hm9=>(lnF J T.cE (gy J J J hg0 (bi J J eS (pkT J hg0 J (drp (X:= [(11,_),(10,_),(9,_),(8,_)]) ⟨J,J,J,J,tV⟩ fin))))))))))
 ·intro hg0 fin
  exact gn J J J hg0 J J (gn J J J hg0 J J (gn J J J hg0 J J (gn J J J hg0 J J (pkF J hg0 J (drp (X:= [(11,_),(10,_),(9,_),(8,_)]) ⟨J,J,J,J,tV⟩ fin)))))
 refine ag (nl (th (rt ?_)))
 have hr0:((decide ((s.aC.length:Int)=0))&&(decide ((s.sT.length:Int)=0)))=(isNone s):=by
  unfold isNone;simp
 exact rE () [.tmp 2] J [bl ((decide ((s.aC.length:Int)=0))&&(decide ((s.sT.length:Int)=0)))] ⟨.tmp J,tV⟩ (cA1 (fun x0=>rV [bl x0]) hr0) trivial eX
theorem Rt (s t:SS):
 Fn0 Tryz.prog 41 [spec s,spec t] (bl (decide (s=t))):=by
 refine fnI Tryz.func41 rfl rfl (fun w0 F0=> ?_)
 refine fcC (bV 0 J) (fun hS0=> ?_)
 obtain⟨hsa0,hss0,hse0⟩:=sLn hS0
 refine fcC (bV 1 J) (fun hS1=> ?_)
 obtain⟨hsa1,hss1,hse1⟩:=sLn hS1
 refine sq (rg (bx (key:=2) (cs:= [sl 1 rE_ s.aC,sl 2 sE s.sT]) J fun b2=>(bx (key:=3) (cs:= [sl 1 rE_ t.aC,sl 2 sE t.sT]) J fun b3=>(ag (nl (th (sq (sq (rg (fP J T.cP (lP J J J T.cK (fP J T.cP (lP J J J T.cK (aZ (φs:= [sl 1 rE_ s.aC,sl 1 rE_ t.aC]) (φ:=bl (decide (s.aC=t.aC))) ⟨J,J,tV⟩ (ref01.oT _ _) T.Jo (no J (mv ?_))))))))))))))))
 apply gOr (t:=13) (pd:=21) rfl
 rotate_left
 ·intro hg0 fin
  have hg0':=hg0
  try simp at hg0'
  exact gy J J J hg0 (fP J T.bA (gy J J J hg0 (lP J J J T.bM (gy J J J hg0 (fc (aT 15 J) fun hm15=>(lnF J T.cE (gy J J J hg0 (fP J T.bA (gy J J J hg0 (lP J J J T.bM (gy J J J hg0 (fc (aT 18 J) fun hm18=>(lnF J T.cE (gy J J J hg0 (bi J J fR (pkF J hg0 J (drp (X:= [(20,_),(19,_),(18,_),(17,_),(16,_),(15,_),(14,_)]) ⟨J,J,J,J,J,J,J,tV⟩ fin)))))))))))))))))
 ·intro hg0 fin
  exact gn J J J hg0 J J (gn J J J hg0 J J (gn J J J hg0 J J (gn J J J hg0 J J (gn J J J hg0 J J (gn J J J hg0 J J (gn J J J hg0 J J (pkT J hg0 J (drp (X:= [(20,_),(19,_),(18,_),(17,_),(16,_),(15,_),(14,_)]) ⟨J,J,J,J,J,J,J,tV⟩ fin))))))))
 refine nl (th ?_)
 refine cd J (fun hc0=> ?_) (fun hc0=> ?_)
 ·try simp at hc0
  refine sq (rg (ag (nl (th (rt (rt_ ?_))))))
  have hr0:false=(decide (s=t)):=by
   rw[decide_eq_false];intro h;subst h;simp at hc0
  exact rE () [.tmp 4] J [bl false] ⟨.tmp J,tV⟩ (cA1 (fun x0=>rV [bl x0]) hr0) trivial eX
 ·try simp at hc0
  refine sk (th (sq (sq (rg (fP J T.bA (lP J J J T.bM (fc (aT 23 J) fun hm23=>(lnF J T.cE (mv (nl (th (bk ?_))))))))))))
  have hI0_0:0≤s.sT.length:=by
   first|omega|simp
  have hI0_1:s.sT.take 0=t.sT.take 0:=by
   simp
  refine lp (κ:=Nat) (fun p=> [(3,ptr 3 b3 0),(23,sl 2 sE s.sT),(24,int (s.sT.length:Int)),(25,int (p:Int))]) (fun p=> [(2,cell b2 [sl 1 rE_ s.aC,sl 2 sE s.sT]),(3,cell b3 [sl 1 rE_ t.aC,sl 2 sE t.sT])]) (fun p=>(p≤s.sT.length)∧(s.sT.take p=t.sT.take p)) (fun p=>s.sT.length- p) 0 ⟨hI0_0,hI0_1⟩ ⟨id,id,id,id,tV⟩ ⟨rI,rI,tV⟩ ?_
  intro k hG0
  obtain⟨hk0,hI0⟩:(k≤s.sT.length)∧(s.sT.take k=t.sT.take k):=hG0
  refine sq (rg (bi J J aO (nl (th (sq ?_)))))
  refine cd J (fun hc1=> ?_) (fun hc1=> ?_)
  ·try simp at hc1
   refine sk (th (sq (bk (sq (rg (mv (iF J J T.cE O gB (lFA J T.cR (Nat.le_of_ble_eq_true J) (al (key:=6) T.z79 (eC (eC eZ)) fun b6=>(ag (sPA (cs':= [sl 1 nE (ix s.sT k).aP,sl 1 nE (ix s.sT k).next]) J J J T.cR J J (nl (th (sq (dr (nh:=22) [0,1,0,4,0,28,60,124,255,511,1023,2047,4095,2047,10239,2047,59391,124927,255999,524287,1048575,2097151] T.mixed kR ?_)))))))))))))))
   refine st_ J (fun _ _ _ gq kq=>fP (gq.1.trans J) T.cJ kq) ?_
   refine st_ J (fun _ _ _ gq kq=>lP (gq.1.trans J) J J T.aY kq) ?_
   refine st_ J (fun _ _ _ gq kq=>fP (gq.1.trans J) T.bA kq) ?_
   refine st_ J (fun _ _ _ gq kq=>lP (gq.1.trans J) J J T.bM kq) ?_
   refine st_ J (fun _ _ _ gq kq=>mv' (gq.1.trans J) kq) ?_
   refine st_ J (fun _ _ _ gq kq=>iF (gq.1.trans J) (gq.2.1.trans J) T.cE O gB kq) ?_
   refine st_ J (fun _ _ _ gq kq=>fF (gq.1.trans J) T.cJ kq) ?_
   refine st_ J (fun _ _ _ gq kq=>lF (gq.1.trans J) J T.aY kq) ?_
   refine st_ J (fun _ _ _ gq kq=>aZ (φs:= [sl 1 nE (ix s.sT k).aP,sl 1 nE (ix t.sT k).aP]) (φ:=bl (decide ((ix s.sT k).aP=(ix t.sT k).aP))) ⟨(gq.1.trans J),(gq.2.1.trans J),tV⟩ (ref01.uA _ _) T.Jp kq) ?_
   refine st_ J (fun _ _ _ gq kq=>no (gq.1.trans J) kq) ?_
   refine st_ J (fun _ _ _ gq kq=>mv' (gq.1.trans J) kq) ?_
   refine sg_ (φ:=ptr 6 b6 1) J J J J (List.mem_of_elem_eq_true J) (fun hgd=> ?_) ?_
   ·have hgd':=hgd
    try simp at hgd'
    exact fun _ _ _ gq kq=>fP (gq.1.trans J) T.bR kq
   refine sg_ (φ:=sl 1 nE (ix s.sT k).next) J J J J (List.mem_of_elem_eq_true J) (fun hgd=> ?_) ?_
   ·have hgd':=hgd
    try simp at hgd'
    exact fun _ _ _ gq kq=>lP (gq.1.trans (cF hgd)) J J T.aY kq
   refine sg_ (φ:=ptr 3 b3 1) J J J J (List.mem_of_elem_eq_true J) (fun hgd=> ?_) ?_
   ·have hgd':=hgd
    try simp at hgd'
    exact fun _ _ _ gq kq=>fP (gq.1.trans J) T.bA kq
   refine sg_ (φ:=sl 2 sE t.sT) J J J J (List.mem_of_elem_eq_true J) (fun hgd=> ?_) ?_
   ·have hgd':=hgd
    try simp at hgd'
    exact fun _ _ _ gq kq=>lP (gq.1.trans (cF hgd)) J J T.bM kq
   refine sg_ (φ:=int (k:Int)) J J J J (List.mem_of_elem_eq_true J) (fun hgd=> ?_) ?_
   ·have hgd':=hgd
    try simp at hgd'
    exact fun _ _ _ gq kq=>mv' (gq.1.trans J) kq
   refine sg_ (φ:=fp [sl 1 nE (ix t.sT k).aP,sl 1 nE (ix t.sT k).next]) J J J J (List.mem_of_elem_eq_true J) (fun hgd=> ?_) ?_
   ·have hgd':=hgd
    try simp at hgd'
    exact fun _ _ _ gq kq=>iF (gq.1.trans (cF hgd)) (gq.2.1.trans (cF hgd)) T.cE O gB kq
   refine sg_ (φ:=fp [sl 1 nE (ix t.sT k).next]) J J J J (List.mem_of_elem_eq_true J) (fun hgd=> ?_) ?_
   ·have hgd':=hgd
    try simp at hgd'
    exact fun _ _ _ gq kq=>fF (gq.1.trans (cF hgd)) T.bR kq
   refine sg_ (φ:=sl 1 nE (ix t.sT k).next) J J J J (List.mem_of_elem_eq_true J) (fun hgd=> ?_) ?_
   ·have hgd':=hgd
    try simp at hgd'
    exact fun _ _ _ gq kq=>lF (gq.1.trans (cF hgd)) J T.aY kq
   refine sg_ (φ:=bl (decide ((ix s.sT k).next=(ix t.sT k).next))) J J J J (List.mem_of_elem_eq_true J) (fun hgd=> ?_) ?_
   ·have hgd':=hgd
    try simp at hgd'
    exact fun _ _ _ gq kq=>aZ (φs:= [sl 1 nE (ix s.sT k).next,sl 1 nE (ix t.sT k).next]) (φ:=bl (decide ((ix s.sT k).next=(ix t.sT k).next))) ⟨(gq.1.trans (cF hgd)),(gq.2.1.trans (cF hgd)),tV⟩ (ref01.uA _ _) T.Jp kq
   refine sg_ (φ:=bl (!(decide ((ix s.sT k).next=(ix t.sT k).next)))) J J J J (List.mem_of_elem_eq_true J) (fun hgd=> ?_) ?_
   ·have hgd':=hgd
    try simp at hgd'
    exact fun _ _ _ gq kq=>no (gq.1.trans (cF hgd)) kq
   refine st_ J (fun _ _ _ gq kq=>pk (gq.1.trans J) (qY (x:= .tmp 40) (gq.1.trans J) (gq.2.1.trans J) J) kq) ?_
   refine pn (nl (th ?_))
   refine cd J (fun hc2=> ?_) (fun hc2=> ?_)
   ·try simp at hc2
    refine sq (rg (ag (nl (th (rt (rb (rt_ (rt_ (rb (rt_ ?_))))))))))
    have hr0:false=(decide (s=t)):=by
     rw[decide_eq_false];intro h;subst h;simp at hc2
    exact rE () [.tmp 4] J [bl false] ⟨.tmp J,tV⟩ (cA1 (fun x0=>rV [bl x0]) hr0) trivial eX
   ·try simp at hc2
    refine sk (eb (th (rg (bi J J (aG i6) (mv (nl ?_))))))
    have hN0:(k+1)≤s.sT.length:=by
     first|omega|simp_all
    have hN1:s.sT.take (k+1)=t.sT.take (k+1):=by
     rw[bJ O,bJ O,hI0]
     congr 2
     try simp at hc2
     exact SA.ext hc2.1 hc2.2
    exact ln (k+1) ⟨hN0,hN1⟩ dO ⟨id,id,id,id,tV⟩ ⟨rI,rI,tV⟩
  ·try simp at hc1
   refine ex (xt_ (xt_ (xb (th (sq (rg (ag (nl (th (rt ?_))))))))))
   have hr0:true=(decide (s=t)):=by
    rw[decide_eq_true]
    rw[show k=s.sT.length by omega,List.take_length] at hI0
    try simp at hc0
    rw[show s.sT.length=t.sT.length by omega,List.take_length] at hI0
    exact SS.ext hc0.1 hI0
   exact rE () [.tmp 4] J [bl true] ⟨.tmp J,tV⟩ (cA1 (fun x0=>rV [bl x0]) hr0) trivial eX
theorem vS (l:List ByteArray) (hl:l.length≤1000):
 Fn0 Tryz.prog 125 [strs l] (spec (nothing l)):=by
 refine fnI Tryz.func125 rfl rfl (fun w0 F0=> ?_)
 refine fcC (aT 0 J) (fun hm0=> ?_)
 refine sq (rg (al (key:=2) T.z28 (eC (eC eZ)) fun b2=>(nl (th (sq (rg (al (key:=3) T.z79 (eC (eC eZ)) fun b3=>(nl (th (sq (sq (rg (mv (lnF J T.dW (mv (nl (th (bk ?_))))))))))))))))))
 refine nwC 30 3 1 nE (iJ 3 1 (osl 30 (.slice none 0 0)) rfl rfl cS ?_)
 have hI0_0:0≤l.length:=by
  first|omega|simp
 have hI0_1:([]:List Int)=List.replicate 0 (-1):=by
  rfl
 refine lp (κ:=Nat × Value × (List Int)) (fun p=> [(0,sl 1 rE_ l),(2,ptr 2 b2 0),(3,ptr 3 b3 0),(5,int (l.length:Int)),(6,int (p.1:Int))]) (fun p=> [(2,cell b2 [eqv (.slice none 0 0),eqv (.slice none 0 0)]),(3,cell b3 [eqv (.slice none 0 0),osl 30 p.2.1]),(30,own p.2.1 3 1 nE p.2.2)]) (fun p=>(p.1≤l.length)∧(p.2.2=List.replicate p.1 (-1))) (fun p=>l.length- p.1) ⟨0,(.slice none 0 0),([]:List Int)⟩ ⟨hI0_0,hI0_1⟩ ⟨id,id,id,id,id,tV⟩ ⟨rI,rI,rI,tV⟩ ?_
 intro⟨k,v,acc⟩ hG0
 obtain⟨hk0,hI0⟩:(k≤l.length)∧(acc=List.replicate k (-1)):=hG0
 show Ct _ _ _ _ [(0,sl 1 rE_ l),(2,ptr 2 b2 0),(3,ptr 3 b3 0),(5,int (l.length:Int)),(6,int (k:Int))] [(2,cell b2 [eqv (.slice none 0 0),eqv (.slice none 0 0)]),(3,cell b3 [eqv (.slice none 0 0),osl 30 v]),(30,own v 3 1 nE acc)] _
 have hlen:acc.length=k:=by rw[hI0];simp
 refine sq (rg (bi J J aO (nl (th (sq ?_)))))
 refine cd J (fun hc0=> ?_) (fun hc0=> ?_)
 ·try simp at hc0
  refine sk (th (sq (bk (rg (fP J T.bR (lP J J J T.aY (bsE (enc:=nE) (xs:= [(-1)]) (css:= [[int (-1)]]) T.bS ⟨J,J,p1 (φ:=int (-1)) J,tV⟩ J J J J (ap (key:=30) (zs:= [(-1)]) bP J J J T.bS (by unfold aQ;simp;omega) (by unfold aQ;simp;omega) fun v11=>(fP J T.bR (bY J J J J T.aY J (nl (eb (th (rg (bi J J (aG i6) (mv (nl ?_)))))))))))))))))
  have hN0:(k+1)≤l.length:=by
   first|omega|simp_all
  have hN1:(acc++ [(-1)])=List.replicate (k+1) (-1):=by
   rw[hI0,List.replicate_succ']
  exact ln (⟨k+1,v11,acc++ [(-1)]⟩:Nat × Value × (List Int)) ⟨hN0,hN1⟩ dO ⟨id,id,id,id,id,tV⟩ ⟨rI,rI,rI,tV⟩
 ·try simp at hc0
  refine ex (xt_ (xt_ (xb (th (sq (EV 3 30 1 J J J J (iJ 3 0 (sl 1 nE []) J J slnil (dr (nh:=5) [0,1,0,4,15,31] T.mixed kR ?_))))))))
  refine st_ J (fun _ _ _ gq kq=>mv' (gq.1.trans J) kq) ?_
  refine st_ J (fun _ _ _ gq kq=>yI (enc:=rE_) (ys:=l) J (gq.1.trans J) T.uB mL kq) ?_
  refine st_ J (fun _ _ _ gq kq=>lPA (gq.1.trans J) J T.cR J kq) ?_
  refine st_ J (fun _ _ _ gq kq=>bsE (enc:=sE) (xs:= [(⟨[],acc⟩)]) (css:= [[sl 1 nE [],sl 1 nE acc]]) T.kS ⟨J,J,pA (cs:= [sl 1 nE [],sl 1 nE acc]) (by exact(gq.1.trans J)),tV⟩ J J J J kq) ?_
  refine st_ J (fun _ _ _ gq kq=>bd (css:= [(0,_),(1,_)]) T.nA (eC (eC eZ)) ⟨J,J,p1 (φ:=sl 1 rE_ l) (by exact(gq.1.trans J)),⟨J,J,p1 (φ:=sl 2 sE [(⟨[],acc⟩)]) (by exact(gq.2.1.trans J)),tV⟩⟩ kq) ?_
  refine pn (sPA (cs':= [sl 1 rE_ l,sl 2 sE [(⟨[],acc⟩)]]) J J J T.aW J J (nl (th (rt ?_))))
  have hr0:l=(nothing l).aC:=by
   rfl
  have hr1: [(⟨[],acc⟩)]=(nothing l).sT:=by
   unfold nothing;rw[hI0,show k=l.length by omega]
  exact rE () [.cell 2 28] J [agg [sl 1 rE_ l,sl 2 sE [(⟨[],acc⟩)]]] ⟨.agg J J T.aW J J,tV⟩ (cA2 (fun x0 x1=>rV [agg [sl 1 rE_ x0,sl 2 sE x1]]) hr0 hr1) trivial eX
theorem Co (s:SS) (hs:size s≤100000000):
 AL.Fn Tryz.prog 18 [spec s] [] (ι:=Unit) (fun N _=>Qz N s) (fun _=> []):=by
 refine fnI Tryz.func18 rfl rfl (fun w0 F0=> ?_)
 obtain⟨hb0,hb1⟩:=Rq s
 refine fcC (bV 0 J) (fun hS0=> ?_)
 obtain⟨hsa0,hss0,hse0⟩:=sLn hS0
 refine sq (rg (bx (key:=1) (cs:= [sl 1 rE_ s.aC,sl 2 sE s.sT]) J fun b1=>(al (key:=2) T.z28 (eC (eC eZ)) fun b2=>(nl (th (sq (rg (fP J T.cP (lP J J J T.cK (uQ (enc:=rE_) (ys:=s.aC) J J T.uB mL flat (bd (css:= [(0,_)]) T.nA (eC (eC eZ)) ⟨J,J,p1 (φ:=fre w0.heap.size (sl 1 rE_ s.aC)) J,tV⟩ (al (key:=3) T.z28 (eC (eC eZ)) fun b3=>(sPA (cs':= [fre w0.heap.size (sl 1 rE_ s.aC),eqv (.slice none 0 0)]) J J J T.aW J J (nl (th (sq (sq (rg (fP J T.bA (lP J J J T.bM (fc (aT 11 J) fun hm11=>(lnF J T.cE (mv (nl (th (bk ?_))))))))))))))))))))))))))
 refine nwC 30 79 2 (uS w0.heap.size) (iJ 3 1 (osl 30 (.slice none 0 0)) rfl rfl cS ?_)
 have hI0_0:0≤s.sT.length:=by
  first|omega|simp
 have hI0_1:([]:List SA)=s.sT.take 0:=by
  rfl
 refine lp (κ:=Nat × Value × (List SA)) (fun p=> [(2,ptr 2 b2 0),(3,ptr 3 b3 0),(11,sl 2 sE s.sT),(12,int (s.sT.length:Int)),(13,int (p.1:Int))]) (fun p=> [(1,cell b1 [sl 1 rE_ s.aC,sl 2 sE s.sT]),(2,cell b2 [eqv (.slice none 0 0),eqv (.slice none 0 0)]),(3,cell b3 [fre w0.heap.size (sl 1 rE_ s.aC),osl 30 p.2.1]),(30,own p.2.1 79 2 (uS w0.heap.size) p.2.2)]) (fun p=>(p.1≤s.sT.length)∧(p.2.2=s.sT.take p.1)) (fun p=>s.sT.length- p.1) ⟨0,(.slice none 0 0),([]:List SA)⟩ ⟨hI0_0,hI0_1⟩ ⟨id,id,id,id,id,tV⟩ ⟨rI,rI,rI,rI,tV⟩ ?_
 intro⟨k,v,acc⟩ hG0
 obtain⟨hk0,hI0⟩:(k≤s.sT.length)∧(acc=s.sT.take k):=hG0
 show Ct _ _ _ _ [(2,ptr 2 b2 0),(3,ptr 3 b3 0),(11,sl 2 sE s.sT),(12,int (s.sT.length:Int)),(13,int (k:Int))] [(1,cell b1 [sl 1 rE_ s.aC,sl 2 sE s.sT]),(2,cell b2 [eqv (.slice none 0 0),eqv (.slice none 0 0)]),(3,cell b3 [fre w0.heap.size (sl 1 rE_ s.aC),osl 30 v]),(30,own v 79 2 (uS w0.heap.size) acc)] _
 have hlen:acc.length≤k:=by rw[hI0];simp;omega
 refine sq (rg (bi J J aO (nl (th (sq ?_)))))
 refine cd J (fun hc0=> ?_) (fun hc0=> ?_)
 ·try simp at hc0
  have hb2:=hb1 k O
  refine sk (th (sq (bk (sq (rg (iF J J T.cE O gB (lFA J T.cR (Nat.le_of_ble_eq_true J) (al (key:=5) T.z79 (eC (eC eZ)) fun b5=>(sPA (cs':= [sl 1 nE (ix s.sT k).aP,sl 1 nE (ix s.sT k).next]) J J J T.cR J J (nl (th (dr (nh:=10) [0,1,0,4,12,0,32,124,252,508,1023,2047,4095] T.mixed kR ?_))))))))))))
  refine st_ J (fun _ _ _ gq kq=>fP (gq.1.trans J) T.bA kq) ?_
  refine st_ J (fun _ _ _ gq kq=>lP (gq.1.trans J) J J T.bM kq) ?_
  refine st_ J (fun _ _ _ gq kq=>fP (gq.1.trans J) T.cJ kq) ?_
  refine st_ J (fun _ _ _ gq kq=>lP (gq.1.trans J) J J T.aY kq) ?_
  refine st_ J (fun _ _ _ gq kq=>uQ (enc:=nE) (ys:=(ix s.sT k).aP) J (gq.1.trans J) T.bS mL flat kq) ?_
  refine st_ J (fun _ _ _ gq kq=>fP (gq.1.trans J) T.bR kq) ?_
  refine st_ J (fun _ _ _ gq kq=>lP (gq.1.trans J) J J T.aY kq) ?_
  refine st_ J (fun _ _ _ gq kq=>uQ (enc:=nE) (ys:=(ix s.sT k).next) J (gq.1.trans J) T.bS mL flat kq) ?_
  refine st_ J (fun _ _ _ gq kq=>bd (css:= [(0,_),(1,_)]) T.vR (eC (eC eZ)) ⟨J,J,p1 (φ:=fre w0.heap.size (sl 1 nE (ix s.sT k).aP)) (by exact(gq.1.trans J)),⟨J,J,p1 (φ:=fre w0.heap.size (sl 1 nE (ix s.sT k).next)) (by exact(gq.2.1.trans J)),tV⟩⟩ kq) ?_
  refine st_ J (fun _ _ _ gq kq=>bsE (enc:=uS w0.heap.size) (xs:= [(ix s.sT k)]) (css:= [[fre w0.heap.size (sl 1 nE (ix s.sT k).aP),fre w0.heap.size (sl 1 nE (ix s.sT k).next)]]) T.kS ⟨J,J,pA (cs:= [fre w0.heap.size (sl 1 nE (ix s.sT k).aP),fre w0.heap.size (sl 1 nE (ix s.sT k).next)]) (by exact(gq.1.trans J)),tV⟩ J J J J kq) ?_
  refine pn (ap (key:=30) (zs:= [(ix s.sT k)]) bP J J J T.kS (by unfold aQ at*;simp;omega) (by unfold aQ at*;simp;omega) fun v27=>(fP J T.bA (bY J J J J T.bM J (nl (eb (th (rg (bi J J (aG i6) (mv (nl ?_))))))))))
  have hN0:(k+1)≤s.sT.length:=by
   first|omega|simp_all
  have hN1:(acc++ [(ix s.sT k)])=s.sT.take (k+1):=by
   rw[hI0,bJ O]
  exact ln (⟨k+1,v27,acc++ [(ix s.sT k)]⟩:Nat × Value × (List SA)) ⟨hN0,hN1⟩ dO ⟨id,id,id,id,id,tV⟩ ⟨rI,rI,rI,rI,tV⟩
 ·try simp at hc0
  refine ex (xt_ (xt_ (xb (th (sq (rg (ND sE 3 30 1 noM (fun _=>J) J J J (by decide) (lPA J J T.aW J (sPA (cs':= [fre w0.heap.size (sl 1 rE_ s.aC),fre w0.heap.size (sl 2 sE acc)]) J J J T.aW J J (nl (th (rt ?_))))))))))))
  have hr0:acc=s.sT:=by
   rw[hI0,show k=s.sT.length by omega,List.take_length]
  exact rE () [.cell 2 28] J [agg [fre w0.heap.size (sl 1 rE_ s.aC),fre w0.heap.size (sl 2 sE acc)]] ⟨.agg J J T.aW J J,tV⟩ (cA1 (fun x0=>rV [agg [fre w0.heap.size (sl 1 rE_ s.aC),fre w0.heap.size (sl 2 sE x0)]]) hr0) trivial eX
end ref03
end
section
open ref01 ref03
structure okState (x:SA) (N n:Nat):Prop where
 len:x.next.length=n
 nx:∀a,a<n→ -1≤ix x.next a∧ix x.next a<(N:Int)
 ac:∀i,i<x.aP.length→0≤ix x.aP i∧ix x.aP i<256
 go:∀i,i<x.aP.length→∀a:Nat,has (ix x.aP i) (a:Int)=true→a<n∧0≤ix x.next a
 rise:rising x.aP=true
structure oK (s:SS):Prop where
 acts:bZ s.aC=true
 n8:s.aC.length≤8
 few0:1≤s.sT.length
 few1:s.sT.length≤10000
 st:∀k,k<s.sT.length→okState (ix s.sT k) s.sT.length s.aC.length
theorem Jq {x:SA} {N n:Nat} (hn:n≤8) (h:cT x (N:Int) n=true):okState x N n:=by
 unfold cT at h
 simp only [Bool.and_eq_true,decide_eq_true_eq] at h
 obtain⟨⟨⟨h1,h2⟩,h3⟩,h4⟩:=h
 have hset:∀i,i<x.aP.length→fW x n (ix x.aP i)=true:=fun i hi=>uT h4 hi
 refine⟨O,fun a ha=> ?_,fun i hi=> ?_,fun i hi a ha=> ?_,h2⟩
 ·have:=uT h3 (k:=a) O
  simpa using this
 ·have:=hset i hi
  unfold fW at this
  simp only [Bool.and_eq_true] at this
  exact Fe hn this.1
 ·have h5:=hset i hi
  unfold fW at h5
  simp only [Bool.and_eq_true] at h5
  have han:a<n:=by
   have h6:=h5.1
   unfold eG at h6
   simp only [Bool.and_eq_true,decide_eq_true_eq,Int.toNat_natCast] at h6
   unfold has at ha
   rw[Int.toNat_natCast] at ha
   have h7:2^a≤(ix x.aP i).toNat:=Nat.ge_two_pow_of_testBit ha
   have h8:(ix x.aP i).toNat<2^n:=by omega
   have h9:2^a<2^n:=Nat.lt_of_le_of_lt h7 h8
   exact(Nat.pow_lt_pow_iff_right O).1 h9
  refine⟨han,?_⟩
  have hm:(a:Int)∈aL n (ix x.aP i):=List.mem_map.2 ⟨a,List.mem_filter.2 ⟨List.mem_range.2 han,ha⟩,rfl⟩
  have:=List.all_eq_true.1 h5.2 _ hm
  simpa using this
theorem fC {s:SS} (h:bT s=true):oK s:=by
 unfold bT at h
 simp only [Bool.and_eq_true,decide_eq_true_eq] at h
 obtain⟨⟨⟨h1,h2⟩,h3⟩,h4⟩:=h
 have hn:=gF h1
 exact⟨h1,hn,h2,O,fun k hk=>Jq hn (uT h4 hk)⟩
def dF (x:SA) (t:Int) (h:List Bool):Bool:=(List.range x.next.length).any fun a=>decide (0≤ix x.next a)&&has t (a:Int)&&ix h (ix x.next a).toNat
def fN (x:SA) (h:List Bool):Bool:=x.aP.all fun t=>dF x t h
theorem Cp (n:Nat) (f:Nat→Bool):(List.range (n+1)).any f=((List.range n).any f||f n):=by
 rw[List.range_succ,List.any_append];simp
theorem Ek {n i:Nat} {f:Nat→Bool} (hi:i<n) (hf:f i=true):(List.range n).any f=true:=List.any_eq_true.2 ⟨i,List.mem_range.2 hi,hf⟩
def Closed (s:SS) (H:Nat→Prop):Prop:=∀x,x<s.sT.length→(∀i,i<(ix s.sT x).aP.length→∃a,a<(ix s.sT x).next.length∧0≤ix (ix s.sT x).next a∧has (ix (ix s.sT x).aP i) (a:Int)=true∧H (ix (ix s.sT x).next a).toNat)→H x
def Hol (s:SS) (x:Nat):Prop:=∀H,Closed s H→H x
theorem oF (s:SS):Closed s (Hol s):=fun x hx h H hH=>hH x hx (fun i hi=>by
 obtain⟨a,h1,h2,h3,h4⟩:=h i hi
 exact⟨a,h1,h2,h3,h4 H hH⟩)
theorem jD {x:SA} {t:Int} {h:List Bool}:dF x t h=true↔∃a,a<x.next.length∧0≤ix x.next a∧has t (a:Int)=true∧ix h (ix x.next a).toNat=true:=by
 unfold dF
 rw[List.any_eq_true]
 constructor
 ·rintro⟨a,ha,hf⟩
  simp only [Bool.and_eq_true,decide_eq_true_eq] at hf
  exact⟨a,List.mem_range.1 ha,hf.1.1,hf.1.2,hf.2⟩
 ·rintro⟨a,ha,h1,h2,h3⟩
  exact⟨a,List.mem_range.2 ha,by simp[h1,h2,h3]⟩
theorem zF {x:SA} {h:List Bool}:fN x h=true↔∀i,i<x.aP.length→∃a,a<x.next.length∧0≤ix x.next a∧has (ix x.aP i) (a:Int)=true∧ix h (ix x.next a).toNat=true:=by
 unfold fN
 rw[List.all_eq_true]
 constructor
 ·intro hh i hi
  exact jD.1 (hh _ (by rw[aF hi];exact List.getElem_mem hi))
 ·intro hh t ht
  obtain⟨i,hi,he⟩:=List.getElem_of_mem ht
  have:=jD.2 (hh i hi)
  rwa [aF hi,he] at this
open Classical in
noncomputable def hOl (s:SS):List Bool:=(List.range s.sT.length).map fun x=>decide (Hol s x)
theorem jX (s:SS):(hOl s).length=s.sT.length:=by simp[hOl]
theorem lC {α:Type} [Inhabited α] {xs:List α} {k:Nat} (hk:k<xs.length) (y:α) (j:Nat):ix (xs.set k y) j=if j=k then y else ix xs j:=by
 unfold ix
 by_cases h:j=k
 ·subst h;simp[hk]
 ·simp[h,List.getD,List.getElem?_set_ne (Ne.symm h)]
theorem KJ {s:SS} {l:List Bool} (hl:l.length=s.sT.length) (h1:∀x,ix l x=true→Hol s x) (h2:∀x,x<s.sT.length→fN (ix s.sT x) l=true→ix l x=true):l=hOl s:=by
 have hc:Closed s (fun x=>ix l x=true):=fun x hx h=>h2 x hx (zF.2 h)
 apply List.ext_getElem (by rw[hl,jX])
 intro i hi hi'
 have e:ix l i=l[i]:=aF hi
 simp only [hOl,List.getElem_map,List.getElem_range]
 rw[←e]
 by_cases h:Hol s i
 ·rw[h _ hc];simp[h]
 ·have:ix l i≠true:=fun ht=>h (h1 i ht)
  simp[h] at this ⊢
  exact this
theorem count_set {l:List Bool} {k:Nat} (hk:k<l.length) (h:ix l k=false):(l.set k true).count false<l.count false:=by
 rw[aF hk] at h
 have h1:=List.count_set (l:=l) (i:=k) (a:=true) (b:=false) hk
 rw[h1,h]
 have:0<l.count false:=List.count_pos_iff.2 (by rw[←h];exact List.getElem_mem hk)
 simp
 omega
theorem Dg {l:List Int} (h:rising l=true) {i:Nat} (hi:i+1<l.length):ix l i<ix l (i+1):=by
 unfold rising at h
 have:=List.all_eq_true.1 h i (List.mem_range.2 O)
 simpa using this
theorem Dh {l:List Int} (h:rising l=true) (h0:∀i,i<l.length→0≤ix l i):∀i,i<l.length→(i:Int)≤ix l i
 |0,hi=>by simpa using h0 0 hi
 |i+1,hi=>by
  have h1:=Dh h h0 i O
  have h2:=Dg h (i:=i) hi
  omega
theorem okState.acl {x:SA} {N n:Nat} (h:okState x N n):x.aP.length≤256:=by
 rcases Nat.lt_or_ge 256 x.aP.length with hlt|hle
 ·have h1:=Dh h.rise (fun i hi=>(h.ac i hi).1) 256 hlt
  have h2:=(h.ac 256 hlt).2
  omega
 ·exact hle
def aV (l:List Int):Int:=l.foldl (fun u t=>((u.toNat|||t.toNat:Nat):Int)) 0
theorem gV (l:List Int) (t:Int):aV (l++ [t])=(((aV l).toNat|||t.toNat:Nat):Int):=by simp[aV]
theorem jY {a b:Int} (ha:a<256) (hb:b<256):((a.toNat|||b.toNat:Nat):Int)<256:=by
 have:=Nat.or_lt_two_pow (x:=a.toNat) (y:=b.toNat) (n:=8) O O
 omega
noncomputable def keep (s:SS) (x:Nat):List Int:=(ix s.sT x).aP.filter fun t=> !ix (hOl s) x&& !dF (ix s.sT x) t (hOl s)
def cut (x:SA) (u:Int):List Int:=(List.range x.next.length).map fun(a:Nat)=>if has u (a:Int) then ix x.next a else-1
noncomputable def jZ (s:SS) (x:Nat):SA:=⟨keep s x,cut (ix s.sT x) (aV (keep s x))⟩
noncomputable def aA (s:SS):SS:=⟨s.aC,(List.range s.sT.length).map (jZ s)⟩
theorem kA {α:Type} [Inhabited α] {xs:List α} {k:Nat} (h:k<xs.length) (p:α→Bool):(xs.take (k+1)).filter p=(xs.take k).filter p++(if p (ix xs k) then [ix xs k] else []):=by
 rw[bJ h,List.filter_append]
 congr 1
 by_cases hp:p (ix xs k)<;>simp[hp]
theorem oU {α:Type} (f:Nat→α) (n:Nat):(List.range (n+1)).map f=(List.range n).map f++ [f n]:=by rw[List.range_succ,List.map_append];rfl
def visit (l ks:List Int):List Int:=ks.foldl (fun l k=>if decide (0≤k)&& !l.contains k then l++ [k] else l) l
theorem qZ (l ks:List Int) (k:Int):visit l (ks++ [k])=if decide (0≤k)&& !(visit l ks).contains k then visit l ks++ [k] else visit l ks:=by simp[visit]
def bq (s:SS):Nat→List Int
 |0=> [0]
 |i+1=>if i<(bq s i).length then visit (bq s i) (ix s.sT (ix (bq s i) i).toNat).next else bq s i
def order (s:SS):List Int:=bq s s.sT.length
theorem xD {s:SS} {i:Nat} (h:(bq s i).length≤i):∀j,bq s (i+j)=bq s i
 |0=>rfl
 |j+1=>by
  have ih:=xD h j
  show(if i+j<(bq s (i+j)).length then _ else bq s (i+j))=_
  rw[ih,if_neg O]
def marks (n:Nat) (l:List Int):List Bool:=(List.range n).map fun(x:Nat)=>l.contains (x:Int)
theorem lD (n:Nat) (l:List Int):(marks n l).length=n:=by simp[marks]
theorem rU {n:Nat} {l:List Int} {x:Nat} (h:x<n):ix (marks n l) x=l.contains (x:Int):=by
 rw[aF (by rw[lD];exact h)]
 simp[marks]
theorem nM {n:Nat} {l:List Int} {k:Int} (h0:0≤k):(marks n l).set k.toNat true=marks n (l++ [k]):=by
 apply List.ext_getElem (by simp[marks])
 intro i h1 h2
 rw[List.getElem_set]
 simp only [marks,List.getElem_map,List.getElem_range,List.contains_eq_mem,List.mem_append,List.mem_singleton]
 split
 ·next e=>subst e;simp;right;omega
 ·next e=>
  have:¬((i:Int)=k):=by omega
  simp[this]
def okQ (n:Nat) (l:List Int):Prop:=(∀i,i<l.length→0≤ix l i∧ix l i<(n:Int))∧(marks n l).count true=l.length∧1≤l.length
theorem okQ.le {n:Nat} {l:List Int} (h:okQ n l):l.length≤n:=by
 rw[←h.2.1]
 exact Nat.le_trans List.count_le_length (by rw[lD];exact Nat.le_refl _)
theorem Ru (l:List Int) (k:Int) (i:Nat):ix (l++ [k]) i=if i<l.length then ix l i else if i=l.length then k else default:=by
 unfold ix
 by_cases h:i<l.length
 ·simp[h,List.getD,List.getElem?_append_left h]
 ·by_cases h2:i=l.length
  ·subst h2;simp[List.getD]
  ·rw[if_neg h,if_neg h2,List.getD_eq_getElem?_getD,List.getElem?_eq_none (by simp;omega)];rfl
theorem zU {n:Nat} {l:List Int} {k:Int} (h:okQ n l) (h0:0≤k) (h1:k<(n:Int)) (hc:l.contains k=false):okQ n (l++ [k]):=by
 refine⟨fun i hi=> ?_,?_,by simp⟩
 ·rw[Ru]
  simp at hi
  split
  ·next h2=>exact h.1 i h2
  ·rw[if_pos O];exact⟨h0,h1⟩
 ·rw[←nM h0]
  have hk:k.toNat<(marks n l).length:=by rw[lD];omega
  have h2:=List.count_set (l:=marks n l) (i:=k.toNat) (a:=true) (b:=true) hk
  have h3:(marks n l)[k.toNat]=false:=by
   have:=rU (n:=n) (l:=l) (x:=k.toNat) O
   rw[aF hk,Int.toNat_of_nonneg h0,hc] at this
   exact this
  rw[h2,h3]
  simp[h.2.1]
theorem Fg {n:Nat} (h:1≤n):okQ n [0]:=by
 refine⟨fun i hi=> ?_,?_,by simp⟩
 ·have:i=0:=by simpa using hi
  subst this
  show 0≤(0:Int)∧(0:Int)<(n:Int)
  omega
 ·have e:marks n []=List.replicate n false:=by
   apply List.ext_getElem (by simp[marks])
   intro i h1 h2
   simp[marks]
  have:=nM (n:=n) (l:= []) (k:=0) O
  rw[←show([]:List Int)++ [0]= [0] from rfl,←this,e]
  have h2:=List.count_set (l:=List.replicate n false) (i:=0) (a:=true) (b:=true) (by simp;omega)
  show((List.replicate n false).set 0 true).count true=1
  rw[h2]
  simp[List.count_replicate]
theorem Bf (n:Nat):(List.replicate n false).set 0 true=marks n [0]:=by
 have e:marks n []=List.replicate n false:=by
  apply List.ext_getElem (by simp[marks])
  intro i h1 h2
  simp[marks]
 have:=nM (n:=n) (l:= []) (k:=0) O
 rw[e] at this
 exact this
namespace T
theorem gJ:IsSlice Tryz.prog 90 4 1:=gU kR
theorem eP:eF Tryz.prog 4:=fT kR
theorem KL:Ent Tryz.prog 143:=aN kR
theorem vT:eL Tryz.prog 90 4 1 1 [.bool false]:=jK kR kR
theorem Uv:Ent Tryz.prog 109:=aN kR
theorem QC:Ent Tryz.prog 60:=aN kR
end T
namespace ref04
theorem Fh (x:SA) (t:Int) (h:List Bool) (ht0:0≤t) (ht1:t<2^63) (hn:x.next.length≤64) (hb:∀a,a<x.next.length→ix x.next a<(h.length:Int)):
 Fn0 Tryz.prog 143 [state x,int t,bls h] (bl (dF x t h)):=by
 refine fnI Tryz.func143 rfl rfl (fun w0 F0=> ?_)
 refine fcC (bV 0 J) (fun hS0=> ?_)
 obtain⟨hxa0,hxn0⟩:=lU hS0
 refine fcC (aT 2 J) (fun hm2=> ?_)
 refine sq (rg (bx (key:=3) (cs:= [sl 1 nE x.aP,sl 1 nE x.next]) J fun b3=>(ag (nl (th (sq (sq (rg (fP J T.bR (lP J J J T.aY (fc (aT 10 J) fun hm10=>(lnF J T.aU (mv (nl (th (bk ?_))))))))))))))))
 have hI0_0:0≤x.next.length:=by
  first|omega|simp
 have hI0_1:(List.range 0).any (fun a=>decide (0≤ix x.next a)&&has t (a:Int)&&ix h (ix x.next a).toNat)=false:=by
  simp
 refine lp (κ:=Nat) (fun p=> [(1,int t),(2,sl 1 blE h),(10,sl 1 nE x.next),(11,int (x.next.length:Int)),(12,int (p:Int))]) (fun p=> [(3,cell b3 [sl 1 nE x.aP,sl 1 nE x.next])]) (fun p=>(p≤x.next.length)∧((List.range p).any (fun a=>decide (0≤ix x.next a)&&has t (a:Int)&&ix h (ix x.next a).toNat)=false)) (fun p=>x.next.length- p) 0 ⟨hI0_0,hI0_1⟩ ⟨id,id,id,id,id,tV⟩ ⟨rI,tV⟩ ?_
 intro k hG0
 obtain⟨hk0,hI0⟩:(k≤x.next.length)∧((List.range k).any (fun a=>decide (0≤ix x.next a)&&has t (a:Int)&&ix h (ix x.next a).toNat)=false):=hG0
 refine sq (rg (bi J J aO (nl (th (sq ?_)))))
 refine cd J (fun hc0=> ?_) (fun hc0=> ?_)
 ·try simp at hc0
  refine sk (th (sq (bk (sq (rg (mv (iF J J T.aU O gB (lF J J T.aH (ag (ag (nl (th (sq (rg (mv (bi J J fK (mv ?_)))))))))))))))))
  apply cZ (t:=19) (pd:=23) rfl
  rotate_left
  ·intro hg0 fin
   have hg0':=hg0
   try simp at hg0'
   exact gy J J J hg0 (mv (gy J J J hg0 (mv (gy J J J hg0 (aZ (φs:= [int t,int (k:Int)]) (φ:=bl (has t (k:Int))) ⟨J,J,tV⟩ (ref01.Be _ _ O O O O) T.Er (pkT J hg0 J (drp (X:= [(22,_),(21,_),(20,_)]) ⟨J,J,J,tV⟩ fin)))))))
  ·intro hg0 fin
   exact gn J J J hg0 J J (gn J J J hg0 J J (gn J J J hg0 J J (pkF J hg0 J (drp (X:= [(22,_),(21,_),(20,_)]) ⟨J,J,J,tV⟩ fin))))
  refine mv ?_
  apply cZ (t:=24) (pd:=29) rfl
  rotate_left
  ·intro hg1 fin
   have hg1':=hg1
   try simp at hg1'
   have hbk:=hb k O
   exact gy J J J hg1 (mv (gy J J J hg1 (mv (gy J J J hg1 (iF J J T.gJ O gB (gy J J J hg1 (lF J J T.eP (pkT J hg1 J (drp (X:= [(28,_),(27,_),(26,_),(25,_)]) ⟨J,J,J,J,tV⟩ fin)))))))))
  ·intro hg1 fin
   exact gn J J J hg1 J J (gn J J J hg1 J J (gn J J J hg1 J J (gn J J J hg1 J J (pkF J hg1 J (drp (X:= [(28,_),(27,_),(26,_),(25,_)]) ⟨J,J,J,J,tV⟩ fin)))))
  refine nl (th ?_)
  refine cd J (fun hc1=> ?_) (fun hc1=> ?_)
  ·try simp at hc1
   refine sq (rg (ag (nl (th (rt (rb (rt_ (rt_ (rb (rt_ ?_))))))))))
   have hr0:true=(dF x t h):=by
    unfold dF
    rw[Ek (i:=k) O]
    simp only [hc1];simp
   exact rE () [.tmp 6] J [bl true] ⟨.tmp J,tV⟩ (cA1 (fun x0=>rV [bl x0]) hr0) trivial eX
  ·try simp at hc1
   refine sk (eb (th (rg (bi J J (aG i6) (mv (nl ?_))))))
   have hN0:(k+1)≤x.next.length:=by
    first|omega|simp_all
   have hN1:(List.range (k+1)).any (fun a=>decide (0≤ix x.next a)&&has t (a:Int)&&ix h (ix x.next a).toNat)=false:=by
    rw[Cp,hI0]
    cases hq:(decide (0≤ix x.next k)&&has t (k:Int)&&ix h (ix x.next k).toNat)
    ·rfl
    ·simp at hq
     have:=hc1 hq.1.1 hq.1.2
     rw[hq.2] at this;cases this
   exact ln (k+1) ⟨hN0,hN1⟩ dO ⟨id,id,id,id,id,tV⟩ ⟨rI,tV⟩
 ·try simp at hc0
  refine ex (xt_ (xt_ (xb (th (sq (rg (ag (nl (th (rt ?_))))))))))
  have hr0:false=(dF x t h):=by
   unfold dF
   rw[show x.next.length=k by omega,hI0]
  exact rE () [.tmp 6] J [bl false] ⟨.tmp J,tV⟩ (cA1 (fun x0=>rV [bl x0]) hr0) trivial eX
theorem Jr (x:SA) (h:List Bool) {n:Nat} (hx:okState x h.length n∧n≤8):
 Fn0 Tryz.prog 109 [state x,bls h] (bl (fN x h)):=by
 refine fnI Tryz.func109 rfl rfl (fun w0 F0=> ?_)
 have hxl:=hx.1.len
 refine fcC (bV 0 J) (fun hS0=> ?_)
 obtain⟨hxa0,hxn0⟩:=lU hS0
 refine fcC (aT 1 J) (fun hm1=> ?_)
 refine sq (rg (bx (key:=2) (cs:= [sl 1 nE x.aP,sl 1 nE x.next]) J fun b2=>(ag (nl (th (sq (sq (rg (fP J T.cJ (lP J J J T.aY (fc (aT 8 J) fun hm8=>(lnF J T.aU (mv (nl (th (bk ?_))))))))))))))))
 have hI0_0:0≤x.aP.length:=by
  first|omega|simp
 have hI0_1:(x.aP.take 0).all (fun t=>dF x t h)=true:=by
  simp
 refine lp (κ:=Nat) (fun p=> [(1,sl 1 blE h),(2,ptr 2 b2 0),(8,sl 1 nE x.aP),(9,int (x.aP.length:Int)),(10,int (p:Int))]) (fun p=> [(2,cell b2 [sl 1 nE x.aP,sl 1 nE x.next])]) (fun p=>(p≤x.aP.length)∧((x.aP.take p).all (fun t=>dF x t h)=true)) (fun p=>x.aP.length- p) 0 ⟨hI0_0,hI0_1⟩ ⟨id,id,id,id,id,tV⟩ ⟨rI,tV⟩ ?_
 intro k hG0
 obtain⟨hk0,hI0⟩:(k≤x.aP.length)∧((x.aP.take k).all (fun t=>dF x t h)=true):=hG0
 refine sq (rg (bi J J aO (nl (th (sq ?_)))))
 refine cd J (fun hc0=> ?_) (fun hc0=> ?_)
 ·try simp at hc0
  have hac:=hx.1.ac k O
  refine sk (th (sq (bk (sq (rg (iF J J T.aU O gB (lF J J T.aH (ag (nl (th (sq (rg (lPA J J T.cR J (mv (mv (aZ (φs:= [agg [sl 1 nE x.aP,sl 1 nE x.next],int (ix x.aP k),sl 1 blE h]) (φ:=bl (dF x (ix x.aP k) h)) ⟨J,J,J,tV⟩ (ref04.Fh x _ _ O O O (fun a ha=>(hx.1.nx a O).2)) T.KL (no J (nl (th ?_)))))))))))))))))))
  refine cd J (fun hc1=> ?_) (fun hc1=> ?_)
  ·try simp at hc1
   refine sq (rg (ag (nl (th (rt (rb (rt_ (rt_ (rb (rt_ ?_))))))))))
   have hr0:false=(fN x h):=by
    unfold fN
    rw[fV (xs:=x.aP) (k:=k) O (by simpa using hc1)]
   exact rE () [.tmp 4] J [bl false] ⟨.tmp J,tV⟩ (cA1 (fun x0=>rV [bl x0]) hr0) trivial eX
  ·try simp at hc1
   refine sk (eb (th (rg (bi J J (aG i6) (mv (nl ?_))))))
   have hN0:(k+1)≤x.aP.length:=by
    first|omega|simp_all
   have hN1:(x.aP.take (k+1)).all (fun t=>dF x t h)=true:=by
    rw[eQ O,hI0]
    simpa using hc1
   exact ln (k+1) ⟨hN0,hN1⟩ dO ⟨id,id,id,id,id,tV⟩ ⟨rI,tV⟩
 ·try simp at hc0
  refine ex (xt_ (xt_ (xb (th (sq (rg (ag (nl (th (rt ?_))))))))))
  have hr0:true=(fN x h):=by
   unfold fN
   rw[show k=x.aP.length by omega,List.take_length] at hI0
   rw[hI0]
  exact rE () [.tmp 4] J [bl true] ⟨.tmp J,tV⟩ (cA1 (fun x0=>rV [bl x0]) hr0) trivial eX
theorem Di (s:SS) (h:oK s):
 Fn0 Tryz.prog 60 [spec s] (bls (hOl s)):=by
 refine fnI Tryz.func60 rfl rfl (fun w0 F0=> ?_)
 have hf0:=h.few0;have hf1:=h.few1
 refine fcC (bV 0 J) (fun hS0=> ?_)
 obtain⟨hsa0,hss0,hse0⟩:=sLn hS0
 refine sq (rg (bx (key:=1) (cs:= [sl 1 rE_ s.aC,sl 2 sE s.sT]) J fun b1=>(ag (nl (th (sq (rg (fP J T.bA (lP J J J T.bM (fc (aT 8 J) fun hm8=>(lnF J T.cE (mk (key:=10) (m:=s.sT.length) (enc:=blE) (y:=false) J J T.vT (eC eZ) mL mL fun v10=>(ag (nl (th (sq (sq (rg (ag (nl (th (bk ?_))))))))))))))))))))))
 have hI0_0:(List.replicate s.sT.length false).length=s.sT.length∧(∀x,ix (List.replicate s.sT.length false) x=true→Hol s x)∧(true=false→∀x,x<s.sT.length→fN (ix s.sT x) (List.replicate s.sT.length false)=true→ix (List.replicate s.sT.length false) x=true):=by
  refine⟨by simp,fun x hx=> ?_,by simp⟩
  unfold ix at hx
  rw[List.getD_eq_getElem?_getD] at hx
  rw[List.getElem?_replicate] at hx
  split at hx<;>simp at hx
 refine lp (κ:=Bool × (List Bool)) (fun p=> [(1,ptr 1 b1 0),(2,eqv (.slice none 0 0)),(3,osl 10 v10),(4,bl p.1)]) (fun p=> [(1,cell b1 [sl 1 rE_ s.aC,sl 2 sE s.sT]),(10,own v10 4 1 blE p.2)]) (fun p=>p.2.length=s.sT.length∧(∀x,ix p.2 x=true→Hol s x)∧(p.1=false→∀x,x<s.sT.length→fN (ix s.sT x) p.2=true→ix p.2 x=true)) (fun p=>2*p.2.count false+p.1.toNat) ⟨true,List.replicate s.sT.length false⟩ hI0_0 ⟨id,id,id,id,tV⟩ ⟨rI,rI,tV⟩ ?_
 intro⟨b,l⟩ hG0
 have hI0:l.length=s.sT.length∧(∀x,ix l x=true→Hol s x)∧(b=false→∀x,x<s.sT.length→fN (ix s.sT x) l=true→ix l x=true):=hG0
 show Ct _ _ _ _ [(1,ptr 1 b1 0),(2,eqv (.slice none 0 0)),(3,osl 10 v10),(4,bl b)] [(1,cell b1 [sl 1 rE_ s.aC,sl 2 sE s.sT]),(10,own v10 4 1 blE l)] _
 refine sq (sq (rg (mv (nl (th ?_)))))
 refine cd J (fun hc0=> ?_) (fun hc0=> ?_)
 ·try simp at hc0
  refine sk (th (bk (sq (rg (ag (nl (th (sq (rg (fP J T.bA (lP J J J T.bM (lnF J T.cE (mv (nl (th (bk ?_))))))))))))))))
  have hI1_0:0≤s.sT.length:=by
   first|omega|simp
  have hI1_1:l.length=s.sT.length∧(∀x,ix l x=true→Hol s x)∧(false=false→l=l∧∀x,x<0→fN (ix s.sT x) l=true→ix l x=true)∧(false=true→l.count false<l.count false):=by
   exact⟨hI0.1,hI0.2.1,fun _=>⟨rfl,fun x hx=>by omega⟩,fun h=>by cases h⟩
  refine lp (κ:=Nat × Bool × (List Bool)) (fun p=> [(1,ptr 1 b1 0),(2,eqv (.slice none 0 0)),(3,osl 10 v10),(4,bl p.2.1),(13,sl 2 sE s.sT),(14,int (s.sT.length:Int)),(15,int (p.1:Int))]) (fun p=> [(1,cell b1 [sl 1 rE_ s.aC,sl 2 sE s.sT]),(10,own v10 4 1 blE p.2.2)]) (fun p=>(p.1≤s.sT.length)∧(p.2.2.length=s.sT.length∧(∀x,ix p.2.2 x=true→Hol s x)∧(p.2.1=false→p.2.2=l∧∀x,x<p.1→fN (ix s.sT x) l=true→ix l x=true)∧(p.2.1=true→p.2.2.count false<l.count false))) (fun p=>s.sT.length- p.1) ⟨0,false,l⟩ ⟨hI1_0,hI1_1⟩ ⟨id,id,id,id,id,id,id,tV⟩ ⟨rI,rI,tV⟩ ?_
  intro⟨k1,g1x,l1⟩ hG1
  obtain⟨hk1,hI1⟩:(k1≤s.sT.length)∧(l1.length=s.sT.length∧(∀x,ix l1 x=true→Hol s x)∧(g1x=false→l1=l∧∀x,x<k1→fN (ix s.sT x) l=true→ix l x=true)∧(g1x=true→l1.count false<l.count false)):=hG1
  show Ct _ _ _ _ [(1,ptr 1 b1 0),(2,eqv (.slice none 0 0)),(3,osl 10 v10),(4,bl g1x),(13,sl 2 sE s.sT),(14,int (s.sT.length:Int)),(15,int (k1:Int))] [(1,cell b1 [sl 1 rE_ s.aC,sl 2 sE s.sT]),(10,own v10 4 1 blE l1)] _
  refine sq (rg (bi J J aO (nl (th (sq ?_)))))
  refine cd J (fun hc1=> ?_) (fun hc1=> ?_)
  ·try simp at hc1
   refine sk (th (sq (bk (sq (rg (mv (iF J J T.cE O gB (lFA J T.cR (Nat.le_of_ble_eq_true J) (al (key:=6) T.z79 (eC (eC eZ)) fun b6=>(ag (sPA (cs':= [sl 1 nE (ix s.sT k1).aP,sl 1 nE (ix s.sT k1).next]) J J J T.cR J J (nl (th (sq (rg (mv (mv (iO J J J T.gJ O O (lO J J gB J T.eP (no J (mv ?_)))))))))))))))))))))
   apply cZ (t:=25) (pd:=29) rfl
   rotate_left
   ·intro hg0 fin
    have hg0':=hg0
    try simp at hg0'
    exact gy J J J hg0 (lPA J J T.cR J (gy J J J hg0 (mv (gy J J J hg0 (XT (φs:= [agg [sl 1 nE (ix s.sT k1).aP,sl 1 nE (ix s.sT k1).next],sl 1 blE l1]) ⟨.here J,.own 10 J J,tV⟩ (ref04.Jr (ix s.sT k1) _ (n:=s.aC.length) ⟨by rw[hI1.1];exact h.st k1 O,h.n8⟩) T.Uv (pkT J hg0 J (drp (X:= [(28,_),(27,_),(26,_)]) ⟨J,J,J,tV⟩ fin)))))))
   ·intro hg0 fin
    exact gn J J J hg0 J J (gn J J J hg0 J J (gn J J J hg0 J J (pkF J hg0 J (drp (X:= [(28,_),(27,_),(26,_)]) ⟨J,J,J,tV⟩ fin))))
   refine nl (th ?_)
   refine cd J (fun hc2=> ?_) (fun hc2=> ?_)
   ·try simp at hc2
    refine rg (mv (mv (iO J J J T.gJ O O (sO (φ:=bl true) J J J T.eP gB J (y':=true) J (ag (nl (eb (th (rg (bi J J (aG i6) (mv (nl ?_))))))))))))
    have hN0:(k1+1)≤s.sT.length:=by
     first|omega|simp_all
    have hN1:(l1.set k1 true).length=s.sT.length∧(∀x,ix (l1.set k1 true) x=true→Hol s x)∧(true=false→(l1.set k1 true)=l∧∀x,x<(k1+1)→fN (ix s.sT x) l=true→ix l x=true)∧(true=true→(l1.set k1 true).count false<l.count false):=by
     have hlt:k1<l1.length:=by omega
     refine⟨by simp[hI1.1],fun x hx=> ?_,fun h=>(by cases h),fun _=> ?_⟩
     ·rw[lC hlt] at hx
      split at hx
      ·next e=>subst e;exact oF s _ (by omega) (fun i hi=>by
         obtain⟨a,q1,q2,g3,g4⟩:=zF.1 hc2.2 i hi
         exact⟨a,q1,q2,g3,hI1.2.1 _ g4⟩)
      ·exact hI1.2.1 x hx
     ·have h1:=count_set hlt hc2.1
      cases g1x with
      |true=>have:=hI1.2.2.2 rfl;omega
      |false=>have:=(hI1.2.2.1 rfl).1;subst this;exact h1
    exact ln (⟨k1+1,true,l1.set k1 true⟩:Nat × Bool × (List Bool)) ⟨hN0,hN1⟩ dO ⟨id,id,id,id,id,id,id,tV⟩ ⟨rI,rI,tV⟩
   ·try simp at hc2
    refine sk (eb (th (rg (bi J J (aG i6) (mv (nl ?_))))))
    have hN0:(k1+1)≤s.sT.length:=by
     first|omega|simp_all
    have hN1:l1.length=s.sT.length∧(∀x,ix l1 x=true→Hol s x)∧(g1x=false→l1=l∧∀x,x<(k1+1)→fN (ix s.sT x) l=true→ix l x=true)∧(g1x=true→l1.count false<l.count false):=by
     refine⟨hI1.1,hI1.2.1,fun hb=>⟨(hI1.2.2.1 hb).1,fun x hx hf=> ?_⟩,hI1.2.2.2⟩
     by_cases e:x=k1
     ·subst e
      have he:=(hI1.2.2.1 hb).1
      subst he
      cases hq:ix l1 x
      ·have:=hc2 hq;rw[hf] at this;cases this
      ·rfl
     ·exact(hI1.2.2.1 hb).2 x O hf
    exact ln (⟨k1+1,g1x,l1⟩:Nat × Bool × (List Bool)) ⟨hN0,hN1⟩ dO ⟨id,id,id,id,id,id,id,tV⟩ ⟨rI,rI,tV⟩
  ·try simp at hc1
   refine ex (xt_ (xt_ (xb (eb ?_))))
   have hN0:l1.length=s.sT.length∧(∀x,ix l1 x=true→Hol s x)∧(g1x=false→∀x,x<s.sT.length→fN (ix s.sT x) l1=true→ix l1 x=true):=by
    refine⟨hI1.1,hI1.2.1,fun hb x hx hf=> ?_⟩
    obtain⟨e,h3⟩:=hI1.2.2.1 hb
    subst e
    exact h3 x O hf
   exact ln (⟨g1x,l1⟩:Bool × (List Bool)) hN0 (by cases g1x with
    |true=>have:=hI1.2.2.2 rfl;subst hc0;simp;omega
    |false=>have:=(hI1.2.2.1 rfl).1;subst this;subst hc0;simp) ⟨id,id,id,id,tV⟩ ⟨rI,rI,tV⟩
 ·try simp at hc0
  refine ex (xt_ (xt_ (xb (th (sq (rg (mv (ag (nl (th (rt ?_)))))))))))
  refine fzA 10 2 rfl rfl ?_
  have hr0:l=(hOl s):=by
   exact KJ hI0.1 hI0.2.1 (hI0.2.2 hc0)
  exact rE () [.tmp 2] J [sl 1 blE l] ⟨.tmp J,tV⟩ (cA1 (fun x0=>rV [sl 1 blE x0]) hr0) trivial eX
theorem NG (s:SS) (h:oK s):
 Fn0 Tryz.prog 126 [spec s] (spec (aA s)):=by
 refine fnI Tryz.func126 rfl rfl (fun w0 F0=> ?_)
 have hf0:=h.few0;have hf1:=h.few1;have hn8:=h.n8;have hhl:=jX s
 refine fcC (bV 0 J) (fun hS0=> ?_)
 obtain⟨hsa0,hss0,hse0⟩:=sLn hS0
 refine sq (rg (bx (key:=1) (cs:= [sl 1 rE_ s.aC,sl 2 sE s.sT]) J fun b1=>(al (key:=2) T.z28 (eC (eC eZ)) fun b2=>(nl (th (sq (rg (lPA J J T.aW J (aZ (φs:= [agg [sl 1 rE_ s.aC,sl 2 sE s.sT]]) (φ:=sl 1 blE (hOl s)) ⟨J,tV⟩ (ref04.Di s aS) T.QC (ag (nl (th (sq (rg (fP J T.cP (lP J J J T.cK (yI (enc:=rE_) (ys:=s.aC) J J T.uB mL (bd (css:= [(0,_)]) T.nA (eC (eC eZ)) ⟨J,J,p1 (φ:=sl 1 rE_ s.aC) J,tV⟩ (al (key:=4) T.z28 (eC (eC eZ)) fun b4=>(sPA (cs':= [sl 1 rE_ s.aC,eqv (.slice none 0 0)]) J J J T.aW J J (nl (th (sq (sq (rg (fP J T.bA (lP J J J T.bM (fc (aT 20 J) fun hm20=>(lnF J T.cE (mv (nl (th (bk ?_)))))))))))))))))))))))))))))))))
 refine nwC 40 79 2 sE (iJ 4 1 (osl 40 (.slice none 0 0)) rfl rfl cS ?_)
 have hI0_0:0≤s.sT.length:=by
  first|omega|simp
 have hI0_1:([]:List SA)=(List.range 0).map (jZ s):=by
  rfl
 refine lp (κ:=Nat × Value × (List SA)) (fun p=> [(2,ptr 2 b2 0),(3,sl 1 blE (hOl s)),(4,ptr 4 b4 0),(20,sl 2 sE s.sT),(21,int (s.sT.length:Int)),(22,int (p.1:Int))]) (fun p=> [(1,cell b1 [sl 1 rE_ s.aC,sl 2 sE s.sT]),(2,cell b2 [eqv (.slice none 0 0),eqv (.slice none 0 0)]),(4,cell b4 [sl 1 rE_ s.aC,osl 40 p.2.1]),(40,own p.2.1 79 2 sE p.2.2)]) (fun p=>(p.1≤s.sT.length)∧(p.2.2=(List.range p.1).map (jZ s))) (fun p=>s.sT.length- p.1) ⟨0,(.slice none 0 0),([]:List SA)⟩ ⟨hI0_0,hI0_1⟩ ⟨id,id,id,id,id,id,tV⟩ ⟨rI,rI,rI,rI,tV⟩ ?_
 intro⟨k,v,acc⟩ hG0
 obtain⟨hk0,hI0⟩:(k≤s.sT.length)∧(acc=(List.range k).map (jZ s)):=hG0
 show Ct _ _ _ _ [(2,ptr 2 b2 0),(3,sl 1 blE (hOl s)),(4,ptr 4 b4 0),(20,sl 2 sE s.sT),(21,int (s.sT.length:Int)),(22,int (k:Int))] [(1,cell b1 [sl 1 rE_ s.aC,sl 2 sE s.sT]),(2,cell b2 [eqv (.slice none 0 0),eqv (.slice none 0 0)]),(4,cell b4 [sl 1 rE_ s.aC,osl 40 v]),(40,own v 79 2 sE acc)] _
 have hal:acc.length=k:=by rw[hI0];simp
 refine sq (rg (bi J J aO (nl (th (sq ?_)))))
 refine cd J (fun hc0=> ?_) (fun hc0=> ?_)
 ·try simp at hc0
  have hst:=h.st k O;have hsl:=hst.len;have hacl:=hst.acl
  refine sk (th (sq (bk (sq (rg (mv (iF J J T.cE O gB (lFA J T.cR (Nat.le_of_ble_eq_true J) (al (key:=6) T.z79 (eC (eC eZ)) fun b6=>(ag (sPA (cs':= [sl 1 nE (ix s.sT k).aP,sl 1 nE (ix s.sT k).next]) J J J T.cR J J (nl (th (sq (rg (bd (css:= []) T.vR (eC (eC eZ)) trivial (al (key:=7) T.z79 (eC (eC eZ)) fun b7=>(sPA (cs':= [eqv (.slice none 0 0),eqv (.slice none 0 0)]) J J J T.cR J J (ag (nl (th (sq (sq (rg (fP J T.cJ (lP J J J T.aY (fc (aT 29 J) fun hm29=>(lnF J T.aU (mv (nl (th (bk ?_))))))))))))))))))))))))))))))))
  refine nwC 70 3 1 nE (iJ 7 0 (osl 70 (.slice none 0 0)) rfl rfl cS ?_)
  have hI1_0:0≤(ix s.sT k).aP.length:=by
   first|omega|simp
  have hI1_1:([]:List Int)=((ix s.sT k).aP.take 0).filter (fun t=> !ix (hOl s) k&& !dF (ix s.sT k) t (hOl s))∧(0:Int)=aV ([]:List Int)∧0≤(0:Int)∧(0:Int)<256∧([]:List Int).length≤0:=by
   refine⟨by simp,rfl,O,O,by simp⟩
  refine lp (κ:=Nat × Value × (List Int) × Int) (fun p=> [(2,ptr 2 b2 0),(3,sl 1 blE (hOl s)),(4,ptr 4 b4 0),(5,int (k:Int)),(6,ptr 6 b6 0),(7,ptr 7 b7 0),(8,int p.2.2.2),(20,sl 2 sE s.sT),(21,int (s.sT.length:Int)),(22,int (k:Int)),(29,sl 1 nE (ix s.sT k).aP),(30,int ((ix s.sT k).aP.length:Int)),(31,int (p.1:Int))]) (fun p=> [(1,cell b1 [sl 1 rE_ s.aC,sl 2 sE s.sT]),(2,cell b2 [eqv (.slice none 0 0),eqv (.slice none 0 0)]),(4,cell b4 [sl 1 rE_ s.aC,osl 40 v]),(6,cell b6 [sl 1 nE (ix s.sT k).aP,sl 1 nE (ix s.sT k).next]),(7,cell b7 [osl 70 p.2.1,eqv (.slice none 0 0)]),(40,own v 79 2 sE acc),(70,own p.2.1 3 1 nE p.2.2.1)]) (fun p=>(p.1≤(ix s.sT k).aP.length)∧(p.2.2.1=((ix s.sT k).aP.take p.1).filter (fun t=> !ix (hOl s) k&& !dF (ix s.sT k) t (hOl s))∧p.2.2.2=aV p.2.2.1∧0≤p.2.2.2∧p.2.2.2<256∧p.2.2.1.length≤p.1)) (fun p=>(ix s.sT k).aP.length- p.1) ⟨0,(.slice none 0 0),([]:List Int),(0:Int)⟩ ⟨hI1_0,hI1_1⟩ ⟨id,id,id,id,id,id,id,id,id,id,id,id,id,tV⟩ ⟨rI,rI,rI,rI,rI,rI,rI,tV⟩ ?_
  intro⟨k1,v1x,l1,u⟩ hG1
  obtain⟨hk1,hI1⟩:(k1≤(ix s.sT k).aP.length)∧(l1=((ix s.sT k).aP.take k1).filter (fun t=> !ix (hOl s) k&& !dF (ix s.sT k) t (hOl s))∧u=aV l1∧0≤u∧u<256∧l1.length≤k1):=hG1
  show Ct _ _ _ _ [(2,ptr 2 b2 0),(3,sl 1 blE (hOl s)),(4,ptr 4 b4 0),(5,int (k:Int)),(6,ptr 6 b6 0),(7,ptr 7 b7 0),(8,int u),(20,sl 2 sE s.sT),(21,int (s.sT.length:Int)),(22,int (k:Int)),(29,sl 1 nE (ix s.sT k).aP),(30,int ((ix s.sT k).aP.length:Int)),(31,int (k1:Int))] [(1,cell b1 [sl 1 rE_ s.aC,sl 2 sE s.sT]),(2,cell b2 [eqv (.slice none 0 0),eqv (.slice none 0 0)]),(4,cell b4 [sl 1 rE_ s.aC,osl 40 v]),(6,cell b6 [sl 1 nE (ix s.sT k).aP,sl 1 nE (ix s.sT k).next]),(7,cell b7 [osl 70 v1x,eqv (.slice none 0 0)]),(40,own v 79 2 sE acc),(70,own v1x 3 1 nE l1)] _
  refine sq (rg (bi J J aO (nl (th (sq ?_)))))
  refine cd J (fun hc1=> ?_) (fun hc1=> ?_)
  ·try simp at hc1
   have hac:=hst.ac k1 O
   refine sk (th (sq (bk (sq (rg (iF J J T.aU O gB (lF J J T.aH (ag (nl (th (sq (rg (mv (mv (iF J J T.gJ O gB (lF J J T.eP (no J (mv ?_))))))))))))))))))
   apply cZ (t:=40) (pd:=46) rfl
   rotate_left
   ·intro hg0 fin
    have hg0':=hg0
    try simp at hg0'
    exact gy J J J hg0 (lPA J J T.cR J (gy J J J hg0 (mv (gy J J J hg0 (mv (gy J J J hg0 (aZ (φs:= [agg [sl 1 nE (ix s.sT k).aP,sl 1 nE (ix s.sT k).next],int (ix (ix s.sT k).aP k1),sl 1 blE (hOl s)]) (φ:=bl (dF (ix s.sT k) (ix (ix s.sT k).aP k1) (hOl s))) ⟨J,J,J,tV⟩ (ref04.Fh (ix s.sT k) _ _ O O O (fun a ha=>by rw[jX];exact(hst.nx a O).2)) T.KL (gy J J J hg0 (no J (pkT J hg0 J (drp (X:= [(45,_),(44,_),(43,_),(42,_),(41,_)]) ⟨J,J,J,J,J,tV⟩ fin)))))))))))
   ·intro hg0 fin
    exact gn J J J hg0 J J (gn J J J hg0 J J (gn J J J hg0 J J (gn J J J hg0 J J (gn J J J hg0 J J (pkF J hg0 J (drp (X:= [(45,_),(44,_),(43,_),(42,_),(41,_)]) ⟨J,J,J,J,J,tV⟩ fin))))))
   refine nl (th ?_)
   refine cd J (fun hc2=> ?_) (fun hc2=> ?_)
   ·try simp at hc2
    refine sq (rg (fP J T.cJ (lP J J J T.aY (mv (bsE (enc:=nE) (xs:= [(ix (ix s.sT k).aP k1)]) (css:= [[int (ix (ix s.sT k).aP k1)]]) T.bS ⟨J,J,p1 (φ:=int (ix (ix s.sT k).aP k1)) J,tV⟩ J J J J (ap (key:=70) (zs:= [(ix (ix s.sT k).aP k1)]) bP J J J T.bS (by unfold aQ at*;simp;omega) (by unfold aQ at*;simp;omega) fun v51=>(fP J T.cJ (bY J J J J T.aY J (nl (th (rg (mv (mv (bi J J (tA O O O O) (ag (nl (eb (th (rg (bi J J (aG i6) (mv (nl ?_))))))))))))))))))))))
    have hN0:(k1+1)≤(ix s.sT k).aP.length:=by
     first|omega|simp_all
    have hN1:(l1++ [(ix (ix s.sT k).aP k1)])=((ix s.sT k).aP.take (k1+1)).filter (fun t=> !ix (hOl s) k&& !dF (ix s.sT k) t (hOl s))∧((u.toNat|||(ix (ix s.sT k).aP k1).toNat:Nat):Int)=aV (l1++ [(ix (ix s.sT k).aP k1)])∧0≤((u.toNat|||(ix (ix s.sT k).aP k1).toNat:Nat):Int)∧((u.toNat|||(ix (ix s.sT k).aP k1).toNat:Nat):Int)<256∧(l1++ [(ix (ix s.sT k).aP k1)]).length≤(k1+1):=by
     refine⟨?_,?_,O,jY hI1.2.2.2.1 hac.2,by simp;omega⟩
     ·rw[kA O,hI1.1];simp[hc2]
     ·rw[gV,hI1.2.1]
    exact ln (⟨k1+1,v51,l1++ [(ix (ix s.sT k).aP k1)],((u.toNat|||(ix (ix s.sT k).aP k1).toNat:Nat):Int)⟩:Nat × Value × (List Int) × Int) ⟨hN0,hN1⟩ dO ⟨id,id,id,id,id,id,id,id,id,id,id,id,id,tV⟩ ⟨rI,rI,rI,rI,rI,rI,rI,tV⟩
   ·try simp at hc2
    refine sk (eb (th (rg (bi J J (aG i6) (mv (nl ?_))))))
    have hN0:(k1+1)≤(ix s.sT k).aP.length:=by
     first|omega|simp_all
    have hN1:l1=((ix s.sT k).aP.take (k1+1)).filter (fun t=> !ix (hOl s) k&& !dF (ix s.sT k) t (hOl s))∧u=aV l1∧0≤u∧u<256∧l1.length≤(k1+1):=by
     refine⟨?_,hI1.2.1,hI1.2.2.1,hI1.2.2.2.1,O⟩
     rw[kA O,hI1.1]
     by_cases hq:ix (hOl s) k=true<;>simp_all
    exact ln (⟨k1+1,v1x,l1,u⟩:Nat × Value × (List Int) × Int) ⟨hN0,hN1⟩ dO ⟨id,id,id,id,id,id,id,id,id,id,id,id,id,tV⟩ ⟨rI,rI,rI,rI,rI,rI,rI,tV⟩
  ·try simp at hc1
   refine ex (xt_ (xt_ (xb (th (sq (sq (rg (fP J T.bR (lP J J J T.aY (fc (aT 58 J) fun hm58=>(lnF J T.aU (mv (nl (th (bk ?_)))))))))))))))
   refine EV 7 70 0 rfl rfl rfl rfl (nwC 71 3 1 nE (iJ 7 1 (osl 71 (.slice none 0 0)) rfl rfl cS ?_))
   have hI2_0:0≤(ix s.sT k).next.length:=by
    first|omega|simp
   have hI2_1:([]:List Int)=(List.range 0).map (fun(a:Nat)=>if has u (a:Int) then ix (ix s.sT k).next a else-1):=by
    rfl
   refine lp (κ:=Nat × Value × (List Int)) (fun p=> [(2,ptr 2 b2 0),(3,sl 1 blE (hOl s)),(4,ptr 4 b4 0),(7,ptr 7 b7 0),(8,int u),(20,sl 2 sE s.sT),(21,int (s.sT.length:Int)),(22,int (k:Int)),(58,sl 1 nE (ix s.sT k).next),(59,int ((ix s.sT k).next.length:Int)),(60,int (p.1:Int))]) (fun p=> [(1,cell b1 [sl 1 rE_ s.aC,sl 2 sE s.sT]),(2,cell b2 [eqv (.slice none 0 0),eqv (.slice none 0 0)]),(4,cell b4 [sl 1 rE_ s.aC,osl 40 v]),(6,cell b6 [sl 1 nE (ix s.sT k).aP,sl 1 nE (ix s.sT k).next]),(7,cell b7 [sl 1 nE l1,osl 71 p.2.1]),(40,own v 79 2 sE acc),(71,own p.2.1 3 1 nE p.2.2)]) (fun p=>(p.1≤(ix s.sT k).next.length)∧(p.2.2=(List.range p.1).map (fun(a:Nat)=>if has u (a:Int) then ix (ix s.sT k).next a else-1))) (fun p=>(ix s.sT k).next.length- p.1) ⟨0,(.slice none 0 0),([]:List Int)⟩ ⟨hI2_0,hI2_1⟩ ⟨id,id,id,id,id,id,id,id,id,id,id,tV⟩ ⟨rI,rI,rI,rI,rI,rI,rI,tV⟩ ?_
   intro⟨k2,v2x,l2⟩ hG2
   obtain⟨hk2,hI2⟩:(k2≤(ix s.sT k).next.length)∧(l2=(List.range k2).map (fun(a:Nat)=>if has u (a:Int) then ix (ix s.sT k).next a else-1)):=hG2
   show Ct _ _ _ _ [(2,ptr 2 b2 0),(3,sl 1 blE (hOl s)),(4,ptr 4 b4 0),(7,ptr 7 b7 0),(8,int u),(20,sl 2 sE s.sT),(21,int (s.sT.length:Int)),(22,int (k:Int)),(58,sl 1 nE (ix s.sT k).next),(59,int ((ix s.sT k).next.length:Int)),(60,int (k2:Int))] [(1,cell b1 [sl 1 rE_ s.aC,sl 2 sE s.sT]),(2,cell b2 [eqv (.slice none 0 0),eqv (.slice none 0 0)]),(4,cell b4 [sl 1 rE_ s.aC,osl 40 v]),(6,cell b6 [sl 1 nE (ix s.sT k).aP,sl 1 nE (ix s.sT k).next]),(7,cell b7 [sl 1 nE l1,osl 71 v2x]),(40,own v 79 2 sE acc),(71,own v2x 3 1 nE l2)] _
   have hl2:l2.length=k2:=by rw[hI2];simp
   refine sq (rg (bi J J aO (nl (th (sq ?_)))))
   refine cd J (fun hc3=> ?_) (fun hc3=> ?_)
   ·try simp at hc3
    refine sk (th (sq (bk (sq (rg (mv (iF J J T.aU O gB (lF J J T.aH (ag (ag (nl (th (sq (sq (rg (mv (mv (aZ (φs:= [int u,int (k2:Int)]) (φ:=bl (has u (k2:Int))) ⟨J,J,tV⟩ (ref01.Be _ _ O O O O) T.Er (no J (nl (th ?_)))))))))))))))))))))
    refine cd J (fun hc4=> ?_) (fun hc4=> ?_)
    ·try simp at hc4
     refine rg (ag (nl (th (rg (fP J T.bR (lP J J J T.aY (mv (bsE (enc:=nE) (xs:= [(-1)]) (css:= [[int (-1)]]) T.bS ⟨J,J,p1 (φ:=int (-1)) J,tV⟩ J J J J (ap (key:=71) (zs:= [(-1)]) bP J J J T.bS (by unfold aQ at*;simp;omega) (by unfold aQ at*;simp;omega) fun v73=>(fP J T.bR (bY J J J J T.aY J (nl (eb (th (rg (bi J J (aG i6) (mv (nl ?_))))))))))))))))))
     have hN0:(k2+1)≤(ix s.sT k).next.length:=by
      first|omega|simp_all
     have hN1:(l2++ [(-1)])=(List.range (k2+1)).map (fun(a:Nat)=>if has u (a:Int) then ix (ix s.sT k).next a else-1):=by
      rw[oU,hI2];simp[hc4]
     exact ln (⟨k2+1,v73,l2++ [(-1)]⟩:Nat × Value × (List Int)) ⟨hN0,hN1⟩ dO ⟨id,id,id,id,id,id,id,id,id,id,id,tV⟩ ⟨rI,rI,rI,rI,rI,rI,rI,tV⟩
    ·try simp at hc4
     refine sk (th (rg (fP J T.bR (lP J J J T.aY (mv (bsE (enc:=nE) (xs:= [(ix (ix s.sT k).next k2)]) (css:= [[int (ix (ix s.sT k).next k2)]]) T.bS ⟨J,J,p1 (φ:=int (ix (ix s.sT k).next k2)) J,tV⟩ J J J J (ap (key:=71) (zs:= [(ix (ix s.sT k).next k2)]) bP J J J T.bS (by unfold aQ at*;simp;omega) (by unfold aQ at*;simp;omega) fun v73=>(fP J T.bR (bY J J J J T.aY J (nl (eb (th (rg (bi J J (aG i6) (mv (nl ?_))))))))))))))))
     have hN0:(k2+1)≤(ix s.sT k).next.length:=by
      first|omega|simp_all
     have hN1:(l2++ [(ix (ix s.sT k).next k2)])=(List.range (k2+1)).map (fun(a:Nat)=>if has u (a:Int) then ix (ix s.sT k).next a else-1):=by
      rw[oU,hI2];simp[hc4]
     exact ln (⟨k2+1,v73,l2++ [(ix (ix s.sT k).next k2)]⟩:Nat × Value × (List Int)) ⟨hN0,hN1⟩ dO ⟨id,id,id,id,id,id,id,id,id,id,id,tV⟩ ⟨rI,rI,rI,rI,rI,rI,rI,tV⟩
   ·try simp at hc3
    refine ex (xt_ (xt_ (xb (th (rg (fP J T.bA (lP J J J T.bM (fzc 7 71 1 J J J J (lPA J J T.cR J (bsE (enc:=sE) (xs:= [(⟨l1,l2⟩)]) (css:= [[sl 1 nE l1,sl 1 nE l2]]) T.kS ⟨J,J,pA (cs:= [sl 1 nE l1,sl 1 nE l2]) J,tV⟩ J J J J (ap (key:=40) (zs:= [(⟨l1,l2⟩)]) bP J J J T.kS (by unfold aQ at*;simp;omega) (by unfold aQ at*;simp;omega) fun v80=>(fP J T.bA (bY J J J J T.bM J (nl (eb (th (rg (bi J J (aG i6) (mv (nl ?_))))))))))))))))))))
    have hN0:(k+1)≤s.sT.length:=by
     first|omega|simp_all
    have hN1:(acc++ [(⟨l1,l2⟩)])=(List.range (k+1)).map (jZ s):=by
     rw[oU,hI0]
     congr 2
     have e1:l1=keep s k:=by rw[hI1.1,show k1=(ix s.sT k).aP.length by omega,List.take_length];rfl
     have e2:l2=cut (ix s.sT k) u:=by rw[hI2,show k2=(ix s.sT k).next.length by omega];rfl
     rw[e2,hI1.2.1,e1];rfl
    exact ln (⟨k+1,v80,acc++ [(⟨l1,l2⟩)]⟩:Nat × Value × (List SA)) ⟨hN0,hN1⟩ dO ⟨id,id,id,id,id,id,tV⟩ ⟨rI,rI,rI,rI,tV⟩
 ·try simp at hc0
  refine ex (xt_ (xt_ (xb (th (sq (rg (fzc 4 40 1 J J J J (lPA J J T.aW J (sPA (cs':= [sl 1 rE_ s.aC,sl 2 sE acc]) J J J T.aW J J (nl (th (rt ?_))))))))))))
  have hr0:s.aC=(aA s).aC:=by
   rfl
  have hr1:acc=(aA s).sT:=by
   unfold aA;rw[hI0,show k=s.sT.length by omega]
  exact rE () [.cell 2 28] J [agg [sl 1 rE_ s.aC,sl 2 sE acc]] ⟨.agg J J T.aW J J,tV⟩ (cA2 (fun x0 x1=>rV [agg [sl 1 rE_ x0,sl 2 sE x1]]) hr0 hr1) trivial eX
theorem NH (s:SS) (h1:1≤s.sT.length) (h2:s.sT.length≤10000) (hn:∀k,k<s.sT.length→(ix s.sT k).next.length≤8∧∀a,a<(ix s.sT k).next.length→ix (ix s.sT k).next a<(s.sT.length:Int)):
 Fn0 Tryz.prog 127 [spec s] (ints (order s)):=by
 refine fnI Tryz.func127 rfl rfl (fun w0 F0=> ?_)
 refine fcC (bV 0 J) (fun hS0=> ?_)
 obtain⟨hsa0,hss0,hse0⟩:=sLn hS0
 refine sq (rg (bx (key:=1) (cs:= [sl 1 rE_ s.aC,sl 2 sE s.sT]) J fun b1=>(ag (nl (th (sq (rg (fP J T.bA (lP J J J T.bM (fc (aT 9 J) fun hm9=>(lnF J T.cE (mk (key:=11) (m:=s.sT.length) (enc:=blE) (y:=false) J J T.vT (eC eZ) mL mL fun v11=>(ag (nl (th (sq (rg (mv (iO J J J T.gJ O (by simp;omega) (sO (φ:=bl true) J J J T.eP (gK (k:=0) (by simp;omega)) J (y':=true) J (nl (th (sq (rg (bsO 14 (enc:=nE) (xs:= [0]) (css:= [[int 0]]) T.bS ⟨J,J,p1 (φ:=int 0) J,tV⟩ J J J J fun v14=>(ag (nl (th (sq (sq (rg (ag (nl (th (bk ?_)))))))))))))))))))))))))))))))))))
 have hI0_0:([0]:List Int)=bq s 0∧((List.replicate s.sT.length false).set 0 true)=marks s.sT.length ([0]:List Int)∧okQ s.sT.length ([0]:List Int)∧0≤([0]:List Int).length:=by
  exact⟨rfl,Bf _,Fg h1,by simp⟩
 refine lp (κ:=Nat × Value × (List Int) × (List Bool)) (fun p=> [(1,ptr 1 b1 0),(2,eqv (.slice none 0 0)),(3,osl 11 v11),(4,osl 14 p.2.1),(5,int (p.1:Int))]) (fun p=> [(1,cell b1 [sl 1 rE_ s.aC,sl 2 sE s.sT]),(11,own v11 4 1 blE p.2.2.2),(14,own p.2.1 3 1 nE p.2.2.1)]) (fun p=>p.2.2.1=bq s p.1∧p.2.2.2=marks s.sT.length p.2.2.1∧okQ s.sT.length p.2.2.1∧p.1≤p.2.2.1.length) (fun p=>s.sT.length+1- p.1) ⟨0,v14,([0]:List Int),(List.replicate s.sT.length false).set 0 true⟩ hI0_0 ⟨id,id,id,id,id,tV⟩ ⟨rI,rI,rI,tV⟩ ?_
 intro⟨i,v,l,fl⟩ hG0
 have hI0:l=bq s i∧fl=marks s.sT.length l∧okQ s.sT.length l∧i≤l.length:=hG0
 show Ct _ _ _ _ [(1,ptr 1 b1 0),(2,eqv (.slice none 0 0)),(3,osl 11 v11),(4,osl 14 v),(5,int (i:Int))] [(1,cell b1 [sl 1 rE_ s.aC,sl 2 sE s.sT]),(11,own v11 4 1 blE fl),(14,own v 3 1 nE l)] _
 refine sq (sq (rg (mv (mv (lnO J J T.aU (bi J J aO (nl (th ?_))))))))
 refine cd J (fun hc0=> ?_) (fun hc0=> ?_)
 ·try simp at hc0
  have hq:=hI0.2.2.1.1 i O
  have hnx:=hn (ix l i).toNat O
  have hle:=hI0.2.2.1.le
  refine sk (th (sq (bk (sq (dr (nh:=11) [0,1,0,0,12,28,63,127,255,511,0] T.mixed kR ?_)))))
  refine st_ J (fun _ _ _ gq kq=>fP (gq.1.trans J) T.bA kq) ?_
  refine st_ J (fun _ _ _ gq kq=>lP (gq.1.trans J) J J T.bM kq) ?_
  refine st_ J (fun _ _ _ gq kq=>mv' (gq.1.trans J) kq) ?_
  refine st_ J (fun _ _ _ gq kq=>mv' (gq.1.trans J) kq) ?_
  refine st_ J (fun _ _ _ gq kq=>iO (gq.1.trans J) J (gq.2.1.trans J) T.aU O O kq) ?_
  refine st_ J (fun _ _ _ gq kq=>lO (gq.1.trans J) J gB J T.aH kq) ?_
  refine st_ J (fun _ _ _ gq kq=>iF (gq.1.trans J) (gq.2.1.trans J) T.cE O gB kq) ?_
  refine st_ J (fun _ _ _ gq kq=>fF (gq.1.trans J) T.bR kq) ?_
  refine st_ J (fun _ _ _ gq kq=>lF (gq.1.trans J) J T.aY kq) ?_
  refine st_ J (fun _ _ _ gq kq=>lnF (gq.1.trans J) T.aU kq) ?_
  refine st_ J (fun _ _ _ gq kq=>mv kq) ?_
  refine pn (nl (th (bk ?_)))
  have hI1_0:0≤(ix s.sT (ix l i).toNat).next.length:=by
   first|omega|simp
  have hI1_1:l=visit l ((ix s.sT (ix l i).toNat).next.take 0)∧fl=marks s.sT.length l∧okQ s.sT.length l∧l.length≤l.length:=by
   exact⟨by simp[visit],hI0.2.1,hI0.2.2.1,Nat.le_refl _⟩
  refine lp (κ:=Nat × Value × (List Int) × (List Bool)) (fun p=> [(1,ptr 1 b1 0),(2,eqv (.slice none 0 0)),(3,osl 11 v11),(4,osl 14 p.2.1),(5,int (i:Int)),(29,sl 1 nE (ix s.sT (ix l i).toNat).next),(30,int ((ix s.sT (ix l i).toNat).next.length:Int)),(31,int (p.1:Int))]) (fun p=> [(1,cell b1 [sl 1 rE_ s.aC,sl 2 sE s.sT]),(11,own v11 4 1 blE p.2.2.2),(14,own p.2.1 3 1 nE p.2.2.1)]) (fun p=>(p.1≤(ix s.sT (ix l i).toNat).next.length)∧(p.2.2.1=visit l ((ix s.sT (ix l i).toNat).next.take p.1)∧p.2.2.2=marks s.sT.length p.2.2.1∧okQ s.sT.length p.2.2.1∧l.length≤p.2.2.1.length)) (fun p=>(ix s.sT (ix l i).toNat).next.length- p.1) ⟨0,v,l,fl⟩ ⟨hI1_0,hI1_1⟩ ⟨id,id,id,id,id,id,id,id,tV⟩ ⟨rI,rI,rI,tV⟩ ?_
  intro⟨k1,v1x,l1,f1⟩ hG1
  obtain⟨hk1,hI1⟩:(k1≤(ix s.sT (ix l i).toNat).next.length)∧(l1=visit l ((ix s.sT (ix l i).toNat).next.take k1)∧f1=marks s.sT.length l1∧okQ s.sT.length l1∧l.length≤l1.length):=hG1
  show Ct _ _ _ _ [(1,ptr 1 b1 0),(2,eqv (.slice none 0 0)),(3,osl 11 v11),(4,osl 14 v1x),(5,int (i:Int)),(29,sl 1 nE (ix s.sT (ix l i).toNat).next),(30,int ((ix s.sT (ix l i).toNat).next.length:Int)),(31,int (k1:Int))] [(1,cell b1 [sl 1 rE_ s.aC,sl 2 sE s.sT]),(11,own v11 4 1 blE f1),(14,own v1x 3 1 nE l1)] _
  refine sq (rg (bi J J aO (nl (th (sq ?_)))))
  refine cd J (fun hc1=> ?_) (fun hc1=> ?_)
  ·try simp at hc1
   have hnk:=hnx.2 k1 O
   have hfl:f1.length=s.sT.length:=by rw[hI1.2.1,lD]
   have hl1:=hI1.2.2.1.le
   refine sk (th (sq (bk (sq (rg (iF J J T.aU O gB (lF J J T.aH (ag (nl (th (sq (rg (mv (bi J J fK (mv ?_)))))))))))))))
   apply cZ (t:=37) (pd:=43) rfl
   rotate_left
   ·intro hg0 fin
    have hg0':=hg0
    try simp at hg0'
    exact gy J J J hg0 (mv (gy J J J hg0 (mv (gy J J J hg0 (iO J J J T.gJ O O (gy J J J hg0 (lO J J gB J T.eP (gy J J J hg0 (no J (pkT J hg0 J (drp (X:= [(42,_),(41,_),(40,_),(39,_),(38,_)]) ⟨J,J,J,J,J,tV⟩ fin)))))))))))
   ·intro hg0 fin
    exact gn J J J hg0 J J (gn J J J hg0 J J (gn J J J hg0 J J (gn J J J hg0 J J (gn J J J hg0 J J (pkF J hg0 J (drp (X:= [(42,_),(41,_),(40,_),(39,_),(38,_)]) ⟨J,J,J,J,J,tV⟩ fin))))))
   refine nl (th ?_)
   refine cd J (fun hc2=> ?_) (fun hc2=> ?_)
   ·try simp at hc2
    refine sq (rg (mv (mv (iO J J J T.gJ O O (sO (φ:=bl true) J J J T.eP gB J (y':=true) J (nl (th (rg (mv (mv (bsE (enc:=nE) (xs:= [(ix (ix s.sT (ix l i).toNat).next k1)]) (css:= [[int (ix (ix s.sT (ix l i).toNat).next k1)]]) T.bS ⟨J,J,p1 (φ:=int (ix (ix s.sT (ix l i).toNat).next k1)) J,tV⟩ J J J J (ap (key:=14) (zs:= [(ix (ix s.sT (ix l i).toNat).next k1)]) bP J J J T.bS (by unfold aQ at*;simp;omega) (by unfold aQ at*;simp;omega) fun v50=>(ag (nl (eb (th (rg (bi J J (aG i6) (mv (nl ?_))))))))))))))))))))
    have hN0:(k1+1)≤(ix s.sT (ix l i).toNat).next.length:=by
     first|omega|simp_all
    have hN1:(l1++ [(ix (ix s.sT (ix l i).toNat).next k1)])=visit l ((ix s.sT (ix l i).toNat).next.take (k1+1))∧(f1.set (ix (ix s.sT (ix l i).toNat).next k1).toNat true)=marks s.sT.length (l1++ [(ix (ix s.sT (ix l i).toNat).next k1)])∧okQ s.sT.length (l1++ [(ix (ix s.sT (ix l i).toNat).next k1)])∧l.length≤(l1++ [(ix (ix s.sT (ix l i).toNat).next k1)]).length:=by
     have hcc:l1.contains (ix (ix s.sT (ix l i).toNat).next k1)=false:=by
      have h3:=hc2.2
      rw[hI1.2.1,rU O,Int.toNat_of_nonneg hc2.1] at h3
      exact h3
     refine⟨?_,?_,zU hI1.2.2.1 hc2.1 hnk hcc,by simp;omega⟩
     ·rw[bJ O,qZ,←hI1.1,hcc];simp[hc2.1]
     ·rw[hI1.2.1,nM hc2.1]
    exact ln (⟨k1+1,v50,l1++ [(ix (ix s.sT (ix l i).toNat).next k1)],f1.set (ix (ix s.sT (ix l i).toNat).next k1).toNat true⟩:Nat × Value × (List Int) × (List Bool)) ⟨hN0,hN1⟩ dO ⟨id,id,id,id,id,id,id,id,tV⟩ ⟨rI,rI,rI,tV⟩
   ·try simp at hc2
    refine sk (eb (th (rg (bi J J (aG i6) (mv (nl ?_))))))
    have hN0:(k1+1)≤(ix s.sT (ix l i).toNat).next.length:=by
     first|omega|simp_all
    have hN1:l1=visit l ((ix s.sT (ix l i).toNat).next.take (k1+1))∧f1=marks s.sT.length l1∧okQ s.sT.length l1∧l.length≤l1.length:=by
     refine⟨?_,hI1.2.1,hI1.2.2.1,hI1.2.2.2⟩
     rw[bJ O,qZ,←hI1.1]
     by_cases h0:0≤ix (ix s.sT (ix l i).toNat).next k1
     ·have h3:=hc2 h0
      rw[hI1.2.1,rU O,Int.toNat_of_nonneg h0] at h3
      rw[h3];simp
     ·simp[h0]
    exact ln (⟨k1+1,v1x,l1,f1⟩:Nat × Value × (List Int) × (List Bool)) ⟨hN0,hN1⟩ dO ⟨id,id,id,id,id,id,id,id,tV⟩ ⟨rI,rI,rI,tV⟩
  ·try simp at hc1
   refine ex (xt_ (xt_ (xb (eb (th (rg (mv (bi J J (aG i6) (ag (nl ?_))))))))))
   have hN0:l1=bq s (i+1)∧f1=marks s.sT.length l1∧okQ s.sT.length l1∧(i+1)≤l1.length:=by
    refine⟨?_,hI1.2.1,hI1.2.2.1,O⟩
    have e:l1=visit l (ix s.sT (ix l i).toNat).next:=by rw[hI1.1,show k1=(ix s.sT (ix l i).toNat).next.length by omega,List.take_length]
    show l1=if i<(bq s i).length then _ else _
    rw[←hI0.1,if_pos O,e]
   exact ln (⟨i+1,v1x,l1,f1⟩:Nat × Value × (List Int) × (List Bool)) hN0 dO ⟨id,id,id,id,id,tV⟩ ⟨rI,rI,rI,tV⟩
 ·try simp at hc0
  refine ex (xt_ (xt_ (xb (th (sq (rg (mv (ag (nl (th (rt ?_)))))))))))
  refine fzA 14 2 rfl rfl ?_
  have hr0:l=(order s):=by
   have hle:=hI0.2.2.1.le
   have hst:=xD (s:=s) (i:=i) (by rw[←hI0.1];omega) (s.sT.length- i)
   unfold order
   rw[show i+(s.sT.length- i)=s.sT.length by omega] at hst
   rw[hst,←hI0.1]
  exact rE () [.tmp 2] J [sl 1 nE l] ⟨.tmp J,tV⟩ (cA1 (fun x0=>rV [sl 1 nE x0]) hr0) trivial eX
end ref04
end
section
namespace Part
def rA (rel:Nat→Nat→Bool):Nat→List Int × List Int
 |0=>([],[])
 |k+1=>match(rA rel k).2.findIdx? (fun y=>rel k y.toNat) with
  |some j=>((rA rel k).1++ [(j:Int)],(rA rel k).2)
  |none=>((rA rel k).1++ [((rA rel k).2.length:Int)],(rA rel k).2++ [(k:Int)])
structure Yq (n:Nat) (rel:Nat→Nat→Bool):Prop where
 refl:∀x,x<n→rel x x=true
 symm:∀x y,x<n→y<n→rel x y=true→rel y x=true
 trans:∀x y z,x<n→y<n→z<n→rel x y=true→rel y z=true→rel x z=true
structure Yk (rel:Nat→Nat→Bool) (k:Nat) (nx fs:List Int):Prop where
 len:nx.length=k
 fs0:∀j,j<fs.length→0≤ix fs j∧ix fs j<(k:Int)
 at_:∀j,j<fs.length→ix nx (ix fs j).toNat=(j:Int)
 cls:∀x,x<k→0≤ix nx x∧ix nx x<(fs.length:Int)∧rel x (ix fs (ix nx x).toNat).toNat=true
 dis:∀i j,i<fs.length→j<fs.length→rel (ix fs i).toNat (ix fs j).toNat=true→i=j
end Part
end
section
open ref01 ref03 ref04 Part
def Rv (class_:List Int) (k j:Int):Bool:=(decide (k<0) !=decide (j<0))||(decide (0≤k)&&decide (ix class_ k.toNat≠ix class_ j.toNat))
def KM (class_:List Int) (a b:List Int):Bool:=(List.range a.length).all fun i=> !Rv class_ (ix a i) (ix b i)
def alike (s:SS) (class_:List Int) (x y:Nat):Bool:=decide (ix class_ x=ix class_ y)&&decide ((ix s.sT x).aP=(ix s.sT y).aP)&&KM class_ (ix s.sT x).next (ix s.sT y).next
theorem cB {α:Type} [Inhabited α] {f:Nat→α} {n x:Nat} (h:x<n):ix ((List.range n).map f) x=f x:=by
 rw[aF (by simpa using h)];simp
theorem fX {s:SS} {x:Nat} (h:x<s.sT.length):ix (aA s).sT x=jZ s x:=cB h
theorem fQ (s:SS):(aA s).sT.length=s.sT.length:=by simp[aA]
theorem Rw (x:SA) (u:Int):(cut x u).length=x.next.length:=by simp[cut]
theorem xE {x:SA} {u:Int} {a:Nat} (h:a<x.next.length):ix (cut x u) a=if has u (a:Int) then ix x.next a else-1:=cB h
theorem iL {s:SS} (h:oK s) {x:Nat} (hx:x<s.sT.length):(ix (aA s).sT x).next.length=s.aC.length:=by
 rw[fX hx]
 show(cut _ _).length=_
 rw[Rw];exact(h.st x hx).len
theorem vU {s:SS} (h:oK s) {x:Nat} (hx:x<s.sT.length) {a:Nat} (ha:a<(ix (aA s).sT x).next.length):ix (ix (aA s).sT x).next a<(s.sT.length:Int):=by
 rw[iL h hx] at ha
 rw[fX hx]
 show ix (cut _ _) a<_
 rw[xE (by rw[(h.st x hx).len];exact ha)]
 split
 ·exact((h.st x hx).nx a ha).2
 ·omega
noncomputable def itR (s:SS):Nat→List Int × Nat
 |0=>(List.replicate s.sT.length 0,0)
 |i+1=>((rA (alike (aA s) (itR s i).1) s.sT.length).1,(rA (alike (aA s) (itR s i).1) s.sT.length).2.length)
theorem Dj {n:Nat}:∀(ks l:List Int),okQ n l→(∀i,i<ks.length→ix ks i<(n:Int))→okQ n (visit l ks)
 | [],l,h,_=>h
 |k::ks,l,h,hk=>by
  have hk0:k<(n:Int):=hk 0 (by simp)
  have ht:∀i,i<ks.length→ix ks i<(n:Int):=fun i hi=>hk (i+1) (by simpa using hi)
  show okQ n (visit (if decide (0≤k)&& !l.contains k then l++ [k] else l) ks)
  refine Dj ks _ ?_ ht
  split
  ·next hc=>
   simp only [Bool.and_eq_true,decide_eq_true_eq,Bool.not_eq_true'] at hc
   exact zU h hc.1 hk0 hc.2
  ·exact h
theorem Fj {s:SS} (h1:1≤s.sT.length) (hn:∀k,k<s.sT.length→∀a,a<(ix s.sT k).next.length→ix (ix s.sT k).next a<(s.sT.length:Int)):∀i,okQ s.sT.length (bq s i)
 |0=>Fg h1
 |i+1=>by
  have ih:=Fj h1 hn i
  unfold bq
  split
  ·next hi=>
   have:=ih.1 i hi
   exact Dj _ _ ih (fun a ha=>hn _ O a ha)
  ·exact ih
theorem tG {s:SS} (h:oK s):okQ s.sT.length (order (aA s)):=by
 have:=Fj (s:=aA s) (by rw[fQ];exact h.few0) (fun k hk a ha=>by rw[fQ] at hk ⊢;exact vU h hk ha) (aA s).sT.length
 rw[fQ] at this
 unfold order
 rw[fQ];exact this
def vV (tl:List Int) (k:Int):Int:=if 0≤k then ix tl k.toNat else k
theorem qM {α β:Type} [Inhabited α] {xs:List α} {k:Nat} (h:k<xs.length) (f:α→β):(xs.take (k+1)).map f=(xs.take k).map f++ [f (ix xs k)]:=by rw[bJ h,List.map_append];rfl
namespace ref06
end ref06
end
section
open ref01 ref03 ref04 ref06 Part
theorem Bg (l:List ByteArray) (s:ByteArray):(0≤indexOf l s↔s∈l):=by
 unfold indexOf
 cases h:l.findIdx? (fun x=>decide (x=s)) with
 |none=>
  rw[List.findIdx?_eq_none_iff] at h
  simp
  intro hm
  have:=h s hm
  simp at this
 |some i=>
  rw[List.findIdx?_eq_some_iff_getElem] at h
  obtain⟨h1,h2,_⟩:=h
  simp at h2
  simp
  rw[←h2];exact List.getElem_mem h1
theorem QD {s:ByteArray} (h:¬s=⟨#[]⟩):1≤s.size:=by
 rcases Nat.eq_zero_or_pos s.size with h0|h0
 ·exact absurd (by
   cases s with
   |mk d=>simp[ByteArray.size] at h0;simp[h0]) h
 ·exact h0
theorem xF {l:List ByteArray} {k:Nat} (hk:k<l.length):(indexOf l (ix l k)=(k:Int))↔¬ix l k∈l.take k:=by
 unfold indexOf
 cases h:l.findIdx? (fun x=>decide (x=ix l k)) with
 |none=>
  rw[List.findIdx?_eq_none_iff] at h
  have:=h (ix l k) (by rw[aF hk];exact List.getElem_mem hk)
  simp at this
 |some i=>
  rw[List.findIdx?_eq_some_iff_getElem] at h
  obtain⟨h1,h2,h3⟩:=h
  simp at h2
  constructor
  ·intro e hm
   have e:(i:Int)=(k:Int):=e
   have e:i=k:=by omega
   subst e
   obtain⟨j,hj,he⟩:=List.mem_take_iff_getElem.1 hm
   have:=h3 j O
   simp at this
   exact this he
  ·intro hn
   rcases Nat.lt_trichotomy i k with hlt|e|hgt
   ·exact absurd (List.mem_take_iff_getElem.2 ⟨i,O,h2⟩) hn
   ·simp[e]
   ·have:=h3 k hgt
    rw[aF hk] at this
    simp at this
namespace T
theorem KN:Ent Tryz.prog 178:=aN kR
theorem Uw:Ent Tryz.prog 179:=aN kR
theorem Ux:Ent Tryz.prog 145:=aN kR
theorem Uy:Ent Tryz.prog 146:=aN kR
end T
namespace prog
theorem Bh (c:Int):
 Fn0 Tryz.prog 178 [u8 c] (bl (fU c)):=by
 refine fnI Tryz.func178 rfl rfl (fun w0 F0=> ?_)
 refine sq (rg (ag (nl (th (sq (rg (mv (bi J J fK (mv ?_)))))))))
 apply cZ (t:=5) (pd:=8) rfl
 rotate_left
 ·intro hg0 fin
  have hg0':=hg0
  try simp at hg0'
  exact gy J J J hg0 (mv (gy J J J hg0 (bi J J nV (pkT J hg0 J (drp (X:= [(7,_),(6,_)]) ⟨J,J,tV⟩ fin)))))
 ·intro hg0 fin
  exact gn J J J hg0 J J (gn J J J hg0 J J (pkF J hg0 J (drp (X:= [(7,_),(6,_)]) ⟨J,J,tV⟩ fin)))
 refine mv ?_
 apply gOr (t:=9) (pd:=16) rfl
 rotate_left
 ·intro hg1 fin
  have hg1':=hg1
  try simp at hg1'
  refine gy rfl rfl rfl hg1 (mv (gy rfl rfl rfl hg1 (bi rfl rfl fK (gy rfl rfl rfl hg1 (mv ?_)))))
  apply cZ (t:=12) (pd:=15) rfl
  rotate_left
  ·intro hg2 fin
   have hg2':=hg2
   try simp at hg2'
   exact gy J J J hg2 (mv (gy J J J hg2 (bi J J nV (gy J J J hg1 (pkT J hg2 J (drp (X:= [(14,_),(13,_)]) ⟨J,J,tV⟩ fin))))))
  ·intro hg2 fin
   exact gn J J J hg2 J J (gn J J J hg2 J J (gy J J J hg1 (pkF J hg2 J (drp (X:= [(14,_),(13,_)]) ⟨J,J,tV⟩ fin))))
  exact pkF rfl hg1 rfl (drp (X:= [(15,_),(12,_),(11,_),(10,_)]) ⟨rfl,rfl,rfl,rfl,tV⟩ fin)
 ·intro hg1 fin
  exact gn J J J hg1 J J (gn J J J hg1 J J (gn J J J hg1 J J (gu J J J J J (gu J J J J J (gn J J J hg1 J J (pkT J hg1 J (drp (X:= [(15,_),(14,_),(13,_),(12,_),(11,_),(10,_)]) ⟨J,J,J,J,J,J,tV⟩ fin)))))))
 refine ag (nl (th (rt ?_)))
 have hr0:(((decide (97≤c))&&(decide (c≤122)))||((decide (65≤c))&&(decide (c≤90))))=(fU c):=by
  first|rfl|simp_all|omega
 exact rE () [.tmp 2] J [bl (((decide (97≤c))&&(decide (c≤122)))||((decide (65≤c))&&(decide (c≤90))))] ⟨.tmp J,tV⟩ (cA1 (fun x0=>rV [bl x0]) hr0) trivial eX
theorem NI (s:ByteArray):
 Fn0 Tryz.prog 145 [str s] (bl (dQ s)):=by
 refine fnI Tryz.func145 rfl rfl (fun w0 F0=> ?_)
 refine sq (rg (ag (nl (th (sq (sq (rg (mv (bi J J EI (mv ?_))))))))))
 apply gOr (t:=7) (pd:=11) rfl
 rotate_left
 ·intro hg0 fin
  have hg0':=hg0
  try simp at hg0'
  exact gy J J J hg0 (mv (gy J J J hg0 (lnS J T.vQ (gy J J J hg0 (bi J J fJ (pkF J hg0 J (drp (X:= [(10,_),(9,_),(8,_)]) ⟨J,J,J,tV⟩ fin)))))))
 ·intro hg0 fin
  exact gn J J J hg0 J J (gn J J J hg0 J J (gn J J J hg0 J J (pkT J hg0 J (drp (X:= [(10,_),(9,_),(8,_)]) ⟨J,J,J,tV⟩ fin))))
 refine mv ?_
 apply gOr (t:=12) (pd:=17) rfl
 rotate_left
 ·intro hg1 fin
  have hg1':=hg1
  try simp at hg1'
  have hs1:1≤s.size:=QD (fun e=>by rw[decide_eq_true e] at hg1;cases hg1)
  exact gy J J J hg1 (mv (gy J J J hg1 (Ji J J T.vQ O O (gy J J J hg1 (aZ (φs:= [u8 (dX s 0)]) (φ:=bl (fU (dX s 0))) ⟨J,tV⟩ (prog.Bh _) T.KN (gy J J J hg1 (no J (pkF J hg1 J (drp (X:= [(16,_),(15,_),(14,_),(13,_)]) ⟨J,J,J,J,tV⟩ fin)))))))))
 ·intro hg1 fin
  exact gn J J J hg1 J J (gn J J J hg1 J J (gn J J J hg1 J J (gn J J J hg1 J J (pkT J hg1 J (drp (X:= [(16,_),(15,_),(14,_),(13,_)]) ⟨J,J,J,J,tV⟩ fin)))))
 refine nl (th ?_)
 refine cd J (fun hc0=> ?_) (fun hc0=> ?_)
 ·try simp at hc0
  refine sq (rg (ag (nl (th (rt (rt_ ?_))))))
  have hr0:false=(dQ s):=by
   unfold dQ
   by_cases h0:1≤s.size
   ·by_cases h2:s.size≤20
    ·by_cases h1:fU (dX s 0)=true
     ·exfalso
      rcases hc0 with(h|h)|h
      ·subst h;simp[ByteArray.size] at h0
      ·omega
      ·rw[h1] at h;cases h
     ·simp[h1]
    ·simp[h2]
   ·simp[h0]
  exact rE () [.tmp 2] J [bl false] ⟨.tmp J,tV⟩ (cA1 (fun x0=>rV [bl x0]) hr0) trivial eX
 ·try simp at hc0
  have hs1:1≤s.size:=QD (by simpa using hc0.1.1)
  refine sk (th (sq (sq (rg (mv (lnS J T.vQ (mv (nl (th (bk ?_))))))))))
  have hI0_0:0≤s.size:=by
   first|omega|simp
  have hI0_1:(List.range 0).all (fun i=>gR (dX s i))=true:=by
   simp
  refine lp (κ:=Nat) (fun p=> [(0,str s),(19,int (s.size:Int)),(20,int (p:Int))]) (fun p=> []) (fun p=>(p≤s.size)∧((List.range p).all (fun i=>gR (dX s i))=true)) (fun p=>s.size- p) 0 ⟨hI0_0,hI0_1⟩ ⟨id,id,id,tV⟩ trivial ?_
  intro k hG0
  obtain⟨hk0,hI0⟩:(k≤s.size)∧((List.range k).all (fun i=>gR (dX s i))=true):=hG0
  refine sq (rg (bi J J aO (nl (th (sq ?_)))))
  refine cd J (fun hc1=> ?_) (fun hc1=> ?_)
  ·try simp at hc1
   refine sk (th (sq (bk (sq (rg (mv (ag (nl (th (sq (rg (mv (mv (Ji J J T.vQ O O (ag (nl (th (sq (rg (mv (aZ (φs:= [u8 (dX s k)]) (φ:=bl (fU (dX s k))) ⟨J,tV⟩ (prog.Bh _) T.KN (no J (mv ?_)))))))))))))))))))))))
   apply cZ (t:=29) (pd:=36) rfl
   rotate_left
   ·intro hg2 fin
    have hg2':=hg2
    try simp at hg2'
    refine gy rfl rfl rfl hg2 (mv (gy rfl rfl rfl hg2 (bi rfl rfl aO (gy rfl rfl rfl hg2 (mv ?_)))))
    apply gOr (t:=32) (pd:=35) rfl
    rotate_left
    ·intro hg3 fin
     have hg3':=hg3
     try simp at hg3'
     exact gy J J J hg3 (mv (gy J J J hg3 (bi J J fJ (gy J J J hg2 (pkF J hg3 J (drp (X:= [(34,_),(33,_)]) ⟨J,J,tV⟩ fin))))))
    ·intro hg3 fin
     exact gn J J J hg3 J J (gn J J J hg3 J J (gy J J J hg2 (pkT J hg3 J (drp (X:= [(34,_),(33,_)]) ⟨J,J,tV⟩ fin))))
    exact pkT rfl hg2 rfl (drp (X:= [(35,_),(32,_),(31,_),(30,_)]) ⟨rfl,rfl,rfl,rfl,tV⟩ fin)
   ·intro hg2 fin
    exact gn J J J hg2 J J (gn J J J hg2 J J (gn J J J hg2 J J (gu J J J J J (gu J J J J J (gn J J J hg2 J J (pkF J hg2 J (drp (X:= [(35,_),(34,_),(33,_),(32,_),(31,_),(30,_)]) ⟨J,J,J,J,J,J,tV⟩ fin)))))))
   refine mv ?_
   apply cZ (t:=37) (pd:=40) rfl
   rotate_left
   ·intro hg4 fin
    have hg4':=hg4
    try simp at hg4'
    exact gy J J J hg4 (mv (gy J J J hg4 (bi J J fR (pkT J hg4 J (drp (X:= [(39,_),(38,_)]) ⟨J,J,tV⟩ fin)))))
   ·intro hg4 fin
    exact gn J J J hg4 J J (gn J J J hg4 J J (pkF J hg4 J (drp (X:= [(39,_),(38,_)]) ⟨J,J,tV⟩ fin)))
   refine mv ?_
   apply cZ (t:=41) (pd:=44) rfl
   rotate_left
   ·intro hg5 fin
    have hg5':=hg5
    try simp at hg5'
    exact gy J J J hg5 (mv (gy J J J hg5 (bi J J fR (pkT J hg5 J (drp (X:= [(43,_),(42,_)]) ⟨J,J,tV⟩ fin)))))
   ·intro hg5 fin
    exact gn J J J hg5 J J (gn J J J hg5 J J (pkF J hg5 J (drp (X:= [(43,_),(42,_)]) ⟨J,J,tV⟩ fin)))
   refine nl (th ?_)
   refine cd J (fun hc2=> ?_) (fun hc2=> ?_)
   ·try simp at hc2
    refine sq (rg (ag (nl (th (rt (rb (rt_ (rt_ (rb (rt_ ?_))))))))))
    have hr0:false=(dQ s):=by
     unfold dQ
     rw[jA (i:=k) O ?_]
     ·simp
     ·simp[gR,hc2.1.1.1]
      omega
    exact rE () [.tmp 2] J [bl false] ⟨.tmp J,tV⟩ (cA1 (fun x0=>rV [bl x0]) hr0) trivial eX
   ·try simp at hc2
    refine sk (eb (th (rg (bi J J (aG i6) (mv (nl ?_))))))
    have hN0:(k+1)≤s.size:=by
     first|omega|simp_all
    have hN1:(List.range (k+1)).all (fun i=>gR (dX s i))=true:=by
     rw[jT,hI0]
     simp[gR]
     by_cases h1:fU (dX s k)=true
     ·simp[h1]
     ·simp[h1] at hc2
      simp[h1]
      omega
    exact ln (k+1) ⟨hN0,hN1⟩ dO ⟨id,id,id,tV⟩ trivial
  ·try simp at hc1
   refine ex (xt_ (xt_ (xb (th (sq (rg (ag (nl (th (rt ?_))))))))))
   have hr0:true=(dQ s):=by
    unfold dQ
    rw[show s.size=k by omega,hI0]
    simp[hc0.2]
    omega
   exact rE () [.tmp 2] J [bl true] ⟨.tmp J,tV⟩ (cA1 (fun x0=>rV [bl x0]) hr0) trivial eX
theorem KO (l:List ByteArray) (s:ByteArray):
 Fn0 Tryz.prog 179 [strs l,str s] (int (indexOf l s)):=by
 refine fnI Tryz.func179 rfl rfl (fun w0 F0=> ?_)
 refine fcC (aT 0 J) (fun hm0=> ?_)
 refine sq (rg (ag (nl (th (sq (sq (rg (mv (lnF J T.dW (mv (nl (th (bk ?_)))))))))))))
 have hI0_0:0≤l.length:=by
  first|omega|simp
 have hI0_1:∀x∈l.take 0,x≠s:=by
  simp
 refine lp (κ:=Nat) (fun p=> [(0,sl 1 rE_ l),(1,str s),(7,int (l.length:Int)),(8,int (p:Int))]) (fun p=> []) (fun p=>(p≤l.length)∧(∀x∈l.take p,x≠s)) (fun p=>l.length- p) 0 ⟨hI0_0,hI0_1⟩ ⟨id,id,id,id,tV⟩ trivial ?_
 intro k hG0
 obtain⟨hk0,hI0⟩:(k≤l.length)∧(∀x∈l.take k,x≠s):=hG0
 refine sq (rg (bi J J aO (nl (th (sq ?_)))))
 refine cd J (fun hc0=> ?_) (fun hc0=> ?_)
 ·try simp at hc0
  refine sk (th (sq (bk (sq (rg (mv (ag (nl (th (sq (rg (mv (mv (mv (iF J J T.dW O gB (lF J J T.xA (bi J J EI (nl (th ?_)))))))))))))))))))
  refine cd J (fun hc1=> ?_) (fun hc1=> ?_)
  ·try simp at hc1
   refine sq (rg (mv (ag (nl (th (rt (rb (rt_ (rt_ (rb (rt_ ?_)))))))))))
   have hr0:((k:Int):Int)=(indexOf l s):=by
    unfold indexOf
    have:l.findIdx? (fun x=>decide (x=s))=some k:=by
     rw[List.findIdx?_eq_some_iff_getElem]
     refine⟨O,by simpa [aF (show k<l.length by omega)] using hc1.symm,fun j hj=> ?_⟩
     have:=hI0 l[j] (List.mem_take_iff_getElem.2 ⟨j,O,rfl⟩)
     simpa using this
    rw[this]
   exact rE () [.tmp 4] J [int (k:Int)] ⟨.tmp J,tV⟩ (cA1 (fun x0=>rV [int x0]) hr0) trivial eX
  ·try simp at hc1
   refine sk (eb (th (rg (bi J J (aG i6) (mv (nl ?_))))))
   have hN0:(k+1)≤l.length:=by
    first|omega|simp_all
   have hN1:∀x∈l.take (k+1),x≠s:=by
    rw[bJ O]
    intro x hx
    rcases List.mem_append.1 hx with hx|hx
    ·exact hI0 x hx
    ·simp at hx;subst hx;exact fun e=>hc1 e.symm
   exact ln (k+1) ⟨hN0,hN1⟩ dO ⟨id,id,id,id,tV⟩ trivial
 ·try simp at hc0
  refine ex (xt_ (xt_ (xb (th (sq (rg (ag (nl (th (rt ?_))))))))))
  have hr0:((-1):Int)=(indexOf l s):=by
   unfold indexOf
   have:l.findIdx? (fun x=>decide (x=s))=none:=by
    rw[List.findIdx?_eq_none_iff]
    intro x hx
    have hk2:k=l.length:=by omega
    rw[hk2,List.take_length] at hI0
    simp[hI0 x hx]
   rw[this]
  exact rE () [.tmp 4] J [int (-1)] ⟨.tmp J,tV⟩ (cA1 (fun x0=>rV [int x0]) hr0) trivial eX
theorem Fl (l:List ByteArray) (s:ByteArray):
 Fn0 Tryz.prog 146 [strs l,str s] (bl (decide (0≤indexOf l s))):=by
 refine fnI Tryz.func146 rfl rfl (fun w0 F0=> ?_)
 refine fcC (aT 0 J) (fun hm0=> ?_)
 refine sq (rg (ag (nl (th (sq (rg (mv (mv (aZ (φs:= [sl 1 rE_ l,str s]) (φ:=int (indexOf l s)) ⟨J,J,tV⟩ (prog.KO _ _) T.Uw (bi J J fK (ag (nl (th (rt ?_))))))))))))))
 have hr0:(decide (0≤(indexOf l s)))=(decide (0≤indexOf l s)):=by
  first|rfl|simp_all|omega
 exact rE () [.tmp 4] J [bl (decide (0≤(indexOf l s)))] ⟨.tmp J,tV⟩ (cA1 (fun x0=>rV [bl x0]) hr0) trivial eX
theorem Dk (l:List ByteArray):
 Fn0 Tryz.prog 113 [strs l] (bl (bZ l)):=by
 refine fnI Tryz.func113 rfl rfl (fun w0 F0=> ?_)
 refine fcC (aT 0 J) (fun hm0=> ?_)
 refine sq (rg (ag (nl (th (sq (sq (rg (mv (lnF J T.dW (bi J J fJ (nl (th ?_))))))))))))
 refine cd J (fun hc0=> ?_) (fun hc0=> ?_)
 ·try simp at hc0
  refine sq (rg (ag (nl (th (rt (rt_ ?_))))))
  have hr0:false=(bZ l):=by
   unfold bZ
   rw[decide_eq_false O];rfl
  exact rE () [.tmp 2] J [bl false] ⟨.tmp J,tV⟩ (cA1 (fun x0=>rV [bl x0]) hr0) trivial eX
 ·try simp at hc0
  refine sk (th (sq (sq (rg (mv (lnF J T.dW (mv (nl (th (bk ?_))))))))))
  have hI0_0:0≤l.length:=by
   first|omega|simp
  have hI0_1:(List.range 0).all (fun i=>dQ (ix l i)&&decide (indexOf l (ix l i)=(i:Int)))=true:=by
   simp
  refine lp (κ:=Nat) (fun p=> [(0,sl 1 rE_ l),(8,sl 1 rE_ l),(9,int (l.length:Int)),(10,int (p:Int))]) (fun p=> []) (fun p=>(p≤l.length)∧((List.range p).all (fun i=>dQ (ix l i)&&decide (indexOf l (ix l i)=(i:Int)))=true)) (fun p=>l.length- p) 0 ⟨hI0_0,hI0_1⟩ ⟨id,id,id,id,tV⟩ trivial ?_
  intro k hG0
  obtain⟨hk0,hI0⟩:(k≤l.length)∧((List.range k).all (fun i=>dQ (ix l i)&&decide (indexOf l (ix l i)=(i:Int)))=true):=hG0
  refine sq (rg (bi J J aO (nl (th (sq ?_)))))
  refine cd J (fun hc1=> ?_) (fun hc1=> ?_)
  ·try simp at hc1
   refine sk (th (sq (bk (sq (rg (mv (iF J J T.dW O gB (lF J J T.xA (ag (ag (nl (th (sq (rg (mv (aZ (φs:= [str (ix l k)]) (φ:=bl (dQ (ix l k))) ⟨J,tV⟩ (prog.NI _) T.Ux (no J (mv ?_))))))))))))))))))
   apply gOr (t:=18) (pd:=24) rfl
   rotate_left
   ·intro hg0 fin
    have hg0':=hg0
    try simp at hg0'
    exact gy J J J hg0 (mv (gy J J J hg0 (mv (gy J J J hg0 (Up (l:=0) (m:=k) J T.dW J J O O (gy J J J hg0 (mv (gy J J J hg0 (aZ (φs:= [sl 1 rE_ (l.take k),str (ix l k)]) (φ:=bl (decide (0≤indexOf (l.take k) (ix l k)))) ⟨J,J,tV⟩ (prog.Fl _ _) T.Uy (pkF J hg0 J (drp (X:= [(23,_),(22,_),(21,_),(20,_),(19,_)]) ⟨J,J,J,J,J,tV⟩ fin)))))))))))
   ·intro hg0 fin
    exact gn J J J hg0 J J (gn J J J hg0 J J (gn J J J hg0 J J (gn J J J hg0 J J (gn J J J hg0 J J (pkT J hg0 J (drp (X:= [(23,_),(22,_),(21,_),(20,_),(19,_)]) ⟨J,J,J,J,J,tV⟩ fin))))))
   refine nl (th ?_)
   refine cd J (fun hc2=> ?_) (fun hc2=> ?_)
   ·try simp at hc2
    refine sq (rg (ag (nl (th (rt (rb (rt_ (rt_ (rb (rt_ ?_))))))))))
    have hr0:false=(bZ l):=by
     unfold bZ
     rw[jA (i:=k) O ?_]
     ·simp
     ·by_cases h:dQ (ix l k)=true
      ·have h2:=(Bg (l.take k) (ix l k)).1 (by simpa [h] using hc2)
       have h3:¬indexOf l (ix l k)=(k:Int):=fun e=>(xF O).1 e h2
       simp[h3]
      ·simp[h]
    exact rE () [.tmp 2] J [bl false] ⟨.tmp J,tV⟩ (cA1 (fun x0=>rV [bl x0]) hr0) trivial eX
   ·try simp at hc2
    refine sk (eb (th (rg (bi J J (aG i6) (mv (nl ?_))))))
    have hN0:(k+1)≤l.length:=by
     first|omega|simp_all
    have hN1:(List.range (k+1)).all (fun i=>dQ (ix l i)&&decide (indexOf l (ix l i)=(i:Int)))=true:=by
     rw[jT,hI0]
     have h1:indexOf l (ix l k)=(k:Int):=(xF O).2 (fun hm=>by
      have h2:=(Bg (l.take k) (ix l k)).2 hm
      have:=hc2.2;omega)
     simp[hc2.1,h1]
    exact ln (k+1) ⟨hN0,hN1⟩ dO ⟨id,id,id,id,tV⟩ trivial
  ·try simp at hc1
   refine ex (xt_ (xt_ (xb (th (sq (rg (ag (nl (th (rt ?_))))))))))
   have hr0:true=(bZ l):=by
    unfold bZ
    rw[show l.length=k by omega,hI0,decide_eq_true O];rfl
   exact rE () [.tmp 2] J [bl true] ⟨.tmp J,tV⟩ (cA1 (fun x0=>rV [bl x0]) hr0) trivial eX
theorem gG (l:List ByteArray) (hl:l.length≤1000000):
 AL.Fn Tryz.prog 92 [strs l] [] (ι:=Unit) (fun N _=>fre N (strs l)) (fun _=> []):=by
 refine fnI Tryz.func92 rfl rfl (fun w0 F0=> ?_)
 refine fcC (aT 0 J) (fun hm0=> ?_)
 refine sq (rg (ag (nl (th (sq (sq (rg (mv (XR J T.dW.und fun nb4 hnb4=>(nl (th ?_)))))))))))
 refine cd J (fun hc0=> ?_) (fun hc0=> ?_)
 ·try simp at hc0
  refine sq (rg (ag (nl (th (rt (rt_ ?_))))))
  refine knA 2 (fre w0.heap.size (sl 1 rE_ [])) rfl mK ?_
  have hr0: []=l:=by
   rw[hnb4 hc0]
  exact rE () [.tmp 2] J [fre w0.heap.size (sl 1 rE_ [])] ⟨.tmp J,tV⟩ (cA1 (fun x0=>rV [fre w0.heap.size (sl 1 rE_ x0)]) hr0) trivial eX
 ·try simp at hc0
  refine sk (th (sq (rg (bs0 5 rE_ T.uB fun v5=>(mv (ap (key:=5) (zs:=l) bP J J J T.uB (by unfold aQ at*;simp;omega) (by unfold aQ at*;simp;omega) fun v7=>(ag (nl (th (rt ?_))))))))))
  refine XU rE_ 5 2 noM flat rfl rfl ?_
  have hr0:([]++l)=l:=by
   first|rfl|simp_all|omega
  exact rE () [.tmp 2] J [fre w0.heap.size (sl 1 rE_ ([]++l))] ⟨.tmp J,tV⟩ (cA1 (fun x0=>rV [fre w0.heap.size (sl 1 rE_ x0)]) hr0) trivial eX
theorem mS (xs ys:List ByteArray):
 Fn0 Tryz.prog 68 [strs xs,strs ys] (bl (decide (xs=ys))):=by
 refine fnI Tryz.func68 rfl rfl (fun w0 F0=> ?_)
 refine fcC (aT 0 J) (fun hm0=> ?_)
 refine fcC (aT 1 J) (fun hm1=> ?_)
 refine sq (rg (ag (nl (th (sq (sq (rg (mv (lnF J T.dW (mv (lnF J T.dW (bi J J fR (nl (th ?_))))))))))))))
 refine cd J (fun hc0=> ?_) (fun hc0=> ?_)
 ·try simp at hc0
  refine sq (rg (ag (nl (th (rt (rt_ ?_))))))
  have hr0:false=(decide (xs=ys)):=by
   rw[decide_eq_false];intro h;subst h;simp at hc0
  exact rE () [.tmp 4] J [bl false] ⟨.tmp J,tV⟩ (cA1 (fun x0=>rV [bl x0]) hr0) trivial eX
 ·try simp at hc0
  refine sk (th (sq (sq (rg (mv (lnF J T.dW (mv (nl (th (bk ?_))))))))))
  have hI0_0:0≤xs.length:=by
   first|omega|simp
  have hI0_1:xs.take 0=ys.take 0:=by
   simp
  refine lp (κ:=Nat) (fun p=> [(0,sl 1 rE_ xs),(1,sl 1 rE_ ys),(12,int (xs.length:Int)),(13,int (p:Int))]) (fun p=> []) (fun p=>(p≤xs.length)∧(xs.take p=ys.take p)) (fun p=>xs.length- p) 0 ⟨hI0_0,hI0_1⟩ ⟨id,id,id,id,tV⟩ trivial ?_
  intro k hG0
  obtain⟨hk0,hI0⟩:(k≤xs.length)∧(xs.take k=ys.take k):=hG0
  refine sq (rg (bi J J aO (nl (th (sq ?_)))))
  refine cd J (fun hc1=> ?_) (fun hc1=> ?_)
  ·try simp at hc1
   refine sk (th (sq (bk (sq (rg (mv (ag (nl (th (sq (dr (nh:=9) [0,0,3,7,0,0,48,112,255] T.mixed kR ?_)))))))))))
   refine st_ J (fun _ _ _ gq kq=>mv' (gq.1.trans J) kq) ?_
   refine st_ J (fun _ _ _ gq kq=>mv' (gq.1.trans J) kq) ?_
   refine st_ J (fun _ _ _ gq kq=>iF (gq.1.trans J) (gq.2.1.trans J) T.dW O gB kq) ?_
   refine st_ J (fun _ _ _ gq kq=>lF (gq.1.trans J) J T.xA kq) ?_
   refine st_ J (fun _ _ _ gq kq=>mv' (gq.1.trans J) kq) ?_
   refine st_ J (fun _ _ _ gq kq=>mv' (gq.1.trans J) kq) ?_
   refine st_ J (fun _ _ _ gq kq=>iF (gq.1.trans J) (gq.2.1.trans J) T.dW O gB kq) ?_
   refine st_ J (fun _ _ _ gq kq=>lF (gq.1.trans J) J T.xA kq) ?_
   refine st_ J (fun _ _ _ gq kq=>bi (gq.1.trans J) (gq.2.1.trans J) Kq kq) ?_
   refine pn (nl (th ?_))
   refine cd J (fun hc2=> ?_) (fun hc2=> ?_)
   ·try simp at hc2
    refine sq (rg (ag (nl (th (rt (rb (rt_ (rt_ (rb (rt_ ?_))))))))))
    have hr0:false=(decide (xs=ys)):=by
     rw[decide_eq_false];intro h;subst h;simp at hc2
    exact rE () [.tmp 4] J [bl false] ⟨.tmp J,tV⟩ (cA1 (fun x0=>rV [bl x0]) hr0) trivial eX
   ·try simp at hc2
    refine sk (eb (th (rg (bi J J (aG i6) (mv (nl ?_))))))
    have hN0:(k+1)≤xs.length:=by
     first|omega|simp_all
    have hN1:xs.take (k+1)=ys.take (k+1):=by
     rw[bJ O,bJ O,hI0];try simp at hc2
     rw[hc2]
    exact ln (k+1) ⟨hN0,hN1⟩ dO ⟨id,id,id,id,tV⟩ trivial
  ·try simp at hc1
   refine ex (xt_ (xt_ (xb (th (sq (rg (ag (nl (th (rt ?_))))))))))
   have hr0:true=(decide (xs=ys)):=by
    rw[decide_eq_true]
    rw[show k=xs.length by omega,List.take_length] at hI0
    rw[hI0,show xs.length=ys.length by omega,List.take_length]
   exact rE () [.tmp 4] J [bl true] ⟨.tmp J,tV⟩ (cA1 (fun x0=>rV [bl x0]) hr0) trivial eX
end prog
end
end Go.Proofs.YtnlfjojfgghchaaGreatDoor
