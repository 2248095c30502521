/- The walks of the functions and the plain laws. Own texts of this claim, packed: MkBase, Mkref01, Mkref03, Mkref04, MkPart, Mkref06, Mkprog, Mkprog2, Mkprog3, Mkprog5, Mkprog4, MkRungs. -/
import Derived.Test.YtnlfjojfgghchaaGreatDoorProg
import Derived.Test.YtnlfjojfgghchaaGreatDoorX02
import Derived.KernelRfl
set_option linter.all false
namespace AL
open Go
theorem gB {p:Prop} (h:p:=by first|exact gN (by omega)|exact gI (by omega) (by omega)):p:=h
theorem kR {p:Prop} (h:p:=by kernel_rfl):p:=h
theorem i6 {p:Prop} (h:p:=by unfold I64;omega):p:=h
theorem mL {p:Prop} (h:p:=by unfold aT;omega):p:=h
end AL
namespace Go.Proofs.YtnlfjojfgghchaaGreatDoor
open AL Go
set_option maxRecDepth 100000
section
def nE:Int→List AV:=fun x=> [int x]
abbrev ints (xs:List Int):AV:=sl 1 nE xs
def blE:Bool→List AV:=fun x=> [bl x]
abbrev bls (xs:List Bool):AV:=sl 1 blE xs
def rE_:ByteArray→List AV:=fun x=> [str x]
abbrev strs (xs:List ByteArray):AV:=sl 1 rE_ xs
@[ext] structure SA where
  aP:List Int
  next:List Int
deriving Inhabited,DecidableEq
@[ext] structure SS where
  aC:List ByteArray
  sT:List SA
deriving Inhabited,DecidableEq
def sE:SA→List AV:=fun x=> [ints x.aP,ints x.next]
abbrev state (x:SA):AV:=agg [ints x.aP,ints x.next]
abbrev spec (s:SS):AV:=agg [strs s.aC,sl 2 sE s.sT]
instance (x:Int):OneAll (nE x):=inferInstanceAs (OneAll [int x])
instance (x:Bool):OneAll (blE x):=inferInstanceAs (OneAll [bl x])
instance (x:ByteArray):OneAll (rE_ x):=inferInstanceAs (OneAll [str x])
instance (x:SA):OneAll (sE x):=inferInstanceAs (OneAll [ints x.aP,ints x.next])
instance:FlatE nE:=Ju
instance:FlatE blE:=Ju
instance:FlatE rE_:=Ju
def uR (N:Nat):SA→List AV:=fun x=> [fre N (ints x.aP),fre N (ints x.next)]
abbrev QQ (N:Nat) (s:SS):AV:=agg [fre N (strs s.aC),fre N (sl 2 sE s.sT)]
instance (N:Nat) (x:SA):OneAll (uR N x):=inferInstanceAs (OneAll [fre N (ints x.aP),fre N (ints x.next)])
theorem sLn {s:SS} (h:Inh (spec s)):s.aC.length≤140737488355328∧s.sT.length≤140737488355328∧∀k,k<s.sT.length→(ix s.sT k).aP.length≤140737488355328∧(ix s.sT k).next.length≤140737488355328:=
 ⟨(h.agg 0 rfl).len,(h.agg 1 rfl).len,fun _ hk=>⟨((h.agg 1 rfl).el (gK hk) 0 rfl).len,((h.agg 1 rfl).el (gK hk) 1 rfl).len⟩⟩
theorem qU {x:SA} (h:Inh (state x)):x.aP.length≤140737488355328∧x.next.length≤140737488355328:=
 ⟨(h.agg 0 rfl).len,(h.agg 1 rfl).len⟩
theorem bM {α:Type} [Inhabited α] {xs:List α} {k:Nat} (h:k<xs.length):xs.take (k+1)=xs.take k++ [ix xs k]:=by
 rw[List.take_succ_eq_append_getElem h,aD h]
end
section
def fW (c:Int):Bool:=(decide (97≤c)&&decide (c≤122))||(decide (65≤c)&&decide (c≤90))
def rising (l:List Int):Bool:=(List.range (l.length- 1)).all fun i=>decide (ix l i<ix l (i+1))
def indexOf (l:List ByteArray) (s:ByteArray):Int:=match l.findIdx? (fun x=>decide (x=s)) with|some i=>i|none=> -1
def eO (n s:Int):Bool:=decide (0≤s)&&decide (s<((2^n.toNat:Nat):Int))
def has (s a:Int):Bool:=s.toNat.testBit a.toNat
def aK (n:Nat) (s:Int):List Int:=((List.range n).filter fun(a:Nat)=>has s (a:Int)).map fun(a:Nat)=>(a:Int)
theorem has_eq (s a:Nat):s.testBit a=decide (((s>>>a&&&1:Nat):Int)=1):=by
 rw[Nat.testBit_eq_decide_div_mod_eq,Nat.shiftRight_eq_div_pow,Nat.and_one_is_mod]
 by_cases h:s/2^a % 2=1
 ·simp[h]
 ·have h2:s/2^a % 2=0:=by omega
  simp[h2]
theorem jK (n:Nat) (s:Int):aK (n+1) s=aK n s++(if has s (n:Int) then [(n:Int)] else []):=by
 unfold aK
 rw[List.range_succ,List.filter_append,List.map_append]
 congr 1
 by_cases h:has s (n:Int)<;>simp[h]
theorem Jv (n:Nat) (s:Int):(aK n s).length≤n:=by
 unfold aK
 rw[List.length_map]
 exact Nat.le_trans (List.length_filter_le _ _) (by simp)
theorem jO (n:Nat) (f:Nat→Bool):(List.range (n+1)).all f=((List.range n).all f&&f n):=by
 rw[List.range_succ,List.all_append];simp
theorem jC {n i:Nat} {f:Nat→Bool} (hi:i<n) (hf:f i=false):(List.range n).all f=false:=by
 cases h:(List.range n).all f
 ·rfl
 ·have:=List.all_eq_true.1 h i (List.mem_range.2 hi)
  rw[hf] at this;cases this
def gU (c:Int):Bool:=fW c||(decide (48≤c)&&decide (c≤57))||decide (c=45)||decide (c=95)
def dU (s:ByteArray):Bool:=decide (1≤s.size)&&decide (s.size≤20)&&fW (dY s 0)&&(List.range s.size).all fun i=>gU (dY s i)
def bV (l:List ByteArray):Bool:=decide (l.length≤8)&&(List.range l.length).all fun i=>dU (ix l i)&&decide (indexOf l (ix l i)=(i:Int))
theorem eS {α:Type} [Inhabited α] {xs:List α} {k:Nat} (h:k<xs.length) (p:α→Bool):(xs.take (k+1)).all p=((xs.take k).all p&&p (ix xs k)):=by
 rw[bM h,List.all_append];simp
theorem fX {α:Type} [Inhabited α] {xs:List α} {k:Nat} (h:k<xs.length) {p:α→Bool} (hp:p (ix xs k)=false):xs.all p=false:=by
 cases hh:xs.all p
 ·rfl
 ·have:=List.all_eq_true.1 hh (ix xs k) (by rw[aD h];exact List.getElem_mem h)
  rw[hp] at this;cases this
theorem uS {α:Type} [Inhabited α] {xs:List α} {p:α→Bool} (hh:xs.all p=true) {k:Nat} (h:k<xs.length):p (ix xs k)=true:=List.all_eq_true.1 hh _ (by rw[aD h];exact List.getElem_mem h)
namespace T
theorem aX:IsSlice Tryz.prog 66 3 1:=fV kR
theorem mixed:Tryz.prog.follows .mixedOrders=true:=by kernel_rfl
theorem aF:eG Tryz.prog 3:=fT kR
theorem eD:IsSlice Tryz.prog 22 9 1:=fV kR
theorem xF:eG Tryz.prog 9:=fT kR
theorem Jw:Ent Tryz.prog 51:=aN kR
theorem bZ:eM Tryz.prog 66 3 1 8 [.int .i64 0]:=iV kR kR
theorem vQ:Tryz.prog.underlying 9=some .string:=by kernel_rfl
theorem KO:Ent Tryz.prog 141:=aN kR
theorem UJ:Ent Tryz.prog 104:=aN kR
theorem UK:Ent Tryz.prog 105:=aN kR
end T
namespace ref01
theorem EZ (s a:Int) (h0:0≤s) (h1:s<2^63) (h2:0≤a) (h3:a≤64):
 Fn0 Tryz.prog 51 [int s,int a] (bl (has s a)):=by
 refine fnI Tryz.func51 rfl rfl (fun w0 F0=> ?_)
 refine sq (rg (ag (nl (th (sq (rg (mv (mv (bi J J (AY O O O) (bi J J (EO (m:=(s.toNat>>>a.toNat)) (Nat.lt_of_le_of_lt (Nat.shiftRight_le _ _) O)) (bi J J dZ (ag (nl (th (rt ?_)))))))))))))))
 have hr0:(decide ((((s.toNat>>>a.toNat)&&&1:Nat):Int)=1))=(has s a):=by
  exact(has_eq _ _).symm
 exact rE () [.tmp 4] J [bl (decide ((((s.toNat>>>a.toNat)&&&1:Nat):Int)=1))] ⟨.tmp J,tV⟩ (cA1 (fun x0=>rV [bl x0]) hr0) trivial eX
theorem Dk (c:Int):
 Fn0 Tryz.prog 141 [u8 c] (bl (fW c)):=by
 refine fnI Tryz.func141 rfl rfl (fun w0 F0=> ?_)
 refine sq (rg (ag (nl (th (sq (rg (mv (bi J J fU (mv ?_)))))))))
 apply cZ (t:=5) (pd:=8) rfl
 rotate_left
 ·intro hg0 fin
  have hg0':=hg0
  try simp at hg0'
  exact gy J J J hg0 (mv (gy J J J hg0 (bi J J nN (pkT J hg0 J (drp (X:= [(7,_),(6,_)]) ⟨J,J,tV⟩ fin)))))
 ·intro hg0 fin
  exact gn J J J hg0 J J (gn J J J hg0 J J (pkF J hg0 J (drp (X:= [(7,_),(6,_)]) ⟨J,J,tV⟩ fin)))
 refine mv ?_
 apply gOr (t:=9) (pd:=16) rfl
 rotate_left
 ·intro hg1 fin
  have hg1':=hg1
  try simp at hg1'
  refine gy rfl rfl rfl hg1 (mv (gy rfl rfl rfl hg1 (bi rfl rfl fU (gy rfl rfl rfl hg1 (mv ?_)))))
  apply cZ (t:=12) (pd:=15) rfl
  rotate_left
  ·intro hg2 fin
   have hg2':=hg2
   try simp at hg2'
   exact gy J J J hg2 (mv (gy J J J hg2 (bi J J nN (gy J J J hg1 (pkT J hg2 J (drp (X:= [(14,_),(13,_)]) ⟨J,J,tV⟩ fin))))))
  ·intro hg2 fin
   exact gn J J J hg2 J J (gn J J J hg2 J J (gy J J J hg1 (pkF J hg2 J (drp (X:= [(14,_),(13,_)]) ⟨J,J,tV⟩ fin))))
  exact pkF rfl hg1 rfl (drp (X:= [(15,_),(12,_),(11,_),(10,_)]) ⟨rfl,rfl,rfl,rfl,tV⟩ fin)
 ·intro hg1 fin
  exact gn J J J hg1 J J (gn J J J hg1 J J (gn J J J hg1 J J (gu J J J J J (gu J J J J J (gn J J J hg1 J J (pkT J hg1 J (drp (X:= [(15,_),(14,_),(13,_),(12,_),(11,_),(10,_)]) ⟨J,J,J,J,J,J,tV⟩ fin)))))))
 refine ag (nl (th (rt ?_)))
 have hr0:(((decide (97≤c))&&(decide (c≤122)))||((decide (65≤c))&&(decide (c≤90))))=(fW c):=by
  first|rfl|simp_all|omega
 exact rE () [.tmp 2] J [bl (((decide (97≤c))&&(decide (c≤122)))||((decide (65≤c))&&(decide (c≤90))))] ⟨.tmp J,tV⟩ (cA1 (fun x0=>rV [bl x0]) hr0) trivial eX
theorem KQ (l:List Int):
 Fn0 Tryz.prog 106 [ints l] (bl (rising l)):=by
 refine fnI Tryz.func106 rfl rfl (fun w0 F0=> ?_)
 refine fcC (aV 0 J) (fun hm0=> ?_)
 refine sq (rg (ag (nl (th (sq (sq (rg (ag (nl (th (bk ?_)))))))))))
 have hI0_0:(0+1≤l.length∨l.length=0∧0=0)∧(List.range 0).all (fun i=>decide (ix l i<ix l (i+1)))=true:=by
  refine⟨O,by simp⟩
 refine lp (κ:=Nat) (fun p=> [(0,sl 1 nE l),(3,int ((p+1:Nat):Int))]) (fun p=> []) (fun p=>(p+1≤l.length∨l.length=0∧p=0)∧(List.range p).all (fun i=>decide (ix l i<ix l (i+1)))=true) (fun p=>l.length- p) 0 hI0_0 ⟨id,id,tV⟩ trivial ?_
 intro k hG0
 have hI0:(k+1≤l.length∨l.length=0∧k=0)∧(List.range k).all (fun i=>decide (ix l i<ix l (i+1)))=true:=hG0
 refine sq (sq (rg (mv (mv (lnF J T.aX (bi J J aO (nl (th ?_))))))))
 refine cd J (fun hc0=> ?_) (fun hc0=> ?_)
 ·try simp at hc0
  refine sk (th (sq (bk (sq (dr (nh:=10) [0,0,2,7,15,0,0,96,224,511] T.mixed kR ?_)))))
  refine st_ J (fun _ _ _ gq kq=>mv' (gq.1.trans J) kq) ?_
  refine st_ J (fun _ _ _ gq kq=>mv' (gq.1.trans J) kq) ?_
  refine st_ J (fun _ _ _ gq kq=>bi (gq.1.trans J) J (kQ i6) kq) ?_
  refine st_ J (fun _ _ _ gq kq=>iF (gq.1.trans J) (gq.2.1.trans J) T.aX O gB kq) ?_
  refine st_ J (fun _ _ _ gq kq=>lF (gq.1.trans J) J T.aF kq) ?_
  refine st_ J (fun _ _ _ gq kq=>mv' (gq.1.trans J) kq) ?_
  refine st_ J (fun _ _ _ gq kq=>mv' (gq.1.trans J) kq) ?_
  refine st_ J (fun _ _ _ gq kq=>iF (gq.1.trans J) (gq.2.1.trans J) T.aX O gB kq) ?_
  refine st_ J (fun _ _ _ gq kq=>lF (gq.1.trans J) J T.aF kq) ?_
  refine st_ J (fun _ _ _ gq kq=>bi (gq.1.trans J) (gq.2.1.trans J) fU kq) ?_
  refine pn (nl (th ?_))
  refine cd J (fun hc1=> ?_) (fun hc1=> ?_)
  ·try simp at hc1
   have hlt:k<l.length- 1:=by omega
   refine sq (rg (ag (nl (th (rt (rb (rt_ (rt_ (rb (rt_ ?_))))))))))
   have hr0:false=(rising l):=by
    exact(jC hlt (by simp;omega)).symm
   exact rE () [.tmp 2] J [bl false] ⟨.tmp J,tV⟩ (cA1 (fun x0=>rV [bl x0]) hr0) trivial eX
  ·try simp at hc1
   refine sk (eb (th (rg (mv (bi J J (aG i6) (ag (nl ?_)))))))
   have hN0:((k+1)+1≤l.length∨l.length=0∧(k+1)=0)∧(List.range (k+1)).all (fun i=>decide (ix l i<ix l (i+1)))=true:=by
    refine⟨O,?_⟩
    rw[jO,hI0.2]
    simp at hc1 ⊢
    exact hc1
   exact ln (k+1) hN0 dO ⟨id,id,tV⟩ trivial
 ·try simp at hc0
  refine ex (xt_ (xt_ (xb (th (sq (rg (ag (nl (th (rt ?_))))))))))
  have hr0:true=(rising l):=by
   unfold rising
   rw[show l.length- 1=k by omega]
   exact hI0.2.symm
  exact rE () [.tmp 2] J [bl true] ⟨.tmp J,tV⟩ (cA1 (fun x0=>rV [bl x0]) hr0) trivial eX
theorem NI (l:List ByteArray) (s:ByteArray):
 Fn0 Tryz.prog 105 [strs l,str s] (int (indexOf l s)):=by
 refine fnI Tryz.func105 rfl rfl (fun w0 F0=> ?_)
 refine fcC (aV 0 J) (fun hm0=> ?_)
 refine sq (rg (ag (nl (th (sq (sq (rg (mv (lnF J T.eD (mv (nl (th (bk ?_)))))))))))))
 have hI0_0:0≤l.length:=by
  first|omega|simp
 have hI0_1:∀x∈l.take 0,x≠s:=by
  simp
 refine lp (κ:=Nat) (fun p=> [(1,str s),(7,sl 1 rE_ l),(8,int (l.length:Int)),(9,int (p:Int))]) (fun p=> []) (fun p=>(p≤l.length)∧(∀x∈l.take p,x≠s)) (fun p=>l.length- p) 0 ⟨hI0_0,hI0_1⟩ ⟨id,id,id,id,tV⟩ trivial ?_
 intro k hG0
 obtain⟨hk0,hI0⟩:(k≤l.length)∧(∀x∈l.take k,x≠s):=hG0
 refine sq (rg (bi J J aO (nl (th (sq ?_)))))
 refine cd J (fun hc0=> ?_) (fun hc0=> ?_)
 ·try simp at hc0
  refine sk (th (sq (bk (sq (rg (mv (iF J J T.eD O gB (lF J J T.xF (ag (ag (nl (th (sq (rg (mv (mv (bi J J EH (nl (th ?_)))))))))))))))))))
  refine cd J (fun hc1=> ?_) (fun hc1=> ?_)
  ·try simp at hc1
   refine sq (rg (mv (ag (nl (th (rt (rb (rt_ (rt_ (rb (rt_ ?_)))))))))))
   have hr0:((k:Int):Int)=(indexOf l s):=by
    unfold indexOf
    have:l.findIdx? (fun x=>decide (x=s))=some k:=by
     rw[List.findIdx?_eq_some_iff_getElem]
     refine⟨O,by simpa [aD (show k<l.length by omega)] using hc1,fun j hj=> ?_⟩
     have:=hI0 l[j] (List.mem_take_iff_getElem.2 ⟨j,O,rfl⟩)
     simpa using this
    rw[this]
   exact rE () [.tmp 4] J [int (k:Int)] ⟨.tmp J,tV⟩ (cA1 (fun x0=>rV [int x0]) hr0) trivial eX
  ·try simp at hc1
   refine sk (eb (th (rg (bi J J (aG i6) (mv (nl ?_))))))
   have hN0:(k+1)≤l.length:=by
    first|omega|simp_all
   have hN1:∀x∈l.take (k+1),x≠s:=by
    rw[bM O]
    intro x hx
    rcases List.mem_append.1 hx with hx|hx
    ·exact hI0 x hx
    ·simp at hx;subst hx;exact hc1
   exact ln (k+1) ⟨hN0,hN1⟩ dO ⟨id,id,id,id,tV⟩ trivial
 ·try simp at hc0
  refine ex (xt_ (xt_ (xb (th (sq (rg (ag (nl (th (rt ?_))))))))))
  have hr0:((-1):Int)=(indexOf l s):=by
   unfold indexOf
   have:l.findIdx? (fun x=>decide (x=s))=none:=by
    rw[List.findIdx?_eq_none_iff]
    intro x hx
    have hk2:k=l.length:=by omega
    rw[hk2,List.take_length] at hI0
    simp[hI0 x hx]
   rw[this]
  exact rE () [.tmp 4] J [int (-1)] ⟨.tmp J,tV⟩ (cA1 (fun x0=>rV [int x0]) hr0) trivial eX
theorem KR (n s:Int) (h0:0≤n) (h1:n<63):
 Fn0 Tryz.prog 31 [int n,int s] (bl (eO n s)):=by
 refine fnI Tryz.func31 rfl rfl (fun w0 F0=> ?_)
 refine sq (rg (ag (nl (th (sq (rg (mv (bi J J fU (mv ?_)))))))))
 apply cZ (t:=7) (pd:=12) rfl
 rotate_left
 ·intro hg0 fin
  have hg0':=hg0
  try simp at hg0'
  exact gy J J J hg0 (mv (gy J J J hg0 (mv (gy J J J hg0 (bi J J (pU O O) (gy J J J hg0 (bi J J aO (pkT J hg0 J (drp (X:= [(11,_),(10,_),(9,_),(8,_)]) ⟨J,J,J,J,tV⟩ fin)))))))))
 ·intro hg0 fin
  exact gn J J J hg0 J J (gn J J J hg0 J J (gn J J J hg0 J J (gn J J J hg0 J J (pkF J hg0 J (drp (X:= [(11,_),(10,_),(9,_),(8,_)]) ⟨J,J,J,J,tV⟩ fin)))))
 refine ag (nl (th (rt ?_)))
 have hr0:((decide (0≤s))&&(decide (s<((2^n.toNat:Nat):Int))))=(eO n s):=by
  first|rfl|simp_all|omega
 exact rE () [.tmp 4] J [bl ((decide (0≤s))&&(decide (s<((2^n.toNat:Nat):Int))))] ⟨.tmp J,tV⟩ (cA1 (fun x0=>rV [bl x0]) hr0) trivial eX
theorem RG (n:Nat) (s:Int) (hn:n≤64) (h0:0≤s) (h1:s<2^63):
 Fn0 Tryz.prog 107 [int (n:Int),int s] (ints (aK n s)):=by
 refine fnI Tryz.func107 rfl rfl (fun w0 F0=> ?_)
 refine sq (rg (ag (kn 4 (sl 1 nE []) J slnil (nl (th (sq (rg (nw 5 3 1 nE (ag (rtg (key:=5) 5 J (nl (th (sq (sq (rg (mv (mv (nl (th (bk ?_))))))))))))))))))))
 have hI0_0:0≤n:=by
  first|omega|simp
 have hI0_1:([]:List Int)=aK 0 s:=by
  rfl
 refine lp (κ:=Nat × Value × (List Int)) (fun p=> [(1,int s),(4,sl 1 nE []),(5,osl 5 p.2.1),(7,int (n:Int)),(8,int (p.1:Int))]) (fun p=> [(5,own p.2.1 3 1 nE p.2.2)]) (fun p=>(p.1≤n)∧(p.2.2=aK p.1 s)) (fun p=>n- p.1) ⟨0,(.slice none 0 0),([]:List Int)⟩ ⟨hI0_0,hI0_1⟩ ⟨id,id,id,id,id,tV⟩ ⟨rI,tV⟩ ?_
 intro⟨k,v,acc⟩ hG0
 obtain⟨hk0,hI0⟩:(k≤n)∧(acc=aK k s):=hG0
 show Ct _ _ _ _ [(1,int s),(4,sl 1 nE []),(5,osl 5 v),(7,int (n:Int)),(8,int (k:Int))] [(5,own v 3 1 nE acc)] _
 have hll:=Jv k s
 rw[←hI0] at hll
 refine sq (rg (bi J J aO (nl (th (sq ?_)))))
 refine cd J (fun hc0=> ?_) (fun hc0=> ?_)
 ·try simp at hc0
  refine sk (th (sq (bk (sq (rg (mv (ag (nl (th (sq (rg (mv (mv (bB (φs:= [int s,int (k:Int)]) (φ:=bl (has s (k:Int))) ⟨J,J,tV⟩ (ref01.EZ _ _ O O O O) T.Jw (nl (th ?_))))))))))))))))
  refine cd J (fun hc1=> ?_) (fun hc1=> ?_)
  ·try simp at hc1
   refine rg (mv (mv (bsE (enc:=nE) (xs:= [(k:Int)]) (css:= [[int (k:Int)]]) T.bZ ⟨J,J,p1 (φ:=int (k:Int)) J,tV⟩ J J J J (ap (key:=5) (zs:= [(k:Int)]) bX J J J T.bZ (by unfold aT at*;simp;omega) (by unfold aT at*;simp;omega) fun v17=>(ag (nl (eb (th (rg (bi J J (aG i6) (mv (nl ?_))))))))))))
   have hN0:(k+1)≤n:=by
    first|omega|simp_all
   have hN1:(acc++ [(k:Int)])=aK (k+1) s:=by
    rw[jK,hc1];simp[hI0]
   exact ln (⟨k+1,v17,acc++ [(k:Int)]⟩:Nat × Value × (List Int)) ⟨hN0,hN1⟩ dO ⟨id,id,id,id,id,tV⟩ ⟨rI,tV⟩
  ·try simp at hc1
   refine sk (eb (th (rg (bi J J (aG i6) (mv (nl ?_))))))
   have hN0:(k+1)≤n:=by
    first|omega|simp_all
   have hN1:acc=aK (k+1) s:=by
    rw[jK,hc1];simp[hI0]
   exact ln (⟨k+1,v,acc⟩:Nat × Value × (List Int)) ⟨hN0,hN1⟩ dO ⟨id,id,id,id,id,tV⟩ ⟨rI,tV⟩
 ·try simp at hc0
  refine ex (xt_ (xt_ (xb (th (sq (rg (mv (ag (nl (th (rt ?_)))))))))))
  refine fzA 5 4 rfl rfl ?_
  have hr0:acc=(aK n s):=by
   rw[hI0];congr 1;omega
  exact rE () [.tmp 4] J [sl 1 nE acc] ⟨.tmp J,tV⟩ (cA1 (fun x0=>rV [sl 1 nE x0]) hr0) trivial eX
theorem RH (s:ByteArray):
 Fn0 Tryz.prog 104 [str s] (bl (dU s)):=by
 refine fnI Tryz.func104 rfl rfl (fun w0 F0=> ?_)
 refine sq (rg (ag (nl (th (sq (sq (rg (mv (lnS J T.vQ (bi J J aO (mv ?_)))))))))))
 apply gOr (t:=8) (pd:=12) rfl
 rotate_left
 ·intro hg0 fin
  have hg0':=hg0
  try simp at hg0'
  exact gy J J J hg0 (mv (gy J J J hg0 (lnS J T.vQ (gy J J J hg0 (bi J J fN (pkF J hg0 J (drp (X:= [(11,_),(10,_),(9,_)]) ⟨J,J,J,tV⟩ fin)))))))
 ·intro hg0 fin
  exact gn J J J hg0 J J (gn J J J hg0 J J (gn J J J hg0 J J (pkT J hg0 J (drp (X:= [(11,_),(10,_),(9,_)]) ⟨J,J,J,tV⟩ fin))))
 refine mv ?_
 apply gOr (t:=13) (pd:=18) rfl
 rotate_left
 ·intro hg1 fin
  have hg1':=hg1
  try simp at hg1'
  exact gy J J J hg1 (mv (gy J J J hg1 (Jq J J T.vQ O O (gy J J J hg1 (bB (φs:= [u8 (dY s 0)]) (φ:=bl (fW (dY s 0))) ⟨J,tV⟩ (ref01.Dk _) T.KO (gy J J J hg1 (no J (pkF J hg1 J (drp (X:= [(17,_),(16,_),(15,_),(14,_)]) ⟨J,J,J,J,tV⟩ fin)))))))))
 ·intro hg1 fin
  exact gn J J J hg1 J J (gn J J J hg1 J J (gn J J J hg1 J J (gn J J J hg1 J J (pkT J hg1 J (drp (X:= [(17,_),(16,_),(15,_),(14,_)]) ⟨J,J,J,J,tV⟩ fin)))))
 refine nl (th ?_)
 refine cd J (fun hc0=> ?_) (fun hc0=> ?_)
 ·try simp at hc0
  refine sq (rg (ag (nl (th (rt (rt_ ?_))))))
  have hr0:false=(dU s):=by
   unfold dU
   by_cases h1:fW (dY s 0)=true
   ·simp[h1] at hc0
    rw[show(decide (1≤s.size)&&decide (s.size≤20))=false by simp;omega];simp
   ·simp[h1]
  exact rE () [.tmp 2] J [bl false] ⟨.tmp J,tV⟩ (cA1 (fun x0=>rV [bl x0]) hr0) trivial eX
 ·try simp at hc0
  refine sk (th (sq (sq (rg (mv (lnS J T.vQ (mv (nl (th (bk ?_))))))))))
  have hI0_0:0≤s.size:=by
   first|omega|simp
  have hI0_1:(List.range 0).all (fun i=>gU (dY s i))=true:=by
   simp
  refine lp (κ:=Nat) (fun p=> [(0,str s),(20,int (s.size:Int)),(21,int (p:Int))]) (fun p=> []) (fun p=>(p≤s.size)∧((List.range p).all (fun i=>gU (dY s i))=true)) (fun p=>s.size- p) 0 ⟨hI0_0,hI0_1⟩ ⟨id,id,id,tV⟩ trivial ?_
  intro k hG0
  obtain⟨hk0,hI0⟩:(k≤s.size)∧((List.range k).all (fun i=>gU (dY s i))=true):=hG0
  refine sq (rg (bi J J aO (nl (th (sq ?_)))))
  refine cd J (fun hc1=> ?_) (fun hc1=> ?_)
  ·try simp at hc1
   refine sk (th (sq (bk (sq (rg (mv (ag (nl (th (sq (rg (mv (mv (Jq J J T.vQ O O (ag (nl (th (sq (rg (mv (bB (φs:= [u8 (dY s k)]) (φ:=bl (fW (dY s k))) ⟨J,tV⟩ (ref01.Dk _) T.KO (no J (mv ?_)))))))))))))))))))))))
   apply cZ (t:=30) (pd:=37) rfl
   rotate_left
   ·intro hg2 fin
    have hg2':=hg2
    try simp at hg2'
    refine gy rfl rfl rfl hg2 (mv (gy rfl rfl rfl hg2 (bi rfl rfl aO (gy rfl rfl rfl hg2 (mv ?_)))))
    apply gOr (t:=33) (pd:=36) rfl
    rotate_left
    ·intro hg3 fin
     have hg3':=hg3
     try simp at hg3'
     exact gy J J J hg3 (mv (gy J J J hg3 (bi J J fN (gy J J J hg2 (pkF J hg3 J (drp (X:= [(35,_),(34,_)]) ⟨J,J,tV⟩ fin))))))
    ·intro hg3 fin
     exact gn J J J hg3 J J (gn J J J hg3 J J (gy J J J hg2 (pkT J hg3 J (drp (X:= [(35,_),(34,_)]) ⟨J,J,tV⟩ fin))))
    exact pkT rfl hg2 rfl (drp (X:= [(36,_),(33,_),(32,_),(31,_)]) ⟨rfl,rfl,rfl,rfl,tV⟩ fin)
   ·intro hg2 fin
    exact gn J J J hg2 J J (gn J J J hg2 J J (gn J J J hg2 J J (gu J J J J J (gu J J J J J (gn J J J hg2 J J (pkF J hg2 J (drp (X:= [(36,_),(35,_),(34,_),(33,_),(32,_),(31,_)]) ⟨J,J,J,J,J,J,tV⟩ fin)))))))
   refine mv ?_
   apply cZ (t:=38) (pd:=41) rfl
   rotate_left
   ·intro hg4 fin
    have hg4':=hg4
    try simp at hg4'
    exact gy J J J hg4 (mv (gy J J J hg4 (bi J J fI (pkT J hg4 J (drp (X:= [(40,_),(39,_)]) ⟨J,J,tV⟩ fin)))))
   ·intro hg4 fin
    exact gn J J J hg4 J J (gn J J J hg4 J J (pkF J hg4 J (drp (X:= [(40,_),(39,_)]) ⟨J,J,tV⟩ fin)))
   refine mv ?_
   apply cZ (t:=42) (pd:=45) rfl
   rotate_left
   ·intro hg5 fin
    have hg5':=hg5
    try simp at hg5'
    exact gy J J J hg5 (mv (gy J J J hg5 (bi J J fI (pkT J hg5 J (drp (X:= [(44,_),(43,_)]) ⟨J,J,tV⟩ fin)))))
   ·intro hg5 fin
    exact gn J J J hg5 J J (gn J J J hg5 J J (pkF J hg5 J (drp (X:= [(44,_),(43,_)]) ⟨J,J,tV⟩ fin)))
   refine nl (th ?_)
   refine cd J (fun hc2=> ?_) (fun hc2=> ?_)
   ·try simp at hc2
    refine sq (rg (ag (nl (th (rt (rb (rt_ (rt_ (rb (rt_ ?_))))))))))
    have hr0:false=(dU s):=by
     unfold dU
     rw[jC (i:=k) O ?_]
     ·simp
     ·simp[gU,hc2.1.1.1]
      omega
    exact rE () [.tmp 2] J [bl false] ⟨.tmp J,tV⟩ (cA1 (fun x0=>rV [bl x0]) hr0) trivial eX
   ·try simp at hc2
    refine sk (eb (th (rg (bi J J (aG i6) (mv (nl ?_))))))
    have hN0:(k+1)≤s.size:=by
     first|omega|simp_all
    have hN1:(List.range (k+1)).all (fun i=>gU (dY s i))=true:=by
     rw[jO,hI0]
     simp[gU]
     by_cases h1:fW (dY s k)=true
     ·simp[h1]
     ·simp[h1] at hc2
      simp[h1]
      omega
    exact ln (k+1) ⟨hN0,hN1⟩ dO ⟨id,id,id,tV⟩ trivial
  ·try simp at hc1
   refine ex (xt_ (xt_ (xb (th (sq (rg (ag (nl (th (rt ?_))))))))))
   have hr0:true=(dU s):=by
    unfold dU
    rw[show s.size=k by omega,hI0]
    simp[hc0.2]
    omega
   exact rE () [.tmp 2] J [bl true] ⟨.tmp J,tV⟩ (cA1 (fun x0=>rV [bl x0]) hr0) trivial eX
theorem vR (l:List ByteArray):
 Fn0 Tryz.prog 56 [strs l] (bl (bV l)):=by
 refine fnI Tryz.func56 rfl rfl (fun w0 F0=> ?_)
 refine fcC (aV 0 J) (fun hm0=> ?_)
 refine sq (rg (ag (nl (th (sq (sq (rg (mv (lnF J T.eD (bi J J fN (nl (th ?_))))))))))))
 refine cd J (fun hc0=> ?_) (fun hc0=> ?_)
 ·try simp at hc0
  refine sq (rg (ag (nl (th (rt (rt_ ?_))))))
  have hr0:false=(bV l):=by
   unfold bV
   rw[decide_eq_false O];rfl
  exact rE () [.tmp 2] J [bl false] ⟨.tmp J,tV⟩ (cA1 (fun x0=>rV [bl x0]) hr0) trivial eX
 ·try simp at hc0
  refine sk (th (sq (sq (rg (mv (lnF J T.eD (mv (nl (th (bk ?_))))))))))
  have hI0_0:0≤l.length:=by
   first|omega|simp
  have hI0_1:(List.range 0).all (fun i=>dU (ix l i)&&decide (indexOf l (ix l i)=(i:Int)))=true:=by
   simp
  refine lp (κ:=Nat) (fun p=> [(0,sl 1 rE_ l),(8,sl 1 rE_ l),(9,int (l.length:Int)),(10,int (p:Int))]) (fun p=> []) (fun p=>(p≤l.length)∧((List.range p).all (fun i=>dU (ix l i)&&decide (indexOf l (ix l i)=(i:Int)))=true)) (fun p=>l.length- p) 0 ⟨hI0_0,hI0_1⟩ ⟨id,id,id,id,tV⟩ trivial ?_
  intro k hG0
  obtain⟨hk0,hI0⟩:(k≤l.length)∧((List.range k).all (fun i=>dU (ix l i)&&decide (indexOf l (ix l i)=(i:Int)))=true):=hG0
  refine sq (rg (bi J J aO (nl (th (sq ?_)))))
  refine cd J (fun hc1=> ?_) (fun hc1=> ?_)
  ·try simp at hc1
   refine sk (th (sq (bk (sq (rg (mv (iF J J T.eD O gB (lF J J T.xF (ag (ag (nl (th (sq (rg (mv (bB (φs:= [str (ix l k)]) (φ:=bl (dU (ix l k))) ⟨J,tV⟩ (ref01.RH _) T.UJ (no J (mv ?_))))))))))))))))))
   apply gOr (t:=18) (pd:=24) rfl
   rotate_left
   ·intro hg0 fin
    have hg0':=hg0
    try simp at hg0'
    exact gy J J J hg0 (mv (gy J J J hg0 (mv (gy J J J hg0 (bB (φs:= [sl 1 rE_ l,str (ix l k)]) (φ:=int (indexOf l (ix l k))) ⟨J,J,tV⟩ (ref01.NI _ _) T.UK (gy J J J hg0 (mv (gy J J J hg0 (bi J J fI (pkF J hg0 J (drp (X:= [(23,_),(22,_),(21,_),(20,_),(19,_)]) ⟨J,J,J,J,J,tV⟩ fin)))))))))))
   ·intro hg0 fin
    exact gn J J J hg0 J J (gn J J J hg0 J J (gn J J J hg0 J J (gn J J J hg0 J J (gn J J J hg0 J J (pkT J hg0 J (drp (X:= [(23,_),(22,_),(21,_),(20,_),(19,_)]) ⟨J,J,J,J,J,tV⟩ fin))))))
   refine nl (th ?_)
   refine cd J (fun hc2=> ?_) (fun hc2=> ?_)
   ·try simp at hc2
    refine sq (rg (ag (nl (th (rt (rb (rt_ (rt_ (rb (rt_ ?_))))))))))
    have hr0:false=(bV l):=by
     unfold bV
     rw[jC (i:=k) O ?_]
     ·simp
     ·by_cases h:dU (ix l k)=true
      ·simpa [h] using hc2
      ·simp[h]
    exact rE () [.tmp 2] J [bl false] ⟨.tmp J,tV⟩ (cA1 (fun x0=>rV [bl x0]) hr0) trivial eX
   ·try simp at hc2
    refine sk (eb (th (rg (bi J J (aG i6) (mv (nl ?_))))))
    have hN0:(k+1)≤l.length:=by
     first|omega|simp_all
    have hN1:(List.range (k+1)).all (fun i=>dU (ix l i)&&decide (indexOf l (ix l i)=(i:Int)))=true:=by
     rw[jO,hI0]
     simpa using hc2
    exact ln (k+1) ⟨hN0,hN1⟩ dO ⟨id,id,id,id,tV⟩ trivial
  ·try simp at hc1
   refine ex (xt_ (xt_ (xb (th (sq (rg (ag (nl (th (rt ?_))))))))))
   have hr0:true=(bV l):=by
    unfold bV
    rw[show l.length=k by omega,hI0,decide_eq_true O];rfl
   exact rE () [.tmp 2] J [bl true] ⟨.tmp J,tV⟩ (cA1 (fun x0=>rV [bl x0]) hr0) trivial eX
theorem GY (xs ys:List Int):
 Fn0 Tryz.prog 49 [ints xs,ints ys] (bl (decide (xs=ys))):=by
 refine fnI Tryz.func49 rfl rfl (fun w0 F0=> ?_)
 refine fcC (aV 0 J) (fun hm0=> ?_)
 refine fcC (aV 1 J) (fun hm1=> ?_)
 refine sq (rg (ag (nl (th (sq (sq (rg (mv (lnF J T.aX (mv (lnF J T.aX (bi J J fI (nl (th ?_))))))))))))))
 refine cd J (fun hc0=> ?_) (fun hc0=> ?_)
 ·try simp at hc0
  refine sq (rg (ag (nl (th (rt (rt_ ?_))))))
  have hr0:false=(decide (xs=ys)):=by
   rw[decide_eq_false];intro h;subst h;simp at hc0
  exact rE () [.tmp 4] J [bl false] ⟨.tmp J,tV⟩ (cA1 (fun x0=>rV [bl x0]) hr0) trivial eX
 ·try simp at hc0
  refine sk (th (sq (sq (rg (mv (lnF J T.aX (mv (nl (th (bk ?_))))))))))
  have hI0_0:0≤xs.length:=by
   first|omega|simp
  have hI0_1:xs.take 0=ys.take 0:=by
   simp
  refine lp (κ:=Nat) (fun p=> [(1,sl 1 nE ys),(12,sl 1 nE xs),(13,int (xs.length:Int)),(14,int (p:Int))]) (fun p=> []) (fun p=>(p≤xs.length)∧(xs.take p=ys.take p)) (fun p=>xs.length- p) 0 ⟨hI0_0,hI0_1⟩ ⟨id,id,id,id,tV⟩ trivial ?_
  intro k hG0
  obtain⟨hk0,hI0⟩:(k≤xs.length)∧(xs.take k=ys.take k):=hG0
  refine sq (rg (bi J J aO (nl (th (sq ?_)))))
  refine cd J (fun hc1=> ?_) (fun hc1=> ?_)
  ·try simp at hc1
   refine sk (th (sq (bk (sq (rg (mv (iF J J T.aX O gB (lF J J T.aF (ag (ag (nl (th (sq (rg (mv (mv (mv (iF J J T.aX O gB (lF J J T.aF (bi J J fI (nl (th ?_))))))))))))))))))))))
   refine cd J (fun hc2=> ?_) (fun hc2=> ?_)
   ·try simp at hc2
    refine sq (rg (ag (nl (th (rt (rb (rt_ (rt_ (rb (rt_ ?_))))))))))
    have hr0:false=(decide (xs=ys)):=by
     rw[decide_eq_false];intro h;subst h;simp at hc2
    exact rE () [.tmp 4] J [bl false] ⟨.tmp J,tV⟩ (cA1 (fun x0=>rV [bl x0]) hr0) trivial eX
   ·try simp at hc2
    refine sk (eb (th (rg (bi J J (aG i6) (mv (nl ?_))))))
    have hN0:(k+1)≤xs.length:=by
     first|omega|simp_all
    have hN1:xs.take (k+1)=ys.take (k+1):=by
     rw[bM O,bM O,hI0];try simp at hc2
     rw[hc2]
    exact ln (k+1) ⟨hN0,hN1⟩ dO ⟨id,id,id,id,tV⟩ trivial
  ·try simp at hc1
   refine ex (xt_ (xt_ (xb (th (sq (rg (ag (nl (th (rt ?_))))))))))
   have hr0:true=(decide (xs=ys)):=by
    rw[decide_eq_true]
    rw[show k=xs.length by omega,List.take_length] at hI0
    rw[hI0,show xs.length=ys.length by omega,List.take_length]
   exact rE () [.tmp 4] J [bl true] ⟨.tmp J,tV⟩ (cA1 (fun x0=>rV [bl x0]) hr0) trivial eX
theorem uT (xs ys:List ByteArray):
 Fn0 Tryz.prog 28 [strs xs,strs ys] (bl (decide (xs=ys))):=by
 refine fnI Tryz.func28 rfl rfl (fun w0 F0=> ?_)
 refine fcC (aV 0 J) (fun hm0=> ?_)
 refine fcC (aV 1 J) (fun hm1=> ?_)
 refine sq (rg (ag (nl (th (sq (sq (rg (mv (lnF J T.eD (mv (lnF J T.eD (bi J J fI (nl (th ?_))))))))))))))
 refine cd J (fun hc0=> ?_) (fun hc0=> ?_)
 ·try simp at hc0
  refine sq (rg (ag (nl (th (rt (rt_ ?_))))))
  have hr0:false=(decide (xs=ys)):=by
   rw[decide_eq_false];intro h;subst h;simp at hc0
  exact rE () [.tmp 4] J [bl false] ⟨.tmp J,tV⟩ (cA1 (fun x0=>rV [bl x0]) hr0) trivial eX
 ·try simp at hc0
  refine sk (th (sq (sq (rg (mv (lnF J T.eD (mv (nl (th (bk ?_))))))))))
  have hI0_0:0≤xs.length:=by
   first|omega|simp
  have hI0_1:xs.take 0=ys.take 0:=by
   simp
  refine lp (κ:=Nat) (fun p=> [(1,sl 1 rE_ ys),(12,sl 1 rE_ xs),(13,int (xs.length:Int)),(14,int (p:Int))]) (fun p=> []) (fun p=>(p≤xs.length)∧(xs.take p=ys.take p)) (fun p=>xs.length- p) 0 ⟨hI0_0,hI0_1⟩ ⟨id,id,id,id,tV⟩ trivial ?_
  intro k hG0
  obtain⟨hk0,hI0⟩:(k≤xs.length)∧(xs.take k=ys.take k):=hG0
  refine sq (rg (bi J J aO (nl (th (sq ?_)))))
  refine cd J (fun hc1=> ?_) (fun hc1=> ?_)
  ·try simp at hc1
   refine sk (th (sq (bk (sq (rg (mv (iF J J T.eD O gB (lF J J T.xF (ag (ag (nl (th (sq (rg (mv (mv (mv (iF J J T.eD O gB (lF J J T.xF (bi J J Kz (nl (th ?_))))))))))))))))))))))
   refine cd J (fun hc2=> ?_) (fun hc2=> ?_)
   ·try simp at hc2
    refine sq (rg (ag (nl (th (rt (rb (rt_ (rt_ (rb (rt_ ?_))))))))))
    have hr0:false=(decide (xs=ys)):=by
     rw[decide_eq_false];intro h;subst h;simp at hc2
    exact rE () [.tmp 4] J [bl false] ⟨.tmp J,tV⟩ (cA1 (fun x0=>rV [bl x0]) hr0) trivial eX
   ·try simp at hc2
    refine sk (eb (th (rg (bi J J (aG i6) (mv (nl ?_))))))
    have hN0:(k+1)≤xs.length:=by
     first|omega|simp_all
    have hN1:xs.take (k+1)=ys.take (k+1):=by
     rw[bM O,bM O,hI0];try simp at hc2
     rw[hc2]
    exact ln (k+1) ⟨hN0,hN1⟩ dO ⟨id,id,id,id,tV⟩ trivial
  ·try simp at hc1
   refine ex (xt_ (xt_ (xb (th (sq (rg (ag (nl (th (rt ?_))))))))))
   have hr0:true=(decide (xs=ys)):=by
    rw[decide_eq_true]
    rw[show k=xs.length by omega,List.take_length] at hI0
    rw[hI0,show xs.length=ys.length by omega,List.take_length]
   exact rE () [.tmp 4] J [bl true] ⟨.tmp J,tV⟩ (cA1 (fun x0=>rV [bl x0]) hr0) trivial eX
end ref01
end
section
open ref01
def wt (x:SA):Nat:=x.aP.length+x.next.length
def part (s:SS) (k:Nat):Nat:=s.aC.length+s.sT.length+((s.sT.take k).map wt).sum
def size (s:SS):Nat:=part s s.sT.length
def few (s:SS) (most:Int):Bool:=decide ((size s:Int)≤most)
theorem tD {s:SS} {k:Nat} (h:k<s.sT.length):part s (k+1)=part s k+((ix s.sT k).aP.length+(ix s.sT k).next.length):=by
 unfold part
 rw[bM h,List.map_append,List.sum_append]
 simp[wt];omega
theorem xG {s:SS} {k j:Nat} (h:k≤j):part s k≤part s j:=by
 induction j with
 |zero=>have:k=0:=by omega
        subst this;exact Nat.le_refl _
 |succ j ih=>
  by_cases e:k=j+1
  ·subst e;exact Nat.le_refl _
  ·have:=ih O
   by_cases hj:j<s.sT.length
   ·rw[tD hj];omega
   ·unfold part at*
    rw[List.take_of_length_le (show s.sT.length≤j+1 by omega)]
    rw[List.take_of_length_le (show s.sT.length≤j by omega)] at this
    exact this
theorem HP (s:SS):s.aC.length+s.sT.length≤size s∧∀k,k<s.sT.length→(ix s.sT k).aP.length+(ix s.sT k).next.length≤size s:=by
 refine⟨?_,fun k hk=> ?_⟩
 ·have:=xG (s:=s) (show 0≤s.sT.length by omega)
  unfold size
  unfold part at this ⊢
  simp at this ⊢
 ·have h1:=tD (s:=s) hk
  have h2:=xG (s:=s) (show k+1≤s.sT.length by omega)
  unfold size;omega
def gP (x:SA) (n:Nat) (t:Int):Bool:=eO (n:Int) t&&(aK n t).all fun a=>decide (0≤ix x.next a.toNat)
def cW (x:SA) (N:Int) (n:Nat):Bool:=decide ((x.next.length:Int)=(n:Int))&&rising x.aP&&x.next.all (fun j=>decide (-1≤j)&&decide (j<N))&&x.aP.all (gP x n)
theorem Fa {n:Nat} {t:Int} (hn:n≤8) (h:eO (n:Int) t=true):0≤t∧t<256:=by
 unfold eO at h
 simp only [Bool.and_eq_true,decide_eq_true_eq,Int.toNat_natCast] at h
 have:2^n≤2^8:=Nat.pow_le_pow_right O hn
 omega
theorem KS {n:Nat} {t:Int} {k:Nat} (h:k<(aK n t).length):0≤ix (aK n t) k∧ix (aK n t) k<(n:Int):=by
 have hm:ix (aK n t) k∈aK n t:=by rw[aD h];exact List.getElem_mem h
 unfold aK at hm
 obtain⟨a,ha,hk⟩:=List.mem_map.1 hm
 have:=List.mem_range.1 (List.mem_filter.1 ha).1
 unfold aK
 rw[←hk];omega
def cE (s:SS):Bool:=bV s.aC&&decide (1≤s.sT.length)&&decide (s.sT.length≤500)&&s.sT.all fun x=>cW x (s.sT.length:Int) s.aC.length
theorem gG {l:List ByteArray} (h:bV l=true):l.length≤8:=by
 unfold bV at h;simp at h;exact h.1
def isNone (s:SS):Bool:=decide (s.aC.length=0)&&decide (s.sT.length=0)
def nothing (l:List ByteArray):SS:=⟨l,[⟨[],List.replicate l.length (-1)⟩]⟩
namespace T
theorem dH:fA Tryz.prog 28 0 0:=eL kR
theorem cM:eG Tryz.prog 22:=fT kR
theorem bL:fA Tryz.prog 28 1 1:=eL kR
theorem bT:eG Tryz.prog 26:=fT kR
theorem cO:IsSlice Tryz.prog 26 79 2:=fV kR
theorem cK:fA Tryz.prog 79 0 0:=eL kR
theorem bD:eG Tryz.prog 66:=fT kR
theorem cS:fA Tryz.prog 79 1 1:=eL kR
theorem UL:Ent Tryz.prog 106:=aN kR
theorem QR:Ent Tryz.prog 31:=aN kR
theorem UM:Ent Tryz.prog 107:=aN kR
theorem QS:Ent Tryz.prog 56:=aN kR
theorem dJ:iK Tryz.prog 79 2:=iU kR
theorem z79:eR Tryz.prog 79 [.slice none 0 0,.slice none 0 0]:=cR kR
theorem Xk:Ent Tryz.prog 57:=aN kR
theorem z28:eR Tryz.prog 28 [.slice none 0 0,.slice none 0 0]:=cR kR
theorem xH:eM Tryz.prog 22 9 1 16 [.string ⟨#[]⟩]:=iV kR kR
theorem mT:eM Tryz.prog 26 79 2 48 [.slice none 0 0,.slice none 0 0]:=iV kR kR
theorem oP:iQ Tryz.prog 28 [(0,1),(1,1)] [.slice none 0 0,.slice none 0 0]:=jD kR kR
theorem bF:iK Tryz.prog 28 2:=iU kR
theorem xI:iQ Tryz.prog 79 [(0,1),(1,1)] [.slice none 0 0,.slice none 0 0]:=jD kR kR
end T
namespace ref03
theorem Fc (s:SS) (most:Int) (hm:most≤1000000):
 Fn0 Tryz.prog 46 [spec s,int most] (bl (few s most)):=by
 refine fnI Tryz.func46 rfl rfl (fun w0 F0=> ?_)
 refine fcC (bW 0 J) (fun hS0=> ?_)
 obtain⟨hsa0,hss0,hse0⟩:=sLn hS0
 refine sq (rg (bx (key:=2) (cs:= [sl 1 rE_ s.aC,sl 2 sE s.sT]) J fun b2=>(ag (nl (th (sq (rg (fP J T.dH (lP J J J T.cM (fc (aV 8 J) fun hm8=>(lnF J T.eD (fP J T.bL (lP J J J T.bT (fc (aV 11 J) fun hm11=>(lnF J T.cO (bi J J (aG i6) (ag (nl (th (sq (sq (rg (ag (nl (th (bk ?_))))))))))))))))))))))))))
 have hI0_0:0≤s.sT.length∧((s.aC.length+s.sT.length:Nat):Int)=(part s 0:Int):=by
  refine⟨O,?_⟩
  unfold part;simp
 refine lp (κ:=Nat × Int) (fun p=> [(1,int most),(2,ptr 2 b2 0),(4,bl false),(5,int p.2),(6,int (p.1:Int))]) (fun p=> [(2,cell b2 [sl 1 rE_ s.aC,sl 2 sE s.sT])]) (fun p=>p.1≤s.sT.length∧p.2=(part s p.1:Int)) (fun p=>s.sT.length- p.1) ⟨0,((s.aC.length+s.sT.length:Nat):Int)⟩ hI0_0 ⟨id,id,id,id,id,tV⟩ ⟨rI,tV⟩ ?_
 intro⟨k,n⟩ hG0
 have hI0:k≤s.sT.length∧n=(part s k:Int):=hG0
 show Ct _ _ _ _ [(1,int most),(2,ptr 2 b2 0),(4,bl false),(5,int n),(6,int (k:Int))] [(2,cell b2 [sl 1 rE_ s.aC,sl 2 sE s.sT])] _
 refine sq (sq (rg (mv (fP J T.bL (lP J J J T.bT (lnF J T.cO (bi J J aO (mv ?_))))))))
 apply cZ (t:=19) (pd:=23) rfl
 rotate_left
 ·intro hg0 fin
  have hg0':=hg0
  try simp at hg0'
  exact gy J J J hg0 (mv (gy J J J hg0 (mv (gy J J J hg0 (bi J J nN (pkT J hg0 J (drp (X:= [(22,_),(21,_),(20,_)]) ⟨J,J,J,tV⟩ fin)))))))
 ·intro hg0 fin
  exact gn J J J hg0 J J (gn J J J hg0 J J (gn J J J hg0 J J (pkF J hg0 J (drp (X:= [(22,_),(21,_),(20,_)]) ⟨J,J,J,tV⟩ fin))))
 refine nl (th ?_)
 refine cd J (fun hc0=> ?_) (fun hc0=> ?_)
 ·try simp at hc0
  have hl:=hse0 k O
  refine sk (th (sq (bk (dr (nh:=18) [0,0,2,0,14,30,62,126,0,256,0,1792,3840,7936,16128,32766,65535,131071] T.mixed kR ?_))))
  refine st_ J (fun _ _ _ gq kq=>mv' (gq.1.trans J) kq) ?_
  refine st_ J (fun _ _ _ gq kq=>fP (gq.1.trans J) T.bL kq) ?_
  refine st_ J (fun _ _ _ gq kq=>lP (gq.1.trans J) J J T.bT kq) ?_
  refine st_ J (fun _ _ _ gq kq=>mv' (gq.1.trans J) kq) ?_
  refine st_ J (fun _ _ _ gq kq=>iF (gq.1.trans J) (gq.2.1.trans J) T.cO O gB kq) ?_
  refine st_ J (fun _ _ _ gq kq=>fF (gq.1.trans J) T.cK kq) ?_
  refine st_ J (fun _ _ _ gq kq=>lF (gq.1.trans J) J T.bD kq) ?_
  refine st_ J (fun _ _ _ gq kq=>lnF (gq.1.trans J) T.aX kq) ?_
  refine st_ J (fun _ _ _ gq kq=>fP (gq.1.trans J) T.bL kq) ?_
  refine st_ J (fun _ _ _ gq kq=>lP (gq.1.trans J) J J T.bT kq) ?_
  refine st_ J (fun _ _ _ gq kq=>mv' (gq.1.trans J) kq) ?_
  refine st_ J (fun _ _ _ gq kq=>iF (gq.1.trans J) (gq.2.1.trans J) T.cO O gB kq) ?_
  refine st_ J (fun _ _ _ gq kq=>fF (gq.1.trans J) T.cS kq) ?_
  refine st_ J (fun _ _ _ gq kq=>lF (gq.1.trans J) J T.bD kq) ?_
  refine st_ J (fun _ _ _ gq kq=>lnF (gq.1.trans J) T.aX kq) ?_
  refine st_ J (fun _ _ _ gq kq=>bi (gq.1.trans J) (gq.2.1.trans J) (aG i6) kq) ?_
  refine st_ J (fun _ _ _ gq kq=>bi (gq.1.trans J) (gq.2.1.trans J) (aG i6) kq) ?_
  refine st_ J (fun _ _ _ gq kq=>ag' (gq.1.trans J) kq) ?_
  refine pn (nl (eb (th (rg (mv (bi J J (aG i6) (ag (nl ?_))))))))
  have hN0:(k+1)≤s.sT.length∧(n+(((ix s.sT k).aP.length+(ix s.sT k).next.length:Nat):Int))=(part s (k+1):Int):=by
   have h:=tD (s:=s) (k:=k) O
   refine⟨O,?_⟩
   rw[h];omega
  exact ln (⟨k+1,n+(((ix s.sT k).aP.length+(ix s.sT k).next.length:Nat):Int)⟩:Nat × Int) hN0 dO ⟨id,id,id,id,id,tV⟩ ⟨rI,tV⟩
 ·try simp at hc0
  refine ex (xt_ (xt_ (xb (th (sq (rg (mv (mv (bi J J nN (ag (nl (th (rt ?_)))))))))))))
  have hr0:(decide (n≤most))=(few s most):=by
   unfold few size
   have h1:=xG (s:=s) hI0.1
   by_cases h2:k<s.sT.length
   ·rw[decide_eq_false O,decide_eq_false O]
   ·rw[hI0.2,show k=s.sT.length by omega]
  exact rE () [.tmp 4] J [bl (decide (n≤most))] ⟨.tmp J,tV⟩ (cA1 (fun x0=>rV [bl x0]) hr0) trivial eX
theorem NJ (x:SA) (N:Int) (n:Nat) (hn:n≤8):
 Fn0 Tryz.prog 57 [state x,int N,int (n:Int)] (bl (cW x N n)):=by
 refine fnI Tryz.func57 rfl rfl (fun w0 F0=> ?_)
 refine fcC (bW 0 J) (fun hS0=> ?_)
 obtain⟨hxa0,hxn0⟩:=qU hS0
 refine sq (rg (bx (key:=3) (cs:= [sl 1 nE x.aP,sl 1 nE x.next]) J fun b3=>(ag (nl (th (sq (sq (rg (fP J T.cS (lP J J J T.bD (fc (aV 14 J) fun hm14=>(lnF J T.aX (mv (bi J J fI (mv ?_)))))))))))))))
 apply gOr (t:=18) (pd:=23) rfl
 rotate_left
 ·intro hg0 fin
  have hg0':=hg0
  try simp at hg0'
  exact gy J J J hg0 (fP J T.cK (gy J J J hg0 (lP J J J T.bD (gy J J J hg0 (bB (φs:= [sl 1 nE x.aP]) (φ:=bl (rising x.aP)) ⟨J,tV⟩ (ref01.KQ _) T.UL (gy J J J hg0 (no J (pkF J hg0 J (drp (X:= [(22,_),(21,_),(20,_),(19,_)]) ⟨J,J,J,J,tV⟩ fin)))))))))
 ·intro hg0 fin
  exact gn J J J hg0 J J (gn J J J hg0 J J (gn J J J hg0 J J (gn J J J hg0 J J (pkT J hg0 J (drp (X:= [(22,_),(21,_),(20,_),(19,_)]) ⟨J,J,J,J,tV⟩ fin)))))
 refine nl (th ?_)
 refine cd J (fun hc0=> ?_) (fun hc0=> ?_)
 ·try simp at hc0
  refine sq (rg (ag (nl (th (rt (rt_ ?_))))))
  have hr0:false=(cW x N n):=by
   unfold cW
   by_cases h:rising x.aP=true
   ·simp[h] at hc0
    rw[decide_eq_false O];rfl
   ·simp[h]
  exact rE () [.tmp 6] J [bl false] ⟨.tmp J,tV⟩ (cA1 (fun x0=>rV [bl x0]) hr0) trivial eX
 ·try simp at hc0
  refine sk (th (sq (sq (rg (fP J T.cS (lP J J J T.bD (lnF J T.aX (mv (nl (th (bk ?_)))))))))))
  have hI0_0:0≤x.next.length:=by
   first|omega|simp
  have hI0_1:(x.next.take 0).all (fun j=>decide (-1≤j)&&decide (j<N))=true:=by
   simp
  refine lp (κ:=Nat) (fun p=> [(1,int N),(2,int (n:Int)),(3,ptr 3 b3 0),(25,sl 1 nE x.next),(26,int (x.next.length:Int)),(27,int (p:Int))]) (fun p=> [(3,cell b3 [sl 1 nE x.aP,sl 1 nE x.next])]) (fun p=>(p≤x.next.length)∧((x.next.take p).all (fun j=>decide (-1≤j)&&decide (j<N))=true)) (fun p=>x.next.length- p) 0 ⟨hI0_0,hI0_1⟩ ⟨id,id,id,id,id,id,tV⟩ ⟨rI,tV⟩ ?_
  intro k hG0
  obtain⟨hk0,hI0⟩:(k≤x.next.length)∧((x.next.take k).all (fun j=>decide (-1≤j)&&decide (j<N))=true):=hG0
  refine sq (rg (bi J J aO (nl (th (sq ?_)))))
  refine cd J (fun hc1=> ?_) (fun hc1=> ?_)
  ·try simp at hc1
   refine sk (th (sq (bk (sq (rg (iF J J T.aX O gB (lF J J T.aF (ag (nl (th (sq (rg (mv (bi J J aO (mv ?_)))))))))))))))
   apply gOr (t:=33) (pd:=37) rfl
   rotate_left
   ·intro hg1 fin
    have hg1':=hg1
    try simp at hg1'
    exact gy J J J hg1 (mv (gy J J J hg1 (mv (gy J J J hg1 (bi J J fU (pkF J hg1 J (drp (X:= [(36,_),(35,_),(34,_)]) ⟨J,J,J,tV⟩ fin)))))))
   ·intro hg1 fin
    exact gn J J J hg1 J J (gn J J J hg1 J J (gn J J J hg1 J J (pkT J hg1 J (drp (X:= [(36,_),(35,_),(34,_)]) ⟨J,J,J,tV⟩ fin))))
   refine nl (th ?_)
   refine cd J (fun hc2=> ?_) (fun hc2=> ?_)
   ·try simp at hc2
    refine sq (rg (ag (nl (th (rt (rb (rt_ (rt_ (rb (rt_ ?_))))))))))
    have hr0:false=(cW x N n):=by
     unfold cW
     rw[fX (xs:=x.next) (k:=k) O (by simp;omega)];simp
    exact rE () [.tmp 6] J [bl false] ⟨.tmp J,tV⟩ (cA1 (fun x0=>rV [bl x0]) hr0) trivial eX
   ·try simp at hc2
    refine sk (eb (th (rg (bi J J (aG i6) (mv (nl ?_))))))
    have hN0:(k+1)≤x.next.length:=by
     first|omega|simp_all
    have hN1:(x.next.take (k+1)).all (fun j=>decide (-1≤j)&&decide (j<N))=true:=by
     rw[eS O,hI0]
     simp
     omega
    exact ln (k+1) ⟨hN0,hN1⟩ dO ⟨id,id,id,id,id,id,tV⟩ ⟨rI,tV⟩
  ·try simp at hc1
   refine ex (xt_ (xt_ (xb (th (sq (sq (rg (fP J T.cK (lP J J J T.bD (fc (aV 40 J) fun hm40=>(lnF J T.aX (mv (nl (th (bk ?_)))))))))))))))
   have hI1_0:0≤x.aP.length:=by
    first|omega|simp
   have hI1_1:(x.aP.take 0).all (gP x n)=true:=by
    simp
   refine lp (κ:=Nat) (fun p=> [(2,int (n:Int)),(3,ptr 3 b3 0),(40,sl 1 nE x.aP),(41,int (x.aP.length:Int)),(42,int (p:Int))]) (fun p=> [(3,cell b3 [sl 1 nE x.aP,sl 1 nE x.next])]) (fun p=>(p≤x.aP.length)∧((x.aP.take p).all (gP x n)=true)) (fun p=>x.aP.length- p) 0 ⟨hI1_0,hI1_1⟩ ⟨id,id,id,id,id,tV⟩ ⟨rI,tV⟩ ?_
   intro k1 hG1
   obtain⟨hk1,hI1⟩:(k1≤x.aP.length)∧((x.aP.take k1).all (gP x n)=true):=hG1
   refine sq (rg (bi J J aO (nl (th (sq ?_)))))
   refine cd J (fun hc3=> ?_) (fun hc3=> ?_)
   ·try simp at hc3
    refine sk (th (sq (bk (sq (rg (iF J J T.aX O gB (lF J J T.aF (ag (nl (th (sq (sq (rg (mv (mv (bB (φs:= [int (n:Int),int (ix x.aP k1)]) (φ:=bl (eO (n:Int) (ix x.aP k1))) ⟨J,J,tV⟩ (ref01.KR _ _ O O) T.QR (no J (nl (th ?_)))))))))))))))))))
    refine cd J (fun hc4=> ?_) (fun hc4=> ?_)
    ·try simp at hc4
     refine sq (rg (ag (nl (th (rt (rt_ (rb (rt_ (rt_ (rb (rt_ ?_)))))))))))
     have hr0:false=(cW x N n):=by
      unfold cW
      rw[fX (xs:=x.aP) (k:=k1) O (by simp[gP,hc4])];simp
     exact rE () [.tmp 6] J [bl false] ⟨.tmp J,tV⟩ (cA1 (fun x0=>rV [bl x0]) hr0) trivial eX
    ·try simp at hc4
     have hset:=Fa O hc4
     refine sk (th (sq (rg (mv (mv (bB (φs:= [int (n:Int),int (ix x.aP k1)]) (φ:=sl 1 nE (aK n (ix x.aP k1))) ⟨J,J,tV⟩ (ref01.RG n _ O O O) T.UM (fc (aV 52 J) fun hm52=>(lnF J T.aX (mv (nl (th (bk ?_))))))))))))
     have hI2_0:0≤(aK n (ix x.aP k1)).length:=by
      first|omega|simp
     have hI2_1:((aK n (ix x.aP k1)).take 0).all (fun a=>decide (0≤ix x.next a.toNat))=true:=by
      simp
     refine lp (κ:=Nat) (fun p=> [(2,int (n:Int)),(3,ptr 3 b3 0),(40,sl 1 nE x.aP),(41,int (x.aP.length:Int)),(42,int (k1:Int)),(52,sl 1 nE (aK n (ix x.aP k1))),(53,int ((aK n (ix x.aP k1)).length:Int)),(54,int (p:Int))]) (fun p=> [(3,cell b3 [sl 1 nE x.aP,sl 1 nE x.next])]) (fun p=>(p≤(aK n (ix x.aP k1)).length)∧(((aK n (ix x.aP k1)).take p).all (fun a=>decide (0≤ix x.next a.toNat))=true)) (fun p=>(aK n (ix x.aP k1)).length- p) 0 ⟨hI2_0,hI2_1⟩ ⟨id,id,id,id,id,id,id,id,tV⟩ ⟨rI,tV⟩ ?_
     intro k2 hG2
     obtain⟨hk2,hI2⟩:(k2≤(aK n (ix x.aP k1)).length)∧(((aK n (ix x.aP k1)).take k2).all (fun a=>decide (0≤ix x.next a.toNat))=true):=hG2
     refine sq (rg (bi J J aO (nl (th (sq ?_)))))
     refine cd J (fun hc5=> ?_) (fun hc5=> ?_)
     ·try simp at hc5
      have hb:=KS (n:=n) (t:=ix x.aP k1) (k:=k2) O
      refine sk (th (sq (bk (sq (rg (iF J J T.aX O gB (lF J J T.aF (ag (nl (th (sq (rg (fP J T.cS (lP J J J T.bD (mv (iF J J T.aX O gB (lF J J T.aF (bi J J aO (nl (th ?_))))))))))))))))))))
      refine cd J (fun hc6=> ?_) (fun hc6=> ?_)
      ·try simp at hc6
       refine sq (rg (ag (nl (th (rt (rb (rt_ (rt_ (rb (rb (rt_ (rt_ (rb (rt_ ?_))))))))))))))
       have hr0:false=(cW x N n):=by
        unfold cW
        rw[fX (xs:=x.aP) (k:=k1) O ?_];simp
        unfold gP
        rw[fX (xs:=aK n (ix x.aP k1)) (k:=k2) O (by simpa using hc6)];simp
       exact rE () [.tmp 6] J [bl false] ⟨.tmp J,tV⟩ (cA1 (fun x0=>rV [bl x0]) hr0) trivial eX
      ·try simp at hc6
       refine sk (eb (th (rg (bi J J (aG i6) (mv (nl ?_))))))
       have hN0:(k2+1)≤(aK n (ix x.aP k1)).length:=by
        first|omega|simp_all
       have hN1:((aK n (ix x.aP k1)).take (k2+1)).all (fun a=>decide (0≤ix x.next a.toNat))=true:=by
        rw[eS O,hI2]
        simpa using hc6
       exact ln (k2+1) ⟨hN0,hN1⟩ dO ⟨id,id,id,id,id,id,id,id,tV⟩ ⟨rI,tV⟩
     ·try simp at hc5
      refine ex (xt_ (xt_ (xb (eb (th (rg (bi J J (aG i6) (mv (nl ?_)))))))))
      have hN0:(k1+1)≤x.aP.length:=by
       first|omega|simp_all
      have hN1:(x.aP.take (k1+1)).all (gP x n)=true:=by
       rw[eS O,hI1]
       unfold gP
       rw[hc4]
       rw[show k2=(aK n (ix x.aP k1)).length by omega,List.take_length] at hI2
       rw[hI2];rfl
      exact ln (k1+1) ⟨hN0,hN1⟩ dO ⟨id,id,id,id,id,tV⟩ ⟨rI,tV⟩
   ·try simp at hc3
    refine ex (xt_ (xt_ (xb (th (sq (rg (ag (nl (th (rt ?_))))))))))
    have hr0:true=(cW x N n):=by
     unfold cW
     rw[show k=x.next.length by omega,List.take_length] at hI0
     rw[show k1=x.aP.length by omega,List.take_length] at hI1
     rw[hI0,hI1]
     simp[hc0]
    exact rE () [.tmp 6] J [bl true] ⟨.tmp J,tV⟩ (cA1 (fun x0=>rV [bl x0]) hr0) trivial eX
theorem vR (s:SS):
 Fn0 Tryz.prog 21 [spec s] (bl (cE s)):=by
 refine fnI Tryz.func21 rfl rfl (fun w0 F0=> ?_)
 refine fcC (bW 0 J) (fun hS0=> ?_)
 obtain⟨hsa0,hss0,hse0⟩:=sLn hS0
 refine sq (rg (bx (key:=1) (cs:= [sl 1 rE_ s.aC,sl 2 sE s.sT]) J fun b1=>(ag (nl (th (sq (sq (rg (fP J T.dH (lP J J J T.cM (bB (φs:= [sl 1 rE_ s.aC]) (φ:=bl (bV s.aC)) ⟨J,tV⟩ (ref01.vR _) T.QS (no J (mv ?_)))))))))))))
 apply gOr (t:=9) (pd:=14) rfl
 rotate_left
 ·intro hg0 fin
  have hg0':=hg0
  try simp at hg0'
  exact gy J J J hg0 (fP J T.bL (gy J J J hg0 (lP J J J T.bT (gy J J J hg0 (fc (aV 11 J) fun hm11=>(lnF J T.cO (gy J J J hg0 (bi J J aO (pkF J hg0 J (drp (X:= [(13,_),(12,_),(11,_),(10,_)]) ⟨J,J,J,J,tV⟩ fin))))))))))
 ·intro hg0 fin
  exact gn J J J hg0 J J (gn J J J hg0 J J (gn J J J hg0 J J (gn J J J hg0 J J (pkT J hg0 J (drp (X:= [(13,_),(12,_),(11,_),(10,_)]) ⟨J,J,J,J,tV⟩ fin)))))
 refine mv ?_
 apply gOr (t:=15) (pd:=20) rfl
 rotate_left
 ·intro hg1 fin
  have hg1':=hg1
  try simp at hg1'
  exact gy J J J hg1 (fP J T.bL (gy J J J hg1 (lP J J J T.bT (gy J J J hg1 (fc (aV 17 J) fun hm17=>(lnF J T.cO (gy J J J hg1 (bi J J fN (pkF J hg1 J (drp (X:= [(19,_),(18,_),(17,_),(16,_)]) ⟨J,J,J,J,tV⟩ fin))))))))))
 ·intro hg1 fin
  exact gn J J J hg1 J J (gn J J J hg1 J J (gn J J J hg1 J J (gn J J J hg1 J J (pkT J hg1 J (drp (X:= [(19,_),(18,_),(17,_),(16,_)]) ⟨J,J,J,J,tV⟩ fin)))))
 refine nl (th ?_)
 refine cd J (fun hc0=> ?_) (fun hc0=> ?_)
 ·try simp at hc0
  refine sq (rg (ag (nl (th (rt (rt_ ?_))))))
  have hr0:false=(cE s):=by
   unfold cE
   by_cases h:bV s.aC=true
   ·simp[h] at hc0 ⊢
    omega
   ·simp[h]
  exact rE () [.tmp 2] J [bl false] ⟨.tmp J,tV⟩ (cA1 (fun x0=>rV [bl x0]) hr0) trivial eX
 ·try simp at hc0
  have hact:=gG (l:=s.aC) (by simp_all)
  refine sk (th (sq (sq (rg (fP J T.bL (lP J J J T.bT (fc (aV 22 J) fun hm22=>(lnF J T.cO (mv (nl (th (bk ?_))))))))))))
  have hI0_0:0≤s.sT.length:=by
   first|omega|simp
  have hI0_1:(s.sT.take 0).all (fun x=>cW x (s.sT.length:Int) s.aC.length)=true:=by
   simp
  refine lp (κ:=Nat) (fun p=> [(1,ptr 1 b1 0),(22,sl 2 sE s.sT),(23,int (s.sT.length:Int)),(24,int (p:Int))]) (fun p=> [(1,cell b1 [sl 1 rE_ s.aC,sl 2 sE s.sT])]) (fun p=>(p≤s.sT.length)∧((s.sT.take p).all (fun x=>cW x (s.sT.length:Int) s.aC.length)=true)) (fun p=>s.sT.length- p) 0 ⟨hI0_0,hI0_1⟩ ⟨id,id,id,id,tV⟩ ⟨rI,tV⟩ ?_
  intro k hG0
  obtain⟨hk0,hI0⟩:(k≤s.sT.length)∧((s.sT.take k).all (fun x=>cW x (s.sT.length:Int) s.aC.length)=true):=hG0
  refine sq (rg (bi J J aO (nl (th (sq ?_)))))
  refine cd J (fun hc1=> ?_) (fun hc1=> ?_)
  ·try simp at hc1
   refine sk (th (sq (bk (sq (rg (iF J J T.cO O gB (lFA J T.dJ (Nat.le_of_ble_eq_true J) (al (key:=4) T.z79 (eC (eC eZ)) fun b4=>(sPA (cs':= [sl 1 nE (ix s.sT k).aP,sl 1 nE (ix s.sT k).next]) J J J T.dJ J J (nl (th (sq (rg (lPA J J T.dJ J (fP J T.bL (lP J J J T.bT (lnF J T.cO (fP J T.dH (lP J J J T.cM (fc (aV 33 J) fun hm33=>(lnF J T.eD (bB (φs:= [agg [sl 1 nE (ix s.sT k).aP,sl 1 nE (ix s.sT k).next],int (s.sT.length:Int),int (s.aC.length:Int)]) (φ:=bl (cW (ix s.sT k) (s.sT.length:Int) s.aC.length)) ⟨J,J,J,tV⟩ (ref03.NJ (ix s.sT k) _ s.aC.length O) T.Xk (no J (nl (th ?_)))))))))))))))))))))))))
   refine cd J (fun hc2=> ?_) (fun hc2=> ?_)
   ·try simp at hc2
    refine sq (rg (ag (nl (th (rt (rb (rt_ (rt_ (rb (rt_ ?_))))))))))
    have hr0:false=(cE s):=by
     unfold cE
     rw[fX (xs:=s.sT) (k:=k) O (by simpa using hc2)];simp
    exact rE () [.tmp 2] J [bl false] ⟨.tmp J,tV⟩ (cA1 (fun x0=>rV [bl x0]) hr0) trivial eX
   ·try simp at hc2
    refine sk (eb (th (rg (bi J J (aG i6) (mv (nl ?_))))))
    have hN0:(k+1)≤s.sT.length:=by
     first|omega|simp_all
    have hN1:(s.sT.take (k+1)).all (fun x=>cW x (s.sT.length:Int) s.aC.length)=true:=by
     rw[eS O,hI0]
     simpa using hc2
    exact ln (k+1) ⟨hN0,hN1⟩ dO ⟨id,id,id,id,tV⟩ ⟨rI,tV⟩
  ·try simp at hc1
   refine ex (xt_ (xt_ (xb (th (sq (rg (ag (nl (th (rt ?_))))))))))
   have hr0:true=(cE s):=by
    unfold cE
    rw[show k=s.sT.length by omega,List.take_length] at hI0
    rw[hI0]
    simp[hc0];omega
   exact rE () [.tmp 2] J [bl true] ⟨.tmp J,tV⟩ (cA1 (fun x0=>rV [bl x0]) hr0) trivial eX
theorem Cr (s:SS) (hs:size s≤100000000):
 AL.Fn Tryz.prog 18 [spec s] [] (ι:=Unit) (fun N _=>QQ N s) (fun _=> []):=by
 refine fnI Tryz.func18 rfl rfl (fun w0 F0=> ?_)
 obtain⟨hb0,hb1⟩:=HP s
 refine fcC (bW 0 J) (fun hS0=> ?_)
 obtain⟨hsa0,hss0,hse0⟩:=sLn hS0
 refine sq (rg (bx (key:=1) (cs:= [sl 1 rE_ s.aC,sl 2 sE s.sT]) J fun b1=>(al (key:=2) T.z28 (eC (eC eZ)) fun b2=>(nl (th (sq (rg (fP J T.dH (lP J J J T.cM (uQ (enc:=rE_) (ys:=s.aC) J J T.xH mL flat (bd (css:= [(0,_)]) T.oP (eC (eC eZ)) ⟨J,J,p1 (φ:=fre w0.heap.size (sl 1 rE_ s.aC)) J,tV⟩ (al (key:=3) T.z28 (eC (eC eZ)) fun b3=>(sPA (cs':= [fre w0.heap.size (sl 1 rE_ s.aC),eqv (.slice none 0 0)]) J J J T.bF J J (nl (th (sq (sq (rg (fP J T.bL (lP J J J T.bT (fc (aV 11 J) fun hm11=>(lnF J T.cO (mv (nl (th (bk ?_))))))))))))))))))))))))))
 refine nwC 30 79 2 (uR w0.heap.size) (jS 3 1 (osl 30 (.slice none 0 0)) rfl rfl dM ?_)
 have hI0_0:0≤s.sT.length:=by
  first|omega|simp
 have hI0_1:([]:List SA)=s.sT.take 0:=by
  rfl
 refine lp (κ:=Nat × Value × (List SA)) (fun p=> [(2,ptr 2 b2 0),(3,ptr 3 b3 0),(11,sl 2 sE s.sT),(12,int (s.sT.length:Int)),(13,int (p.1:Int))]) (fun p=> [(1,cell b1 [sl 1 rE_ s.aC,sl 2 sE s.sT]),(2,cell b2 [eqv (.slice none 0 0),eqv (.slice none 0 0)]),(3,cell b3 [fre w0.heap.size (sl 1 rE_ s.aC),osl 30 p.2.1]),(30,own p.2.1 79 2 (uR w0.heap.size) p.2.2)]) (fun p=>(p.1≤s.sT.length)∧(p.2.2=s.sT.take p.1)) (fun p=>s.sT.length- p.1) ⟨0,(.slice none 0 0),([]:List SA)⟩ ⟨hI0_0,hI0_1⟩ ⟨id,id,id,id,id,tV⟩ ⟨rI,rI,rI,rI,tV⟩ ?_
 intro⟨k,v,acc⟩ hG0
 obtain⟨hk0,hI0⟩:(k≤s.sT.length)∧(acc=s.sT.take k):=hG0
 show Ct _ _ _ _ [(2,ptr 2 b2 0),(3,ptr 3 b3 0),(11,sl 2 sE s.sT),(12,int (s.sT.length:Int)),(13,int (k:Int))] [(1,cell b1 [sl 1 rE_ s.aC,sl 2 sE s.sT]),(2,cell b2 [eqv (.slice none 0 0),eqv (.slice none 0 0)]),(3,cell b3 [fre w0.heap.size (sl 1 rE_ s.aC),osl 30 v]),(30,own v 79 2 (uR w0.heap.size) acc)] _
 have hlen:acc.length≤k:=by rw[hI0];simp;omega
 refine sq (rg (bi J J aO (nl (th (sq ?_)))))
 refine cd J (fun hc0=> ?_) (fun hc0=> ?_)
 ·try simp at hc0
  have hb2:=hb1 k O
  refine sk (th (sq (bk (sq (rg (iF J J T.cO O gB (lFA J T.dJ (Nat.le_of_ble_eq_true J) (al (key:=5) T.z79 (eC (eC eZ)) fun b5=>(sPA (cs':= [sl 1 nE (ix s.sT k).aP,sl 1 nE (ix s.sT k).next]) J J J T.dJ J J (nl (th (dr (nh:=10) [0,1,0,4,12,0,32,124,252,508,1023,2047,4095] T.mixed kR ?_))))))))))))
  refine st_ J (fun _ _ _ gq kq=>fP (gq.1.trans J) T.bL kq) ?_
  refine st_ J (fun _ _ _ gq kq=>lP (gq.1.trans J) J J T.bT kq) ?_
  refine st_ J (fun _ _ _ gq kq=>fP (gq.1.trans J) T.cK kq) ?_
  refine st_ J (fun _ _ _ gq kq=>lP (gq.1.trans J) J J T.bD kq) ?_
  refine st_ J (fun _ _ _ gq kq=>uQ (enc:=nE) (ys:=(ix s.sT k).aP) J (gq.1.trans J) T.bZ mL flat kq) ?_
  refine st_ J (fun _ _ _ gq kq=>fP (gq.1.trans J) T.cS kq) ?_
  refine st_ J (fun _ _ _ gq kq=>lP (gq.1.trans J) J J T.bD kq) ?_
  refine st_ J (fun _ _ _ gq kq=>uQ (enc:=nE) (ys:=(ix s.sT k).next) J (gq.1.trans J) T.bZ mL flat kq) ?_
  refine st_ J (fun _ _ _ gq kq=>bd (css:= [(0,_),(1,_)]) T.xI (eC (eC eZ)) ⟨J,J,p1 (φ:=fre w0.heap.size (sl 1 nE (ix s.sT k).aP)) (by exact(gq.1.trans J)),⟨J,J,p1 (φ:=fre w0.heap.size (sl 1 nE (ix s.sT k).next)) (by exact(gq.2.1.trans J)),tV⟩⟩ kq) ?_
  refine st_ J (fun _ _ _ gq kq=>bsE (enc:=uR w0.heap.size) (xs:= [(ix s.sT k)]) (css:= [[fre w0.heap.size (sl 1 nE (ix s.sT k).aP),fre w0.heap.size (sl 1 nE (ix s.sT k).next)]]) T.mT ⟨J,J,pA (cs:= [fre w0.heap.size (sl 1 nE (ix s.sT k).aP),fre w0.heap.size (sl 1 nE (ix s.sT k).next)]) (by exact(gq.1.trans J)),tV⟩ J J J J kq) ?_
  refine pn (ap (key:=30) (zs:= [(ix s.sT k)]) bX J J J T.mT (by unfold aT at*;simp;omega) (by unfold aT at*;simp;omega) fun v27=>(fP J T.bL (cI J J J J T.bT J (nl (eb (th (rg (bi J J (aG i6) (mv (nl ?_))))))))))
  have hN0:(k+1)≤s.sT.length:=by
   first|omega|simp_all
  have hN1:(acc++ [(ix s.sT k)])=s.sT.take (k+1):=by
   rw[hI0,bM O]
  exact ln (⟨k+1,v27,acc++ [(ix s.sT k)]⟩:Nat × Value × (List SA)) ⟨hN0,hN1⟩ dO ⟨id,id,id,id,id,tV⟩ ⟨rI,rI,rI,rI,tV⟩
 ·try simp at hc0
  refine ex (xt_ (xt_ (xb (th (sq (rg (NH sE 3 30 1 noM (fun _=>J) J J J (by decide) (lPA J J T.bF J (sPA (cs':= [fre w0.heap.size (sl 1 rE_ s.aC),fre w0.heap.size (sl 2 sE acc)]) J J J T.bF J J (nl (th (rt ?_))))))))))))
  have hr0:acc=s.sT:=by
   rw[hI0,show k=s.sT.length by omega,List.take_length]
  exact rE () [.cell 2 28] J [agg [fre w0.heap.size (sl 1 rE_ s.aC),fre w0.heap.size (sl 2 sE acc)]] ⟨.agg J J T.bF J J,tV⟩ (cA1 (fun x0=>rV [agg [fre w0.heap.size (sl 1 rE_ s.aC),fre w0.heap.size (sl 2 sE x0)]]) hr0) trivial eX
end ref03
end
section
open ref01 ref03
structure okState (x:SA) (N n:Nat):Prop where
 len:x.next.length=n
 nx:∀a,a<n→ -1≤ix x.next a∧ix x.next a<(N:Int)
 ac:∀i,i<x.aP.length→0≤ix x.aP i∧ix x.aP i<256
 go:∀i,i<x.aP.length→∀a:Nat,has (ix x.aP i) (a:Int)=true→a<n∧0≤ix x.next a
 rise:rising x.aP=true
structure oK (s:SS):Prop where
 acts:bV s.aC=true
 n8:s.aC.length≤8
 few0:1≤s.sT.length
 few1:s.sT.length≤10000
 st:∀k,k<s.sT.length→okState (ix s.sT k) s.sT.length s.aC.length
theorem Jy {x:SA} {N n:Nat} (hn:n≤8) (h:cW x (N:Int) n=true):okState x N n:=by
 unfold cW at h
 simp only [Bool.and_eq_true,decide_eq_true_eq] at h
 obtain⟨⟨⟨h1,h2⟩,h3⟩,h4⟩:=h
 have hset:∀i,i<x.aP.length→gP x n (ix x.aP i)=true:=fun i hi=>uS h4 hi
 refine⟨O,fun a ha=> ?_,fun i hi=> ?_,fun i hi a ha=> ?_,h2⟩
 ·have:=uS h3 (k:=a) O
  simpa using this
 ·have:=hset i hi
  unfold gP at this
  simp only [Bool.and_eq_true] at this
  exact Fa hn this.1
 ·have h5:=hset i hi
  unfold gP at h5
  simp only [Bool.and_eq_true] at h5
  have han:a<n:=by
   have h6:=h5.1
   unfold eO at h6
   simp only [Bool.and_eq_true,decide_eq_true_eq,Int.toNat_natCast] at h6
   unfold has at ha
   rw[Int.toNat_natCast] at ha
   have h7:2^a≤(ix x.aP i).toNat:=Nat.ge_two_pow_of_testBit ha
   have h8:(ix x.aP i).toNat<2^n:=by omega
   have h9:2^a<2^n:=Nat.lt_of_le_of_lt h7 h8
   exact(Nat.pow_lt_pow_iff_right O).1 h9
  refine⟨han,?_⟩
  have hm:(a:Int)∈aK n (ix x.aP i):=List.mem_map.2 ⟨a,List.mem_filter.2 ⟨List.mem_range.2 han,ha⟩,rfl⟩
  have:=List.all_eq_true.1 h5.2 _ hm
  simpa using this
theorem iA {s:SS} (h:cE s=true):oK s:=by
 unfold cE at h
 simp only [Bool.and_eq_true,decide_eq_true_eq] at h
 obtain⟨⟨⟨h1,h2⟩,h3⟩,h4⟩:=h
 have hn:=gG h1
 exact⟨h1,hn,h2,O,fun k hk=>Jy hn (uS h4 hk)⟩
def eH (x:SA) (t:Int) (h:List Bool):Bool:=(List.range x.next.length).any fun a=>decide (0≤ix x.next a)&&has t (a:Int)&&ix h (ix x.next a).toNat
def fL (x:SA) (h:List Bool):Bool:=x.aP.all fun t=>eH x t h
theorem Cs (n:Nat) (f:Nat→Bool):(List.range (n+1)).any f=((List.range n).any f||f n):=by
 rw[List.range_succ,List.any_append];simp
theorem Ek {n i:Nat} {f:Nat→Bool} (hi:i<n) (hf:f i=true):(List.range n).any f=true:=List.any_eq_true.2 ⟨i,List.mem_range.2 hi,hf⟩
def Closed (s:SS) (H:Nat→Prop):Prop:=∀x,x<s.sT.length→(∀i,i<(ix s.sT x).aP.length→∃a,a<(ix s.sT x).next.length∧0≤ix (ix s.sT x).next a∧has (ix (ix s.sT x).aP i) (a:Int)=true∧H (ix (ix s.sT x).next a).toNat)→H x
def Hol (s:SS) (x:Nat):Prop:=∀H,Closed s H→H x
theorem nS (s:SS):Closed s (Hol s):=fun x hx h H hH=>hH x hx (fun i hi=>by
 obtain⟨a,h1,h2,h3,h4⟩:=h i hi
 exact⟨a,h1,h2,h3,h4 H hH⟩)
theorem jG {x:SA} {t:Int} {h:List Bool}:eH x t h=true↔∃a,a<x.next.length∧0≤ix x.next a∧has t (a:Int)=true∧ix h (ix x.next a).toNat=true:=by
 unfold eH
 rw[List.any_eq_true]
 constructor
 ·rintro⟨a,ha,hf⟩
  simp only [Bool.and_eq_true,decide_eq_true_eq] at hf
  exact⟨a,List.mem_range.1 ha,hf.1.1,hf.1.2,hf.2⟩
 ·rintro⟨a,ha,h1,h2,h3⟩
  exact⟨a,List.mem_range.2 ha,by simp[h1,h2,h3]⟩
theorem zK {x:SA} {h:List Bool}:fL x h=true↔∀i,i<x.aP.length→∃a,a<x.next.length∧0≤ix x.next a∧has (ix x.aP i) (a:Int)=true∧ix h (ix x.next a).toNat=true:=by
 unfold fL
 rw[List.all_eq_true]
 constructor
 ·intro hh i hi
  exact jG.1 (hh _ (by rw[aD hi];exact List.getElem_mem hi))
 ·intro hh t ht
  obtain⟨i,hi,he⟩:=List.getElem_of_mem ht
  have:=jG.2 (hh i hi)
  rwa [aD hi,he] at this
open Classical in
noncomputable def hOl (s:SS):List Bool:=(List.range s.sT.length).map fun x=>decide (Hol s x)
theorem nT (s:SS):(hOl s).length=s.sT.length:=by simp[hOl]
theorem kA {α:Type} [Inhabited α] {xs:List α} {k:Nat} (hk:k<xs.length) (y:α) (j:Nat):ix (xs.set k y) j=if j=k then y else ix xs j:=by
 unfold ix
 by_cases h:j=k
 ·subst h;simp[hk]
 ·simp[h,List.getD,List.getElem?_set_ne (Ne.symm h)]
theorem KT {s:SS} {l:List Bool} (hl:l.length=s.sT.length) (h1:∀x,ix l x=true→Hol s x) (h2:∀x,x<s.sT.length→fL (ix s.sT x) l=true→ix l x=true):l=hOl s:=by
 have hc:Closed s (fun x=>ix l x=true):=fun x hx h=>h2 x hx (zK.2 h)
 apply List.ext_getElem (by rw[hl,nT])
 intro i hi hi'
 have e:ix l i=l[i]:=aD hi
 simp only [hOl,List.getElem_map,List.getElem_range]
 rw[←e]
 by_cases h:Hol s i
 ·rw[h _ hc];simp[h]
 ·have:ix l i≠true:=fun ht=>h (h1 i ht)
  simp[h] at this ⊢
  exact this
theorem count_set {l:List Bool} {k:Nat} (hk:k<l.length) (h:ix l k=false):(l.set k true).count false<l.count false:=by
 rw[aD hk] at h
 have h1:=List.count_set (l:=l) (i:=k) (a:=true) (b:=false) hk
 rw[h1,h]
 have:0<l.count false:=List.count_pos_iff.2 (by rw[←h];exact List.getElem_mem hk)
 simp
 omega
theorem Dl {l:List Int} (h:rising l=true) {i:Nat} (hi:i+1<l.length):ix l i<ix l (i+1):=by
 unfold rising at h
 have:=List.all_eq_true.1 h i (List.mem_range.2 O)
 simpa using this
theorem Dm {l:List Int} (h:rising l=true) (h0:∀i,i<l.length→0≤ix l i):∀i,i<l.length→(i:Int)≤ix l i
 |0,hi=>by simpa using h0 0 hi
 |i+1,hi=>by
  have h1:=Dm h h0 i O
  have h2:=Dl h (i:=i) hi
  omega
theorem okState.acl {x:SA} {N n:Nat} (h:okState x N n):x.aP.length≤256:=by
 rcases Nat.lt_or_ge 256 x.aP.length with hlt|hle
 ·have h1:=Dm h.rise (fun i hi=>(h.ac i hi).1) 256 hlt
  have h2:=(h.ac 256 hlt).2
  omega
 ·exact hle
def aZ (l:List Int):Int:=l.foldl (fun u t=>((u.toNat|||t.toNat:Nat):Int)) 0
theorem iL (l:List Int) (t:Int):aZ (l++ [t])=(((aZ l).toNat|||t.toNat:Nat):Int):=by simp[aZ]
theorem kU {a b:Int} (ha:a<256) (hb:b<256):((a.toNat|||b.toNat:Nat):Int)<256:=by
 have:=Nat.or_lt_two_pow (x:=a.toNat) (y:=b.toNat) (n:=8) O O
 omega
noncomputable def keep (s:SS) (x:Nat):List Int:=(ix s.sT x).aP.filter fun t=> !ix (hOl s) x&& !eH (ix s.sT x) t (hOl s)
def cut (x:SA) (u:Int):List Int:=(List.range x.next.length).map fun(a:Nat)=>if has u (a:Int) then ix x.next a else-1
noncomputable def vS (s:SS) (x:Nat):SA:=⟨keep s x,cut (ix s.sT x) (aZ (keep s x))⟩
noncomputable def aW (s:SS):SS:=⟨s.aC,(List.range s.sT.length).map (vS s)⟩
theorem rR {α:Type} [Inhabited α] {xs:List α} {k:Nat} (h:k<xs.length) (p:α→Bool):(xs.take (k+1)).filter p=(xs.take k).filter p++(if p (ix xs k) then [ix xs k] else []):=by
 rw[bM h,List.filter_append]
 congr 1
 by_cases hp:p (ix xs k)<;>simp[hp]
def visit (l ks:List Int):List Int:=ks.foldl (fun l k=>if decide (0≤k)&& !l.contains k then l++ [k] else l) l
theorem Bi (l ks:List Int) (k:Int):visit l (ks++ [k])=if decide (0≤k)&& !(visit l ks).contains k then visit l ks++ [k] else visit l ks:=by simp[visit]
def bq (s:SS):Nat→List Int
 |0=> [0]
 |i+1=>if i<(bq s i).length then visit (bq s i) (ix s.sT (ix (bq s i) i).toNat).next else bq s i
def order (s:SS):List Int:=bq s s.sT.length
theorem Dn {s:SS} {i:Nat} (h:(bq s i).length≤i):∀j,bq s (i+j)=bq s i
 |0=>rfl
 |j+1=>by
  have ih:=Dn h j
  show(if i+j<(bq s (i+j)).length then _ else bq s (i+j))=_
  rw[ih,if_neg O]
def marks (n:Nat) (l:List Int):List Bool:=(List.range n).map fun(x:Nat)=>l.contains (x:Int)
theorem nD (n:Nat) (l:List Int):(marks n l).length=n:=by simp[marks]
theorem Aa {n:Nat} {l:List Int} {x:Nat} (h:x<n):ix (marks n l) x=l.contains (x:Int):=by
 rw[aD (by rw[nD];exact h)]
 simp[marks]
theorem pW {n:Nat} {l:List Int} {k:Int} (h0:0≤k):(marks n l).set k.toNat true=marks n (l++ [k]):=by
 apply List.ext_getElem (by simp[marks])
 intro i h1 h2
 rw[List.getElem_set]
 simp only [marks,List.getElem_map,List.getElem_range,List.contains_eq_mem,List.mem_append,List.mem_singleton]
 split
 ·next e=>subst e;simp;right;omega
 ·next e=>
  have:¬((i:Int)=k):=by omega
  simp[this]
def okQ (n:Nat) (l:List Int):Prop:=(∀i,i<l.length→0≤ix l i∧ix l i<(n:Int))∧(marks n l).count true=l.length∧1≤l.length
theorem okQ.le {n:Nat} {l:List Int} (h:okQ n l):l.length≤n:=by
 rw[←h.2.1]
 exact Nat.le_trans List.count_le_length (by rw[nD];exact Nat.le_refl _)
theorem RI (l:List Int) (k:Int) (i:Nat):ix (l++ [k]) i=if i<l.length then ix l i else if i=l.length then k else default:=by
 unfold ix
 by_cases h:i<l.length
 ·simp[h,List.getD,List.getElem?_append_left h]
 ·by_cases h2:i=l.length
  ·subst h2;simp[List.getD]
  ·rw[if_neg h,if_neg h2,List.getD_eq_getElem?_getD,List.getElem?_eq_none (by simp;omega)];rfl
theorem Fe {n:Nat} {l:List Int} {k:Int} (h:okQ n l) (h0:0≤k) (h1:k<(n:Int)) (hc:l.contains k=false):okQ n (l++ [k]):=by
 refine⟨fun i hi=> ?_,?_,by simp⟩
 ·rw[RI]
  simp at hi
  split
  ·next h2=>exact h.1 i h2
  ·rw[if_pos O];exact⟨h0,h1⟩
 ·rw[←pW h0]
  have hk:k.toNat<(marks n l).length:=by rw[nD];omega
  have h2:=List.count_set (l:=marks n l) (i:=k.toNat) (a:=true) (b:=true) hk
  have h3:(marks n l)[k.toNat]=false:=by
   have:=Aa (n:=n) (l:=l) (x:=k.toNat) O
   rw[aD hk,Int.toNat_of_nonneg h0,hc] at this
   exact this
  rw[h2,h3]
  simp[h.2.1]
theorem NK {n:Nat} (h:1≤n):okQ n [0]:=by
 refine⟨fun i hi=> ?_,?_,by simp⟩
 ·have:i=0:=by simpa using hi
  subst this
  show 0≤(0:Int)∧(0:Int)<(n:Int)
  omega
 ·have e:marks n []=List.replicate n false:=by
   apply List.ext_getElem (by simp[marks])
   intro i h1 h2
   simp[marks]
  have:=pW (n:=n) (l:= []) (k:=0) O
  rw[←show([]:List Int)++ [0]= [0] from rfl,←this,e]
  have h2:=List.count_set (l:=List.replicate n false) (i:=0) (a:=true) (b:=true) (by simp;omega)
  show((List.replicate n false).set 0 true).count true=1
  rw[h2]
  simp[List.count_replicate]
theorem Jz (n:Nat):(List.replicate n false).set 0 true=marks n [0]:=by
 have e:marks n []=List.replicate n false:=by
  apply List.ext_getElem (by simp[marks])
  intro i h1 h2
  simp[marks]
 have:=pW (n:=n) (l:= []) (k:=0) O
 rw[e] at this
 exact this
namespace T
theorem gV:IsSlice Tryz.prog 90 4 1:=fV kR
theorem eT:eG Tryz.prog 4:=fT kR
theorem UN:Ent Tryz.prog 143:=aN kR
theorem vT:eM Tryz.prog 90 4 1 1 [.bool false]:=iV kR kR
theorem UO:Ent Tryz.prog 109:=aN kR
end T
namespace ref04
theorem NL (x:SA) (t:Int) (h:List Bool) (ht0:0≤t) (ht1:t<2^63) (hn:x.next.length≤64) (hb:∀a,a<x.next.length→ix x.next a<(h.length:Int)):
 Fn0 Tryz.prog 143 [state x,int t,bls h] (bl (eH x t h)):=by
 refine fnI Tryz.func143 rfl rfl (fun w0 F0=> ?_)
 refine fcC (bW 0 J) (fun hS0=> ?_)
 obtain⟨hxa0,hxn0⟩:=qU hS0
 refine fcC (aV 2 J) (fun hm2=> ?_)
 refine sq (rg (bx (key:=3) (cs:= [sl 1 nE x.aP,sl 1 nE x.next]) J fun b3=>(ag (nl (th (sq (sq (rg (fP J T.cS (lP J J J T.bD (fc (aV 10 J) fun hm10=>(lnF J T.aX (mv (nl (th (bk ?_))))))))))))))))
 have hI0_0:0≤x.next.length:=by
  first|omega|simp
 have hI0_1:(List.range 0).any (fun a=>decide (0≤ix x.next a)&&has t (a:Int)&&ix h (ix x.next a).toNat)=false:=by
  simp
 refine lp (κ:=Nat) (fun p=> [(1,int t),(2,sl 1 blE h),(10,sl 1 nE x.next),(11,int (x.next.length:Int)),(12,int (p:Int))]) (fun p=> [(3,cell b3 [sl 1 nE x.aP,sl 1 nE x.next])]) (fun p=>(p≤x.next.length)∧((List.range p).any (fun a=>decide (0≤ix x.next a)&&has t (a:Int)&&ix h (ix x.next a).toNat)=false)) (fun p=>x.next.length- p) 0 ⟨hI0_0,hI0_1⟩ ⟨id,id,id,id,id,tV⟩ ⟨rI,tV⟩ ?_
 intro k hG0
 obtain⟨hk0,hI0⟩:(k≤x.next.length)∧((List.range k).any (fun a=>decide (0≤ix x.next a)&&has t (a:Int)&&ix h (ix x.next a).toNat)=false):=hG0
 refine sq (rg (bi J J aO (nl (th (sq ?_)))))
 refine cd J (fun hc0=> ?_) (fun hc0=> ?_)
 ·try simp at hc0
  refine sk (th (sq (bk (sq (rg (mv (iF J J T.aX O gB (lF J J T.aF (ag (ag (nl (th (sq (rg (mv (bi J J fU (mv ?_)))))))))))))))))
  apply cZ (t:=19) (pd:=23) rfl
  rotate_left
  ·intro hg0 fin
   have hg0':=hg0
   try simp at hg0'
   exact gy J J J hg0 (mv (gy J J J hg0 (mv (gy J J J hg0 (bB (φs:= [int t,int (k:Int)]) (φ:=bl (has t (k:Int))) ⟨J,J,tV⟩ (ref01.EZ _ _ O O O O) T.Jw (pkT J hg0 J (drp (X:= [(22,_),(21,_),(20,_)]) ⟨J,J,J,tV⟩ fin)))))))
  ·intro hg0 fin
   exact gn J J J hg0 J J (gn J J J hg0 J J (gn J J J hg0 J J (pkF J hg0 J (drp (X:= [(22,_),(21,_),(20,_)]) ⟨J,J,J,tV⟩ fin))))
  refine mv ?_
  apply cZ (t:=24) (pd:=29) rfl
  rotate_left
  ·intro hg1 fin
   have hg1':=hg1
   try simp at hg1'
   have hbk:=hb k O
   exact gy J J J hg1 (mv (gy J J J hg1 (mv (gy J J J hg1 (iF J J T.gV O gB (gy J J J hg1 (lF J J T.eT (pkT J hg1 J (drp (X:= [(28,_),(27,_),(26,_),(25,_)]) ⟨J,J,J,J,tV⟩ fin)))))))))
  ·intro hg1 fin
   exact gn J J J hg1 J J (gn J J J hg1 J J (gn J J J hg1 J J (gn J J J hg1 J J (pkF J hg1 J (drp (X:= [(28,_),(27,_),(26,_),(25,_)]) ⟨J,J,J,J,tV⟩ fin)))))
  refine nl (th ?_)
  refine cd J (fun hc1=> ?_) (fun hc1=> ?_)
  ·try simp at hc1
   refine sq (rg (ag (nl (th (rt (rb (rt_ (rt_ (rb (rt_ ?_))))))))))
   have hr0:true=(eH x t h):=by
    unfold eH
    rw[Ek (i:=k) O]
    simp only [hc1];simp
   exact rE () [.tmp 6] J [bl true] ⟨.tmp J,tV⟩ (cA1 (fun x0=>rV [bl x0]) hr0) trivial eX
  ·try simp at hc1
   refine sk (eb (th (rg (bi J J (aG i6) (mv (nl ?_))))))
   have hN0:(k+1)≤x.next.length:=by
    first|omega|simp_all
   have hN1:(List.range (k+1)).any (fun a=>decide (0≤ix x.next a)&&has t (a:Int)&&ix h (ix x.next a).toNat)=false:=by
    rw[Cs,hI0]
    cases hq:(decide (0≤ix x.next k)&&has t (k:Int)&&ix h (ix x.next k).toNat)
    ·rfl
    ·simp at hq
     have:=hc1 hq.1.1 hq.1.2
     rw[hq.2] at this;cases this
   exact ln (k+1) ⟨hN0,hN1⟩ dO ⟨id,id,id,id,id,tV⟩ ⟨rI,tV⟩
 ·try simp at hc0
  refine ex (xt_ (xt_ (xb (th (sq (rg (ag (nl (th (rt ?_))))))))))
  have hr0:false=(eH x t h):=by
   unfold eH
   rw[show x.next.length=k by omega,hI0]
  exact rE () [.tmp 6] J [bl false] ⟨.tmp J,tV⟩ (cA1 (fun x0=>rV [bl x0]) hr0) trivial eX
theorem JA (x:SA) (h:List Bool) {n:Nat} (hx:okState x h.length n∧n≤8):
 Fn0 Tryz.prog 109 [state x,bls h] (bl (fL x h)):=by
 refine fnI Tryz.func109 rfl rfl (fun w0 F0=> ?_)
 have hxl:=hx.1.len
 refine fcC (bW 0 J) (fun hS0=> ?_)
 obtain⟨hxa0,hxn0⟩:=qU hS0
 refine fcC (aV 1 J) (fun hm1=> ?_)
 refine sq (rg (bx (key:=2) (cs:= [sl 1 nE x.aP,sl 1 nE x.next]) J fun b2=>(ag (nl (th (sq (sq (rg (fP J T.cK (lP J J J T.bD (fc (aV 8 J) fun hm8=>(lnF J T.aX (mv (nl (th (bk ?_))))))))))))))))
 have hI0_0:0≤x.aP.length:=by
  first|omega|simp
 have hI0_1:(x.aP.take 0).all (fun t=>eH x t h)=true:=by
  simp
 refine lp (κ:=Nat) (fun p=> [(1,sl 1 blE h),(2,ptr 2 b2 0),(8,sl 1 nE x.aP),(9,int (x.aP.length:Int)),(10,int (p:Int))]) (fun p=> [(2,cell b2 [sl 1 nE x.aP,sl 1 nE x.next])]) (fun p=>(p≤x.aP.length)∧((x.aP.take p).all (fun t=>eH x t h)=true)) (fun p=>x.aP.length- p) 0 ⟨hI0_0,hI0_1⟩ ⟨id,id,id,id,id,tV⟩ ⟨rI,tV⟩ ?_
 intro k hG0
 obtain⟨hk0,hI0⟩:(k≤x.aP.length)∧((x.aP.take k).all (fun t=>eH x t h)=true):=hG0
 refine sq (rg (bi J J aO (nl (th (sq ?_)))))
 refine cd J (fun hc0=> ?_) (fun hc0=> ?_)
 ·try simp at hc0
  have hac:=hx.1.ac k O
  refine sk (th (sq (bk (sq (rg (iF J J T.aX O gB (lF J J T.aF (ag (nl (th (sq (rg (lPA J J T.dJ J (mv (mv (bB (φs:= [agg [sl 1 nE x.aP,sl 1 nE x.next],int (ix x.aP k),sl 1 blE h]) (φ:=bl (eH x (ix x.aP k) h)) ⟨J,J,J,tV⟩ (ref04.NL x _ _ O O O (fun a ha=>(hx.1.nx a O).2)) T.UN (no J (nl (th ?_)))))))))))))))))))
  refine cd J (fun hc1=> ?_) (fun hc1=> ?_)
  ·try simp at hc1
   refine sq (rg (ag (nl (th (rt (rb (rt_ (rt_ (rb (rt_ ?_))))))))))
   have hr0:false=(fL x h):=by
    unfold fL
    rw[fX (xs:=x.aP) (k:=k) O (by simpa using hc1)]
   exact rE () [.tmp 4] J [bl false] ⟨.tmp J,tV⟩ (cA1 (fun x0=>rV [bl x0]) hr0) trivial eX
  ·try simp at hc1
   refine sk (eb (th (rg (bi J J (aG i6) (mv (nl ?_))))))
   have hN0:(k+1)≤x.aP.length:=by
    first|omega|simp_all
   have hN1:(x.aP.take (k+1)).all (fun t=>eH x t h)=true:=by
    rw[eS O,hI0]
    simpa using hc1
   exact ln (k+1) ⟨hN0,hN1⟩ dO ⟨id,id,id,id,id,tV⟩ ⟨rI,tV⟩
 ·try simp at hc0
  refine ex (xt_ (xt_ (xb (th (sq (rg (ag (nl (th (rt ?_))))))))))
  have hr0:true=(fL x h):=by
   unfold fL
   rw[show k=x.aP.length by omega,List.take_length] at hI0
   rw[hI0]
  exact rE () [.tmp 4] J [bl true] ⟨.tmp J,tV⟩ (cA1 (fun x0=>rV [bl x0]) hr0) trivial eX
theorem KU (s:SS) (h:oK s):
 Fn0 Tryz.prog 60 [spec s] (bls (hOl s)):=by
 refine fnI Tryz.func60 rfl rfl (fun w0 F0=> ?_)
 have hf0:=h.few0;have hf1:=h.few1
 refine fcC (bW 0 J) (fun hS0=> ?_)
 obtain⟨hsa0,hss0,hse0⟩:=sLn hS0
 refine sq (rg (bx (key:=1) (cs:= [sl 1 rE_ s.aC,sl 2 sE s.sT]) J fun b1=>(ag (nl (th (sq (rg (fP J T.bL (lP J J J T.bT (fc (aV 8 J) fun hm8=>(lnF J T.cO (mk (key:=10) (m:=s.sT.length) (enc:=blE) (y:=false) J J T.vT (eC eZ) mL mL fun v10=>(ag (nl (th (sq (sq (rg (ag (nl (th (bk ?_))))))))))))))))))))))
 have hI0_0:(List.replicate s.sT.length false).length=s.sT.length∧(∀x,ix (List.replicate s.sT.length false) x=true→Hol s x)∧(true=false→∀x,x<s.sT.length→fL (ix s.sT x) (List.replicate s.sT.length false)=true→ix (List.replicate s.sT.length false) x=true):=by
  refine⟨by simp,fun x hx=> ?_,by simp⟩
  unfold ix at hx
  rw[List.getD_eq_getElem?_getD] at hx
  rw[List.getElem?_replicate] at hx
  split at hx<;>simp at hx
 refine lp (κ:=Bool × (List Bool)) (fun p=> [(1,ptr 1 b1 0),(2,eqv (.slice none 0 0)),(3,osl 10 v10),(4,bl p.1)]) (fun p=> [(1,cell b1 [sl 1 rE_ s.aC,sl 2 sE s.sT]),(10,own v10 4 1 blE p.2)]) (fun p=>p.2.length=s.sT.length∧(∀x,ix p.2 x=true→Hol s x)∧(p.1=false→∀x,x<s.sT.length→fL (ix s.sT x) p.2=true→ix p.2 x=true)) (fun p=>2*p.2.count false+p.1.toNat) ⟨true,List.replicate s.sT.length false⟩ hI0_0 ⟨id,id,id,id,tV⟩ ⟨rI,rI,tV⟩ ?_
 intro⟨b,l⟩ hG0
 have hI0:l.length=s.sT.length∧(∀x,ix l x=true→Hol s x)∧(b=false→∀x,x<s.sT.length→fL (ix s.sT x) l=true→ix l x=true):=hG0
 show Ct _ _ _ _ [(1,ptr 1 b1 0),(2,eqv (.slice none 0 0)),(3,osl 10 v10),(4,bl b)] [(1,cell b1 [sl 1 rE_ s.aC,sl 2 sE s.sT]),(10,own v10 4 1 blE l)] _
 refine sq (sq (rg (mv (nl (th ?_)))))
 refine cd J (fun hc0=> ?_) (fun hc0=> ?_)
 ·try simp at hc0
  refine sk (th (bk (sq (rg (ag (nl (th (sq (rg (fP J T.bL (lP J J J T.bT (lnF J T.cO (mv (nl (th (bk ?_))))))))))))))))
  have hI1_0:0≤s.sT.length:=by
   first|omega|simp
  have hI1_1:l.length=s.sT.length∧(∀x,ix l x=true→Hol s x)∧(false=false→l=l∧∀x,x<0→fL (ix s.sT x) l=true→ix l x=true)∧(false=true→l.count false<l.count false):=by
   exact⟨hI0.1,hI0.2.1,fun _=>⟨rfl,fun x hx=>by omega⟩,fun h=>by cases h⟩
  refine lp (κ:=Nat × Bool × (List Bool)) (fun p=> [(1,ptr 1 b1 0),(2,eqv (.slice none 0 0)),(3,osl 10 v10),(4,bl p.2.1),(13,sl 2 sE s.sT),(14,int (s.sT.length:Int)),(15,int (p.1:Int))]) (fun p=> [(1,cell b1 [sl 1 rE_ s.aC,sl 2 sE s.sT]),(10,own v10 4 1 blE p.2.2)]) (fun p=>(p.1≤s.sT.length)∧(p.2.2.length=s.sT.length∧(∀x,ix p.2.2 x=true→Hol s x)∧(p.2.1=false→p.2.2=l∧∀x,x<p.1→fL (ix s.sT x) l=true→ix l x=true)∧(p.2.1=true→p.2.2.count false<l.count false))) (fun p=>s.sT.length- p.1) ⟨0,false,l⟩ ⟨hI1_0,hI1_1⟩ ⟨id,id,id,id,id,id,id,tV⟩ ⟨rI,rI,tV⟩ ?_
  intro⟨k1,g1x,l1⟩ hG1
  obtain⟨hk1,hI1⟩:(k1≤s.sT.length)∧(l1.length=s.sT.length∧(∀x,ix l1 x=true→Hol s x)∧(g1x=false→l1=l∧∀x,x<k1→fL (ix s.sT x) l=true→ix l x=true)∧(g1x=true→l1.count false<l.count false)):=hG1
  show Ct _ _ _ _ [(1,ptr 1 b1 0),(2,eqv (.slice none 0 0)),(3,osl 10 v10),(4,bl g1x),(13,sl 2 sE s.sT),(14,int (s.sT.length:Int)),(15,int (k1:Int))] [(1,cell b1 [sl 1 rE_ s.aC,sl 2 sE s.sT]),(10,own v10 4 1 blE l1)] _
  refine sq (rg (bi J J aO (nl (th (sq ?_)))))
  refine cd J (fun hc1=> ?_) (fun hc1=> ?_)
  ·try simp at hc1
   refine sk (th (sq (bk (sq (rg (mv (iF J J T.cO O gB (lFA J T.dJ (Nat.le_of_ble_eq_true J) (al (key:=6) T.z79 (eC (eC eZ)) fun b6=>(ag (sPA (cs':= [sl 1 nE (ix s.sT k1).aP,sl 1 nE (ix s.sT k1).next]) J J J T.dJ J J (nl (th (sq (rg (mv (mv (iO J J J T.gV O O (lO J J gB J T.eT (no J (mv ?_)))))))))))))))))))))
   apply cZ (t:=25) (pd:=29) rfl
   rotate_left
   ·intro hg0 fin
    have hg0':=hg0
    try simp at hg0'
    exact gy J J J hg0 (lPA J J T.dJ J (gy J J J hg0 (mv (gy J J J hg0 (Yn (φs:= [agg [sl 1 nE (ix s.sT k1).aP,sl 1 nE (ix s.sT k1).next],sl 1 blE l1]) ⟨.here J,.own 10 J J,tV⟩ (ref04.JA (ix s.sT k1) _ (n:=s.aC.length) ⟨by rw[hI1.1];exact h.st k1 O,h.n8⟩) T.UO (pkT J hg0 J (drp (X:= [(28,_),(27,_),(26,_)]) ⟨J,J,J,tV⟩ fin)))))))
   ·intro hg0 fin
    exact gn J J J hg0 J J (gn J J J hg0 J J (gn J J J hg0 J J (pkF J hg0 J (drp (X:= [(28,_),(27,_),(26,_)]) ⟨J,J,J,tV⟩ fin))))
   refine nl (th ?_)
   refine cd J (fun hc2=> ?_) (fun hc2=> ?_)
   ·try simp at hc2
    refine rg (mv (mv (iO J J J T.gV O O (sO (φ:=bl true) J J J T.eT gB J (y':=true) J (ag (nl (eb (th (rg (bi J J (aG i6) (mv (nl ?_))))))))))))
    have hN0:(k1+1)≤s.sT.length:=by
     first|omega|simp_all
    have hN1:(l1.set k1 true).length=s.sT.length∧(∀x,ix (l1.set k1 true) x=true→Hol s x)∧(true=false→(l1.set k1 true)=l∧∀x,x<(k1+1)→fL (ix s.sT x) l=true→ix l x=true)∧(true=true→(l1.set k1 true).count false<l.count false):=by
     have hlt:k1<l1.length:=by omega
     refine⟨by simp[hI1.1],fun x hx=> ?_,fun h=>(by cases h),fun _=> ?_⟩
     ·rw[kA hlt] at hx
      split at hx
      ·next e=>subst e;exact nS s _ (by omega) (fun i hi=>by
         obtain⟨a,q1,q2,g3,g4⟩:=zK.1 hc2.2 i hi
         exact⟨a,q1,q2,g3,hI1.2.1 _ g4⟩)
      ·exact hI1.2.1 x hx
     ·have h1:=count_set hlt hc2.1
      cases g1x with
      |true=>have:=hI1.2.2.2 rfl;omega
      |false=>have:=(hI1.2.2.1 rfl).1;subst this;exact h1
    exact ln (⟨k1+1,true,l1.set k1 true⟩:Nat × Bool × (List Bool)) ⟨hN0,hN1⟩ dO ⟨id,id,id,id,id,id,id,tV⟩ ⟨rI,rI,tV⟩
   ·try simp at hc2
    refine sk (eb (th (rg (bi J J (aG i6) (mv (nl ?_))))))
    have hN0:(k1+1)≤s.sT.length:=by
     first|omega|simp_all
    have hN1:l1.length=s.sT.length∧(∀x,ix l1 x=true→Hol s x)∧(g1x=false→l1=l∧∀x,x<(k1+1)→fL (ix s.sT x) l=true→ix l x=true)∧(g1x=true→l1.count false<l.count false):=by
     refine⟨hI1.1,hI1.2.1,fun hb=>⟨(hI1.2.2.1 hb).1,fun x hx hf=> ?_⟩,hI1.2.2.2⟩
     by_cases e:x=k1
     ·subst e
      have he:=(hI1.2.2.1 hb).1
      subst he
      cases hq:ix l1 x
      ·have:=hc2 hq;rw[hf] at this;cases this
      ·rfl
     ·exact(hI1.2.2.1 hb).2 x O hf
    exact ln (⟨k1+1,g1x,l1⟩:Nat × Bool × (List Bool)) ⟨hN0,hN1⟩ dO ⟨id,id,id,id,id,id,id,tV⟩ ⟨rI,rI,tV⟩
  ·try simp at hc1
   refine ex (xt_ (xt_ (xb (eb ?_))))
   have hN0:l1.length=s.sT.length∧(∀x,ix l1 x=true→Hol s x)∧(g1x=false→∀x,x<s.sT.length→fL (ix s.sT x) l1=true→ix l1 x=true):=by
    refine⟨hI1.1,hI1.2.1,fun hb x hx hf=> ?_⟩
    obtain⟨e,h3⟩:=hI1.2.2.1 hb
    subst e
    exact h3 x O hf
   exact ln (⟨g1x,l1⟩:Bool × (List Bool)) hN0 (by cases g1x with
    |true=>have:=hI1.2.2.2 rfl;subst hc0;simp;omega
    |false=>have:=(hI1.2.2.1 rfl).1;subst this;subst hc0;simp) ⟨id,id,id,id,tV⟩ ⟨rI,rI,tV⟩
 ·try simp at hc0
  refine ex (xt_ (xt_ (xb (th (sq (rg (mv (ag (nl (th (rt ?_)))))))))))
  refine fzA 10 2 rfl rfl ?_
  have hr0:l=(hOl s):=by
   exact KT hI0.1 hI0.2.1 (hI0.2.2 hc0)
  exact rE () [.tmp 2] J [sl 1 blE l] ⟨.tmp J,tV⟩ (cA1 (fun x0=>rV [sl 1 blE x0]) hr0) trivial eX
end ref04
end
section
namespace Part
def qV (rel:Nat→Nat→Bool):Nat→List Int × List Int
 |0=>([],[])
 |k+1=>match(qV rel k).2.findIdx? (fun y=>rel k y.toNat) with
  |some j=>((qV rel k).1++ [(j:Int)],(qV rel k).2)
  |none=>((qV rel k).1++ [((qV rel k).2.length:Int)],(qV rel k).2++ [(k:Int)])
structure YJ (n:Nat) (rel:Nat→Nat→Bool):Prop where
 refl:∀x,x<n→rel x x=true
 symm:∀x y,x<n→y<n→rel x y=true→rel y x=true
 trans:∀x y z,x<n→y<n→z<n→rel x y=true→rel y z=true→rel x z=true
structure YD (rel:Nat→Nat→Bool) (k:Nat) (nx fs:List Int):Prop where
 len:nx.length=k
 fs0:∀j,j<fs.length→0≤ix fs j∧ix fs j<(k:Int)
 at_:∀j,j<fs.length→ix nx (ix fs j).toNat=(j:Int)
 cls:∀x,x<k→0≤ix nx x∧ix nx x<(fs.length:Int)∧rel x (ix fs (ix nx x).toNat).toNat=true
 dis:∀i j,i<fs.length→j<fs.length→rel (ix fs i).toNat (ix fs j).toNat=true→i=j
end Part
end
section
open ref01 ref03 ref04 Part
def RJ (class_:List Int) (k j:Int):Bool:=(decide (k<0) !=decide (j<0))||(decide (0≤k)&&decide (ix class_ k.toNat≠ix class_ j.toNat))
def KV (class_:List Int) (a b:List Int):Bool:=(List.range a.length).all fun i=> !RJ class_ (ix a i) (ix b i)
def alike (s:SS) (class_:List Int) (x y:Nat):Bool:=decide (ix class_ x=ix class_ y)&&decide ((ix s.sT x).aP=(ix s.sT y).aP)&&KV class_ (ix s.sT x).next (ix s.sT y).next
theorem bS {α:Type} [Inhabited α] {f:Nat→α} {n x:Nat} (h:x<n):ix ((List.range n).map f) x=f x:=by
 rw[aD (by simpa using h)];simp
theorem fY {s:SS} {x:Nat} (h:x<s.sT.length):ix (aW s).sT x=vS s x:=bS h
theorem gH (s:SS):(aW s).sT.length=s.sT.length:=by simp[aW]
theorem RL (x:SA) (u:Int):(cut x u).length=x.next.length:=by simp[cut]
theorem xJ {x:SA} {u:Int} {a:Nat} (h:a<x.next.length):ix (cut x u) a=if has u (a:Int) then ix x.next a else-1:=bS h
theorem lL {s:SS} (h:oK s) {x:Nat} (hx:x<s.sT.length):(ix (aW s).sT x).next.length=s.aC.length:=by
 rw[fY hx]
 show(cut _ _).length=_
 rw[RL];exact(h.st x hx).len
theorem Ff {s:SS} (h:oK s) {x:Nat} (hx:x<s.sT.length) {a:Nat} (ha:a<(ix (aW s).sT x).next.length):ix (ix (aW s).sT x).next a<(s.sT.length:Int):=by
 rw[lL h hx] at ha
 rw[fY hx]
 show ix (cut _ _) a<_
 rw[xJ (by rw[(h.st x hx).len];exact ha)]
 split
 ·exact((h.st x hx).nx a ha).2
 ·omega
noncomputable def itR (s:SS):Nat→List Int × Nat
 |0=>(List.replicate s.sT.length 0,0)
 |i+1=>((qV (alike (aW s) (itR s i).1) s.sT.length).1,(qV (alike (aW s) (itR s i).1) s.sT.length).2.length)
theorem Dp {n:Nat}:∀(ks l:List Int),okQ n l→(∀i,i<ks.length→ix ks i<(n:Int))→okQ n (visit l ks)
 | [],l,h,_=>h
 |k::ks,l,h,hk=>by
  have hk0:k<(n:Int):=hk 0 (by simp)
  have ht:∀i,i<ks.length→ix ks i<(n:Int):=fun i hi=>hk (i+1) (by simpa using hi)
  show okQ n (visit (if decide (0≤k)&& !l.contains k then l++ [k] else l) ks)
  refine Dp ks _ ?_ ht
  split
  ·next hc=>
   simp only [Bool.and_eq_true,decide_eq_true_eq,Bool.not_eq_true'] at hc
   exact Fe h hc.1 hk0 hc.2
  ·exact h
theorem Fg {s:SS} (h1:1≤s.sT.length) (hn:∀k,k<s.sT.length→∀a,a<(ix s.sT k).next.length→ix (ix s.sT k).next a<(s.sT.length:Int)):∀i,okQ s.sT.length (bq s i)
 |0=>NK h1
 |i+1=>by
  have ih:=Fg h1 hn i
  unfold bq
  split
  ·next hi=>
   have:=ih.1 i hi
   exact Dp _ _ ih (fun a ha=>hn _ O a ha)
  ·exact ih
theorem xK {s:SS} (h:oK s):okQ s.sT.length (order (aW s)):=by
 have:=Fg (s:=aW s) (by rw[gH];exact h.few0) (fun k hk a ha=>by rw[gH] at hk ⊢;exact Ff h hk ha) (aW s).sT.length
 rw[gH] at this
 unfold order
 rw[gH];exact this
namespace ref06
end ref06
end
section
open ref01 ref03 ref04 ref06 Part
theorem Bj (l:List ByteArray) (s:ByteArray):(0≤indexOf l s↔s∈l):=by
 unfold indexOf
 cases h:l.findIdx? (fun x=>decide (x=s)) with
 |none=>
  rw[List.findIdx?_eq_none_iff] at h
  simp
  intro hm
  have:=h s hm
  simp at this
 |some i=>
  rw[List.findIdx?_eq_some_iff_getElem] at h
  obtain⟨h1,h2,_⟩:=h
  simp at h2
  simp
  rw[←h2];exact List.getElem_mem h1
theorem QT {s:ByteArray} (h:¬s=⟨#[]⟩):1≤s.size:=by
 rcases Nat.eq_zero_or_pos s.size with h0|h0
 ·exact absurd (by
   cases s with
   |mk d=>simp[ByteArray.size] at h0;simp[h0]) h
 ·exact h0
theorem xL {l:List ByteArray} {k:Nat} (hk:k<l.length):(indexOf l (ix l k)=(k:Int))↔¬ix l k∈l.take k:=by
 unfold indexOf
 cases h:l.findIdx? (fun x=>decide (x=ix l k)) with
 |none=>
  rw[List.findIdx?_eq_none_iff] at h
  have:=h (ix l k) (by rw[aD hk];exact List.getElem_mem hk)
  simp at this
 |some i=>
  rw[List.findIdx?_eq_some_iff_getElem] at h
  obtain⟨h1,h2,h3⟩:=h
  simp at h2
  constructor
  ·intro e hm
   have e:(i:Int)=(k:Int):=e
   have e:i=k:=by omega
   subst e
   obtain⟨j,hj,he⟩:=List.mem_take_iff_getElem.1 hm
   have:=h3 j O
   simp at this
   exact this he
  ·intro hn
   rcases Nat.lt_trichotomy i k with hlt|e|hgt
   ·exact absurd (List.mem_take_iff_getElem.2 ⟨i,O,h2⟩) hn
   ·simp[e]
   ·have:=h3 k hgt
    rw[aD hk] at this
    simp at this
namespace T
theorem KW:Ent Tryz.prog 178:=aN kR
theorem UQ:Ent Tryz.prog 179:=aN kR
theorem UR:Ent Tryz.prog 145:=aN kR
theorem US:Ent Tryz.prog 146:=aN kR
end T
namespace prog
theorem Bl (c:Int):
 Fn0 Tryz.prog 178 [u8 c] (bl (fW c)):=by
 refine fnI Tryz.func178 rfl rfl (fun w0 F0=> ?_)
 refine sq (rg (ag (nl (th (sq (rg (mv (bi J J fU (mv ?_)))))))))
 apply cZ (t:=5) (pd:=8) rfl
 rotate_left
 ·intro hg0 fin
  have hg0':=hg0
  try simp at hg0'
  exact gy J J J hg0 (mv (gy J J J hg0 (bi J J nN (pkT J hg0 J (drp (X:= [(7,_),(6,_)]) ⟨J,J,tV⟩ fin)))))
 ·intro hg0 fin
  exact gn J J J hg0 J J (gn J J J hg0 J J (pkF J hg0 J (drp (X:= [(7,_),(6,_)]) ⟨J,J,tV⟩ fin)))
 refine mv ?_
 apply gOr (t:=9) (pd:=16) rfl
 rotate_left
 ·intro hg1 fin
  have hg1':=hg1
  try simp at hg1'
  refine gy rfl rfl rfl hg1 (mv (gy rfl rfl rfl hg1 (bi rfl rfl fU (gy rfl rfl rfl hg1 (mv ?_)))))
  apply cZ (t:=12) (pd:=15) rfl
  rotate_left
  ·intro hg2 fin
   have hg2':=hg2
   try simp at hg2'
   exact gy J J J hg2 (mv (gy J J J hg2 (bi J J nN (gy J J J hg1 (pkT J hg2 J (drp (X:= [(14,_),(13,_)]) ⟨J,J,tV⟩ fin))))))
  ·intro hg2 fin
   exact gn J J J hg2 J J (gn J J J hg2 J J (gy J J J hg1 (pkF J hg2 J (drp (X:= [(14,_),(13,_)]) ⟨J,J,tV⟩ fin))))
  exact pkF rfl hg1 rfl (drp (X:= [(15,_),(12,_),(11,_),(10,_)]) ⟨rfl,rfl,rfl,rfl,tV⟩ fin)
 ·intro hg1 fin
  exact gn J J J hg1 J J (gn J J J hg1 J J (gn J J J hg1 J J (gu J J J J J (gu J J J J J (gn J J J hg1 J J (pkT J hg1 J (drp (X:= [(15,_),(14,_),(13,_),(12,_),(11,_),(10,_)]) ⟨J,J,J,J,J,J,tV⟩ fin)))))))
 refine ag (nl (th (rt ?_)))
 have hr0:(((decide (97≤c))&&(decide (c≤122)))||((decide (65≤c))&&(decide (c≤90))))=(fW c):=by
  first|rfl|simp_all|omega
 exact rE () [.tmp 2] J [bl (((decide (97≤c))&&(decide (c≤122)))||((decide (65≤c))&&(decide (c≤90))))] ⟨.tmp J,tV⟩ (cA1 (fun x0=>rV [bl x0]) hr0) trivial eX
theorem NM (s:ByteArray):
 Fn0 Tryz.prog 145 [str s] (bl (dU s)):=by
 refine fnI Tryz.func145 rfl rfl (fun w0 F0=> ?_)
 refine sq (rg (ag (nl (th (sq (sq (rg (mv (bi J J EH (mv ?_))))))))))
 apply gOr (t:=7) (pd:=11) rfl
 rotate_left
 ·intro hg0 fin
  have hg0':=hg0
  try simp at hg0'
  exact gy J J J hg0 (mv (gy J J J hg0 (lnS J T.vQ (gy J J J hg0 (bi J J fN (pkF J hg0 J (drp (X:= [(10,_),(9,_),(8,_)]) ⟨J,J,J,tV⟩ fin)))))))
 ·intro hg0 fin
  exact gn J J J hg0 J J (gn J J J hg0 J J (gn J J J hg0 J J (pkT J hg0 J (drp (X:= [(10,_),(9,_),(8,_)]) ⟨J,J,J,tV⟩ fin))))
 refine mv ?_
 apply gOr (t:=12) (pd:=17) rfl
 rotate_left
 ·intro hg1 fin
  have hg1':=hg1
  try simp at hg1'
  have hs1:1≤s.size:=QT (fun e=>by rw[decide_eq_true e] at hg1;cases hg1)
  exact gy J J J hg1 (mv (gy J J J hg1 (Jq J J T.vQ O O (gy J J J hg1 (bB (φs:= [u8 (dY s 0)]) (φ:=bl (fW (dY s 0))) ⟨J,tV⟩ (prog.Bl _) T.KW (gy J J J hg1 (no J (pkF J hg1 J (drp (X:= [(16,_),(15,_),(14,_),(13,_)]) ⟨J,J,J,J,tV⟩ fin)))))))))
 ·intro hg1 fin
  exact gn J J J hg1 J J (gn J J J hg1 J J (gn J J J hg1 J J (gn J J J hg1 J J (pkT J hg1 J (drp (X:= [(16,_),(15,_),(14,_),(13,_)]) ⟨J,J,J,J,tV⟩ fin)))))
 refine nl (th ?_)
 refine cd J (fun hc0=> ?_) (fun hc0=> ?_)
 ·try simp at hc0
  refine sq (rg (ag (nl (th (rt (rt_ ?_))))))
  have hr0:false=(dU s):=by
   unfold dU
   by_cases h0:1≤s.size
   ·by_cases h2:s.size≤20
    ·by_cases h1:fW (dY s 0)=true
     ·exfalso
      rcases hc0 with(h|h)|h
      ·subst h;simp[ByteArray.size] at h0
      ·omega
      ·rw[h1] at h;cases h
     ·simp[h1]
    ·simp[h2]
   ·simp[h0]
  exact rE () [.tmp 2] J [bl false] ⟨.tmp J,tV⟩ (cA1 (fun x0=>rV [bl x0]) hr0) trivial eX
 ·try simp at hc0
  have hs1:1≤s.size:=QT (by simpa using hc0.1.1)
  refine sk (th (sq (sq (rg (mv (lnS J T.vQ (mv (nl (th (bk ?_))))))))))
  have hI0_0:0≤s.size:=by
   first|omega|simp
  have hI0_1:(List.range 0).all (fun i=>gU (dY s i))=true:=by
   simp
  refine lp (κ:=Nat) (fun p=> [(0,str s),(19,int (s.size:Int)),(20,int (p:Int))]) (fun p=> []) (fun p=>(p≤s.size)∧((List.range p).all (fun i=>gU (dY s i))=true)) (fun p=>s.size- p) 0 ⟨hI0_0,hI0_1⟩ ⟨id,id,id,tV⟩ trivial ?_
  intro k hG0
  obtain⟨hk0,hI0⟩:(k≤s.size)∧((List.range k).all (fun i=>gU (dY s i))=true):=hG0
  refine sq (rg (bi J J aO (nl (th (sq ?_)))))
  refine cd J (fun hc1=> ?_) (fun hc1=> ?_)
  ·try simp at hc1
   refine sk (th (sq (bk (sq (rg (mv (ag (nl (th (sq (rg (mv (mv (Jq J J T.vQ O O (ag (nl (th (sq (rg (mv (bB (φs:= [u8 (dY s k)]) (φ:=bl (fW (dY s k))) ⟨J,tV⟩ (prog.Bl _) T.KW (no J (mv ?_)))))))))))))))))))))))
   apply cZ (t:=29) (pd:=36) rfl
   rotate_left
   ·intro hg2 fin
    have hg2':=hg2
    try simp at hg2'
    refine gy rfl rfl rfl hg2 (mv (gy rfl rfl rfl hg2 (bi rfl rfl aO (gy rfl rfl rfl hg2 (mv ?_)))))
    apply gOr (t:=32) (pd:=35) rfl
    rotate_left
    ·intro hg3 fin
     have hg3':=hg3
     try simp at hg3'
     exact gy J J J hg3 (mv (gy J J J hg3 (bi J J fN (gy J J J hg2 (pkF J hg3 J (drp (X:= [(34,_),(33,_)]) ⟨J,J,tV⟩ fin))))))
    ·intro hg3 fin
     exact gn J J J hg3 J J (gn J J J hg3 J J (gy J J J hg2 (pkT J hg3 J (drp (X:= [(34,_),(33,_)]) ⟨J,J,tV⟩ fin))))
    exact pkT rfl hg2 rfl (drp (X:= [(35,_),(32,_),(31,_),(30,_)]) ⟨rfl,rfl,rfl,rfl,tV⟩ fin)
   ·intro hg2 fin
    exact gn J J J hg2 J J (gn J J J hg2 J J (gn J J J hg2 J J (gu J J J J J (gu J J J J J (gn J J J hg2 J J (pkF J hg2 J (drp (X:= [(35,_),(34,_),(33,_),(32,_),(31,_),(30,_)]) ⟨J,J,J,J,J,J,tV⟩ fin)))))))
   refine mv ?_
   apply cZ (t:=37) (pd:=40) rfl
   rotate_left
   ·intro hg4 fin
    have hg4':=hg4
    try simp at hg4'
    exact gy J J J hg4 (mv (gy J J J hg4 (bi J J fI (pkT J hg4 J (drp (X:= [(39,_),(38,_)]) ⟨J,J,tV⟩ fin)))))
   ·intro hg4 fin
    exact gn J J J hg4 J J (gn J J J hg4 J J (pkF J hg4 J (drp (X:= [(39,_),(38,_)]) ⟨J,J,tV⟩ fin)))
   refine mv ?_
   apply cZ (t:=41) (pd:=44) rfl
   rotate_left
   ·intro hg5 fin
    have hg5':=hg5
    try simp at hg5'
    exact gy J J J hg5 (mv (gy J J J hg5 (bi J J fI (pkT J hg5 J (drp (X:= [(43,_),(42,_)]) ⟨J,J,tV⟩ fin)))))
   ·intro hg5 fin
    exact gn J J J hg5 J J (gn J J J hg5 J J (pkF J hg5 J (drp (X:= [(43,_),(42,_)]) ⟨J,J,tV⟩ fin)))
   refine nl (th ?_)
   refine cd J (fun hc2=> ?_) (fun hc2=> ?_)
   ·try simp at hc2
    refine sq (rg (ag (nl (th (rt (rb (rt_ (rt_ (rb (rt_ ?_))))))))))
    have hr0:false=(dU s):=by
     unfold dU
     rw[jC (i:=k) O ?_]
     ·simp
     ·simp[gU,hc2.1.1.1]
      omega
    exact rE () [.tmp 2] J [bl false] ⟨.tmp J,tV⟩ (cA1 (fun x0=>rV [bl x0]) hr0) trivial eX
   ·try simp at hc2
    refine sk (eb (th (rg (bi J J (aG i6) (mv (nl ?_))))))
    have hN0:(k+1)≤s.size:=by
     first|omega|simp_all
    have hN1:(List.range (k+1)).all (fun i=>gU (dY s i))=true:=by
     rw[jO,hI0]
     simp[gU]
     by_cases h1:fW (dY s k)=true
     ·simp[h1]
     ·simp[h1] at hc2
      simp[h1]
      omega
    exact ln (k+1) ⟨hN0,hN1⟩ dO ⟨id,id,id,tV⟩ trivial
  ·try simp at hc1
   refine ex (xt_ (xt_ (xb (th (sq (rg (ag (nl (th (rt ?_))))))))))
   have hr0:true=(dU s):=by
    unfold dU
    rw[show s.size=k by omega,hI0]
    simp[hc0.2]
    omega
   exact rE () [.tmp 2] J [bl true] ⟨.tmp J,tV⟩ (cA1 (fun x0=>rV [bl x0]) hr0) trivial eX
theorem KX (l:List ByteArray) (s:ByteArray):
 Fn0 Tryz.prog 179 [strs l,str s] (int (indexOf l s)):=by
 refine fnI Tryz.func179 rfl rfl (fun w0 F0=> ?_)
 refine fcC (aV 0 J) (fun hm0=> ?_)
 refine sq (rg (ag (nl (th (sq (sq (rg (mv (lnF J T.eD (mv (nl (th (bk ?_)))))))))))))
 have hI0_0:0≤l.length:=by
  first|omega|simp
 have hI0_1:∀x∈l.take 0,x≠s:=by
  simp
 refine lp (κ:=Nat) (fun p=> [(0,sl 1 rE_ l),(1,str s),(7,int (l.length:Int)),(8,int (p:Int))]) (fun p=> []) (fun p=>(p≤l.length)∧(∀x∈l.take p,x≠s)) (fun p=>l.length- p) 0 ⟨hI0_0,hI0_1⟩ ⟨id,id,id,id,tV⟩ trivial ?_
 intro k hG0
 obtain⟨hk0,hI0⟩:(k≤l.length)∧(∀x∈l.take k,x≠s):=hG0
 refine sq (rg (bi J J aO (nl (th (sq ?_)))))
 refine cd J (fun hc0=> ?_) (fun hc0=> ?_)
 ·try simp at hc0
  refine sk (th (sq (bk (sq (rg (mv (ag (nl (th (sq (rg (mv (mv (mv (iF J J T.eD O gB (lF J J T.xF (bi J J EH (nl (th ?_)))))))))))))))))))
  refine cd J (fun hc1=> ?_) (fun hc1=> ?_)
  ·try simp at hc1
   refine sq (rg (mv (ag (nl (th (rt (rb (rt_ (rt_ (rb (rt_ ?_)))))))))))
   have hr0:((k:Int):Int)=(indexOf l s):=by
    unfold indexOf
    have:l.findIdx? (fun x=>decide (x=s))=some k:=by
     rw[List.findIdx?_eq_some_iff_getElem]
     refine⟨O,by simpa [aD (show k<l.length by omega)] using hc1.symm,fun j hj=> ?_⟩
     have:=hI0 l[j] (List.mem_take_iff_getElem.2 ⟨j,O,rfl⟩)
     simpa using this
    rw[this]
   exact rE () [.tmp 4] J [int (k:Int)] ⟨.tmp J,tV⟩ (cA1 (fun x0=>rV [int x0]) hr0) trivial eX
  ·try simp at hc1
   refine sk (eb (th (rg (bi J J (aG i6) (mv (nl ?_))))))
   have hN0:(k+1)≤l.length:=by
    first|omega|simp_all
   have hN1:∀x∈l.take (k+1),x≠s:=by
    rw[bM O]
    intro x hx
    rcases List.mem_append.1 hx with hx|hx
    ·exact hI0 x hx
    ·simp at hx;subst hx;exact fun e=>hc1 e.symm
   exact ln (k+1) ⟨hN0,hN1⟩ dO ⟨id,id,id,id,tV⟩ trivial
 ·try simp at hc0
  refine ex (xt_ (xt_ (xb (th (sq (rg (ag (nl (th (rt ?_))))))))))
  have hr0:((-1):Int)=(indexOf l s):=by
   unfold indexOf
   have:l.findIdx? (fun x=>decide (x=s))=none:=by
    rw[List.findIdx?_eq_none_iff]
    intro x hx
    have hk2:k=l.length:=by omega
    rw[hk2,List.take_length] at hI0
    simp[hI0 x hx]
   rw[this]
  exact rE () [.tmp 4] J [int (-1)] ⟨.tmp J,tV⟩ (cA1 (fun x0=>rV [int x0]) hr0) trivial eX
theorem Fh (l:List ByteArray) (s:ByteArray):
 Fn0 Tryz.prog 146 [strs l,str s] (bl (decide (0≤indexOf l s))):=by
 refine fnI Tryz.func146 rfl rfl (fun w0 F0=> ?_)
 refine fcC (aV 0 J) (fun hm0=> ?_)
 refine sq (rg (ag (nl (th (sq (rg (mv (mv (bB (φs:= [sl 1 rE_ l,str s]) (φ:=int (indexOf l s)) ⟨J,J,tV⟩ (prog.KX _ _) T.UQ (bi J J fU (ag (nl (th (rt ?_))))))))))))))
 have hr0:(decide (0≤(indexOf l s)))=(decide (0≤indexOf l s)):=by
  first|rfl|simp_all|omega
 exact rE () [.tmp 4] J [bl (decide (0≤(indexOf l s)))] ⟨.tmp J,tV⟩ (cA1 (fun x0=>rV [bl x0]) hr0) trivial eX
theorem Dq (l:List ByteArray):
 Fn0 Tryz.prog 113 [strs l] (bl (bV l)):=by
 refine fnI Tryz.func113 rfl rfl (fun w0 F0=> ?_)
 refine fcC (aV 0 J) (fun hm0=> ?_)
 refine sq (rg (ag (nl (th (sq (sq (rg (mv (lnF J T.eD (bi J J fN (nl (th ?_))))))))))))
 refine cd J (fun hc0=> ?_) (fun hc0=> ?_)
 ·try simp at hc0
  refine sq (rg (ag (nl (th (rt (rt_ ?_))))))
  have hr0:false=(bV l):=by
   unfold bV
   rw[decide_eq_false O];rfl
  exact rE () [.tmp 2] J [bl false] ⟨.tmp J,tV⟩ (cA1 (fun x0=>rV [bl x0]) hr0) trivial eX
 ·try simp at hc0
  refine sk (th (sq (sq (rg (mv (lnF J T.eD (mv (nl (th (bk ?_))))))))))
  have hI0_0:0≤l.length:=by
   first|omega|simp
  have hI0_1:(List.range 0).all (fun i=>dU (ix l i)&&decide (indexOf l (ix l i)=(i:Int)))=true:=by
   simp
  refine lp (κ:=Nat) (fun p=> [(0,sl 1 rE_ l),(8,sl 1 rE_ l),(9,int (l.length:Int)),(10,int (p:Int))]) (fun p=> []) (fun p=>(p≤l.length)∧((List.range p).all (fun i=>dU (ix l i)&&decide (indexOf l (ix l i)=(i:Int)))=true)) (fun p=>l.length- p) 0 ⟨hI0_0,hI0_1⟩ ⟨id,id,id,id,tV⟩ trivial ?_
  intro k hG0
  obtain⟨hk0,hI0⟩:(k≤l.length)∧((List.range k).all (fun i=>dU (ix l i)&&decide (indexOf l (ix l i)=(i:Int)))=true):=hG0
  refine sq (rg (bi J J aO (nl (th (sq ?_)))))
  refine cd J (fun hc1=> ?_) (fun hc1=> ?_)
  ·try simp at hc1
   refine sk (th (sq (bk (sq (rg (mv (iF J J T.eD O gB (lF J J T.xF (ag (ag (nl (th (sq (rg (mv (bB (φs:= [str (ix l k)]) (φ:=bl (dU (ix l k))) ⟨J,tV⟩ (prog.NM _) T.UR (no J (mv ?_))))))))))))))))))
   apply gOr (t:=18) (pd:=24) rfl
   rotate_left
   ·intro hg0 fin
    have hg0':=hg0
    try simp at hg0'
    exact gy J J J hg0 (mv (gy J J J hg0 (mv (gy J J J hg0 (UH (l:=0) (m:=k) J T.eD J J O O (gy J J J hg0 (mv (gy J J J hg0 (bB (φs:= [sl 1 rE_ (l.take k),str (ix l k)]) (φ:=bl (decide (0≤indexOf (l.take k) (ix l k)))) ⟨J,J,tV⟩ (prog.Fh _ _) T.US (pkF J hg0 J (drp (X:= [(23,_),(22,_),(21,_),(20,_),(19,_)]) ⟨J,J,J,J,J,tV⟩ fin)))))))))))
   ·intro hg0 fin
    exact gn J J J hg0 J J (gn J J J hg0 J J (gn J J J hg0 J J (gn J J J hg0 J J (gn J J J hg0 J J (pkT J hg0 J (drp (X:= [(23,_),(22,_),(21,_),(20,_),(19,_)]) ⟨J,J,J,J,J,tV⟩ fin))))))
   refine nl (th ?_)
   refine cd J (fun hc2=> ?_) (fun hc2=> ?_)
   ·try simp at hc2
    refine sq (rg (ag (nl (th (rt (rb (rt_ (rt_ (rb (rt_ ?_))))))))))
    have hr0:false=(bV l):=by
     unfold bV
     rw[jC (i:=k) O ?_]
     ·simp
     ·by_cases h:dU (ix l k)=true
      ·have h2:=(Bj (l.take k) (ix l k)).1 (by simpa [h] using hc2)
       have h3:¬indexOf l (ix l k)=(k:Int):=fun e=>(xL O).1 e h2
       simp[h3]
      ·simp[h]
    exact rE () [.tmp 2] J [bl false] ⟨.tmp J,tV⟩ (cA1 (fun x0=>rV [bl x0]) hr0) trivial eX
   ·try simp at hc2
    refine sk (eb (th (rg (bi J J (aG i6) (mv (nl ?_))))))
    have hN0:(k+1)≤l.length:=by
     first|omega|simp_all
    have hN1:(List.range (k+1)).all (fun i=>dU (ix l i)&&decide (indexOf l (ix l i)=(i:Int)))=true:=by
     rw[jO,hI0]
     have h1:indexOf l (ix l k)=(k:Int):=(xL O).2 (fun hm=>by
      have h2:=(Bj (l.take k) (ix l k)).2 hm
      have:=hc2.2;omega)
     simp[hc2.1,h1]
    exact ln (k+1) ⟨hN0,hN1⟩ dO ⟨id,id,id,id,tV⟩ trivial
  ·try simp at hc1
   refine ex (xt_ (xt_ (xb (th (sq (rg (ag (nl (th (rt ?_))))))))))
   have hr0:true=(bV l):=by
    unfold bV
    rw[show l.length=k by omega,hI0,decide_eq_true O];rfl
   exact rE () [.tmp 2] J [bl true] ⟨.tmp J,tV⟩ (cA1 (fun x0=>rV [bl x0]) hr0) trivial eX
theorem gJ (l:List ByteArray) (hl:l.length≤1000000):
 AL.Fn Tryz.prog 92 [strs l] [] (ι:=Unit) (fun N _=>fre N (strs l)) (fun _=> []):=by
 refine fnI Tryz.func92 rfl rfl (fun w0 F0=> ?_)
 refine fcC (aV 0 J) (fun hm0=> ?_)
 refine sq (rg (ag (nl (th (sq (sq (rg (mv (Ym J T.eD.und fun nb4 hnb4=>(nl (th ?_)))))))))))
 refine cd J (fun hc0=> ?_) (fun hc0=> ?_)
 ·try simp at hc0
  refine sq (rg (ag (nl (th (rt (rt_ ?_))))))
  refine knA 2 (fre w0.heap.size (sl 1 rE_ [])) rfl mB ?_
  have hr0: []=l:=by
   rw[hnb4 hc0]
  exact rE () [.tmp 2] J [fre w0.heap.size (sl 1 rE_ [])] ⟨.tmp J,tV⟩ (cA1 (fun x0=>rV [fre w0.heap.size (sl 1 rE_ x0)]) hr0) trivial eX
 ·try simp at hc0
  refine sk (th (sq (rg (bs0 5 rE_ T.xH fun v5=>(mv (ap (key:=5) (zs:=l) bX J J J T.xH (by unfold aT at*;simp;omega) (by unfold aT at*;simp;omega) fun v7=>(ag (nl (th (rt ?_))))))))))
  refine Yo rE_ 5 2 noM flat rfl rfl ?_
  have hr0:([]++l)=l:=by
   first|rfl|simp_all|omega
  exact rE () [.tmp 2] J [fre w0.heap.size (sl 1 rE_ ([]++l))] ⟨.tmp J,tV⟩ (cA1 (fun x0=>rV [fre w0.heap.size (sl 1 rE_ x0)]) hr0) trivial eX
theorem mI (xs ys:List ByteArray):
 Fn0 Tryz.prog 68 [strs xs,strs ys] (bl (decide (xs=ys))):=by
 refine fnI Tryz.func68 rfl rfl (fun w0 F0=> ?_)
 refine fcC (aV 0 J) (fun hm0=> ?_)
 refine fcC (aV 1 J) (fun hm1=> ?_)
 refine sq (rg (ag (nl (th (sq (sq (rg (mv (lnF J T.eD (mv (lnF J T.eD (bi J J fI (nl (th ?_))))))))))))))
 refine cd J (fun hc0=> ?_) (fun hc0=> ?_)
 ·try simp at hc0
  refine sq (rg (ag (nl (th (rt (rt_ ?_))))))
  have hr0:false=(decide (xs=ys)):=by
   rw[decide_eq_false];intro h;subst h;simp at hc0
  exact rE () [.tmp 4] J [bl false] ⟨.tmp J,tV⟩ (cA1 (fun x0=>rV [bl x0]) hr0) trivial eX
 ·try simp at hc0
  refine sk (th (sq (sq (rg (mv (lnF J T.eD (mv (nl (th (bk ?_))))))))))
  have hI0_0:0≤xs.length:=by
   first|omega|simp
  have hI0_1:xs.take 0=ys.take 0:=by
   simp
  refine lp (κ:=Nat) (fun p=> [(0,sl 1 rE_ xs),(1,sl 1 rE_ ys),(12,int (xs.length:Int)),(13,int (p:Int))]) (fun p=> []) (fun p=>(p≤xs.length)∧(xs.take p=ys.take p)) (fun p=>xs.length- p) 0 ⟨hI0_0,hI0_1⟩ ⟨id,id,id,id,tV⟩ trivial ?_
  intro k hG0
  obtain⟨hk0,hI0⟩:(k≤xs.length)∧(xs.take k=ys.take k):=hG0
  refine sq (rg (bi J J aO (nl (th (sq ?_)))))
  refine cd J (fun hc1=> ?_) (fun hc1=> ?_)
  ·try simp at hc1
   refine sk (th (sq (bk (sq (rg (mv (ag (nl (th (sq (dr (nh:=9) [0,0,3,7,0,0,48,112,255] T.mixed kR ?_)))))))))))
   refine st_ J (fun _ _ _ gq kq=>mv' (gq.1.trans J) kq) ?_
   refine st_ J (fun _ _ _ gq kq=>mv' (gq.1.trans J) kq) ?_
   refine st_ J (fun _ _ _ gq kq=>iF (gq.1.trans J) (gq.2.1.trans J) T.eD O gB kq) ?_
   refine st_ J (fun _ _ _ gq kq=>lF (gq.1.trans J) J T.xF kq) ?_
   refine st_ J (fun _ _ _ gq kq=>mv' (gq.1.trans J) kq) ?_
   refine st_ J (fun _ _ _ gq kq=>mv' (gq.1.trans J) kq) ?_
   refine st_ J (fun _ _ _ gq kq=>iF (gq.1.trans J) (gq.2.1.trans J) T.eD O gB kq) ?_
   refine st_ J (fun _ _ _ gq kq=>lF (gq.1.trans J) J T.xF kq) ?_
   refine st_ J (fun _ _ _ gq kq=>bi (gq.1.trans J) (gq.2.1.trans J) Kz kq) ?_
   refine pn (nl (th ?_))
   refine cd J (fun hc2=> ?_) (fun hc2=> ?_)
   ·try simp at hc2
    refine sq (rg (ag (nl (th (rt (rb (rt_ (rt_ (rb (rt_ ?_))))))))))
    have hr0:false=(decide (xs=ys)):=by
     rw[decide_eq_false];intro h;subst h;simp at hc2
    exact rE () [.tmp 4] J [bl false] ⟨.tmp J,tV⟩ (cA1 (fun x0=>rV [bl x0]) hr0) trivial eX
   ·try simp at hc2
    refine sk (eb (th (rg (bi J J (aG i6) (mv (nl ?_))))))
    have hN0:(k+1)≤xs.length:=by
     first|omega|simp_all
    have hN1:xs.take (k+1)=ys.take (k+1):=by
     rw[bM O,bM O,hI0];try simp at hc2
     rw[hc2]
    exact ln (k+1) ⟨hN0,hN1⟩ dO ⟨id,id,id,id,tV⟩ trivial
  ·try simp at hc1
   refine ex (xt_ (xt_ (xb (th (sq (rg (ag (nl (th (rt ?_))))))))))
   have hr0:true=(decide (xs=ys)):=by
    rw[decide_eq_true]
    rw[show k=xs.length by omega,List.take_length] at hI0
    rw[hI0,show xs.length=ys.length by omega,List.take_length]
   exact rE () [.tmp 4] J [bl true] ⟨.tmp J,tV⟩ (cA1 (fun x0=>rV [bl x0]) hr0) trivial eX
end prog
end
section
open ref01 ref03 ref04 ref06 prog Part
def jH (s:SS):Prop:=∀k,k<s.sT.length→∀i,i<(ix s.sT k).aP.length→ix (ix s.sT k).aP i<2^63
def mJ (u:Int) (nx:List Int) (k:Nat):Prop:=∀a:Nat,u.toNat.testBit a=true↔a<k∧0≤ix nx a
theorem KZ {u:Int} {nx:List Int} {k:Nat} (h:mJ u nx k) (h0:0≤ix nx k):mJ ((u.toNat|||2^k:Nat):Int) nx (k+1):=fun a=>by
 rw[Int.toNat_natCast,Nat.testBit_or,Nat.testBit_two_pow,Bool.or_eq_true,h a,decide_eq_true_eq]
 constructor
 ·rintro(h1|rfl)
  ·exact⟨O,h1.2⟩
  ·exact⟨O,h0⟩
 ·intro h1
  by_cases e:k=a
  ·exact .inr e
  ·exact .inl ⟨O,h1.2⟩
theorem NN {u:Int} {nx:List Int} {k:Nat} (h:mJ u nx k) (h0:ix nx k<0):mJ u nx (k+1):=fun a=>by
 rw[h a]
 constructor
 ·exact fun h1=>⟨O,h1.2⟩
 ·intro h1
  refine⟨?_,h1.2⟩
  by_cases e:k=a
  ·subst e;omega
  ·omega
theorem Fj {m n:Nat}:m^^^ (m&&&n)=0↔∀a,m.testBit a=true→n.testBit a=true:=by
 constructor
 ·intro h a ha
  have:=congrArg (fun z=>z.testBit a) h
  simp only [Nat.testBit_xor,Nat.testBit_and,ha,Nat.zero_testBit,Bool.true_and] at this
  cases hn:n.testBit a
  ·rw[hn] at this;cases this
  ·rfl
 ·intro h
  apply Nat.eq_of_testBit_eq
  intro a
  simp only [Nat.testBit_xor,Nat.testBit_and,Nat.zero_testBit]
  cases hm:m.testBit a
  ·rfl
  ·rw[h a hm];rfl
theorem Dr {x:SA} {n:Nat} {u t:Int} (hn:n≤8) (hl:x.next.length=n) (hc:mJ u x.next n) (h0:0≤t):gP x n t=true↔t.toNat^^^ (t.toNat&&&u.toNat)=0:=by
 rw[Fj]
 constructor
 ·intro h a ha
  unfold gP at h
  simp only [Bool.and_eq_true] at h
  have hb:=h.1
  unfold eO at hb
  simp only [Bool.and_eq_true,decide_eq_true_eq,Int.toNat_natCast] at hb
  have han:a<n:=by
   have h7:2^a≤t.toNat:=Nat.ge_two_pow_of_testBit ha
   have h9:2^a<2^n:=by omega
   exact(Nat.pow_lt_pow_iff_right O).1 h9
  have hm:(a:Int)∈aK n t:=List.mem_map.2 ⟨a,List.mem_filter.2 ⟨List.mem_range.2 han,by unfold has;rw[Int.toNat_natCast];exact ha⟩,rfl⟩
  have:=List.all_eq_true.1 h.2 _ hm
  exact(hc a).2 ⟨han,by simpa using this⟩
 ·intro h
  have hlt:t.toNat<2^n:=Nat.lt_pow_two_of_testBit _ (fun i hi=>by
   cases hti:t.toNat.testBit i
   ·rfl
   ·have:=((hc i).1 (h i hti)).1;omega)
  unfold gP eO
  simp only [Bool.and_eq_true,decide_eq_true_eq,Int.toNat_natCast]
  refine⟨⟨h0,O⟩,List.all_eq_true.2 (fun z hz=> ?_)⟩
  obtain⟨a,ha,rfl⟩:=List.mem_map.1 hz
  have h1:=(List.mem_filter.1 ha).2
  unfold has at h1
  rw[Int.toNat_natCast] at h1
  have:=((hc a).1 (h a h1)).2
  simpa using this
theorem La {x:SA} {n:Nat} {t:Int} (h0:t<0):gP x n t=false:=by
 unfold gP eO
 rw[decide_eq_false O];rfl
theorem Lb {l:List Int} (h:∀j,j+1<l.length→ix l j<ix l (j+1)):rising l=true:=by
 unfold rising
 exact List.all_eq_true.2 (fun i hi=>by have:=List.mem_range.1 hi;simpa using h i O)
theorem JB {l:List Int} {j:Nat} (h:j+1<l.length) (hh:ix l (j+1)≤ix l j):rising l=false:=by
 unfold rising
 exact jC (i:=j) O (by simp;omega)
theorem Lc {l:List Int} {p:Int→Bool} (h:∀j,j<l.length→p (ix l j)=true):l.all p=true:=List.all_eq_true.2 (fun x hx=>by
 obtain⟨j,hj,rfl⟩:=List.getElem_of_mem hx
 rw[←aD hj];exact h j hj)
namespace T
theorem Ld:Ent Tryz.prog 113:=aN kR
end T
namespace prog2
theorem jT (s:SS) (hsm:jH s):
 Fn0 Tryz.prog 67 [spec s] (bl (cE s)):=by
 refine fnI Tryz.func67 rfl rfl (fun w0 F0=> ?_)
 refine fcC (bW 0 J) (fun hS0=> ?_)
 obtain⟨hsa0,hss0,hse0⟩:=sLn hS0
 refine sq (rg (bx (key:=1) (cs:= [sl 1 rE_ s.aC,sl 2 sE s.sT]) J fun b1=>(ag (nl (th (sq (rg (fP J T.bL (lP J J J T.bT (fc (aV 12 J) fun hm12=>(lnF J T.cO (ag (nl (th (sq (sq (rg (fP J T.dH (lP J J J T.cM (bB (φs:= [sl 1 rE_ s.aC]) (φ:=bl (bV s.aC)) ⟨J,tV⟩ (prog.Dq _) T.Ld (no J (mv ?_))))))))))))))))))))))
 apply gOr (t:=18) (pd:=21) rfl
 rotate_left
 ·intro hg0 fin
  have hg0':=hg0
  try simp at hg0'
  exact gy J J J hg0 (mv (gy J J J hg0 (bi J J aO (pkF J hg0 J (drp (X:= [(20,_),(19,_)]) ⟨J,J,tV⟩ fin)))))
 ·intro hg0 fin
  exact gn J J J hg0 J J (gn J J J hg0 J J (pkT J hg0 J (drp (X:= [(20,_),(19,_)]) ⟨J,J,tV⟩ fin)))
 refine mv ?_
 apply gOr (t:=22) (pd:=25) rfl
 rotate_left
 ·intro hg1 fin
  have hg1':=hg1
  try simp at hg1'
  exact gy J J J hg1 (mv (gy J J J hg1 (bi J J fN (pkF J hg1 J (drp (X:= [(24,_),(23,_)]) ⟨J,J,tV⟩ fin)))))
 ·intro hg1 fin
  exact gn J J J hg1 J J (gn J J J hg1 J J (pkT J hg1 J (drp (X:= [(24,_),(23,_)]) ⟨J,J,tV⟩ fin)))
 refine nl (th ?_)
 refine cd J (fun hc0=> ?_) (fun hc0=> ?_)
 ·try simp at hc0
  refine sq (rg (ag (nl (th (rt (rt_ ?_))))))
  have hr0:false=(cE s):=by
   unfold cE
   by_cases h:bV s.aC=true
   ·simp[h] at hc0 ⊢
    omega
   ·simp[h]
  exact rE () [.tmp 2] J [bl false] ⟨.tmp J,tV⟩ (cA1 (fun x0=>rV [bl x0]) hr0) trivial eX
 ·try simp at hc0
  have hact:=gG (l:=s.aC) (by simp_all)
  refine sk (th (sq (sq (rg (fP J T.bL (lP J J J T.bT (lnF J T.cO (mv (nl (th (bk ?_)))))))))))
  have hI0_0:0≤s.sT.length:=by
   first|omega|simp
  have hI0_1:(s.sT.take 0).all (fun x=>cW x (s.sT.length:Int) s.aC.length)=true:=by
   simp
  refine lp (κ:=Nat) (fun p=> [(1,ptr 1 b1 0),(3,int (s.sT.length:Int)),(27,sl 2 sE s.sT),(28,int (s.sT.length:Int)),(29,int (p:Int))]) (fun p=> [(1,cell b1 [sl 1 rE_ s.aC,sl 2 sE s.sT])]) (fun p=>(p≤s.sT.length)∧((s.sT.take p).all (fun x=>cW x (s.sT.length:Int) s.aC.length)=true)) (fun p=>s.sT.length- p) 0 ⟨hI0_0,hI0_1⟩ ⟨id,id,id,id,id,tV⟩ ⟨rI,tV⟩ ?_
  intro k hG0
  obtain⟨hk0,hI0⟩:(k≤s.sT.length)∧((s.sT.take k).all (fun x=>cW x (s.sT.length:Int) s.aC.length)=true):=hG0
  refine sq (rg (bi J J aO (nl (th (sq ?_)))))
  refine cd J (fun hc1=> ?_) (fun hc1=> ?_)
  ·try simp at hc1
   refine sk (th (sq (bk (sq (rg (iF J J T.cO O gB (lFA J T.dJ (Nat.le_of_ble_eq_true J) (al (key:=5) T.z79 (eC (eC eZ)) fun b5=>(sPA (cs':= [sl 1 nE (ix s.sT k).aP,sl 1 nE (ix s.sT k).next]) J J J T.dJ J J (nl (th (sq (sq (rg (fP J T.cS (lP J J J T.bD (fc (aV 34 J) fun hm34=>(lnF J T.aX (fP J T.dH (lP J J J T.cM (fc (aV 37 J) fun hm37=>(lnF J T.eD (bi J J fI (nl (th ?_)))))))))))))))))))))))))
   refine cd J (fun hc2=> ?_) (fun hc2=> ?_)
   ·try simp at hc2
    refine sq (rg (ag (nl (th (rt (rt_ (rb (rt_ (rt_ (rb (rt_ ?_)))))))))))
    have hr0:false=(cE s):=by
     unfold cE
     rw[fX (xs:=s.sT) (k:=k) O ?_];simp
     unfold cW
     rw[decide_eq_false O];simp
    exact rE () [.tmp 2] J [bl false] ⟨.tmp J,tV⟩ (cA1 (fun x0=>rV [bl x0]) hr0) trivial eX
   ·try simp at hc2
    refine sk (th (sq (rg (ag (nl (th (sq (sq (rg (fP J T.cS (lP J J J T.bD (lnF J T.aX (mv (nl (th (bk ?_))))))))))))))))
    have hI1_0:0≤(ix s.sT k).next.length:=by
     first|omega|simp
    have hI1_1:0≤(0:Int)∧(0:Int)<256∧mJ (0:Int) (ix s.sT k).next 0∧((ix s.sT k).next.take 0).all (fun j=>decide (-1≤j)&&decide (j<(s.sT.length:Int)))=true:=by
     refine⟨O,O,fun a=> ?_,by simp⟩
     simp
    refine lp (κ:=Nat × Int) (fun p=> [(1,ptr 1 b1 0),(3,int (s.sT.length:Int)),(5,ptr 5 b5 0),(6,int p.2),(27,sl 2 sE s.sT),(28,int (s.sT.length:Int)),(29,int (k:Int)),(41,sl 1 nE (ix s.sT k).next),(42,int ((ix s.sT k).next.length:Int)),(43,int (p.1:Int))]) (fun p=> [(1,cell b1 [sl 1 rE_ s.aC,sl 2 sE s.sT]),(5,cell b5 [sl 1 nE (ix s.sT k).aP,sl 1 nE (ix s.sT k).next])]) (fun p=>(p.1≤(ix s.sT k).next.length)∧(0≤p.2∧p.2<256∧mJ p.2 (ix s.sT k).next p.1∧((ix s.sT k).next.take p.1).all (fun j=>decide (-1≤j)&&decide (j<(s.sT.length:Int)))=true)) (fun p=>(ix s.sT k).next.length- p.1) ⟨0,(0:Int)⟩ ⟨hI1_0,hI1_1⟩ ⟨id,id,id,id,id,id,id,id,id,id,tV⟩ ⟨rI,rI,tV⟩ ?_
    intro⟨k1,u⟩ hG1
    obtain⟨hk1,hI1⟩:(k1≤(ix s.sT k).next.length)∧(0≤u∧u<256∧mJ u (ix s.sT k).next k1∧((ix s.sT k).next.take k1).all (fun j=>decide (-1≤j)&&decide (j<(s.sT.length:Int)))=true):=hG1
    show Ct _ _ _ _ [(1,ptr 1 b1 0),(3,int (s.sT.length:Int)),(5,ptr 5 b5 0),(6,int u),(27,sl 2 sE s.sT),(28,int (s.sT.length:Int)),(29,int (k:Int)),(41,sl 1 nE (ix s.sT k).next),(42,int ((ix s.sT k).next.length:Int)),(43,int (k1:Int))] [(1,cell b1 [sl 1 rE_ s.aC,sl 2 sE s.sT]),(5,cell b5 [sl 1 nE (ix s.sT k).aP,sl 1 nE (ix s.sT k).next])] _
    refine sq (rg (bi J J aO (nl (th (sq ?_)))))
    refine cd J (fun hc3=> ?_) (fun hc3=> ?_)
    ·try simp at hc3
     refine sk (th (sq (bk (sq (rg (mv (iF J J T.aX O gB (lF J J T.aF (ag (ag (nl (th (sq (sq (rg (mv (bi J J aO (mv ?_))))))))))))))))))
     apply gOr (t:=50) (pd:=54) rfl
     rotate_left
     ·intro hg2 fin
      have hg2':=hg2
      try simp at hg2'
      exact gy J J J hg2 (mv (gy J J J hg2 (mv (gy J J J hg2 (bi J J fU (pkF J hg2 J (drp (X:= [(53,_),(52,_),(51,_)]) ⟨J,J,J,tV⟩ fin)))))))
     ·intro hg2 fin
      exact gn J J J hg2 J J (gn J J J hg2 J J (gn J J J hg2 J J (pkT J hg2 J (drp (X:= [(53,_),(52,_),(51,_)]) ⟨J,J,J,tV⟩ fin))))
     refine nl (th ?_)
     refine cd J (fun hc4=> ?_) (fun hc4=> ?_)
     ·try simp at hc4
      refine sq (rg (ag (nl (th (rt (rt_ (rb (rt_ (rt_ (rb (rt_ (rb (rt_ (rt_ (rb (rt_ ?_))))))))))))))))
      have hr0:false=(cE s):=by
       unfold cE
       rw[fX (xs:=s.sT) (k:=k) O ?_];simp
       unfold cW
       rw[fX (xs:=(ix s.sT k).next) (k:=k1) O (by simp;omega)];simp
      exact rE () [.tmp 2] J [bl false] ⟨.tmp J,tV⟩ (cA1 (fun x0=>rV [bl x0]) hr0) trivial eX
     ·try simp at hc4
      refine sk (th (sq (rg (mv (bi J J fU (nl (th ?_)))))))
      refine cd J (fun hc5=> ?_) (fun hc5=> ?_)
      ·try simp at hc5
       have hp:2^k1≤2^7:=Nat.pow_le_pow_right O O
       refine rg (mv (mv (bi J J (pU O O) (bi J J (vN O O (Int.natCast_nonneg _) (by rw[Int.toNat_natCast];omega)) (ag (nl (eb (th (rg (bi J J (aG i6) (mv (nl ?_))))))))))))
       have hN0:(k1+1)≤(ix s.sT k).next.length:=by
        first|omega|simp_all
       have hN1:0≤((u.toNat|||(2^k1):Nat):Int)∧((u.toNat|||(2^k1):Nat):Int)<256∧mJ ((u.toNat|||(2^k1):Nat):Int) (ix s.sT k).next (k1+1)∧((ix s.sT k).next.take (k1+1)).all (fun j=>decide (-1≤j)&&decide (j<(s.sT.length:Int)))=true:=by
        refine⟨O,kU (b:=((2^k1:Nat):Int)) hI1.2.1 O,KZ hI1.2.2.1 hc5,?_⟩
        rw[eS O,hI1.2.2.2];simp;omega
       exact ln (⟨k1+1,((u.toNat|||(2^k1):Nat):Int)⟩:Nat × Int) ⟨hN0,hN1⟩ dO ⟨id,id,id,id,id,id,id,id,id,id,tV⟩ ⟨rI,rI,tV⟩
      ·try simp at hc5
       refine sk (eb (th (rg (bi J J (aG i6) (mv (nl ?_))))))
       have hN0:(k1+1)≤(ix s.sT k).next.length:=by
        first|omega|simp_all
       have hN1:0≤u∧u<256∧mJ u (ix s.sT k).next (k1+1)∧((ix s.sT k).next.take (k1+1)).all (fun j=>decide (-1≤j)&&decide (j<(s.sT.length:Int)))=true:=by
        refine⟨hI1.1,hI1.2.1,NN hI1.2.2.1 hc5,?_⟩
        rw[eS O,hI1.2.2.2];simp;omega
       exact ln (⟨k1+1,u⟩:Nat × Int) ⟨hN0,hN1⟩ dO ⟨id,id,id,id,id,id,id,id,id,id,tV⟩ ⟨rI,rI,tV⟩
    ·try simp at hc3
     refine ex (xt_ (xt_ (xb (th (sq (rg (fP J T.cK (lP J J J T.bD (fc (aV 63 J) fun hm63=>(lnF J T.aX (mv (nl (th (bk ?_))))))))))))))
     have hI2_0:0≤(ix s.sT k).aP.length:=by
      first|omega|simp
     have hI2_1:(∀j,j<0→gP (ix s.sT k) s.aC.length (ix (ix s.sT k).aP j)=true)∧∀j,j+1<0→ix (ix s.sT k).aP j<ix (ix s.sT k).aP (j+1):=by
      exact⟨fun j hj=>by omega,fun j hj=>by omega⟩
     refine lp (κ:=Nat) (fun p=> [(1,ptr 1 b1 0),(3,int (s.sT.length:Int)),(5,ptr 5 b5 0),(6,int u),(27,sl 2 sE s.sT),(28,int (s.sT.length:Int)),(29,int (k:Int)),(63,sl 1 nE (ix s.sT k).aP),(64,int ((ix s.sT k).aP.length:Int)),(65,int (p:Int))]) (fun p=> [(1,cell b1 [sl 1 rE_ s.aC,sl 2 sE s.sT]),(5,cell b5 [sl 1 nE (ix s.sT k).aP,sl 1 nE (ix s.sT k).next])]) (fun p=>(p≤(ix s.sT k).aP.length)∧((∀j,j<p→gP (ix s.sT k) s.aC.length (ix (ix s.sT k).aP j)=true)∧∀j,j+1<p→ix (ix s.sT k).aP j<ix (ix s.sT k).aP (j+1))) (fun p=>(ix s.sT k).aP.length- p) 0 ⟨hI2_0,hI2_1⟩ ⟨id,id,id,id,id,id,id,id,id,id,tV⟩ ⟨rI,rI,tV⟩ ?_
     intro k2 hG2
     obtain⟨hk2,hI2⟩:(k2≤(ix s.sT k).aP.length)∧((∀j,j<k2→gP (ix s.sT k) s.aC.length (ix (ix s.sT k).aP j)=true)∧∀j,j+1<k2→ix (ix s.sT k).aP j<ix (ix s.sT k).aP (j+1)):=hG2
     refine sq (rg (bi J J aO (nl (th (sq ?_)))))
     refine cd J (fun hc6=> ?_) (fun hc6=> ?_)
     ·try simp at hc6
      have hsk:=hsm k O k2 O
      refine sk (th (sq (bk (sq (rg (mv (iF J J T.aX O gB (lF J J T.aF (ag (ag (nl (th (sq (rg (mv (bi J J aO (mv ?_)))))))))))))))))
      apply gOr (t:=72) (pd:=77) rfl
      rotate_left
      ·intro hg3 fin
       have hg3':=hg3
       try simp at hg3'
       exact gy J J J hg3 (mv (gy J J J hg3 (mv (gy J J J hg3 (bi J J (KF O O O O) (gy J J J hg3 (bi J J fI (pkF J hg3 J (drp (X:= [(76,_),(75,_),(74,_),(73,_)]) ⟨J,J,J,J,tV⟩ fin)))))))))
      ·intro hg3 fin
       exact gn J J J hg3 J J (gn J J J hg3 J J (gn J J J hg3 J J (gn J J J hg3 J J (pkT J hg3 J (drp (X:= [(76,_),(75,_),(74,_),(73,_)]) ⟨J,J,J,J,tV⟩ fin)))))
      refine mv ?_
      apply gOr (t:=78) (pd:=91) rfl
      rotate_left
      ·intro hg4 fin
       have hg4':=hg4
       try simp at hg4'
       refine gy rfl rfl rfl hg4 (mv (gy rfl rfl rfl hg4 (bi rfl rfl fN (gy rfl rfl rfl hg4 (mv ?_)))))
       apply cZ (t:=81) (pd:=90) rfl
       rotate_left
       ·intro hg5 fin
        have hg5':=hg5
        try simp at hg5'
        exact gy J J J hg5 (fP J T.cK (gy J J J hg5 (lP J J J T.bD (gy J J J hg5 (mv (gy J J J hg5 (bi J J (kQ i6) (gy J J J hg5 (iF J J T.aX O gB (gy J J J hg5 (lF J J T.aF (gy J J J hg5 (mv (gy J J J hg5 (bi J J fU (gy J J J hg4 (pkT J hg5 J (drp (X:= [(89,_),(88,_),(87,_),(86,_),(85,_),(84,_),(83,_),(82,_)]) ⟨J,J,J,J,J,J,J,J,tV⟩ fin))))))))))))))))))
       ·intro hg5 fin
        exact gn J J J hg5 J J (gn J J J hg5 J J (gn J J J hg5 J J (gn J J J hg5 J J (gn J J J hg5 J J (gn J J J hg5 J J (gn J J J hg5 J J (gn J J J hg5 J J (gy J J J hg4 (pkF J hg5 J (drp (X:= [(89,_),(88,_),(87,_),(86,_),(85,_),(84,_),(83,_),(82,_)]) ⟨J,J,J,J,J,J,J,J,tV⟩ fin))))))))))
       exact pkF rfl hg4 rfl (drp (X:= [(90,_),(81,_),(80,_),(79,_)]) ⟨rfl,rfl,rfl,rfl,tV⟩ fin)
      ·intro hg4 fin
       exact gn J J J hg4 J J (gn J J J hg4 J J (gn J J J hg4 J J (gu J J J J J (gu J J J J J (gu J J J J J (gu J J J J J (gu J J J J J (gu J J J J J (gu J J J J J (gu J J J J J (gn J J J hg4 J J (pkT J hg4 J (drp (X:= [(90,_),(89,_),(88,_),(87,_),(86,_),(85,_),(84,_),(83,_),(82,_),(81,_),(80,_),(79,_)]) ⟨J,J,J,J,J,J,J,J,J,J,J,J,tV⟩ fin)))))))))))))
      refine nl (th ?_)
      refine cd J (fun hc7=> ?_) (fun hc7=> ?_)
      ·try simp at hc7
       refine sq (rg (ag (nl (th (rt (rb (rt_ (rt_ (rb (rb (rt_ (rt_ (rb (rt_ ?_))))))))))))))
       have hr0:false=(cE s):=by
        unfold cE
        rw[fX (xs:=s.sT) (k:=k) O ?_];simp
        unfold cW
        have hnl:(ix s.sT k).next.length=s.aC.length:=by omega
        have hcan:mJ u (ix s.sT k).next s.aC.length:=by rw[show s.aC.length=k1 by omega];exact hI1.2.2.1
        rcases Int.lt_or_le (ix (ix s.sT k).aP k2) 0 with h0|h0
        ·rw[fX (xs:=(ix s.sT k).aP) (k:=k2) O (La h0)];simp
        ·rcases hc7 with(h|h)|h
         ·omega
         ·have hq:gP (ix s.sT k) s.aC.length (ix (ix s.sT k).aP k2)=false:=by
                   cases hq:gP (ix s.sT k) s.aC.length (ix (ix s.sT k).aP k2)
                   ·rfl
                   ·exact absurd ((Dr hact hnl hcan h0).1 hq) h
          rw[fX (xs:=(ix s.sT k).aP) (k:=k2) O hq];simp
         ·rw[JB (l:=(ix s.sT k).aP) (j:=k2- 1) O (by rw[show k2- 1+1=k2 by omega];exact h.2)];simp
       exact rE () [.tmp 2] J [bl false] ⟨.tmp J,tV⟩ (cA1 (fun x0=>rV [bl x0]) hr0) trivial eX
      ·try simp at hc7
       refine sk (eb (th (rg (bi J J (aG i6) (mv (nl ?_))))))
       have hN0:(k2+1)≤(ix s.sT k).aP.length:=by
        first|omega|simp_all
       have hN1:(∀j,j<(k2+1)→gP (ix s.sT k) s.aC.length (ix (ix s.sT k).aP j)=true)∧∀j,j+1<(k2+1)→ix (ix s.sT k).aP j<ix (ix s.sT k).aP (j+1):=by
        have hnl:(ix s.sT k).next.length=s.aC.length:=by omega
        have hcan:mJ u (ix s.sT k).next s.aC.length:=by rw[show s.aC.length=k1 by omega];exact hI1.2.2.1
        refine⟨fun j hj=> ?_,fun j hj=> ?_⟩
        ·by_cases e:j=k2
         ·subst e;exact(Dr hact hnl hcan O).2 O
         ·exact hI2.1 j O
        ·by_cases e:j+1=k2
         ·have h3:=hc7.2 O
          rw[show k2- 1=j by omega] at h3;rw[e];exact h3
         ·exact hI2.2 j O
       exact ln (k2+1) ⟨hN0,hN1⟩ dO ⟨id,id,id,id,id,id,id,id,id,id,tV⟩ ⟨rI,rI,tV⟩
     ·try simp at hc6
      refine ex (xt_ (xt_ (xb (eb (th (rg (bi J J (aG i6) (mv (nl ?_)))))))))
      have hN0:(k+1)≤s.sT.length:=by
       first|omega|simp_all
      have hN1:(s.sT.take (k+1)).all (fun x=>cW x (s.sT.length:Int) s.aC.length)=true:=by
       rw[eS O,hI0]
       have hnl:(ix s.sT k).next.length=s.aC.length:=by omega
       have hk1:k1=s.aC.length:=by omega
       have hk2:k2=(ix s.sT k).aP.length:=by omega
       have hall:=hI1.2.2.2
       rw[show k1=(ix s.sT k).next.length by omega,List.take_length] at hall
       unfold cW
       rw[hall,Lb (fun j hj=>hI2.2 j O),Lc (fun j hj=>hI2.1 j O)]
       simp;omega
      exact ln (k+1) ⟨hN0,hN1⟩ dO ⟨id,id,id,id,id,tV⟩ ⟨rI,tV⟩
  ·try simp at hc1
   refine ex (xt_ (xt_ (xb (th (sq (rg (ag (nl (th (rt ?_))))))))))
   have hr0:true=(cE s):=by
    unfold cE
    rw[show k=s.sT.length by omega,List.take_length] at hI0
    rw[hI0]
    simp[hc0];omega
   exact rE () [.tmp 2] J [bl true] ⟨.tmp J,tV⟩ (cA1 (fun x0=>rV [bl x0]) hr0) trivial eX
end prog2
end
section
open ref01 ref03 ref04 ref06 prog prog2 Part
theorem RO {P:Program} {f:FuncId} {args args':List AV} {Hi:Hp} {ι:Type} {res:Nat→ι→AV} {Ho:ι→Hp} (h:∀{w F vs},All2 w F args' vs→All2 w F args vs) (hf:AL.Fn P f args Hi res Ho):AL.Fn P f args' Hi res Ho:=fun w F vs hv hb hH=>hf w F vs (h hv) hb hH
namespace prog3
theorem tE (t:Int):
 Fn0 Tryz.prog 99 [int t] (clo 137 [fp [int t]]):=by
 refine fnI Tryz.func99 rfl rfl (fun w0 F0=> ?_)
 refine sq (rg (bx1 (key:=1) (φ:=int t) J fun b1=>(ag (nl (th (sq (rg (fzv 1 1 J J (mkf (ag (nl (th (rt ?_)))))))))))))
 exact rE () [.tmp 2] J [clo 137 [fp [int t]]] ⟨.tmp J,tV⟩ J trivial eX
end prog3
end
section
open ref01 ref03 ref04 ref06 prog prog2 prog3 Part
attribute [local semireducible] eqv in
theorem Cu {x:Value} {w:World} {F:Fz}:(eqv x).p w F x:=rfl
abbrev smE:ByteArray→Value:=fun s=>Value.string s
abbrev smD:ByteArray→Prop:=fun s=>s.size≤aT
abbrev smV:Int→AV:=fun n=>int n
namespace prog5
end prog5
end
section
open ref01 ref03 ref04 ref06 prog prog2 prog3 Part
attribute [local semireducible] eQ any in
theorem Fl {q:Prop} (hq:q) {w:World} {F:Fz} {v:Value}:(eQ q any).p w F v:=⟨hq,tV⟩
theorem yV {x:HA} {H:Hp}:SubH [(0,x)] ((0,x)::H):=⟨by rw[bG];exact rI,tV⟩
theorem RP {t a:Nat} (ht:t<2^63) (h:0<t>>>a):a≤62:=by
 rw[Nat.shiftRight_eq_div_pow] at h
 rcases Nat.lt_or_ge 62 a with h1|h1
 ·have h2:2^63≤2^a:=Nat.pow_le_pow_right O O
  rw[Nat.div_eq_of_lt O] at h
  omega
 ·exact h1
theorem zL {t:Int} {a:Nat} (h:t.toNat>>>a=0):∀j,aK (a+j) t=aK a t
 |0=>rfl
 |j+1=>by
  rw[show a+(j+1)=a+j+1 by omega,jK,zL h j]
  have:has t ((a+j:Nat):Int)=false:=by
   unfold has
   rw[Int.toNat_natCast,Nat.testBit_eq_decide_div_mod_eq]
   rw[Nat.shiftRight_eq_div_pow] at h
   have h2:t.toNat/2^ (a+j)=0:=by
    rw[Nat.pow_add,←Nat.div_div_eq_div_mul,h,Nat.zero_div]
   rw[h2];rfl
  rw[this];simp
theorem Bm (t:Int) (a:Nat):∀j,∃q,aK (a+j) t=aK a t++q
 |0=>⟨[],by simp⟩
 |j+1=>by
  obtain⟨q,hq⟩:=Bm t a j
  rw[show a+(j+1)=a+j+1 by omega,jK,hq,List.append_assoc]
  exact⟨_,rfl⟩
theorem Lf {t:Int} {a:Nat} (h:has t (a:Int)=true) (ha:a≤62):(aK 63 t)[(aK a t).length]?=some (a:Int):=by
 obtain⟨q,hq⟩:=Bm t (a+1) (62- a)
 rw[show a+1+(62- a)=63 by omega] at hq
 rw[hq,jK,if_pos h]
 simp
namespace prog4
theorem Cv (t:Int) (h0:0≤t) (h1:t<2^63):
 It Tryz.prog 137 [fp [int t]] nE (aK 63 t):=by
 intro y Y Z hlaw hz hY0
 refine fnI Tryz.func137 rfl rfl (fun w0 F0=> ?_)
 refine sq (rg (ag (nl (th (bk ?_)))))
 have hI0_0:Y (aK 0 t).length hz∧0≤63:=by
  exact⟨hY0,O⟩
 refine lp (κ:=Nat × HA) (fun p=> [(0,eqv y),(1,fp [int t]),(3,int (p.1:Int))]) (fun p=> [(0,p.2)]) (fun p=>Y (aK p.1 t).length p.2∧p.1≤63) (fun p=>64- p.1) ⟨0,hz⟩ hI0_0 ⟨id,id,id,tV⟩ yV ?_
 intro⟨a,hh⟩ hG0
 have hI0:Y (aK a t).length hh∧a≤63:=hG0
 show Ct _ _ _ _ [(0,eqv y),(1,fp [int t]),(3,int (a:Int))] [(0,hh)] _
 refine sq (sq (rg (lF J J T.aF (mv (bi J J (AY O O O) (bi J J fN (nl (th ?_))))))))
 refine cd J (fun hc0=> ?_) (fun hc0=> ?_)
 ·skip
  have hc0:0<t.toNat>>>a:=by have h5:=of_decide_eq_true hc0;rw[Int.toNat_natCast] at h5;omega
  have ha62:=RP (t:=t.toNat) O hc0
  refine sk (th (sq (bk (sq (rg (lF J J T.aF (mv (bi J J (AY O O O) (bi J J (EO (m:=(t.toNat>>>a)) (Nat.lt_of_le_of_lt (Nat.shiftRight_le _ _) O)) (bi J J dZ (mv ?_)))))))))))
  rcases Bool.eq_false_or_eq_true (decide ((((t.toNat>>>a)&&&1:Nat):Int)=1)) with hg0|hg0
  ·have hg0':=hg0
   try simp at hg0'
   have hha:has t (a:Int)=true:=by unfold has;rw[Int.toNat_natCast,has_eq];exact hg0
   have hxa:=Lf hha ha62
   refine gy rfl rfl rfl hg0 (mv (gy rfl rfl rfl hg0 (mv (gy rfl rfl rfl hg0 (QM (Hi:= [(0,hh)]) rfl (hlaw _ hh (a:Int) hI0.1 hxa) yV fun N bh=>oan 18 rfl fun hres=>(gy rfl rfl rfl hg0 (no rfl (pkT rfl hg0 rfl (nl (th ?_))))))))))
   refine cd J (fun hc1=> ?_) (fun hc1=> ?_)
   ·try simp at hc1
    refine rt (rb (rt_ (rt_ (rb ?_))))
    exact r0 bh.2 rfl (fun _=>Fl (.inr (hres.2 hc1))) yV (.inr rfl)
   ·try simp at hc1
    refine sk (eb (th (rg (mv (bi J J (aG i6) (ag (nl ?_)))))))
    have hN0:Y (aK (a+1) t).length bh.2∧(a+1)≤63:=by
     refine⟨?_,O⟩
     rw[jK,hha];simpa using hres.1 hc1
    exact ln (⟨a+1,bh.2⟩:Nat × HA) hN0 dO ⟨id,id,id,tV⟩ yV
  ·have hg0':=hg0
   try simp at hg0'
   have hha:has t (a:Int)=false:=by unfold has;rw[Int.toNat_natCast,has_eq];exact hg0
   refine gn rfl rfl rfl hg0 rfl rfl (gn rfl rfl rfl hg0 rfl rfl (gn rfl rfl rfl hg0 rfl rfl (gn rfl rfl rfl hg0 rfl rfl (pkF rfl hg0 rfl (nl (th ?_))))))
   refine cd J (fun hc1=> ?_) (fun hc1=> ?_)
   ·try simp at hc1
    skip
   ·try simp at hc1
    refine sk (eb (th (rg (mv (bi J J (aG i6) (ag (nl ?_)))))))
    have hN0:Y (aK (a+1) t).length hh∧(a+1)≤63:=by
     refine⟨?_,O⟩
     rw[jK,hha];simpa using hI0.1
    exact ln (⟨a+1,hh⟩:Nat × HA) hN0 dO ⟨id,id,id,tV⟩ yV
 ·skip
  have hc0:t.toNat>>>a=0:=by have h5:=of_decide_eq_false hc0;rw[Int.toNat_natCast] at h5;exact Nat.eq_zero_of_not_pos (fun h=>h5 (Int.natCast_pos.2 h))
  refine ex (xt_ (xt_ (xb ?_)))
  exact r0 hh rfl (fun _=>Fl (.inl (by have e:=zL hc0 (63- a);rw[show a+(63- a)=63 by omega] at e;rw[e];exact hI0.1))) yV (.inl rfl)
end prog4
end
section
open ref01 ref03 ref04
namespace Rungs
structure LS where
 left:List Int
 dead:List (List Bool)
 out:List Int
def rS (s:SS) (x:Nat) (a:Int) (k:Nat) (t:LS):LS:=if has (ix (ix s.sT x).aP k) a&& !ix (ix t.dead x) k then
 ⟨t.left.set x (ix t.left x- 1),t.dead.set x ((ix t.dead x).set k true),if ix t.left x- 1=0 then t.out++ [(x:Int)] else t.out⟩ else t
def nU (s:SS) (x:Nat) (a:Int):Nat→LS→LS
 |0,st=>st
 |k+1,st=>rS s x a k (nU s x a k st)
def low (s:SS) (x:Nat) (a:Int) (st:LS):LS:=nU s x a (ix s.sT x).aP.length st
def fC (s:SS) (x y j:Nat):List (Int × Int):=((List.range j).filter fun a=>decide (ix (ix s.sT x).next a=(y:Int))).map fun(a:Nat)=>((x:Int),(a:Int))
def dR (s:SS) (k y:Nat):List (Int × Int):=(List.range k).flatMap fun x=>fC s x y (ix s.sT x).next.length
def procs (s:SS) (ps:List (Int × Int)) (st:LS):LS:=ps.foldl (fun st p=>low s p.1.toNat p.2 st) st
def init (s:SS) (k:Nat):LS:=⟨(List.range s.sT.length).map fun x=>if x<k then((ix s.sT x).aP.length:Int) else 0,(List.range s.sT.length).map fun x=>if x<k then List.replicate (ix s.sT x).aP.length false else [],((List.range k).filter fun x=>decide ((ix s.sT x).aP.length=0)).map fun(x:Nat)=>(x:Int)⟩
def rq (s:SS):Nat→LS
 |0=>init s s.sT.length
 |i+1=>if i<(rq s i).out.length then procs s (dR s s.sT.length (ix (rq s i).out i).toNat) (rq s i) else rq s i
def eU (s:SS):List Int:=(rq s s.sT.length).out
structure LInv (s:SS) (st:LS):Prop where
 ll:st.left.length=s.sT.length
 dl:st.dead.length=s.sT.length
 dx:∀x,x<s.sT.length→(ix st.dead x).length=(ix s.sT x).aP.length
 cnt:∀x,x<s.sT.length→ix st.left x=((ix st.dead x).count false:Int)
 bd:∀y,y∈st.out→0≤y∧y<(s.sT.length:Int)
 nd:st.out.Nodup
 mem:∀x,x<s.sT.length→((x:Int)∈st.out↔ix st.left x=0)
 snd:∀x,x<s.sT.length→∀i,i<(ix s.sT x).aP.length→ix (ix st.dead x) i=true→∃a,a<(ix s.sT x).next.length∧0≤ix (ix s.sT x).next a∧has (ix (ix s.sT x).aP i) (a:Int)=true∧Hol s (ix (ix s.sT x).next a).toNat
def Le (st t:LS):Prop:=st.out<+:t.out∧∀x i,ix (ix st.dead x) i=true→ix (ix t.dead x) i=true
theorem Le.refl (st:LS):Le st st:=⟨List.prefix_rfl,fun _ _ h=>h⟩
theorem Le.trans {a b c:LS} (h:Le a b) (k:Le b c):Le a c:=⟨h.1.trans k.1,fun x i g=>k.2 x i (h.2 x i g)⟩
theorem Bn {l:List Bool}:∀{k:Nat},k<l.length→ix l k=false→(l.set k true).count false+1=l.count false:=by
 induction l with
 |nil=>intro k hk;simp at hk
 |cons b l ih=>
  intro k hk h
  cases k with
  |zero=>
   have:b=false:=h
   subst this
   simp
  |succ k=>
   have h1:=ih (k:=k) (by simpa using hk) h
   rw[List.set_cons_succ,List.count_cons,List.count_cons]
   omega
theorem Bo {l:List Int} {x:Int} (h:l.Nodup) (hx:x∉l):(l++ [x]).Nodup:=by
 rw[List.nodup_append]
 exact⟨h,by simp,fun a ha b hb e=>by
  have:b=x:=by simpa using hb
  exact hx (by rw[←this,←e];exact ha)⟩
theorem LInv.hol {s:SS} {st:LS} (h:LInv s st) {x:Nat} (hx:x<s.sT.length) (h0:ix st.left x=0):Hol s x:=by
 refine nS s x hx (fun i hi=> ?_)
 have h1:=h.cnt x hx
 have h2:(ix st.dead x).count false=0:=by omega
 rw[List.count_eq_zero] at h2
 have h3:ix (ix st.dead x) i=true:=by
  have hl:=h.dx x hx
  rw[aD O]
  cases hb:(ix st.dead x)[i]' O with
  |true=>rfl
  |false=>exact absurd (hb▸List.getElem_mem _) h2
 obtain⟨a,h4,h5,h6,h7⟩:=h.snd x hx i hi h3
 exact⟨a,h4,h5,h6,h7⟩
theorem pX {l:List Int} {y:Int} (h:y∈l):∃i,i<l.length∧ix l i=y:=by
 obtain⟨i,hi,e⟩:=List.mem_iff_getElem.1 h
 exact⟨i,hi,by rw[aD hi];exact e⟩
theorem iJ {l:List Int} {i:Nat} (h:i<l.length):ix l i∈l:=by rw[aD h];exact List.getElem_mem h
theorem LInv.outHol {s:SS} {st:LS} (h:LInv s st) {y:Int} (hy:y∈st.out):0≤y∧y<(s.sT.length:Int)∧Hol s y.toNat:=by
 have hb:=h.bd y hy
 refine⟨hb.1,hb.2,h.hol O ((h.mem _ O).1 ?_)⟩
 rw[Int.toNat_of_nonneg hb.1];exact hy
theorem Dt:∀{l m:List Int},l.Nodup→l ⊆ m→l.length≤m.length
 | [],m,_,_=>Nat.zero_le _
 |x::l,m,h,hs=>by
  obtain⟨h1,h2⟩:=List.nodup_cons.1 h
  have hx:x∈m:=hs (by simp)
  have:=Dt (m:=m.erase x) h2 (fun y hy=>(List.mem_erase_of_ne (fun e=>h1 (by rw[←e];exact hy))).2 (hs (by simp[hy])))
  rw[List.length_erase_of_mem hx] at this
  have:=List.length_pos_of_mem hx
  simp;omega
theorem LInv.len {s:SS} {st:LS} (h:LInv s st):st.out.length≤s.sT.length:=by
 have h1:st.out ⊆ (List.range s.sT.length).map fun(x:Nat)=>(x:Int):=fun y hy=>by
  obtain⟨h0,h1,_⟩:=h.outHol hy
  exact List.mem_map.2 ⟨y.toNat,List.mem_range.2 O,O⟩
 have:=Dt h.nd h1
 simpa using this
theorem NP {s:SS} {x:Nat} {a:Nat} (hx:x<s.sT.length) (ha:a<(ix s.sT x).next.length) (h0:0≤ix (ix s.sT x).next a) (hH:Hol s (ix (ix s.sT x).next a).toNat) {t:LS} (h1:LInv s t) {k:Nat} (hk:k<(ix s.sT x).aP.length):
 LInv s (rS s x a k t)∧Le t (rS s x a k t)∧(has (ix (ix s.sT x).aP k) (a:Int)=true→ix (ix (rS s x a k t).dead x) k=true):=by
 unfold rS
 split
 ·next hc=>
  simp only [Bool.and_eq_true,Bool.not_eq_true'] at hc
  obtain⟨c1,c2⟩:=hc
  have hdl:=h1.dx x hx
  have hcnt:=Bn (l:=ix t.dead x) (k:=k) O c2
  have hcx:=h1.cnt x hx
  have hdx:∀y,ix (t.dead.set x ((ix t.dead x).set k true)) y=if y=x then(ix t.dead x).set k true else ix t.dead y:=fun y=>kA (by rw[h1.dl];exact hx) _ y
  have hlx:∀y,ix (t.left.set x (ix t.left x- 1)) y=if y=x then ix t.left x- 1 else ix t.left y:=fun y=>kA (by rw[h1.ll];exact hx) _ y
  have hno:(x:Int)∉t.out:=fun hm=>by have:=(h1.mem x hx).1 hm;omega
  have hmo:∀y:Int,y∈(if ix t.left x- 1=0 then t.out++ [(x:Int)] else t.out)↔y∈t.out∨(ix t.left x- 1=0∧y=(x:Int)):=fun y=>by
   split
   ·next he=>simp[he]
   ·next he=>simp[he]
  have hdk:∀i,ix ((ix t.dead x).set k true) i=if i=k then true else ix (ix t.dead x) i:=fun i=>kA O _ i
  refine⟨⟨by simp[h1.ll],by simp[h1.dl],fun y hy=> ?_,fun y hy=> ?_,fun y hy=> ?_,?_,fun y hy=> ?_,fun y hy i hi hd=> ?_⟩,⟨?_,fun y i hd=> ?_⟩,fun _=> ?_⟩
  ·show(ix (t.dead.set x _) y).length=_
   rw[hdx]
   split
   ·next e=>subst e;simpa using hdl
   ·exact h1.dx y hy
  ·show ix (t.left.set x _) y=((ix (t.dead.set x _) y).count false:Int)
   rw[hdx,hlx]
   split
   ·next e=>subst e;omega
   ·exact h1.cnt y hy
  ·rcases(hmo y).1 hy with h|⟨_,rfl⟩
   ·exact h1.bd y h
   ·omega
  ·show List.Nodup (if _ then _ else _)
   split
   ·exact Bo h1.nd hno
   ·exact h1.nd
  ·show(y:Int)∈(if _ then _ else _)↔ix (t.left.set x _) y=0
   rw[hmo,hlx]
   split
   ·next e=>
    subst e
    constructor
    ·rintro(h|h)
     ·exact absurd h hno
     ·exact h.1
    ·exact fun h=> .inr ⟨h,J⟩
   ·next e=>
    rw[←h1.mem y hy]
    constructor
    ·rintro(h|h)
     ·exact h
     ·exact absurd O e
    ·exact .inl
  ·change ix (ix (t.dead.set x _) y) i=true at hd
   rw[hdx] at hd
   split at hd
   ·next e=>
    subst e
    rw[hdk] at hd
    split at hd
    ·next e2=>subst e2;exact⟨a,ha,h0,c1,hH⟩
    ·exact h1.snd y hy i hi hd
   ·exact h1.snd y hy i hi hd
  ·show t.out<+:(if _ then _ else _)
   split
   ·exact List.prefix_append _ _
   ·exact List.prefix_rfl
  ·show ix (ix (t.dead.set x _) y) i=true
   rw[hdx]
   split
   ·next e=>
    subst e
    rw[hdk]
    split
    ·rfl
    ·exact hd
   ·exact hd
  ·show ix (ix (t.dead.set x _) x) k=true
   rw[hdx,if_pos rfl,hdk,if_pos rfl]
 ·next hc=>
  refine⟨h1,Le.refl _,fun h=> ?_⟩
  rw[h] at hc
  simpa using hc
theorem Ab {s:SS} {x:Nat} {a:Nat} (hx:x<s.sT.length) (ha:a<(ix s.sT x).next.length) (h0:0≤ix (ix s.sT x).next a) (hH:Hol s (ix (ix s.sT x).next a).toNat) {st:LS} (h:LInv s st):
 ∀k,k≤(ix s.sT x).aP.length→LInv s (nU s x a k st)∧Le st (nU s x a k st)∧∀i,i<k→has (ix (ix s.sT x).aP i) (a:Int)=true→ix (ix (nU s x a k st).dead x) i=true
 |0,_=>⟨h,Le.refl _,fun i hi=>by omega⟩
 |k+1,hk=>by
  obtain⟨h1,h2,h3⟩:=Ab hx ha h0 hH h k O
  obtain⟨g1,g2,g3⟩:=NP hx ha h0 hH h1 (k:=k) O
  refine⟨g1,h2.trans g2,fun i hi hh=> ?_⟩
  by_cases e:i=k
  ·subst e;exact g3 hh
  ·exact g2.2 x i (h3 i O hh)
def okP (s:SS) (p:Int × Int):Prop:=∃(x a:Nat),p=((x:Int),(a:Int))∧x<s.sT.length∧a<(ix s.sT x).next.length∧0≤ix (ix s.sT x).next a∧Hol s (ix (ix s.sT x).next a).toNat
def doneP (s:SS) (p:Int × Int) (st:LS):Prop:=∀i,i<(ix s.sT p.1.toNat).aP.length→has (ix (ix s.sT p.1.toNat).aP i) p.2=true→ix (ix st.dead p.1.toNat) i=true
theorem doneP.le {s:SS} {p:Int × Int} {st t:LS} (h:doneP s p st) (k:Le st t):doneP s p t:=fun i hi hh=>k.2 _ _ (h i hi hh)
theorem RR {s:SS} {p:Int × Int} (hp:okP s p) {st:LS} (h:LInv s st):LInv s (low s p.1.toNat p.2 st)∧Le st (low s p.1.toNat p.2 st)∧doneP s p (low s p.1.toNat p.2 st):=by
 obtain⟨x,a,rfl,hx,ha,h0,hH⟩:=hp
 exact Ab hx ha h0 hH h _ (Nat.le_refl _)
theorem JC (s:SS) (ps:List (Int × Int)) (p:Int × Int) (st:LS):procs s (ps++ [p]) st=low s p.1.toNat p.2 (procs s ps st):=by simp[procs]
theorem nF {s:SS}:∀{ps:List (Int × Int)} {st:LS},(∀p∈ps,okP s p)→LInv s st→LInv s (procs s ps st)∧Le st (procs s ps st)∧∀p∈ps,doneP s p (procs s ps st)
 | [],st,_,h=>⟨h,Le.refl _,fun p hp=>by cases hp⟩
 |p::ps,st,hp,h=>by
  obtain⟨h1,h2,h3⟩:=RR (hp p (by simp)) h
  obtain⟨g1,g2,g3⟩:=nF (ps:=ps) (fun q hq=>hp q (by simp[hq])) h1
  refine⟨g1,h2.trans g2,fun q hq=> ?_⟩
  rcases List.mem_cons.1 hq with rfl|hq
  ·exact h3.le g2
  ·exact g3 q hq
theorem JD {s:SS} {x y j:Nat} {p:Int × Int} (h:p∈fC s x y j):∃a:Nat,p=((x:Int),(a:Int))∧a<j∧ix (ix s.sT x).next a=(y:Int):=by
 unfold fC at h
 obtain⟨a,ha,rfl⟩:=List.mem_map.1 h
 obtain⟨h1,h2⟩:=List.mem_filter.1 ha
 exact⟨a,rfl,List.mem_range.1 h1,by simpa using h2⟩
theorem Lg {s:SS} {k y:Nat} {p:Int × Int} (h:p∈dR s k y):∃x a:Nat,p=((x:Int),(a:Int))∧x<k∧a<(ix s.sT x).next.length∧ix (ix s.sT x).next a=(y:Int):=by
 unfold dR at h
 obtain⟨x,hx,hp⟩:=List.mem_flatMap.1 h
 obtain⟨a,h1,h2,h3⟩:=JD hp
 exact⟨x,a,h1,List.mem_range.1 hx,h2,h3⟩
theorem Lh {s:SS} {k y x a:Nat} (hx:x<k) (ha:a<(ix s.sT x).next.length) (h:ix (ix s.sT x).next a=(y:Int)):((x:Int),(a:Int))∈dR s k y:=by
 unfold dR
 refine List.mem_flatMap.2 ⟨x,List.mem_range.2 hx,List.mem_map.2 ⟨a,List.mem_filter.2 ⟨List.mem_range.2 ha,by simpa using h⟩,rfl⟩⟩
theorem oQ {s:SS} {y:Nat} (hy:Hol s y):∀p∈dR s s.sT.length y,okP s p:=fun p hp=>by
 obtain⟨x,a,rfl,hx,ha,h⟩:=Lg hp
 exact⟨x,a,rfl,hx,ha,O,by rw[h];simpa using hy⟩
theorem NQ (s:SS):LInv s (init s s.sT.length):=by
 have hl:∀x,x<s.sT.length→ix (init s s.sT.length).left x=((ix s.sT x).aP.length:Int):=fun x hx=>by
  show ix ((List.range _).map _) x=_
  rw[aD (by simpa using hx)];simp[hx]
 have hd:∀x,x<s.sT.length→ix (init s s.sT.length).dead x=List.replicate (ix s.sT x).aP.length false:=fun x hx=>by
  show ix ((List.range _).map _) x=_
  rw[aD (by simpa using hx)];simp[hx]
 have hm:∀y:Int,y∈(init s s.sT.length).out↔∃x:Nat,x<s.sT.length∧(ix s.sT x).aP.length=0∧(x:Int)=y:=fun y=>by
  show y∈((List.range _).filter _).map _↔_
  simp[and_assoc]
 refine⟨by simp[init],by simp[init],fun x hx=>by rw[hd x hx];simp,fun x hx=>by rw[hd x hx,hl x hx];simp,fun y hy=> ?_,?_,fun x hx=> ?_,fun x hx i hi h=> ?_⟩
 ·obtain⟨x,h1,h2,rfl⟩:=(hm y).1 hy;omega
 ·show(((List.range _).filter _).map _).Nodup
  refine List.Pairwise.map _ (fun a b h e=>h O) (List.nodup_range.filter _)
 ·rw[hm,hl x hx]
  constructor
  ·rintro⟨z,h1,h2,h3⟩
   have:z=x:=by omega
   subst this;omega
  ·exact fun h=>⟨x,hx,O,J⟩
 ·rw[hd x hx,aD (by simpa using hi)] at h
  simp at h
theorem nV (s:SS):∀i,LInv s (rq s i)
 |0=>NQ s
 |i+1=>by
  have ih:=nV s i
  unfold rq
  split
  ·next hi=>exact(nF (oQ (ih.outHol (iJ hi)).2.2) ih).1
  ·exact ih
theorem RS (s:SS) (i:Nat):Le (rq s i) (rq s (i+1)):=by
 have ih:=nV s i
 show Le _ (if _ then _ else _)
 split
 ·next hi=>exact(nF (oQ (ih.outHol (iJ hi)).2.2) ih).2.1
 ·exact Le.refl _
theorem xM {s:SS} {i:Nat} (h:(rq s i).out.length≤i):∀j,rq s (i+j)=rq s i
 |0=>rfl
 |j+1=>by
  have ih:=xM h j
  show(if i+j<(rq s (i+j)).out.length then procs s (dR s s.sT.length (ix (rq s (i+j)).out (i+j)).toNat) (rq s (i+j)) else rq s (i+j))=_
  rw[ih,if_neg O]
theorem NR {s:SS} {i:Nat} (h:(rq s i).out.length≤i):(rq s i).out=eU s:=by
 unfold eU
 have hn:=(nV s s.sT.length).len
 rcases Nat.le_total i s.sT.length with h1|h1
 ·have:=xM h (s.sT.length- i)
  rw[show i+(s.sT.length- i)=s.sT.length by omega] at this
  rw[this]
 ·have:=xM hn (i- s.sT.length)
  rw[show s.sT.length+(i- s.sT.length)=i by omega] at this
  rw[this]
theorem nG {l m:List Int} (h:l<+:m) {j:Nat} (hj:j<l.length):ix m j=ix l j:=by
 obtain⟨q,rfl⟩:=h
 unfold ix
 rw[List.getD_eq_getElem?_getD,List.getD_eq_getElem?_getD,List.getElem?_append_left hj]
theorem Cw (s:SS):∀i,∀j,j<i→j<(rq s i).out.length→∀p∈dR s s.sT.length (ix (rq s i).out j).toNat,doneP s p (rq s i)
 |0,j,hj,_,p,_=>by omega
 |i+1,j,hj,hl,p,hp=>by
  have ih:=nV s i
  have hs:=RS s i
  by_cases hi:i<(rq s i).out.length
  ·have e:rq s (i+1)=procs s (dR s s.sT.length (ix (rq s i).out i).toNat) (rq s i):=by
    show(if _ then _ else _)=_
    rw[if_pos hi]
   rw[nG hs.1 O] at hp
   by_cases ej:j=i
   ·subst ej
    rw[e]
    exact(nF (oQ (ih.outHol (iJ hi)).2.2) ih).2.2 p hp
   ·exact(Cw s i j O O p hp).le hs
  ·have e:rq s (i+1)=rq s i:=by
    show(if _ then _ else _)=_
    rw[if_neg hi]
   rw[e] at hl hp ⊢
   exact Cw s i j O hl p hp
theorem Li {s:SS} (hs:oK s) {x:Nat} (hx:x<s.sT.length):(x:Int)∈eU s↔Hol s x:=by
 have hI:=nV s s.sT.length
 constructor
 ·intro h
  have:=(hI.outHol h).2.2
  simpa using this
 ·intro h
  refine h (fun x=>x<s.sT.length→(x:Int)∈eU s) (fun x hx hc _=> ?_) hx
  refine(hI.mem x hx).2 ?_
  have h1:=hI.cnt x hx
  have h2:(ix (rq s s.sT.length).dead x).count false=0:=by
   rw[List.count_eq_zero]
   intro hf
   obtain⟨i,hi,e⟩:=List.mem_iff_getElem.1 hf
   have hil:i<(ix s.sT x).aP.length:=by rw[←hI.dx x hx];exact hi
   obtain⟨a,ha,h0,hh,hm⟩:=hc i hil
   by_cases hb:(ix (ix s.sT x).next a).toNat<s.sT.length
   ·have hm:=hm hb
    obtain⟨j,hj,ej⟩:=pX hm
    have hlen:=hI.len
    have hd:=Cw s s.sT.length j (by show j<s.sT.length;exact Nat.lt_of_lt_of_le hj hlen) hj ((x:Int),(a:Int)) (by
     have ej:ix (rq s s.sT.length).out j=_:=ej
     rw[ej]
     exact Lh hx ha O)
    have:=hd i (by simpa using hil) (by simpa using hh)
    rw[Int.toNat_natCast,aD hi,e] at this
    cases this
   ·have hk:=hs.st x hx
    have:=hk.nx a (by rw[←hk.len];exact ha)
    omega
  omega
theorem Fp {s:SS} (hs:oK s):marks s.sT.length (eU s)=hOl s:=by
 unfold marks hOl
 refine List.map_congr_left (fun x hx=> ?_)
 have:=Li hs (List.mem_range.1 hx)
 by_cases h:Hol s x
 ·simp[h,this.2 h]
 ·simp[h]
  exact fun hm=>h (this.1 hm)
theorem lM {α:Type} [Inhabited α] {f g:Nat→α} {n t:Nat} {v:α} (ht:t<n) (hv:g t=v) (ho:∀y,y<n→y≠t→g y=f y):((List.range n).map f).set t v=(List.range n).map g:=by
 apply List.ext_getElem?
 intro j
 by_cases e:t=j
 ·subst e;rw[List.getElem?_set_self (by simpa using ht),List.getElem?_map,List.getElem?_range ht,←hv];rfl
 ·rw[List.getElem?_set_ne e,List.getElem?_map,List.getElem?_map]
  by_cases hj:j<n
  ·rw[List.getElem?_range hj];simp[ho j hj (Ne.symm e)]
  ·rw[List.getElem?_eq_none (by simpa using hj)];rfl
theorem Lj (s:SS):init s 0=⟨List.replicate s.sT.length 0,List.replicate s.sT.length [],[]⟩:=by
 unfold init
 simp[List.map_const']
theorem Ll {s:SS} {k:Nat} (hk:k<s.sT.length):init s (k+1)=⟨(init s k).left.set k ((ix s.sT k).aP.length:Int),(init s k).dead.set k (List.replicate (ix s.sT k).aP.length false),if ((ix s.sT k).aP.length:Int)=0 then(init s k).out++ [(k:Int)] else(init s k).out⟩:=by
 have h1:(init s k).left.set k ((ix s.sT k).aP.length:Int)=(init s (k+1)).left:=lM hk (by rw[if_pos O]) (fun y hy hne=>by
  by_cases h:y<k
  ·rw[if_pos h,if_pos O]
  ·rw[if_neg h,if_neg O])
 have h2:(init s k).dead.set k (List.replicate (ix s.sT k).aP.length false)=(init s (k+1)).dead:=lM hk (by rw[if_pos O]) (fun y hy hne=>by
  by_cases h:y<k
  ·rw[if_pos h,if_pos O]
  ·rw[if_neg h,if_neg O])
 rw[h1,h2]
 have h3:(if ((ix s.sT k).aP.length:Int)=0 then(init s k).out++ [(k:Int)] else(init s k).out)=(init s (k+1)).out:=by
  unfold init
  simp only [List.range_succ,List.filter_append,List.map_append]
  by_cases h:(ix s.sT k).aP.length=0
  ·rw[if_pos O]
   congr 1
   rw[List.filter_cons,if_pos (by simpa using h)];rfl
  ·rw[if_neg O,List.filter_cons,if_neg (by simpa using h)]
   simp
 rw[h3]
theorem GZ (s:SS) (k:Nat):(init s k).out.length≤k:=by
 unfold init
 simp only [List.length_map]
 have:=List.length_filter_le (fun x=>decide ((ix s.sT x).aP.length=0)) (List.range k)
 simpa using this
theorem Bp (s:SS) (k y:Nat):dR s (k+1) y=dR s k y++fC s k y (ix s.sT k).next.length:=by
 unfold dR
 rw[List.range_succ,List.flatMap_append];simp
theorem uB (s:SS) (k y j:Nat):fC s k y (j+1)=fC s k y j++if ix (ix s.sT k).next j=(y:Int) then [((k:Int),(j:Int))] else []:=by
 unfold fC
 rw[List.range_succ,List.filter_append,List.map_append]
 congr 1
 by_cases h:ix (ix s.sT k).next j=(y:Int)<;>simp[h]
theorem JE {s:SS} {k j n t:Nat} {F:Nat→List (Int × Int)} (ht:ix (ix s.sT k).next j=(t:Int)) (hn:t<n):((List.range n).map fun y=>F y++fC s k y j).set t (F t++fC s k t j++ [((k:Int),(j:Int))])=(List.range n).map fun y=>F y++fC s k y (j+1):=
 lM hn (by rw[uB,if_pos ht,List.append_assoc]) (fun y hy hne=>by rw[uB,if_neg (fun h=>hne O),List.append_nil])
theorem Ha {s:SS} {k j n:Nat} {F:Nat→List (Int × Int)} (ht:ix (ix s.sT k).next j<0):((List.range n).map fun y=>F y++fC s k y j)=(List.range n).map fun y=>F y++fC s k y (j+1):=
 List.map_congr_left (fun y _=>by rw[uB,if_neg O,List.append_nil])
theorem aQ {α:Type} [Inhabited α] {l:List α} {i:Nat} (h:i<l.length):ix l i∈l:=by rw[aD h];exact List.getElem_mem h
theorem Du (s:SS) (x y j:Nat):(fC s x y j).length≤j:=by
 unfold fC
 rw[List.length_map]
 have:=List.length_filter_le (fun a=>decide (ix (ix s.sT x).next a=(y:Int))) (List.range j)
 simpa using this
theorem Ac {s:SS} {y:Nat} {m:Nat}:∀k,(∀x,x<k→(ix s.sT x).next.length≤m)→(dR s k y).length≤k*m
 |0,_=>by simp[dR]
 |k+1,h=>by
  have ih:=Ac (s:=s) (y:=y) (m:=m) k (fun x hx=>h x O)
  have h1:=Du s k y (ix s.sT k).next.length
  have h2:=h k O
  rw[Bp,List.length_append,Nat.succ_mul]
  omega
theorem JF (s:SS):(List.range s.sT.length).map (dR s 0)=List.replicate s.sT.length []:=by
 rw[show dR s 0=fun _=> [] from rfl];simp[List.map_const']
end Rungs
end
end Go.Proofs.YtnlfjojfgghchaaGreatDoor
