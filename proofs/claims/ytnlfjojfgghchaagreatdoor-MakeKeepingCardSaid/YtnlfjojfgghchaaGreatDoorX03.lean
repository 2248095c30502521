/- The walks of the functions and the plain laws. Own texts of this claim, packed: MkBase, Mkref01, Mkref03, Mkref04, MkPart, Mkref06, Mkprog. -/
import Derived.Test.YtnlfjojfgghchaaGreatDoorProg
import Derived.Test.YtnlfjojfgghchaaGreatDoorX02
import Derived.KernelRfl
set_option linter.all false
namespace AL
open Go
theorem gB {p:Prop} (h:p:=by first|exact gN (by omega)|exact gI (by omega) (by omega)):p:=h
theorem kR {p:Prop} (h:p:=by kernel_rfl):p:=h
theorem i6 {p:Prop} (h:p:=by unfold I64;omega):p:=h
theorem mL {p:Prop} (h:p:=by unfold maxL;omega):p:=h
end AL
namespace Go.Proofs.YtnlfjojfgghchaaGreatDoor
open AL Go
set_option maxRecDepth 100000
section
def nE:Int→List AV:=fun x=> [int x]
abbrev ints (xs:List Int):AV:=sl 1 nE xs
def blE:Bool→List AV:=fun x=> [bl x]
abbrev bls (xs:List Bool):AV:=sl 1 blE xs
def rE_:ByteArray→List AV:=fun x=> [str x]
abbrev strs (xs:List ByteArray):AV:=sl 1 rE_ xs
@[ext] structure SA where
  aP:List Int
  next:List Int
deriving Inhabited,DecidableEq
@[ext] structure SS where
  aC:List ByteArray
  sT:List SA
deriving Inhabited,DecidableEq
def sE:SA→List AV:=fun x=> [ints x.aP,ints x.next]
abbrev state (x:SA):AV:=agg [ints x.aP,ints x.next]
abbrev spec (s:SS):AV:=agg [strs s.aC,sl 2 sE s.sT]
instance (x:Int):OneAll (nE x):=inferInstanceAs (OneAll [int x])
instance (x:Bool):OneAll (blE x):=inferInstanceAs (OneAll [bl x])
instance (x:ByteArray):OneAll (rE_ x):=inferInstanceAs (OneAll [str x])
instance (x:SA):OneAll (sE x):=inferInstanceAs (OneAll [ints x.aP,ints x.next])
instance:FlatE nE:=flat1
instance:FlatE blE:=flat1
instance:FlatE rE_:=flat1
def stateN (N:Nat):SA→List AV:=fun x=> [fre N (ints x.aP),fre N (ints x.next)]
abbrev nspec (N:Nat) (s:SS):AV:=agg [fre N (strs s.aC),fre N (sl 2 sE s.sT)]
instance (N:Nat) (x:SA):OneAll (stateN N x):=inferInstanceAs (OneAll [fre N (ints x.aP),fre N (ints x.next)])
theorem sLn {s:SS} (h:Inh (spec s)):s.aC.length≤140737488355328∧s.sT.length≤140737488355328∧∀k,k<s.sT.length→(ix s.sT k).aP.length≤140737488355328∧(ix s.sT k).next.length≤140737488355328:=
 ⟨(h.agg 0 rfl).len,(h.agg 1 rfl).len,fun _ hk=>⟨((h.agg 1 rfl).el (gK hk) 0 rfl).len,((h.agg 1 rfl).el (gK hk) 1 rfl).len⟩⟩
theorem state_lens {x:SA} (h:Inh (state x)):x.aP.length≤140737488355328∧x.next.length≤140737488355328:=
 ⟨(h.agg 0 rfl).len,(h.agg 1 rfl).len⟩
theorem take_s {α:Type} [Inhabited α] {xs:List α} {k:Nat} (h:k<xs.length):xs.take (k+1)=xs.take k++ [ix xs k]:=by
 rw[List.take_succ_eq_append_getElem h,ix_get h]
end
section
def isLetter (c:Int):Bool:=(decide (97≤c)&&decide (c≤122))||(decide (65≤c)&&decide (c≤90))
def rising (l:List Int):Bool:=(List.range (l.length- 1)).all fun i=>decide (ix l i<ix l (i+1))
def indexOf (l:List ByteArray) (s:ByteArray):Int:=match l.findIdx? (fun x=>decide (x=s)) with|some i=>i|none=> -1
def isSet (n s:Int):Bool:=decide (0≤s)&&decide (s<((2^n.toNat:Nat):Int))
def has (s a:Int):Bool:=s.toNat.testBit a.toNat
def listOf (n:Nat) (s:Int):List Int:=((List.range n).filter fun(a:Nat)=>has s (a:Int)).map fun(a:Nat)=>(a:Int)
theorem has_eq (s a:Nat):s.testBit a=decide (((s>>>a&&&1:Nat):Int)=1):=by
 rw[Nat.testBit_eq_decide_div_mod_eq,Nat.shiftRight_eq_div_pow,Nat.and_one_is_mod]
 by_cases h:s/2^a % 2=1
 ·simp[h]
 ·have h2:s/2^a % 2=0:=by omega
  simp[h2]
theorem listOf_succ (n:Nat) (s:Int):listOf (n+1) s=listOf n s++(if has s (n:Int) then [(n:Int)] else []):=by
 unfold listOf
 rw[List.range_succ,List.filter_append,List.map_append]
 congr 1
 by_cases h:has s (n:Int)<;>simp[h]
theorem listOf_len (n:Nat) (s:Int):(listOf n s).length≤n:=by
 unfold listOf
 rw[List.length_map]
 exact Nat.le_trans (List.length_filter_le _ _) (by simp)
theorem all_range_succ (n:Nat) (f:Nat→Bool):(List.range (n+1)).all f=((List.range n).all f&&f n):=by
 rw[List.range_succ,List.all_append];simp
theorem all_range_not {n i:Nat} {f:Nat→Bool} (hi:i<n) (hf:f i=false):(List.range n).all f=false:=by
 cases h:(List.range n).all f
 ·rfl
 ·have:=List.all_eq_true.1 h i (List.mem_range.2 hi)
  rw[hf] at this;cases this
def nameByte (c:Int):Bool:=isLetter c||(decide (48≤c)&&decide (c≤57))||decide (c=45)||decide (c=95)
def isName (s:ByteArray):Bool:=decide (1≤s.size)&&decide (s.size≤20)&&isLetter (byteAt s 0)&&(List.range s.size).all fun i=>nameByte (byteAt s i)
def actionsOK (l:List ByteArray):Bool:=decide (l.length≤8)&&(List.range l.length).all fun i=>isName (ix l i)&&decide (indexOf l (ix l i)=(i:Int))
theorem all_take_succ {α:Type} [Inhabited α] {xs:List α} {k:Nat} (h:k<xs.length) (p:α→Bool):(xs.take (k+1)).all p=((xs.take k).all p&&p (ix xs k)):=by
 rw[take_s h,List.all_append];simp
theorem all_fail {α:Type} [Inhabited α] {xs:List α} {k:Nat} (h:k<xs.length) {p:α→Bool} (hp:p (ix xs k)=false):xs.all p=false:=by
 cases hh:xs.all p
 ·rfl
 ·have:=List.all_eq_true.1 hh (ix xs k) (by rw[ix_get h];exact List.getElem_mem h)
  rw[hp] at this;cases this
theorem all_ix {α:Type} [Inhabited α] {xs:List α} {p:α→Bool} (hh:xs.all p=true) {k:Nat} (h:k<xs.length):p (ix xs k)=true:=List.all_eq_true.1 hh _ (by rw[ix_get h];exact List.getElem_mem h)
namespace T
theorem sl66:IsSlice Tryz.prog 66 3 1:=isSlice_of kR
theorem mixed:Tryz.prog.follows .mixedOrders=true:=by kernel_rfl
theorem one3:IsOne Tryz.prog 3:=isOne_of kR
theorem sl22:IsSlice Tryz.prog 22 9 1:=isSlice_of kR
theorem one9:IsOne Tryz.prog 9:=isOne_of kR
theorem ent51:Ent Tryz.prog 51:=ent_of kR
theorem mk66:MakeT Tryz.prog 66 3 1 8 [.int .i64 0]:=makeT_of kR kR
theorem str9:Tryz.prog.underlying 9=some .string:=by kernel_rfl
theorem ent141:Ent Tryz.prog 141:=ent_of kR
theorem ent104:Ent Tryz.prog 104:=ent_of kR
theorem ent105:Ent Tryz.prog 105:=ent_of kR
end T
namespace ref01
theorem Has_ok (s a:Int) (h0:0≤s) (h1:s<2^63) (h2:0≤a) (h3:a≤64):
 Fn0 Tryz.prog 51 [int s,int a] (bl (has s a)):=by
 refine fnI Tryz.func51 rfl rfl (fun w0 F0=> ?_)
 refine sq (rg (ag (nl (th (sq (rg (mv (mv (bi J J (b_shrI O O O) (bi J J (b_and1 (m:=(s.toNat>>>a.toNat)) (Nat.lt_of_le_of_lt (Nat.shiftRight_le _ _) O)) (bi J J b_eql (ag (nl (th (rt ?_)))))))))))))))
 have hr0:(decide ((((s.toNat>>>a.toNat)&&&1:Nat):Int)=1))=(has s a):=by
  exact(has_eq _ _).symm
 exact rE () [.tmp 4] J [bl (decide ((((s.toNat>>>a.toNat)&&&1:Nat):Int)=1))] ⟨.tmp J,tV⟩ (cA1 (fun x0=>rV [bl x0]) hr0) trivial eX
theorem letter_ok (c:Int):
 Fn0 Tryz.prog 141 [u8 c] (bl (isLetter c)):=by
 refine fnI Tryz.func141 rfl rfl (fun w0 F0=> ?_)
 refine sq (rg (ag (nl (th (sq (rg (mv (bi J J b_geq (mv ?_)))))))))
 apply gAnd (t:=5) (pd:=8) rfl
 rotate_left
 ·intro hg0 fin
  have hg0':=hg0
  try simp at hg0'
  exact gy J J J hg0 (mv (gy J J J hg0 (bi J J b_leq (pkT J hg0 J (drp (X:= [(7,_),(6,_)]) ⟨J,J,tV⟩ fin)))))
 ·intro hg0 fin
  exact gn J J J hg0 J J (gn J J J hg0 J J (pkF J hg0 J (drp (X:= [(7,_),(6,_)]) ⟨J,J,tV⟩ fin)))
 refine mv ?_
 apply gOr (t:=9) (pd:=16) rfl
 rotate_left
 ·intro hg1 fin
  have hg1':=hg1
  try simp at hg1'
  refine gy rfl rfl rfl hg1 (mv (gy rfl rfl rfl hg1 (bi rfl rfl b_geq (gy rfl rfl rfl hg1 (mv ?_)))))
  apply gAnd (t:=12) (pd:=15) rfl
  rotate_left
  ·intro hg2 fin
   have hg2':=hg2
   try simp at hg2'
   exact gy J J J hg2 (mv (gy J J J hg2 (bi J J b_leq (gy J J J hg1 (pkT J hg2 J (drp (X:= [(14,_),(13,_)]) ⟨J,J,tV⟩ fin))))))
  ·intro hg2 fin
   exact gn J J J hg2 J J (gn J J J hg2 J J (gy J J J hg1 (pkF J hg2 J (drp (X:= [(14,_),(13,_)]) ⟨J,J,tV⟩ fin))))
  exact pkF rfl hg1 rfl (drp (X:= [(15,_),(12,_),(11,_),(10,_)]) ⟨rfl,rfl,rfl,rfl,tV⟩ fin)
 ·intro hg1 fin
  exact gn J J J hg1 J J (gn J J J hg1 J J (gn J J J hg1 J J (gu J J J J J (gu J J J J J (gn J J J hg1 J J (pkT J hg1 J (drp (X:= [(15,_),(14,_),(13,_),(12,_),(11,_),(10,_)]) ⟨J,J,J,J,J,J,tV⟩ fin)))))))
 refine ag (nl (th (rt ?_)))
 have hr0:(((decide (97≤c))&&(decide (c≤122)))||((decide (65≤c))&&(decide (c≤90))))=(isLetter c):=by
  first|rfl|simp_all|omega
 exact rE () [.tmp 2] J [bl (((decide (97≤c))&&(decide (c≤122)))||((decide (65≤c))&&(decide (c≤90))))] ⟨.tmp J,tV⟩ (cA1 (fun x0=>rV [bl x0]) hr0) trivial eX
theorem Rising_ok (l:List Int):
 Fn0 Tryz.prog 106 [ints l] (bl (rising l)):=by
 refine fnI Tryz.func106 rfl rfl (fun w0 F0=> ?_)
 refine fcC (slenI 0 J) (fun hm0=> ?_)
 refine sq (rg (ag (nl (th (sq (sq (rg (ag (nl (th (bk ?_)))))))))))
 have hI0_0:(0+1≤l.length∨l.length=0∧0=0)∧(List.range 0).all (fun i=>decide (ix l i<ix l (i+1)))=true:=by
  refine⟨O,by simp⟩
 refine lp (κ:=Nat) (fun p=> [(0,sl 1 nE l),(3,int ((p+1:Nat):Int))]) (fun p=> []) (fun p=>(p+1≤l.length∨l.length=0∧p=0)∧(List.range p).all (fun i=>decide (ix l i<ix l (i+1)))=true) (fun p=>l.length- p) 0 hI0_0 ⟨id,id,tV⟩ trivial ?_
 intro k hG0
 have hI0:(k+1≤l.length∨l.length=0∧k=0)∧(List.range k).all (fun i=>decide (ix l i<ix l (i+1)))=true:=hG0
 refine sq (sq (rg (mv (mv (lnF J T.sl66 (bi J J b_lss (nl (th ?_))))))))
 refine cd J (fun hc0=> ?_) (fun hc0=> ?_)
 ·try simp at hc0
  refine sk (th (sq (bk (sq (dr (nh:=10) [0,0,2,7,15,0,0,96,224,511] T.mixed kR ?_)))))
  refine st_ J (fun _ _ _ gq kq=>mv' (gq.1.trans J) kq) ?_
  refine st_ J (fun _ _ _ gq kq=>mv' (gq.1.trans J) kq) ?_
  refine st_ J (fun _ _ _ gq kq=>bi (gq.1.trans J) J (b_sub i6) kq) ?_
  refine st_ J (fun _ _ _ gq kq=>iF (gq.1.trans J) (gq.2.1.trans J) T.sl66 O gB kq) ?_
  refine st_ J (fun _ _ _ gq kq=>lF (gq.1.trans J) J T.one3 kq) ?_
  refine st_ J (fun _ _ _ gq kq=>mv' (gq.1.trans J) kq) ?_
  refine st_ J (fun _ _ _ gq kq=>mv' (gq.1.trans J) kq) ?_
  refine st_ J (fun _ _ _ gq kq=>iF (gq.1.trans J) (gq.2.1.trans J) T.sl66 O gB kq) ?_
  refine st_ J (fun _ _ _ gq kq=>lF (gq.1.trans J) J T.one3 kq) ?_
  refine st_ J (fun _ _ _ gq kq=>bi (gq.1.trans J) (gq.2.1.trans J) b_geq kq) ?_
  refine pn (nl (th ?_))
  refine cd J (fun hc1=> ?_) (fun hc1=> ?_)
  ·try simp at hc1
   have hlt:k<l.length- 1:=by omega
   refine sq (rg (ag (nl (th (rt (rb (rt_ (rt_ (rb (rt_ ?_))))))))))
   have hr0:false=(rising l):=by
    exact(all_range_not hlt (by simp;omega)).symm
   exact rE () [.tmp 2] J [bl false] ⟨.tmp J,tV⟩ (cA1 (fun x0=>rV [bl x0]) hr0) trivial eX
  ·try simp at hc1
   refine sk (eb (th (rg (mv (bi J J (b_add i6) (ag (nl ?_)))))))
   have hN0:((k+1)+1≤l.length∨l.length=0∧(k+1)=0)∧(List.range (k+1)).all (fun i=>decide (ix l i<ix l (i+1)))=true:=by
    refine⟨O,?_⟩
    rw[all_range_succ,hI0.2]
    simp at hc1 ⊢
    exact hc1
   exact ln (k+1) hN0 dO ⟨id,id,tV⟩ trivial
 ·try simp at hc0
  refine ex (xt_ (xt_ (xb (th (sq (rg (ag (nl (th (rt ?_))))))))))
  have hr0:true=(rising l):=by
   unfold rising
   rw[show l.length- 1=k by omega]
   exact hI0.2.symm
  exact rE () [.tmp 2] J [bl true] ⟨.tmp J,tV⟩ (cA1 (fun x0=>rV [bl x0]) hr0) trivial eX
theorem Index_ok (l:List ByteArray) (s:ByteArray):
 Fn0 Tryz.prog 105 [strs l,str s] (int (indexOf l s)):=by
 refine fnI Tryz.func105 rfl rfl (fun w0 F0=> ?_)
 refine fcC (slenI 0 J) (fun hm0=> ?_)
 refine sq (rg (ag (nl (th (sq (sq (rg (mv (lnF J T.sl22 (mv (nl (th (bk ?_)))))))))))))
 have hI0_0:0≤l.length:=by
  first|omega|simp
 have hI0_1:∀x∈l.take 0,x≠s:=by
  simp
 refine lp (κ:=Nat) (fun p=> [(1,str s),(7,sl 1 rE_ l),(8,int (l.length:Int)),(9,int (p:Int))]) (fun p=> []) (fun p=>(p≤l.length)∧(∀x∈l.take p,x≠s)) (fun p=>l.length- p) 0 ⟨hI0_0,hI0_1⟩ ⟨id,id,id,id,tV⟩ trivial ?_
 intro k hG0
 obtain⟨hk0,hI0⟩:(k≤l.length)∧(∀x∈l.take k,x≠s):=hG0
 refine sq (rg (bi J J b_lss (nl (th (sq ?_)))))
 refine cd J (fun hc0=> ?_) (fun hc0=> ?_)
 ·try simp at hc0
  refine sk (th (sq (bk (sq (rg (mv (iF J J T.sl22 O gB (lF J J T.one9 (ag (ag (nl (th (sq (rg (mv (mv (bi J J b_eqlS (nl (th ?_)))))))))))))))))))
  refine cd J (fun hc1=> ?_) (fun hc1=> ?_)
  ·try simp at hc1
   refine sq (rg (mv (ag (nl (th (rt (rb (rt_ (rt_ (rb (rt_ ?_)))))))))))
   have hr0:((k:Int):Int)=(indexOf l s):=by
    unfold indexOf
    have:l.findIdx? (fun x=>decide (x=s))=some k:=by
     rw[List.findIdx?_eq_some_iff_getElem]
     refine⟨O,by simpa [ix_get (show k<l.length by omega)] using hc1,fun j hj=> ?_⟩
     have:=hI0 l[j] (List.mem_take_iff_getElem.2 ⟨j,O,rfl⟩)
     simpa using this
    rw[this]
   exact rE () [.tmp 4] J [int (k:Int)] ⟨.tmp J,tV⟩ (cA1 (fun x0=>rV [int x0]) hr0) trivial eX
  ·try simp at hc1
   refine sk (eb (th (rg (bi J J (b_add i6) (mv (nl ?_))))))
   have hN0:(k+1)≤l.length:=by
    first|omega|simp_all
   have hN1:∀x∈l.take (k+1),x≠s:=by
    rw[take_s O]
    intro x hx
    rcases List.mem_append.1 hx with hx|hx
    ·exact hI0 x hx
    ·simp at hx;subst hx;exact hc1
   exact ln (k+1) ⟨hN0,hN1⟩ dO ⟨id,id,id,id,tV⟩ trivial
 ·try simp at hc0
  refine ex (xt_ (xt_ (xb (th (sq (rg (ag (nl (th (rt ?_))))))))))
  have hr0:((-1):Int)=(indexOf l s):=by
   unfold indexOf
   have:l.findIdx? (fun x=>decide (x=s))=none:=by
    rw[List.findIdx?_eq_none_iff]
    intro x hx
    have hk2:k=l.length:=by omega
    rw[hk2,List.take_length] at hI0
    simp[hI0 x hx]
   rw[this]
  exact rE () [.tmp 4] J [int (-1)] ⟨.tmp J,tV⟩ (cA1 (fun x0=>rV [int x0]) hr0) trivial eX
theorem Set_ok (n s:Int) (h0:0≤n) (h1:n<63):
 Fn0 Tryz.prog 31 [int n,int s] (bl (isSet n s)):=by
 refine fnI Tryz.func31 rfl rfl (fun w0 F0=> ?_)
 refine sq (rg (ag (nl (th (sq (rg (mv (bi J J b_geq (mv ?_)))))))))
 apply gAnd (t:=7) (pd:=12) rfl
 rotate_left
 ·intro hg0 fin
  have hg0':=hg0
  try simp at hg0'
  exact gy J J J hg0 (mv (gy J J J hg0 (mv (gy J J J hg0 (bi J J (b_shlI O O) (gy J J J hg0 (bi J J b_lss (pkT J hg0 J (drp (X:= [(11,_),(10,_),(9,_),(8,_)]) ⟨J,J,J,J,tV⟩ fin)))))))))
 ·intro hg0 fin
  exact gn J J J hg0 J J (gn J J J hg0 J J (gn J J J hg0 J J (gn J J J hg0 J J (pkF J hg0 J (drp (X:= [(11,_),(10,_),(9,_),(8,_)]) ⟨J,J,J,J,tV⟩ fin)))))
 refine ag (nl (th (rt ?_)))
 have hr0:((decide (0≤s))&&(decide (s<((2^n.toNat:Nat):Int))))=(isSet n s):=by
  first|rfl|simp_all|omega
 exact rE () [.tmp 4] J [bl ((decide (0≤s))&&(decide (s<((2^n.toNat:Nat):Int))))] ⟨.tmp J,tV⟩ (cA1 (fun x0=>rV [bl x0]) hr0) trivial eX
theorem List_ok (n:Nat) (s:Int) (hn:n≤64) (h0:0≤s) (h1:s<2^63):
 Fn0 Tryz.prog 107 [int (n:Int),int s] (ints (listOf n s)):=by
 refine fnI Tryz.func107 rfl rfl (fun w0 F0=> ?_)
 refine sq (rg (ag (kn 4 (sl 1 nE []) J slnil (nl (th (sq (rg (nw 5 3 1 nE (ag (rtg (key:=5) 5 J (nl (th (sq (sq (rg (mv (mv (nl (th (bk ?_))))))))))))))))))))
 have hI0_0:0≤n:=by
  first|omega|simp
 have hI0_1:([]:List Int)=listOf 0 s:=by
  rfl
 refine lp (κ:=Nat × Value × (List Int)) (fun p=> [(1,int s),(4,sl 1 nE []),(5,osl 5 p.2.1),(7,int (n:Int)),(8,int (p.1:Int))]) (fun p=> [(5,own p.2.1 3 1 nE p.2.2)]) (fun p=>(p.1≤n)∧(p.2.2=listOf p.1 s)) (fun p=>n- p.1) ⟨0,(.slice none 0 0),([]:List Int)⟩ ⟨hI0_0,hI0_1⟩ ⟨id,id,id,id,id,tV⟩ ⟨rI,tV⟩ ?_
 intro⟨k,v,acc⟩ hG0
 obtain⟨hk0,hI0⟩:(k≤n)∧(acc=listOf k s):=hG0
 show Ct _ _ _ _ [(1,int s),(4,sl 1 nE []),(5,osl 5 v),(7,int (n:Int)),(8,int (k:Int))] [(5,own v 3 1 nE acc)] _
 have hll:=listOf_len k s
 rw[←hI0] at hll
 refine sq (rg (bi J J b_lss (nl (th (sq ?_)))))
 refine cd J (fun hc0=> ?_) (fun hc0=> ?_)
 ·try simp at hc0
  refine sk (th (sq (bk (sq (rg (mv (ag (nl (th (sq (rg (mv (mv (cal0 (φs:= [int s,int (k:Int)]) (φ:=bl (has s (k:Int))) ⟨J,J,tV⟩ (ref01.Has_ok _ _ O O O O) T.ent51 (nl (th ?_))))))))))))))))
  refine cd J (fun hc1=> ?_) (fun hc1=> ?_)
  ·try simp at hc1
   refine rg (mv (mv (bsE (enc:=nE) (xs:= [(k:Int)]) (css:= [[int (k:Int)]]) T.mk66 ⟨J,J,p1 (φ:=int (k:Int)) J,tV⟩ J J J J (ap (key:=5) (zs:= [(k:Int)]) osl_eq J J J T.mk66 (by unfold maxL at*;simp;omega) (by unfold maxL at*;simp;omega) fun v17=>(ag (nl (eb (th (rg (bi J J (b_add i6) (mv (nl ?_))))))))))))
   have hN0:(k+1)≤n:=by
    first|omega|simp_all
   have hN1:(acc++ [(k:Int)])=listOf (k+1) s:=by
    rw[listOf_succ,hc1];simp[hI0]
   exact ln (⟨k+1,v17,acc++ [(k:Int)]⟩:Nat × Value × (List Int)) ⟨hN0,hN1⟩ dO ⟨id,id,id,id,id,tV⟩ ⟨rI,tV⟩
  ·try simp at hc1
   refine sk (eb (th (rg (bi J J (b_add i6) (mv (nl ?_))))))
   have hN0:(k+1)≤n:=by
    first|omega|simp_all
   have hN1:acc=listOf (k+1) s:=by
    rw[listOf_succ,hc1];simp[hI0]
   exact ln (⟨k+1,v,acc⟩:Nat × Value × (List Int)) ⟨hN0,hN1⟩ dO ⟨id,id,id,id,id,tV⟩ ⟨rI,tV⟩
 ·try simp at hc0
  refine ex (xt_ (xt_ (xb (th (sq (rg (mv (ag (nl (th (rt ?_)))))))))))
  refine fzA 5 4 rfl rfl ?_
  have hr0:acc=(listOf n s):=by
   rw[hI0];congr 1;omega
  exact rE () [.tmp 4] J [sl 1 nE acc] ⟨.tmp J,tV⟩ (cA1 (fun x0=>rV [sl 1 nE x0]) hr0) trivial eX
theorem Name_ok (s:ByteArray):
 Fn0 Tryz.prog 104 [str s] (bl (isName s)):=by
 refine fnI Tryz.func104 rfl rfl (fun w0 F0=> ?_)
 refine sq (rg (ag (nl (th (sq (sq (rg (mv (lnS J T.str9 (bi J J b_lss (mv ?_)))))))))))
 apply gOr (t:=8) (pd:=12) rfl
 rotate_left
 ·intro hg0 fin
  have hg0':=hg0
  try simp at hg0'
  exact gy J J J hg0 (mv (gy J J J hg0 (lnS J T.str9 (gy J J J hg0 (bi J J b_gtr (pkF J hg0 J (drp (X:= [(11,_),(10,_),(9,_)]) ⟨J,J,J,tV⟩ fin)))))))
 ·intro hg0 fin
  exact gn J J J hg0 J J (gn J J J hg0 J J (gn J J J hg0 J J (pkT J hg0 J (drp (X:= [(11,_),(10,_),(9,_)]) ⟨J,J,J,tV⟩ fin))))
 refine mv ?_
 apply gOr (t:=13) (pd:=18) rfl
 rotate_left
 ·intro hg1 fin
  have hg1':=hg1
  try simp at hg1'
  exact gy J J J hg1 (mv (gy J J J hg1 (idxS J J T.str9 O O (gy J J J hg1 (cal0 (φs:= [u8 (byteAt s 0)]) (φ:=bl (isLetter (byteAt s 0))) ⟨J,tV⟩ (ref01.letter_ok _) T.ent141 (gy J J J hg1 (no J (pkF J hg1 J (drp (X:= [(17,_),(16,_),(15,_),(14,_)]) ⟨J,J,J,J,tV⟩ fin)))))))))
 ·intro hg1 fin
  exact gn J J J hg1 J J (gn J J J hg1 J J (gn J J J hg1 J J (gn J J J hg1 J J (pkT J hg1 J (drp (X:= [(17,_),(16,_),(15,_),(14,_)]) ⟨J,J,J,J,tV⟩ fin)))))
 refine nl (th ?_)
 refine cd J (fun hc0=> ?_) (fun hc0=> ?_)
 ·try simp at hc0
  refine sq (rg (ag (nl (th (rt (rt_ ?_))))))
  have hr0:false=(isName s):=by
   unfold isName
   by_cases h1:isLetter (byteAt s 0)=true
   ·simp[h1] at hc0
    rw[show(decide (1≤s.size)&&decide (s.size≤20))=false by simp;omega];simp
   ·simp[h1]
  exact rE () [.tmp 2] J [bl false] ⟨.tmp J,tV⟩ (cA1 (fun x0=>rV [bl x0]) hr0) trivial eX
 ·try simp at hc0
  refine sk (th (sq (sq (rg (mv (lnS J T.str9 (mv (nl (th (bk ?_))))))))))
  have hI0_0:0≤s.size:=by
   first|omega|simp
  have hI0_1:(List.range 0).all (fun i=>nameByte (byteAt s i))=true:=by
   simp
  refine lp (κ:=Nat) (fun p=> [(0,str s),(20,int (s.size:Int)),(21,int (p:Int))]) (fun p=> []) (fun p=>(p≤s.size)∧((List.range p).all (fun i=>nameByte (byteAt s i))=true)) (fun p=>s.size- p) 0 ⟨hI0_0,hI0_1⟩ ⟨id,id,id,tV⟩ trivial ?_
  intro k hG0
  obtain⟨hk0,hI0⟩:(k≤s.size)∧((List.range k).all (fun i=>nameByte (byteAt s i))=true):=hG0
  refine sq (rg (bi J J b_lss (nl (th (sq ?_)))))
  refine cd J (fun hc1=> ?_) (fun hc1=> ?_)
  ·try simp at hc1
   refine sk (th (sq (bk (sq (rg (mv (ag (nl (th (sq (rg (mv (mv (idxS J J T.str9 O O (ag (nl (th (sq (rg (mv (cal0 (φs:= [u8 (byteAt s k)]) (φ:=bl (isLetter (byteAt s k))) ⟨J,tV⟩ (ref01.letter_ok _) T.ent141 (no J (mv ?_)))))))))))))))))))))))
   apply gAnd (t:=30) (pd:=37) rfl
   rotate_left
   ·intro hg2 fin
    have hg2':=hg2
    try simp at hg2'
    refine gy rfl rfl rfl hg2 (mv (gy rfl rfl rfl hg2 (bi rfl rfl b_lss (gy rfl rfl rfl hg2 (mv ?_)))))
    apply gOr (t:=33) (pd:=36) rfl
    rotate_left
    ·intro hg3 fin
     have hg3':=hg3
     try simp at hg3'
     exact gy J J J hg3 (mv (gy J J J hg3 (bi J J b_gtr (gy J J J hg2 (pkF J hg3 J (drp (X:= [(35,_),(34,_)]) ⟨J,J,tV⟩ fin))))))
    ·intro hg3 fin
     exact gn J J J hg3 J J (gn J J J hg3 J J (gy J J J hg2 (pkT J hg3 J (drp (X:= [(35,_),(34,_)]) ⟨J,J,tV⟩ fin))))
    exact pkT rfl hg2 rfl (drp (X:= [(36,_),(33,_),(32,_),(31,_)]) ⟨rfl,rfl,rfl,rfl,tV⟩ fin)
   ·intro hg2 fin
    exact gn J J J hg2 J J (gn J J J hg2 J J (gn J J J hg2 J J (gu J J J J J (gu J J J J J (gn J J J hg2 J J (pkF J hg2 J (drp (X:= [(36,_),(35,_),(34,_),(33,_),(32,_),(31,_)]) ⟨J,J,J,J,J,J,tV⟩ fin)))))))
   refine mv ?_
   apply gAnd (t:=38) (pd:=41) rfl
   rotate_left
   ·intro hg4 fin
    have hg4':=hg4
    try simp at hg4'
    exact gy J J J hg4 (mv (gy J J J hg4 (bi J J b_neq (pkT J hg4 J (drp (X:= [(40,_),(39,_)]) ⟨J,J,tV⟩ fin)))))
   ·intro hg4 fin
    exact gn J J J hg4 J J (gn J J J hg4 J J (pkF J hg4 J (drp (X:= [(40,_),(39,_)]) ⟨J,J,tV⟩ fin)))
   refine mv ?_
   apply gAnd (t:=42) (pd:=45) rfl
   rotate_left
   ·intro hg5 fin
    have hg5':=hg5
    try simp at hg5'
    exact gy J J J hg5 (mv (gy J J J hg5 (bi J J b_neq (pkT J hg5 J (drp (X:= [(44,_),(43,_)]) ⟨J,J,tV⟩ fin)))))
   ·intro hg5 fin
    exact gn J J J hg5 J J (gn J J J hg5 J J (pkF J hg5 J (drp (X:= [(44,_),(43,_)]) ⟨J,J,tV⟩ fin)))
   refine nl (th ?_)
   refine cd J (fun hc2=> ?_) (fun hc2=> ?_)
   ·try simp at hc2
    refine sq (rg (ag (nl (th (rt (rb (rt_ (rt_ (rb (rt_ ?_))))))))))
    have hr0:false=(isName s):=by
     unfold isName
     rw[all_range_not (i:=k) O ?_]
     ·simp
     ·simp[nameByte,hc2.1.1.1]
      omega
    exact rE () [.tmp 2] J [bl false] ⟨.tmp J,tV⟩ (cA1 (fun x0=>rV [bl x0]) hr0) trivial eX
   ·try simp at hc2
    refine sk (eb (th (rg (bi J J (b_add i6) (mv (nl ?_))))))
    have hN0:(k+1)≤s.size:=by
     first|omega|simp_all
    have hN1:(List.range (k+1)).all (fun i=>nameByte (byteAt s i))=true:=by
     rw[all_range_succ,hI0]
     simp[nameByte]
     by_cases h1:isLetter (byteAt s k)=true
     ·simp[h1]
     ·simp[h1] at hc2
      simp[h1]
      omega
    exact ln (k+1) ⟨hN0,hN1⟩ dO ⟨id,id,id,tV⟩ trivial
  ·try simp at hc1
   refine ex (xt_ (xt_ (xb (th (sq (rg (ag (nl (th (rt ?_))))))))))
   have hr0:true=(isName s):=by
    unfold isName
    rw[show s.size=k by omega,hI0]
    simp[hc0.2]
    omega
   exact rE () [.tmp 2] J [bl true] ⟨.tmp J,tV⟩ (cA1 (fun x0=>rV [bl x0]) hr0) trivial eX
theorem Is_ok (l:List ByteArray):
 Fn0 Tryz.prog 56 [strs l] (bl (actionsOK l)):=by
 refine fnI Tryz.func56 rfl rfl (fun w0 F0=> ?_)
 refine fcC (slenI 0 J) (fun hm0=> ?_)
 refine sq (rg (ag (nl (th (sq (sq (rg (mv (lnF J T.sl22 (bi J J b_gtr (nl (th ?_))))))))))))
 refine cd J (fun hc0=> ?_) (fun hc0=> ?_)
 ·try simp at hc0
  refine sq (rg (ag (nl (th (rt (rt_ ?_))))))
  have hr0:false=(actionsOK l):=by
   unfold actionsOK
   rw[decide_eq_false O];rfl
  exact rE () [.tmp 2] J [bl false] ⟨.tmp J,tV⟩ (cA1 (fun x0=>rV [bl x0]) hr0) trivial eX
 ·try simp at hc0
  refine sk (th (sq (sq (rg (mv (lnF J T.sl22 (mv (nl (th (bk ?_))))))))))
  have hI0_0:0≤l.length:=by
   first|omega|simp
  have hI0_1:(List.range 0).all (fun i=>isName (ix l i)&&decide (indexOf l (ix l i)=(i:Int)))=true:=by
   simp
  refine lp (κ:=Nat) (fun p=> [(0,sl 1 rE_ l),(8,sl 1 rE_ l),(9,int (l.length:Int)),(10,int (p:Int))]) (fun p=> []) (fun p=>(p≤l.length)∧((List.range p).all (fun i=>isName (ix l i)&&decide (indexOf l (ix l i)=(i:Int)))=true)) (fun p=>l.length- p) 0 ⟨hI0_0,hI0_1⟩ ⟨id,id,id,id,tV⟩ trivial ?_
  intro k hG0
  obtain⟨hk0,hI0⟩:(k≤l.length)∧((List.range k).all (fun i=>isName (ix l i)&&decide (indexOf l (ix l i)=(i:Int)))=true):=hG0
  refine sq (rg (bi J J b_lss (nl (th (sq ?_)))))
  refine cd J (fun hc1=> ?_) (fun hc1=> ?_)
  ·try simp at hc1
   refine sk (th (sq (bk (sq (rg (mv (iF J J T.sl22 O gB (lF J J T.one9 (ag (ag (nl (th (sq (rg (mv (cal0 (φs:= [str (ix l k)]) (φ:=bl (isName (ix l k))) ⟨J,tV⟩ (ref01.Name_ok _) T.ent104 (no J (mv ?_))))))))))))))))))
   apply gOr (t:=18) (pd:=24) rfl
   rotate_left
   ·intro hg0 fin
    have hg0':=hg0
    try simp at hg0'
    exact gy J J J hg0 (mv (gy J J J hg0 (mv (gy J J J hg0 (cal0 (φs:= [sl 1 rE_ l,str (ix l k)]) (φ:=int (indexOf l (ix l k))) ⟨J,J,tV⟩ (ref01.Index_ok _ _) T.ent105 (gy J J J hg0 (mv (gy J J J hg0 (bi J J b_neq (pkF J hg0 J (drp (X:= [(23,_),(22,_),(21,_),(20,_),(19,_)]) ⟨J,J,J,J,J,tV⟩ fin)))))))))))
   ·intro hg0 fin
    exact gn J J J hg0 J J (gn J J J hg0 J J (gn J J J hg0 J J (gn J J J hg0 J J (gn J J J hg0 J J (pkT J hg0 J (drp (X:= [(23,_),(22,_),(21,_),(20,_),(19,_)]) ⟨J,J,J,J,J,tV⟩ fin))))))
   refine nl (th ?_)
   refine cd J (fun hc2=> ?_) (fun hc2=> ?_)
   ·try simp at hc2
    refine sq (rg (ag (nl (th (rt (rb (rt_ (rt_ (rb (rt_ ?_))))))))))
    have hr0:false=(actionsOK l):=by
     unfold actionsOK
     rw[all_range_not (i:=k) O ?_]
     ·simp
     ·by_cases h:isName (ix l k)=true
      ·simpa [h] using hc2
      ·simp[h]
    exact rE () [.tmp 2] J [bl false] ⟨.tmp J,tV⟩ (cA1 (fun x0=>rV [bl x0]) hr0) trivial eX
   ·try simp at hc2
    refine sk (eb (th (rg (bi J J (b_add i6) (mv (nl ?_))))))
    have hN0:(k+1)≤l.length:=by
     first|omega|simp_all
    have hN1:(List.range (k+1)).all (fun i=>isName (ix l i)&&decide (indexOf l (ix l i)=(i:Int)))=true:=by
     rw[all_range_succ,hI0]
     simpa using hc2
    exact ln (k+1) ⟨hN0,hN1⟩ dO ⟨id,id,id,id,tV⟩ trivial
  ·try simp at hc1
   refine ex (xt_ (xt_ (xb (th (sq (rg (ag (nl (th (rt ?_))))))))))
   have hr0:true=(actionsOK l):=by
    unfold actionsOK
    rw[show l.length=k by omega,hI0,decide_eq_true O];rfl
   exact rE () [.tmp 2] J [bl true] ⟨.tmp J,tV⟩ (cA1 (fun x0=>rV [bl x0]) hr0) trivial eX
theorem SameInts_ok (xs ys:List Int):
 Fn0 Tryz.prog 49 [ints xs,ints ys] (bl (decide (xs=ys))):=by
 refine fnI Tryz.func49 rfl rfl (fun w0 F0=> ?_)
 refine fcC (slenI 0 J) (fun hm0=> ?_)
 refine fcC (slenI 1 J) (fun hm1=> ?_)
 refine sq (rg (ag (nl (th (sq (sq (rg (mv (lnF J T.sl66 (mv (lnF J T.sl66 (bi J J b_neq (nl (th ?_))))))))))))))
 refine cd J (fun hc0=> ?_) (fun hc0=> ?_)
 ·try simp at hc0
  refine sq (rg (ag (nl (th (rt (rt_ ?_))))))
  have hr0:false=(decide (xs=ys)):=by
   rw[decide_eq_false];intro h;subst h;simp at hc0
  exact rE () [.tmp 4] J [bl false] ⟨.tmp J,tV⟩ (cA1 (fun x0=>rV [bl x0]) hr0) trivial eX
 ·try simp at hc0
  refine sk (th (sq (sq (rg (mv (lnF J T.sl66 (mv (nl (th (bk ?_))))))))))
  have hI0_0:0≤xs.length:=by
   first|omega|simp
  have hI0_1:xs.take 0=ys.take 0:=by
   simp
  refine lp (κ:=Nat) (fun p=> [(1,sl 1 nE ys),(12,sl 1 nE xs),(13,int (xs.length:Int)),(14,int (p:Int))]) (fun p=> []) (fun p=>(p≤xs.length)∧(xs.take p=ys.take p)) (fun p=>xs.length- p) 0 ⟨hI0_0,hI0_1⟩ ⟨id,id,id,id,tV⟩ trivial ?_
  intro k hG0
  obtain⟨hk0,hI0⟩:(k≤xs.length)∧(xs.take k=ys.take k):=hG0
  refine sq (rg (bi J J b_lss (nl (th (sq ?_)))))
  refine cd J (fun hc1=> ?_) (fun hc1=> ?_)
  ·try simp at hc1
   refine sk (th (sq (bk (sq (rg (mv (iF J J T.sl66 O gB (lF J J T.one3 (ag (ag (nl (th (sq (rg (mv (mv (mv (iF J J T.sl66 O gB (lF J J T.one3 (bi J J b_neq (nl (th ?_))))))))))))))))))))))
   refine cd J (fun hc2=> ?_) (fun hc2=> ?_)
   ·try simp at hc2
    refine sq (rg (ag (nl (th (rt (rb (rt_ (rt_ (rb (rt_ ?_))))))))))
    have hr0:false=(decide (xs=ys)):=by
     rw[decide_eq_false];intro h;subst h;simp at hc2
    exact rE () [.tmp 4] J [bl false] ⟨.tmp J,tV⟩ (cA1 (fun x0=>rV [bl x0]) hr0) trivial eX
   ·try simp at hc2
    refine sk (eb (th (rg (bi J J (b_add i6) (mv (nl ?_))))))
    have hN0:(k+1)≤xs.length:=by
     first|omega|simp_all
    have hN1:xs.take (k+1)=ys.take (k+1):=by
     rw[take_s O,take_s O,hI0];try simp at hc2
     rw[hc2]
    exact ln (k+1) ⟨hN0,hN1⟩ dO ⟨id,id,id,id,tV⟩ trivial
  ·try simp at hc1
   refine ex (xt_ (xt_ (xb (th (sq (rg (ag (nl (th (rt ?_))))))))))
   have hr0:true=(decide (xs=ys)):=by
    rw[decide_eq_true]
    rw[show k=xs.length by omega,List.take_length] at hI0
    rw[hI0,show xs.length=ys.length by omega,List.take_length]
   exact rE () [.tmp 4] J [bl true] ⟨.tmp J,tV⟩ (cA1 (fun x0=>rV [bl x0]) hr0) trivial eX
theorem SameStrings_ok (xs ys:List ByteArray):
 Fn0 Tryz.prog 28 [strs xs,strs ys] (bl (decide (xs=ys))):=by
 refine fnI Tryz.func28 rfl rfl (fun w0 F0=> ?_)
 refine fcC (slenI 0 J) (fun hm0=> ?_)
 refine fcC (slenI 1 J) (fun hm1=> ?_)
 refine sq (rg (ag (nl (th (sq (sq (rg (mv (lnF J T.sl22 (mv (lnF J T.sl22 (bi J J b_neq (nl (th ?_))))))))))))))
 refine cd J (fun hc0=> ?_) (fun hc0=> ?_)
 ·try simp at hc0
  refine sq (rg (ag (nl (th (rt (rt_ ?_))))))
  have hr0:false=(decide (xs=ys)):=by
   rw[decide_eq_false];intro h;subst h;simp at hc0
  exact rE () [.tmp 4] J [bl false] ⟨.tmp J,tV⟩ (cA1 (fun x0=>rV [bl x0]) hr0) trivial eX
 ·try simp at hc0
  refine sk (th (sq (sq (rg (mv (lnF J T.sl22 (mv (nl (th (bk ?_))))))))))
  have hI0_0:0≤xs.length:=by
   first|omega|simp
  have hI0_1:xs.take 0=ys.take 0:=by
   simp
  refine lp (κ:=Nat) (fun p=> [(1,sl 1 rE_ ys),(12,sl 1 rE_ xs),(13,int (xs.length:Int)),(14,int (p:Int))]) (fun p=> []) (fun p=>(p≤xs.length)∧(xs.take p=ys.take p)) (fun p=>xs.length- p) 0 ⟨hI0_0,hI0_1⟩ ⟨id,id,id,id,tV⟩ trivial ?_
  intro k hG0
  obtain⟨hk0,hI0⟩:(k≤xs.length)∧(xs.take k=ys.take k):=hG0
  refine sq (rg (bi J J b_lss (nl (th (sq ?_)))))
  refine cd J (fun hc1=> ?_) (fun hc1=> ?_)
  ·try simp at hc1
   refine sk (th (sq (bk (sq (rg (mv (iF J J T.sl22 O gB (lF J J T.one9 (ag (ag (nl (th (sq (rg (mv (mv (mv (iF J J T.sl22 O gB (lF J J T.one9 (bi J J b_neqS (nl (th ?_))))))))))))))))))))))
   refine cd J (fun hc2=> ?_) (fun hc2=> ?_)
   ·try simp at hc2
    refine sq (rg (ag (nl (th (rt (rb (rt_ (rt_ (rb (rt_ ?_))))))))))
    have hr0:false=(decide (xs=ys)):=by
     rw[decide_eq_false];intro h;subst h;simp at hc2
    exact rE () [.tmp 4] J [bl false] ⟨.tmp J,tV⟩ (cA1 (fun x0=>rV [bl x0]) hr0) trivial eX
   ·try simp at hc2
    refine sk (eb (th (rg (bi J J (b_add i6) (mv (nl ?_))))))
    have hN0:(k+1)≤xs.length:=by
     first|omega|simp_all
    have hN1:xs.take (k+1)=ys.take (k+1):=by
     rw[take_s O,take_s O,hI0];try simp at hc2
     rw[hc2]
    exact ln (k+1) ⟨hN0,hN1⟩ dO ⟨id,id,id,id,tV⟩ trivial
  ·try simp at hc1
   refine ex (xt_ (xt_ (xb (th (sq (rg (ag (nl (th (rt ?_))))))))))
   have hr0:true=(decide (xs=ys)):=by
    rw[decide_eq_true]
    rw[show k=xs.length by omega,List.take_length] at hI0
    rw[hI0,show xs.length=ys.length by omega,List.take_length]
   exact rE () [.tmp 4] J [bl true] ⟨.tmp J,tV⟩ (cA1 (fun x0=>rV [bl x0]) hr0) trivial eX
end ref01
end
section
open ref01
def wt (x:SA):Nat:=x.aP.length+x.next.length
def part (s:SS) (k:Nat):Nat:=s.aC.length+s.sT.length+((s.sT.take k).map wt).sum
def size (s:SS):Nat:=part s s.sT.length
def few (s:SS) (most:Int):Bool:=decide ((size s:Int)≤most)
theorem part_succ {s:SS} {k:Nat} (h:k<s.sT.length):part s (k+1)=part s k+((ix s.sT k).aP.length+(ix s.sT k).next.length):=by
 unfold part
 rw[take_s h,List.map_append,List.sum_append]
 simp[wt];omega
theorem part_mono {s:SS} {k j:Nat} (h:k≤j):part s k≤part s j:=by
 induction j with
 |zero=>have:k=0:=by omega
        subst this;exact Nat.le_refl _
 |succ j ih=>
  by_cases e:k=j+1
  ·subst e;exact Nat.le_refl _
  ·have:=ih O
   by_cases hj:j<s.sT.length
   ·rw[part_succ hj];omega
   ·unfold part at*
    rw[List.take_of_length_le (show s.sT.length≤j+1 by omega)]
    rw[List.take_of_length_le (show s.sT.length≤j by omega)] at this
    exact this
theorem size_bd (s:SS):s.aC.length+s.sT.length≤size s∧∀k,k<s.sT.length→(ix s.sT k).aP.length+(ix s.sT k).next.length≤size s:=by
 refine⟨?_,fun k hk=> ?_⟩
 ·have:=part_mono (s:=s) (show 0≤s.sT.length by omega)
  unfold size
  unfold part at this ⊢
  simp at this ⊢
 ·have h1:=part_succ (s:=s) hk
  have h2:=part_mono (s:=s) (show k+1≤s.sT.length by omega)
  unfold size;omega
def setOK (x:SA) (n:Nat) (t:Int):Bool:=isSet (n:Int) t&&(listOf n t).all fun a=>decide (0≤ix x.next a.toNat)
def stateOK (x:SA) (N:Int) (n:Nat):Bool:=decide ((x.next.length:Int)=(n:Int))&&rising x.aP&&x.next.all (fun j=>decide (-1≤j)&&decide (j<N))&&x.aP.all (setOK x n)
theorem isSet_bd {n:Nat} {t:Int} (hn:n≤8) (h:isSet (n:Int) t=true):0≤t∧t<256:=by
 unfold isSet at h
 simp only [Bool.and_eq_true,decide_eq_true_eq,Int.toNat_natCast] at h
 have:2^n≤2^8:=Nat.pow_le_pow_right O hn
 omega
theorem listOf_ix {n:Nat} {t:Int} {k:Nat} (h:k<(listOf n t).length):0≤ix (listOf n t) k∧ix (listOf n t) k<(n:Int):=by
 have hm:ix (listOf n t) k∈listOf n t:=by rw[ix_get h];exact List.getElem_mem h
 unfold listOf at hm
 obtain⟨a,ha,hk⟩:=List.mem_map.1 hm
 have:=List.mem_range.1 (List.mem_filter.1 ha).1
 unfold listOf
 rw[←hk];omega
def specOK (s:SS):Bool:=actionsOK s.aC&&decide (1≤s.sT.length)&&decide (s.sT.length≤500)&&s.sT.all fun x=>stateOK x (s.sT.length:Int) s.aC.length
theorem actionsOK_len {l:List ByteArray} (h:actionsOK l=true):l.length≤8:=by
 unfold actionsOK at h;simp at h;exact h.1
def isNone (s:SS):Bool:=decide (s.aC.length=0)&&decide (s.sT.length=0)
def nothing (l:List ByteArray):SS:=⟨l,[⟨[],List.replicate l.length (-1)⟩]⟩
namespace T
theorem fld28_0:FieldAt Tryz.prog 28 0 0:=fieldAt_of kR
theorem one22:IsOne Tryz.prog 22:=isOne_of kR
theorem fld28_1:FieldAt Tryz.prog 28 1 1:=fieldAt_of kR
theorem one26:IsOne Tryz.prog 26:=isOne_of kR
theorem sl26:IsSlice Tryz.prog 26 79 2:=isSlice_of kR
theorem fld79_0:FieldAt Tryz.prog 79 0 0:=fieldAt_of kR
theorem one66:IsOne Tryz.prog 66:=isOne_of kR
theorem fld79_1:FieldAt Tryz.prog 79 1 1:=fieldAt_of kR
theorem ent106:Ent Tryz.prog 106:=ent_of kR
theorem ent31:Ent Tryz.prog 31:=ent_of kR
theorem ent107:Ent Tryz.prog 107:=ent_of kR
theorem ent56:Ent Tryz.prog 56:=ent_of kR
theorem agg79:IsAgg Tryz.prog 79 2:=isAgg_of kR
theorem z79:ZeroIs Tryz.prog 79 [.slice none 0 0,.slice none 0 0]:=zeroIs_of kR
theorem ent57:Ent Tryz.prog 57:=ent_of kR
theorem ent28:Ent Tryz.prog 28:=ent_of kR
theorem ent49:Ent Tryz.prog 49:=ent_of kR
theorem z28:ZeroIs Tryz.prog 28 [.slice none 0 0,.slice none 0 0]:=zeroIs_of kR
theorem mk22:MakeT Tryz.prog 22 9 1 16 [.string ⟨#[]⟩]:=makeT_of kR kR
theorem mk26:MakeT Tryz.prog 26 79 2 48 [.slice none 0 0,.slice none 0 0]:=makeT_of kR kR
theorem st28:StructT Tryz.prog 28 [(0,1),(1,1)] [.slice none 0 0,.slice none 0 0]:=structT_of kR kR
theorem agg28:IsAgg Tryz.prog 28 2:=isAgg_of kR
theorem st79:StructT Tryz.prog 79 [(0,1),(1,1)] [.slice none 0 0,.slice none 0 0]:=structT_of kR kR
end T
namespace ref03
theorem Few_ok (s:SS) (most:Int) (hm:most≤1000000):
 Fn0 Tryz.prog 46 [spec s,int most] (bl (few s most)):=by
 refine fnI Tryz.func46 rfl rfl (fun w0 F0=> ?_)
 refine fcC (inhS 0 J) (fun hS0=> ?_)
 obtain⟨hsa0,hss0,hse0⟩:=sLn hS0
 refine sq (rg (bx (key:=2) (cs:= [sl 1 rE_ s.aC,sl 2 sE s.sT]) J fun b2=>(ag (nl (th (sq (rg (fP J T.fld28_0 (lP J J J T.one22 (fc (slenI 8 J) fun hm8=>(lnF J T.sl22 (fP J T.fld28_1 (lP J J J T.one26 (fc (slenI 11 J) fun hm11=>(lnF J T.sl26 (bi J J (b_add i6) (ag (nl (th (sq (sq (rg (ag (nl (th (bk ?_))))))))))))))))))))))))))
 have hI0_0:0≤s.sT.length∧((s.aC.length+s.sT.length:Nat):Int)=(part s 0:Int):=by
  refine⟨O,?_⟩
  unfold part;simp
 refine lp (κ:=Nat × Int) (fun p=> [(1,int most),(2,ptr 2 b2 0),(4,bl false),(5,int p.2),(6,int (p.1:Int))]) (fun p=> [(2,cell b2 [sl 1 rE_ s.aC,sl 2 sE s.sT])]) (fun p=>p.1≤s.sT.length∧p.2=(part s p.1:Int)) (fun p=>s.sT.length- p.1) ⟨0,((s.aC.length+s.sT.length:Nat):Int)⟩ hI0_0 ⟨id,id,id,id,id,tV⟩ ⟨rI,tV⟩ ?_
 intro⟨k,n⟩ hG0
 have hI0:k≤s.sT.length∧n=(part s k:Int):=hG0
 show Ct _ _ _ _ [(1,int most),(2,ptr 2 b2 0),(4,bl false),(5,int n),(6,int (k:Int))] [(2,cell b2 [sl 1 rE_ s.aC,sl 2 sE s.sT])] _
 refine sq (sq (rg (mv (fP J T.fld28_1 (lP J J J T.one26 (lnF J T.sl26 (bi J J b_lss (mv ?_))))))))
 apply gAnd (t:=19) (pd:=23) rfl
 rotate_left
 ·intro hg0 fin
  have hg0':=hg0
  try simp at hg0'
  exact gy J J J hg0 (mv (gy J J J hg0 (mv (gy J J J hg0 (bi J J b_leq (pkT J hg0 J (drp (X:= [(22,_),(21,_),(20,_)]) ⟨J,J,J,tV⟩ fin)))))))
 ·intro hg0 fin
  exact gn J J J hg0 J J (gn J J J hg0 J J (gn J J J hg0 J J (pkF J hg0 J (drp (X:= [(22,_),(21,_),(20,_)]) ⟨J,J,J,tV⟩ fin))))
 refine nl (th ?_)
 refine cd J (fun hc0=> ?_) (fun hc0=> ?_)
 ·try simp at hc0
  have hl:=hse0 k O
  refine sk (th (sq (bk (dr (nh:=18) [0,0,2,0,14,30,62,126,0,256,0,1792,3840,7936,16128,32766,65535,131071] T.mixed kR ?_))))
  refine st_ J (fun _ _ _ gq kq=>mv' (gq.1.trans J) kq) ?_
  refine st_ J (fun _ _ _ gq kq=>fP (gq.1.trans J) T.fld28_1 kq) ?_
  refine st_ J (fun _ _ _ gq kq=>lP (gq.1.trans J) J J T.one26 kq) ?_
  refine st_ J (fun _ _ _ gq kq=>mv' (gq.1.trans J) kq) ?_
  refine st_ J (fun _ _ _ gq kq=>iF (gq.1.trans J) (gq.2.1.trans J) T.sl26 O gB kq) ?_
  refine st_ J (fun _ _ _ gq kq=>fF (gq.1.trans J) T.fld79_0 kq) ?_
  refine st_ J (fun _ _ _ gq kq=>lF (gq.1.trans J) J T.one66 kq) ?_
  refine st_ J (fun _ _ _ gq kq=>lnF (gq.1.trans J) T.sl66 kq) ?_
  refine st_ J (fun _ _ _ gq kq=>fP (gq.1.trans J) T.fld28_1 kq) ?_
  refine st_ J (fun _ _ _ gq kq=>lP (gq.1.trans J) J J T.one26 kq) ?_
  refine st_ J (fun _ _ _ gq kq=>mv' (gq.1.trans J) kq) ?_
  refine st_ J (fun _ _ _ gq kq=>iF (gq.1.trans J) (gq.2.1.trans J) T.sl26 O gB kq) ?_
  refine st_ J (fun _ _ _ gq kq=>fF (gq.1.trans J) T.fld79_1 kq) ?_
  refine st_ J (fun _ _ _ gq kq=>lF (gq.1.trans J) J T.one66 kq) ?_
  refine st_ J (fun _ _ _ gq kq=>lnF (gq.1.trans J) T.sl66 kq) ?_
  refine st_ J (fun _ _ _ gq kq=>bi (gq.1.trans J) (gq.2.1.trans J) (b_add i6) kq) ?_
  refine st_ J (fun _ _ _ gq kq=>bi (gq.1.trans J) (gq.2.1.trans J) (b_add i6) kq) ?_
  refine st_ J (fun _ _ _ gq kq=>ag' (gq.1.trans J) kq) ?_
  refine pn (nl (eb (th (rg (mv (bi J J (b_add i6) (ag (nl ?_))))))))
  have hN0:(k+1)≤s.sT.length∧(n+(((ix s.sT k).aP.length+(ix s.sT k).next.length:Nat):Int))=(part s (k+1):Int):=by
   have h:=part_succ (s:=s) (k:=k) O
   refine⟨O,?_⟩
   rw[h];omega
  exact ln (⟨k+1,n+(((ix s.sT k).aP.length+(ix s.sT k).next.length:Nat):Int)⟩:Nat × Int) hN0 dO ⟨id,id,id,id,id,tV⟩ ⟨rI,tV⟩
 ·try simp at hc0
  refine ex (xt_ (xt_ (xb (th (sq (rg (mv (mv (bi J J b_leq (ag (nl (th (rt ?_)))))))))))))
  have hr0:(decide (n≤most))=(few s most):=by
   unfold few size
   have h1:=part_mono (s:=s) hI0.1
   by_cases h2:k<s.sT.length
   ·rw[decide_eq_false O,decide_eq_false O]
   ·rw[hI0.2,show k=s.sT.length by omega]
  exact rE () [.tmp 4] J [bl (decide (n≤most))] ⟨.tmp J,tV⟩ (cA1 (fun x0=>rV [bl x0]) hr0) trivial eX
theorem state_ok (x:SA) (N:Int) (n:Nat) (hn:n≤8):
 Fn0 Tryz.prog 57 [state x,int N,int (n:Int)] (bl (stateOK x N n)):=by
 refine fnI Tryz.func57 rfl rfl (fun w0 F0=> ?_)
 refine fcC (inhS 0 J) (fun hS0=> ?_)
 obtain⟨hxa0,hxn0⟩:=state_lens hS0
 refine sq (rg (bx (key:=3) (cs:= [sl 1 nE x.aP,sl 1 nE x.next]) J fun b3=>(ag (nl (th (sq (sq (rg (fP J T.fld79_1 (lP J J J T.one66 (fc (slenI 14 J) fun hm14=>(lnF J T.sl66 (mv (bi J J b_neq (mv ?_)))))))))))))))
 apply gOr (t:=18) (pd:=23) rfl
 rotate_left
 ·intro hg0 fin
  have hg0':=hg0
  try simp at hg0'
  exact gy J J J hg0 (fP J T.fld79_0 (gy J J J hg0 (lP J J J T.one66 (gy J J J hg0 (cal0 (φs:= [sl 1 nE x.aP]) (φ:=bl (rising x.aP)) ⟨J,tV⟩ (ref01.Rising_ok _) T.ent106 (gy J J J hg0 (no J (pkF J hg0 J (drp (X:= [(22,_),(21,_),(20,_),(19,_)]) ⟨J,J,J,J,tV⟩ fin)))))))))
 ·intro hg0 fin
  exact gn J J J hg0 J J (gn J J J hg0 J J (gn J J J hg0 J J (gn J J J hg0 J J (pkT J hg0 J (drp (X:= [(22,_),(21,_),(20,_),(19,_)]) ⟨J,J,J,J,tV⟩ fin)))))
 refine nl (th ?_)
 refine cd J (fun hc0=> ?_) (fun hc0=> ?_)
 ·try simp at hc0
  refine sq (rg (ag (nl (th (rt (rt_ ?_))))))
  have hr0:false=(stateOK x N n):=by
   unfold stateOK
   by_cases h:rising x.aP=true
   ·simp[h] at hc0
    rw[decide_eq_false O];rfl
   ·simp[h]
  exact rE () [.tmp 6] J [bl false] ⟨.tmp J,tV⟩ (cA1 (fun x0=>rV [bl x0]) hr0) trivial eX
 ·try simp at hc0
  refine sk (th (sq (sq (rg (fP J T.fld79_1 (lP J J J T.one66 (lnF J T.sl66 (mv (nl (th (bk ?_)))))))))))
  have hI0_0:0≤x.next.length:=by
   first|omega|simp
  have hI0_1:(x.next.take 0).all (fun j=>decide (-1≤j)&&decide (j<N))=true:=by
   simp
  refine lp (κ:=Nat) (fun p=> [(1,int N),(2,int (n:Int)),(3,ptr 3 b3 0),(25,sl 1 nE x.next),(26,int (x.next.length:Int)),(27,int (p:Int))]) (fun p=> [(3,cell b3 [sl 1 nE x.aP,sl 1 nE x.next])]) (fun p=>(p≤x.next.length)∧((x.next.take p).all (fun j=>decide (-1≤j)&&decide (j<N))=true)) (fun p=>x.next.length- p) 0 ⟨hI0_0,hI0_1⟩ ⟨id,id,id,id,id,id,tV⟩ ⟨rI,tV⟩ ?_
  intro k hG0
  obtain⟨hk0,hI0⟩:(k≤x.next.length)∧((x.next.take k).all (fun j=>decide (-1≤j)&&decide (j<N))=true):=hG0
  refine sq (rg (bi J J b_lss (nl (th (sq ?_)))))
  refine cd J (fun hc1=> ?_) (fun hc1=> ?_)
  ·try simp at hc1
   refine sk (th (sq (bk (sq (rg (iF J J T.sl66 O gB (lF J J T.one3 (ag (nl (th (sq (rg (mv (bi J J b_lss (mv ?_)))))))))))))))
   apply gOr (t:=33) (pd:=37) rfl
   rotate_left
   ·intro hg1 fin
    have hg1':=hg1
    try simp at hg1'
    exact gy J J J hg1 (mv (gy J J J hg1 (mv (gy J J J hg1 (bi J J b_geq (pkF J hg1 J (drp (X:= [(36,_),(35,_),(34,_)]) ⟨J,J,J,tV⟩ fin)))))))
   ·intro hg1 fin
    exact gn J J J hg1 J J (gn J J J hg1 J J (gn J J J hg1 J J (pkT J hg1 J (drp (X:= [(36,_),(35,_),(34,_)]) ⟨J,J,J,tV⟩ fin))))
   refine nl (th ?_)
   refine cd J (fun hc2=> ?_) (fun hc2=> ?_)
   ·try simp at hc2
    refine sq (rg (ag (nl (th (rt (rb (rt_ (rt_ (rb (rt_ ?_))))))))))
    have hr0:false=(stateOK x N n):=by
     unfold stateOK
     rw[all_fail (xs:=x.next) (k:=k) O (by simp;omega)];simp
    exact rE () [.tmp 6] J [bl false] ⟨.tmp J,tV⟩ (cA1 (fun x0=>rV [bl x0]) hr0) trivial eX
   ·try simp at hc2
    refine sk (eb (th (rg (bi J J (b_add i6) (mv (nl ?_))))))
    have hN0:(k+1)≤x.next.length:=by
     first|omega|simp_all
    have hN1:(x.next.take (k+1)).all (fun j=>decide (-1≤j)&&decide (j<N))=true:=by
     rw[all_take_succ O,hI0]
     simp
     omega
    exact ln (k+1) ⟨hN0,hN1⟩ dO ⟨id,id,id,id,id,id,tV⟩ ⟨rI,tV⟩
  ·try simp at hc1
   refine ex (xt_ (xt_ (xb (th (sq (sq (rg (fP J T.fld79_0 (lP J J J T.one66 (fc (slenI 40 J) fun hm40=>(lnF J T.sl66 (mv (nl (th (bk ?_)))))))))))))))
   have hI1_0:0≤x.aP.length:=by
    first|omega|simp
   have hI1_1:(x.aP.take 0).all (setOK x n)=true:=by
    simp
   refine lp (κ:=Nat) (fun p=> [(2,int (n:Int)),(3,ptr 3 b3 0),(40,sl 1 nE x.aP),(41,int (x.aP.length:Int)),(42,int (p:Int))]) (fun p=> [(3,cell b3 [sl 1 nE x.aP,sl 1 nE x.next])]) (fun p=>(p≤x.aP.length)∧((x.aP.take p).all (setOK x n)=true)) (fun p=>x.aP.length- p) 0 ⟨hI1_0,hI1_1⟩ ⟨id,id,id,id,id,tV⟩ ⟨rI,tV⟩ ?_
   intro k1 hG1
   obtain⟨hk1,hI1⟩:(k1≤x.aP.length)∧((x.aP.take k1).all (setOK x n)=true):=hG1
   refine sq (rg (bi J J b_lss (nl (th (sq ?_)))))
   refine cd J (fun hc3=> ?_) (fun hc3=> ?_)
   ·try simp at hc3
    refine sk (th (sq (bk (sq (rg (iF J J T.sl66 O gB (lF J J T.one3 (ag (nl (th (sq (sq (rg (mv (mv (cal0 (φs:= [int (n:Int),int (ix x.aP k1)]) (φ:=bl (isSet (n:Int) (ix x.aP k1))) ⟨J,J,tV⟩ (ref01.Set_ok _ _ O O) T.ent31 (no J (nl (th ?_)))))))))))))))))))
    refine cd J (fun hc4=> ?_) (fun hc4=> ?_)
    ·try simp at hc4
     refine sq (rg (ag (nl (th (rt (rt_ (rb (rt_ (rt_ (rb (rt_ ?_)))))))))))
     have hr0:false=(stateOK x N n):=by
      unfold stateOK
      rw[all_fail (xs:=x.aP) (k:=k1) O (by simp[setOK,hc4])];simp
     exact rE () [.tmp 6] J [bl false] ⟨.tmp J,tV⟩ (cA1 (fun x0=>rV [bl x0]) hr0) trivial eX
    ·try simp at hc4
     have hset:=isSet_bd O hc4
     refine sk (th (sq (rg (mv (mv (cal0 (φs:= [int (n:Int),int (ix x.aP k1)]) (φ:=sl 1 nE (listOf n (ix x.aP k1))) ⟨J,J,tV⟩ (ref01.List_ok n _ O O O) T.ent107 (fc (slenI 52 J) fun hm52=>(lnF J T.sl66 (mv (nl (th (bk ?_))))))))))))
     have hI2_0:0≤(listOf n (ix x.aP k1)).length:=by
      first|omega|simp
     have hI2_1:((listOf n (ix x.aP k1)).take 0).all (fun a=>decide (0≤ix x.next a.toNat))=true:=by
      simp
     refine lp (κ:=Nat) (fun p=> [(2,int (n:Int)),(3,ptr 3 b3 0),(40,sl 1 nE x.aP),(41,int (x.aP.length:Int)),(42,int (k1:Int)),(52,sl 1 nE (listOf n (ix x.aP k1))),(53,int ((listOf n (ix x.aP k1)).length:Int)),(54,int (p:Int))]) (fun p=> [(3,cell b3 [sl 1 nE x.aP,sl 1 nE x.next])]) (fun p=>(p≤(listOf n (ix x.aP k1)).length)∧(((listOf n (ix x.aP k1)).take p).all (fun a=>decide (0≤ix x.next a.toNat))=true)) (fun p=>(listOf n (ix x.aP k1)).length- p) 0 ⟨hI2_0,hI2_1⟩ ⟨id,id,id,id,id,id,id,id,tV⟩ ⟨rI,tV⟩ ?_
     intro k2 hG2
     obtain⟨hk2,hI2⟩:(k2≤(listOf n (ix x.aP k1)).length)∧(((listOf n (ix x.aP k1)).take k2).all (fun a=>decide (0≤ix x.next a.toNat))=true):=hG2
     refine sq (rg (bi J J b_lss (nl (th (sq ?_)))))
     refine cd J (fun hc5=> ?_) (fun hc5=> ?_)
     ·try simp at hc5
      have hb:=listOf_ix (n:=n) (t:=ix x.aP k1) (k:=k2) O
      refine sk (th (sq (bk (sq (rg (iF J J T.sl66 O gB (lF J J T.one3 (ag (nl (th (sq (rg (fP J T.fld79_1 (lP J J J T.one66 (mv (iF J J T.sl66 O gB (lF J J T.one3 (bi J J b_lss (nl (th ?_))))))))))))))))))))
      refine cd J (fun hc6=> ?_) (fun hc6=> ?_)
      ·try simp at hc6
       refine sq (rg (ag (nl (th (rt (rb (rt_ (rt_ (rb (rb (rt_ (rt_ (rb (rt_ ?_))))))))))))))
       have hr0:false=(stateOK x N n):=by
        unfold stateOK
        rw[all_fail (xs:=x.aP) (k:=k1) O ?_];simp
        unfold setOK
        rw[all_fail (xs:=listOf n (ix x.aP k1)) (k:=k2) O (by simpa using hc6)];simp
       exact rE () [.tmp 6] J [bl false] ⟨.tmp J,tV⟩ (cA1 (fun x0=>rV [bl x0]) hr0) trivial eX
      ·try simp at hc6
       refine sk (eb (th (rg (bi J J (b_add i6) (mv (nl ?_))))))
       have hN0:(k2+1)≤(listOf n (ix x.aP k1)).length:=by
        first|omega|simp_all
       have hN1:((listOf n (ix x.aP k1)).take (k2+1)).all (fun a=>decide (0≤ix x.next a.toNat))=true:=by
        rw[all_take_succ O,hI2]
        simpa using hc6
       exact ln (k2+1) ⟨hN0,hN1⟩ dO ⟨id,id,id,id,id,id,id,id,tV⟩ ⟨rI,tV⟩
     ·try simp at hc5
      refine ex (xt_ (xt_ (xb (eb (th (rg (bi J J (b_add i6) (mv (nl ?_)))))))))
      have hN0:(k1+1)≤x.aP.length:=by
       first|omega|simp_all
      have hN1:(x.aP.take (k1+1)).all (setOK x n)=true:=by
       rw[all_take_succ O,hI1]
       unfold setOK
       rw[hc4]
       rw[show k2=(listOf n (ix x.aP k1)).length by omega,List.take_length] at hI2
       rw[hI2];rfl
      exact ln (k1+1) ⟨hN0,hN1⟩ dO ⟨id,id,id,id,id,tV⟩ ⟨rI,tV⟩
   ·try simp at hc3
    refine ex (xt_ (xt_ (xb (th (sq (rg (ag (nl (th (rt ?_))))))))))
    have hr0:true=(stateOK x N n):=by
     unfold stateOK
     rw[show k=x.next.length by omega,List.take_length] at hI0
     rw[show k1=x.aP.length by omega,List.take_length] at hI1
     rw[hI0,hI1]
     simp[hc0]
    exact rE () [.tmp 6] J [bl true] ⟨.tmp J,tV⟩ (cA1 (fun x0=>rV [bl x0]) hr0) trivial eX
theorem Is_ok (s:SS):
 Fn0 Tryz.prog 21 [spec s] (bl (specOK s)):=by
 refine fnI Tryz.func21 rfl rfl (fun w0 F0=> ?_)
 refine fcC (inhS 0 J) (fun hS0=> ?_)
 obtain⟨hsa0,hss0,hse0⟩:=sLn hS0
 refine sq (rg (bx (key:=1) (cs:= [sl 1 rE_ s.aC,sl 2 sE s.sT]) J fun b1=>(ag (nl (th (sq (sq (rg (fP J T.fld28_0 (lP J J J T.one22 (cal0 (φs:= [sl 1 rE_ s.aC]) (φ:=bl (actionsOK s.aC)) ⟨J,tV⟩ (ref01.Is_ok _) T.ent56 (no J (mv ?_)))))))))))))
 apply gOr (t:=9) (pd:=14) rfl
 rotate_left
 ·intro hg0 fin
  have hg0':=hg0
  try simp at hg0'
  exact gy J J J hg0 (fP J T.fld28_1 (gy J J J hg0 (lP J J J T.one26 (gy J J J hg0 (fc (slenI 11 J) fun hm11=>(lnF J T.sl26 (gy J J J hg0 (bi J J b_lss (pkF J hg0 J (drp (X:= [(13,_),(12,_),(11,_),(10,_)]) ⟨J,J,J,J,tV⟩ fin))))))))))
 ·intro hg0 fin
  exact gn J J J hg0 J J (gn J J J hg0 J J (gn J J J hg0 J J (gn J J J hg0 J J (pkT J hg0 J (drp (X:= [(13,_),(12,_),(11,_),(10,_)]) ⟨J,J,J,J,tV⟩ fin)))))
 refine mv ?_
 apply gOr (t:=15) (pd:=20) rfl
 rotate_left
 ·intro hg1 fin
  have hg1':=hg1
  try simp at hg1'
  exact gy J J J hg1 (fP J T.fld28_1 (gy J J J hg1 (lP J J J T.one26 (gy J J J hg1 (fc (slenI 17 J) fun hm17=>(lnF J T.sl26 (gy J J J hg1 (bi J J b_gtr (pkF J hg1 J (drp (X:= [(19,_),(18,_),(17,_),(16,_)]) ⟨J,J,J,J,tV⟩ fin))))))))))
 ·intro hg1 fin
  exact gn J J J hg1 J J (gn J J J hg1 J J (gn J J J hg1 J J (gn J J J hg1 J J (pkT J hg1 J (drp (X:= [(19,_),(18,_),(17,_),(16,_)]) ⟨J,J,J,J,tV⟩ fin)))))
 refine nl (th ?_)
 refine cd J (fun hc0=> ?_) (fun hc0=> ?_)
 ·try simp at hc0
  refine sq (rg (ag (nl (th (rt (rt_ ?_))))))
  have hr0:false=(specOK s):=by
   unfold specOK
   by_cases h:actionsOK s.aC=true
   ·simp[h] at hc0 ⊢
    omega
   ·simp[h]
  exact rE () [.tmp 2] J [bl false] ⟨.tmp J,tV⟩ (cA1 (fun x0=>rV [bl x0]) hr0) trivial eX
 ·try simp at hc0
  have hact:=actionsOK_len (l:=s.aC) (by simp_all)
  refine sk (th (sq (sq (rg (fP J T.fld28_1 (lP J J J T.one26 (fc (slenI 22 J) fun hm22=>(lnF J T.sl26 (mv (nl (th (bk ?_))))))))))))
  have hI0_0:0≤s.sT.length:=by
   first|omega|simp
  have hI0_1:(s.sT.take 0).all (fun x=>stateOK x (s.sT.length:Int) s.aC.length)=true:=by
   simp
  refine lp (κ:=Nat) (fun p=> [(1,ptr 1 b1 0),(22,sl 2 sE s.sT),(23,int (s.sT.length:Int)),(24,int (p:Int))]) (fun p=> [(1,cell b1 [sl 1 rE_ s.aC,sl 2 sE s.sT])]) (fun p=>(p≤s.sT.length)∧((s.sT.take p).all (fun x=>stateOK x (s.sT.length:Int) s.aC.length)=true)) (fun p=>s.sT.length- p) 0 ⟨hI0_0,hI0_1⟩ ⟨id,id,id,id,tV⟩ ⟨rI,tV⟩ ?_
  intro k hG0
  obtain⟨hk0,hI0⟩:(k≤s.sT.length)∧((s.sT.take k).all (fun x=>stateOK x (s.sT.length:Int) s.aC.length)=true):=hG0
  refine sq (rg (bi J J b_lss (nl (th (sq ?_)))))
  refine cd J (fun hc1=> ?_) (fun hc1=> ?_)
  ·try simp at hc1
   refine sk (th (sq (bk (sq (rg (iF J J T.sl26 O gB (lFA J T.agg79 (Nat.le_of_ble_eq_true J) (al (key:=4) T.z79 (eC (eC eZ)) fun b4=>(sPA (cs':= [sl 1 nE (ix s.sT k).aP,sl 1 nE (ix s.sT k).next]) J J J T.agg79 J J (nl (th (sq (rg (lPA J J T.agg79 J (fP J T.fld28_1 (lP J J J T.one26 (lnF J T.sl26 (fP J T.fld28_0 (lP J J J T.one22 (fc (slenI 33 J) fun hm33=>(lnF J T.sl22 (cal0 (φs:= [agg [sl 1 nE (ix s.sT k).aP,sl 1 nE (ix s.sT k).next],int (s.sT.length:Int),int (s.aC.length:Int)]) (φ:=bl (stateOK (ix s.sT k) (s.sT.length:Int) s.aC.length)) ⟨J,J,J,tV⟩ (ref03.state_ok (ix s.sT k) _ s.aC.length O) T.ent57 (no J (nl (th ?_)))))))))))))))))))))))))
   refine cd J (fun hc2=> ?_) (fun hc2=> ?_)
   ·try simp at hc2
    refine sq (rg (ag (nl (th (rt (rb (rt_ (rt_ (rb (rt_ ?_))))))))))
    have hr0:false=(specOK s):=by
     unfold specOK
     rw[all_fail (xs:=s.sT) (k:=k) O (by simpa using hc2)];simp
    exact rE () [.tmp 2] J [bl false] ⟨.tmp J,tV⟩ (cA1 (fun x0=>rV [bl x0]) hr0) trivial eX
   ·try simp at hc2
    refine sk (eb (th (rg (bi J J (b_add i6) (mv (nl ?_))))))
    have hN0:(k+1)≤s.sT.length:=by
     first|omega|simp_all
    have hN1:(s.sT.take (k+1)).all (fun x=>stateOK x (s.sT.length:Int) s.aC.length)=true:=by
     rw[all_take_succ O,hI0]
     simpa using hc2
    exact ln (k+1) ⟨hN0,hN1⟩ dO ⟨id,id,id,id,tV⟩ ⟨rI,tV⟩
  ·try simp at hc1
   refine ex (xt_ (xt_ (xb (th (sq (rg (ag (nl (th (rt ?_))))))))))
   have hr0:true=(specOK s):=by
    unfold specOK
    rw[show k=s.sT.length by omega,List.take_length] at hI0
    rw[hI0]
    simp[hc0];omega
   exact rE () [.tmp 2] J [bl true] ⟨.tmp J,tV⟩ (cA1 (fun x0=>rV [bl x0]) hr0) trivial eX
theorem None_ok (s:SS):
 Fn0 Tryz.prog 20 [spec s] (bl (isNone s)):=by
 refine fnI Tryz.func20 rfl rfl (fun w0 F0=> ?_)
 refine fcC (inhS 0 J) (fun hS0=> ?_)
 obtain⟨hsa0,hss0,hse0⟩:=sLn hS0
 refine sq (rg (bx (key:=1) (cs:= [sl 1 rE_ s.aC,sl 2 sE s.sT]) J fun b1=>(ag (nl (th (sq (rg (fP J T.fld28_0 (lP J J J T.one22 (fc (slenI 4 J) fun hm4=>(lnF J T.sl22 (bi J J b_eql (mv ?_)))))))))))))
 apply gAnd (t:=7) (pd:=12) rfl
 rotate_left
 ·intro hg0 fin
  have hg0':=hg0
  try simp at hg0'
  exact gy J J J hg0 (fP J T.fld28_1 (gy J J J hg0 (lP J J J T.one26 (gy J J J hg0 (fc (slenI 9 J) fun hm9=>(lnF J T.sl26 (gy J J J hg0 (bi J J b_eql (pkT J hg0 J (drp (X:= [(11,_),(10,_),(9,_),(8,_)]) ⟨J,J,J,J,tV⟩ fin))))))))))
 ·intro hg0 fin
  exact gn J J J hg0 J J (gn J J J hg0 J J (gn J J J hg0 J J (gn J J J hg0 J J (pkF J hg0 J (drp (X:= [(11,_),(10,_),(9,_),(8,_)]) ⟨J,J,J,J,tV⟩ fin)))))
 refine ag (nl (th (rt ?_)))
 have hr0:((decide ((s.aC.length:Int)=0))&&(decide ((s.sT.length:Int)=0)))=(isNone s):=by
  unfold isNone;simp
 exact rE () [.tmp 2] J [bl ((decide ((s.aC.length:Int)=0))&&(decide ((s.sT.length:Int)=0)))] ⟨.tmp J,tV⟩ (cA1 (fun x0=>rV [bl x0]) hr0) trivial eX
theorem Same_ok (s t:SS):
 Fn0 Tryz.prog 41 [spec s,spec t] (bl (decide (s=t))):=by
 refine fnI Tryz.func41 rfl rfl (fun w0 F0=> ?_)
 refine fcC (inhS 0 J) (fun hS0=> ?_)
 obtain⟨hsa0,hss0,hse0⟩:=sLn hS0
 refine fcC (inhS 1 J) (fun hS1=> ?_)
 obtain⟨hsa1,hss1,hse1⟩:=sLn hS1
 refine sq (rg (bx (key:=2) (cs:= [sl 1 rE_ s.aC,sl 2 sE s.sT]) J fun b2=>(bx (key:=3) (cs:= [sl 1 rE_ t.aC,sl 2 sE t.sT]) J fun b3=>(ag (nl (th (sq (sq (rg (fP J T.fld28_0 (lP J J J T.one22 (fP J T.fld28_0 (lP J J J T.one22 (cal0 (φs:= [sl 1 rE_ s.aC,sl 1 rE_ t.aC]) (φ:=bl (decide (s.aC=t.aC))) ⟨J,J,tV⟩ (ref01.SameStrings_ok _ _) T.ent28 (no J (mv ?_))))))))))))))))
 apply gOr (t:=13) (pd:=21) rfl
 rotate_left
 ·intro hg0 fin
  have hg0':=hg0
  try simp at hg0'
  exact gy J J J hg0 (fP J T.fld28_1 (gy J J J hg0 (lP J J J T.one26 (gy J J J hg0 (fc (slenI 15 J) fun hm15=>(lnF J T.sl26 (gy J J J hg0 (fP J T.fld28_1 (gy J J J hg0 (lP J J J T.one26 (gy J J J hg0 (fc (slenI 18 J) fun hm18=>(lnF J T.sl26 (gy J J J hg0 (bi J J b_neq (pkF J hg0 J (drp (X:= [(20,_),(19,_),(18,_),(17,_),(16,_),(15,_),(14,_)]) ⟨J,J,J,J,J,J,J,tV⟩ fin)))))))))))))))))
 ·intro hg0 fin
  exact gn J J J hg0 J J (gn J J J hg0 J J (gn J J J hg0 J J (gn J J J hg0 J J (gn J J J hg0 J J (gn J J J hg0 J J (gn J J J hg0 J J (pkT J hg0 J (drp (X:= [(20,_),(19,_),(18,_),(17,_),(16,_),(15,_),(14,_)]) ⟨J,J,J,J,J,J,J,tV⟩ fin))))))))
 refine nl (th ?_)
 refine cd J (fun hc0=> ?_) (fun hc0=> ?_)
 ·try simp at hc0
  refine sq (rg (ag (nl (th (rt (rt_ ?_))))))
  have hr0:false=(decide (s=t)):=by
   rw[decide_eq_false];intro h;subst h;simp at hc0
  exact rE () [.tmp 4] J [bl false] ⟨.tmp J,tV⟩ (cA1 (fun x0=>rV [bl x0]) hr0) trivial eX
 ·try simp at hc0
  refine sk (th (sq (sq (rg (fP J T.fld28_1 (lP J J J T.one26 (fc (slenI 23 J) fun hm23=>(lnF J T.sl26 (mv (nl (th (bk ?_))))))))))))
  have hI0_0:0≤s.sT.length:=by
   first|omega|simp
  have hI0_1:s.sT.take 0=t.sT.take 0:=by
   simp
  refine lp (κ:=Nat) (fun p=> [(3,ptr 3 b3 0),(23,sl 2 sE s.sT),(24,int (s.sT.length:Int)),(25,int (p:Int))]) (fun p=> [(2,cell b2 [sl 1 rE_ s.aC,sl 2 sE s.sT]),(3,cell b3 [sl 1 rE_ t.aC,sl 2 sE t.sT])]) (fun p=>(p≤s.sT.length)∧(s.sT.take p=t.sT.take p)) (fun p=>s.sT.length- p) 0 ⟨hI0_0,hI0_1⟩ ⟨id,id,id,id,tV⟩ ⟨rI,rI,tV⟩ ?_
  intro k hG0
  obtain⟨hk0,hI0⟩:(k≤s.sT.length)∧(s.sT.take k=t.sT.take k):=hG0
  refine sq (rg (bi J J b_lss (nl (th (sq ?_)))))
  refine cd J (fun hc1=> ?_) (fun hc1=> ?_)
  ·try simp at hc1
   refine sk (th (sq (bk (sq (rg (mv (iF J J T.sl26 O gB (lFA J T.agg79 (Nat.le_of_ble_eq_true J) (al (key:=6) T.z79 (eC (eC eZ)) fun b6=>(ag (sPA (cs':= [sl 1 nE (ix s.sT k).aP,sl 1 nE (ix s.sT k).next]) J J J T.agg79 J J (nl (th (sq (dr (nh:=22) [0,1,0,4,0,28,60,124,255,511,1023,2047,4095,2047,10239,2047,59391,124927,255999,524287,1048575,2097151] T.mixed kR ?_)))))))))))))))
   refine st_ J (fun _ _ _ gq kq=>fP (gq.1.trans J) T.fld79_0 kq) ?_
   refine st_ J (fun _ _ _ gq kq=>lP (gq.1.trans J) J J T.one66 kq) ?_
   refine st_ J (fun _ _ _ gq kq=>fP (gq.1.trans J) T.fld28_1 kq) ?_
   refine st_ J (fun _ _ _ gq kq=>lP (gq.1.trans J) J J T.one26 kq) ?_
   refine st_ J (fun _ _ _ gq kq=>mv' (gq.1.trans J) kq) ?_
   refine st_ J (fun _ _ _ gq kq=>iF (gq.1.trans J) (gq.2.1.trans J) T.sl26 O gB kq) ?_
   refine st_ J (fun _ _ _ gq kq=>fF (gq.1.trans J) T.fld79_0 kq) ?_
   refine st_ J (fun _ _ _ gq kq=>lF (gq.1.trans J) J T.one66 kq) ?_
   refine st_ J (fun _ _ _ gq kq=>cal0 (φs:= [sl 1 nE (ix s.sT k).aP,sl 1 nE (ix t.sT k).aP]) (φ:=bl (decide ((ix s.sT k).aP=(ix t.sT k).aP))) ⟨(gq.1.trans J),(gq.2.1.trans J),tV⟩ (ref01.SameInts_ok _ _) T.ent49 kq) ?_
   refine st_ J (fun _ _ _ gq kq=>no (gq.1.trans J) kq) ?_
   refine st_ J (fun _ _ _ gq kq=>mv' (gq.1.trans J) kq) ?_
   refine sg_ (φ:=ptr 6 b6 1) J J J J (List.mem_of_elem_eq_true J) (fun hgd=> ?_) ?_
   ·have hgd':=hgd
    try simp at hgd'
    exact fun _ _ _ gq kq=>fP (gq.1.trans J) T.fld79_1 kq
   refine sg_ (φ:=sl 1 nE (ix s.sT k).next) J J J J (List.mem_of_elem_eq_true J) (fun hgd=> ?_) ?_
   ·have hgd':=hgd
    try simp at hgd'
    exact fun _ _ _ gq kq=>lP (gq.1.trans (gif_t hgd)) J J T.one66 kq
   refine sg_ (φ:=ptr 3 b3 1) J J J J (List.mem_of_elem_eq_true J) (fun hgd=> ?_) ?_
   ·have hgd':=hgd
    try simp at hgd'
    exact fun _ _ _ gq kq=>fP (gq.1.trans J) T.fld28_1 kq
   refine sg_ (φ:=sl 2 sE t.sT) J J J J (List.mem_of_elem_eq_true J) (fun hgd=> ?_) ?_
   ·have hgd':=hgd
    try simp at hgd'
    exact fun _ _ _ gq kq=>lP (gq.1.trans (gif_t hgd)) J J T.one26 kq
   refine sg_ (φ:=int (k:Int)) J J J J (List.mem_of_elem_eq_true J) (fun hgd=> ?_) ?_
   ·have hgd':=hgd
    try simp at hgd'
    exact fun _ _ _ gq kq=>mv' (gq.1.trans J) kq
   refine sg_ (φ:=fp [sl 1 nE (ix t.sT k).aP,sl 1 nE (ix t.sT k).next]) J J J J (List.mem_of_elem_eq_true J) (fun hgd=> ?_) ?_
   ·have hgd':=hgd
    try simp at hgd'
    exact fun _ _ _ gq kq=>iF (gq.1.trans (gif_t hgd)) (gq.2.1.trans (gif_t hgd)) T.sl26 O gB kq
   refine sg_ (φ:=fp [sl 1 nE (ix t.sT k).next]) J J J J (List.mem_of_elem_eq_true J) (fun hgd=> ?_) ?_
   ·have hgd':=hgd
    try simp at hgd'
    exact fun _ _ _ gq kq=>fF (gq.1.trans (gif_t hgd)) T.fld79_1 kq
   refine sg_ (φ:=sl 1 nE (ix t.sT k).next) J J J J (List.mem_of_elem_eq_true J) (fun hgd=> ?_) ?_
   ·have hgd':=hgd
    try simp at hgd'
    exact fun _ _ _ gq kq=>lF (gq.1.trans (gif_t hgd)) J T.one66 kq
   refine sg_ (φ:=bl (decide ((ix s.sT k).next=(ix t.sT k).next))) J J J J (List.mem_of_elem_eq_true J) (fun hgd=> ?_) ?_
   ·have hgd':=hgd
    try simp at hgd'
    exact fun _ _ _ gq kq=>cal0 (φs:= [sl 1 nE (ix s.sT k).next,sl 1 nE (ix t.sT k).next]) (φ:=bl (decide ((ix s.sT k).next=(ix t.sT k).next))) ⟨(gq.1.trans (gif_t hgd)),(gq.2.1.trans (gif_t hgd)),tV⟩ (ref01.SameInts_ok _ _) T.ent49 kq
   refine sg_ (φ:=bl (!(decide ((ix s.sT k).next=(ix t.sT k).next)))) J J J J (List.mem_of_elem_eq_true J) (fun hgd=> ?_) ?_
   ·have hgd':=hgd
    try simp at hgd'
    exact fun _ _ _ gq kq=>no (gq.1.trans (gif_t hgd)) kq
   refine st_ J (fun _ _ _ gq kq=>pk (gq.1.trans J) (pk_or (x:= .tmp 40) (gq.1.trans J) (gq.2.1.trans J) J) kq) ?_
   refine pn (nl (th ?_))
   refine cd J (fun hc2=> ?_) (fun hc2=> ?_)
   ·try simp at hc2
    refine sq (rg (ag (nl (th (rt (rb (rt_ (rt_ (rb (rt_ ?_))))))))))
    have hr0:false=(decide (s=t)):=by
     rw[decide_eq_false];intro h;subst h;simp at hc2
    exact rE () [.tmp 4] J [bl false] ⟨.tmp J,tV⟩ (cA1 (fun x0=>rV [bl x0]) hr0) trivial eX
   ·try simp at hc2
    refine sk (eb (th (rg (bi J J (b_add i6) (mv (nl ?_))))))
    have hN0:(k+1)≤s.sT.length:=by
     first|omega|simp_all
    have hN1:s.sT.take (k+1)=t.sT.take (k+1):=by
     rw[take_s O,take_s O,hI0]
     congr 2
     try simp at hc2
     exact SA.ext hc2.1 hc2.2
    exact ln (k+1) ⟨hN0,hN1⟩ dO ⟨id,id,id,id,tV⟩ ⟨rI,rI,tV⟩
  ·try simp at hc1
   refine ex (xt_ (xt_ (xb (th (sq (rg (ag (nl (th (rt ?_))))))))))
   have hr0:true=(decide (s=t)):=by
    rw[decide_eq_true]
    rw[show k=s.sT.length by omega,List.take_length] at hI0
    try simp at hc0
    rw[show s.sT.length=t.sT.length by omega,List.take_length] at hI0
    exact SS.ext hc0.1 hI0
   exact rE () [.tmp 4] J [bl true] ⟨.tmp J,tV⟩ (cA1 (fun x0=>rV [bl x0]) hr0) trivial eX
theorem Nothing_ok (l:List ByteArray) (hl:l.length≤1000):
 Fn0 Tryz.prog 125 [strs l] (spec (nothing l)):=by
 refine fnI Tryz.func125 rfl rfl (fun w0 F0=> ?_)
 refine fcC (slenI 0 J) (fun hm0=> ?_)
 refine sq (rg (al (key:=2) T.z28 (eC (eC eZ)) fun b2=>(nl (th (sq (rg (al (key:=3) T.z79 (eC (eC eZ)) fun b3=>(nl (th (sq (sq (rg (mv (lnF J T.sl22 (mv (nl (th (bk ?_))))))))))))))))))
 refine nwC 30 3 1 nE (kncC 3 1 (osl 30 (.slice none 0 0)) rfl rfl eq_osl ?_)
 have hI0_0:0≤l.length:=by
  first|omega|simp
 have hI0_1:([]:List Int)=List.replicate 0 (-1):=by
  rfl
 refine lp (κ:=Nat × Value × (List Int)) (fun p=> [(0,sl 1 rE_ l),(2,ptr 2 b2 0),(3,ptr 3 b3 0),(5,int (l.length:Int)),(6,int (p.1:Int))]) (fun p=> [(2,cell b2 [eqv (.slice none 0 0),eqv (.slice none 0 0)]),(3,cell b3 [eqv (.slice none 0 0),osl 30 p.2.1]),(30,own p.2.1 3 1 nE p.2.2)]) (fun p=>(p.1≤l.length)∧(p.2.2=List.replicate p.1 (-1))) (fun p=>l.length- p.1) ⟨0,(.slice none 0 0),([]:List Int)⟩ ⟨hI0_0,hI0_1⟩ ⟨id,id,id,id,id,tV⟩ ⟨rI,rI,rI,tV⟩ ?_
 intro⟨k,v,acc⟩ hG0
 obtain⟨hk0,hI0⟩:(k≤l.length)∧(acc=List.replicate k (-1)):=hG0
 show Ct _ _ _ _ [(0,sl 1 rE_ l),(2,ptr 2 b2 0),(3,ptr 3 b3 0),(5,int (l.length:Int)),(6,int (k:Int))] [(2,cell b2 [eqv (.slice none 0 0),eqv (.slice none 0 0)]),(3,cell b3 [eqv (.slice none 0 0),osl 30 v]),(30,own v 3 1 nE acc)] _
 have hlen:acc.length=k:=by rw[hI0];simp
 refine sq (rg (bi J J b_lss (nl (th (sq ?_)))))
 refine cd J (fun hc0=> ?_) (fun hc0=> ?_)
 ·try simp at hc0
  refine sk (th (sq (bk (rg (fP J T.fld79_1 (lP J J J T.one66 (bsE (enc:=nE) (xs:= [(-1)]) (css:= [[int (-1)]]) T.mk66 ⟨J,J,p1 (φ:=int (-1)) J,tV⟩ J J J J (ap (key:=30) (zs:= [(-1)]) osl_eq J J J T.mk66 (by unfold maxL;simp;omega) (by unfold maxL;simp;omega) fun v11=>(fP J T.fld79_1 (storePO J J J J T.one66 J (nl (eb (th (rg (bi J J (b_add i6) (mv (nl ?_)))))))))))))))))
  have hN0:(k+1)≤l.length:=by
   first|omega|simp_all
  have hN1:(acc++ [(-1)])=List.replicate (k+1) (-1):=by
   rw[hI0,List.replicate_succ']
  exact ln (⟨k+1,v11,acc++ [(-1)]⟩:Nat × Value × (List Int)) ⟨hN0,hN1⟩ dO ⟨id,id,id,id,id,tV⟩ ⟨rI,rI,rI,tV⟩
 ·try simp at hc0
  refine ex (xt_ (xt_ (xb (th (sq (fzcC 3 30 1 J J J J (kncC 3 0 (sl 1 nE []) J J slnil (dr (nh:=5) [0,1,0,4,15,31] T.mixed kR ?_))))))))
  refine st_ J (fun _ _ _ gq kq=>mv' (gq.1.trans J) kq) ?_
  refine st_ J (fun _ _ _ gq kq=>appendF (enc:=rE_) (ys:=l) J (gq.1.trans J) T.mk22 mL kq) ?_
  refine st_ J (fun _ _ _ gq kq=>lPA (gq.1.trans J) J T.agg79 J kq) ?_
  refine st_ J (fun _ _ _ gq kq=>bsE (enc:=sE) (xs:= [(⟨[],acc⟩)]) (css:= [[sl 1 nE [],sl 1 nE acc]]) T.mk26 ⟨J,J,pA (cs:= [sl 1 nE [],sl 1 nE acc]) (by exact(gq.1.trans J)),tV⟩ J J J J kq) ?_
  refine st_ J (fun _ _ _ gq kq=>bd (css:= [(0,_),(1,_)]) T.st28 (eC (eC eZ)) ⟨J,J,p1 (φ:=sl 1 rE_ l) (by exact(gq.1.trans J)),⟨J,J,p1 (φ:=sl 2 sE [(⟨[],acc⟩)]) (by exact(gq.2.1.trans J)),tV⟩⟩ kq) ?_
  refine pn (sPA (cs':= [sl 1 rE_ l,sl 2 sE [(⟨[],acc⟩)]]) J J J T.agg28 J J (nl (th (rt ?_))))
  have hr0:l=(nothing l).aC:=by
   rfl
  have hr1: [(⟨[],acc⟩)]=(nothing l).sT:=by
   unfold nothing;rw[hI0,show k=l.length by omega]
  exact rE () [.cell 2 28] J [agg [sl 1 rE_ l,sl 2 sE [(⟨[],acc⟩)]]] ⟨.agg J J T.agg28 J J,tV⟩ (cA2 (fun x0 x1=>rV [agg [sl 1 rE_ x0,sl 2 sE x1]]) hr0 hr1) trivial eX
theorem Copy_ok (s:SS) (hs:size s≤100000000):
 AL.Fn Tryz.prog 18 [spec s] [] (ι:=Unit) (fun N _=>nspec N s) (fun _=> []):=by
 refine fnI Tryz.func18 rfl rfl (fun w0 F0=> ?_)
 obtain⟨hb0,hb1⟩:=size_bd s
 refine fcC (inhS 0 J) (fun hS0=> ?_)
 obtain⟨hsa0,hss0,hse0⟩:=sLn hS0
 refine sq (rg (bx (key:=1) (cs:= [sl 1 rE_ s.aC,sl 2 sE s.sT]) J fun b1=>(al (key:=2) T.z28 (eC (eC eZ)) fun b2=>(nl (th (sq (rg (fP J T.fld28_0 (lP J J J T.one22 (appendN (enc:=rE_) (ys:=s.aC) J J T.mk22 mL flat (bd (css:= [(0,_)]) T.st28 (eC (eC eZ)) ⟨J,J,p1 (φ:=fre w0.heap.size (sl 1 rE_ s.aC)) J,tV⟩ (al (key:=3) T.z28 (eC (eC eZ)) fun b3=>(sPA (cs':= [fre w0.heap.size (sl 1 rE_ s.aC),eqv (.slice none 0 0)]) J J J T.agg28 J J (nl (th (sq (sq (rg (fP J T.fld28_1 (lP J J J T.one26 (fc (slenI 11 J) fun hm11=>(lnF J T.sl26 (mv (nl (th (bk ?_))))))))))))))))))))))))))
 refine nwC 30 79 2 (stateN w0.heap.size) (kncC 3 1 (osl 30 (.slice none 0 0)) rfl rfl eq_osl ?_)
 have hI0_0:0≤s.sT.length:=by
  first|omega|simp
 have hI0_1:([]:List SA)=s.sT.take 0:=by
  rfl
 refine lp (κ:=Nat × Value × (List SA)) (fun p=> [(2,ptr 2 b2 0),(3,ptr 3 b3 0),(11,sl 2 sE s.sT),(12,int (s.sT.length:Int)),(13,int (p.1:Int))]) (fun p=> [(1,cell b1 [sl 1 rE_ s.aC,sl 2 sE s.sT]),(2,cell b2 [eqv (.slice none 0 0),eqv (.slice none 0 0)]),(3,cell b3 [fre w0.heap.size (sl 1 rE_ s.aC),osl 30 p.2.1]),(30,own p.2.1 79 2 (stateN w0.heap.size) p.2.2)]) (fun p=>(p.1≤s.sT.length)∧(p.2.2=s.sT.take p.1)) (fun p=>s.sT.length- p.1) ⟨0,(.slice none 0 0),([]:List SA)⟩ ⟨hI0_0,hI0_1⟩ ⟨id,id,id,id,id,tV⟩ ⟨rI,rI,rI,rI,tV⟩ ?_
 intro⟨k,v,acc⟩ hG0
 obtain⟨hk0,hI0⟩:(k≤s.sT.length)∧(acc=s.sT.take k):=hG0
 show Ct _ _ _ _ [(2,ptr 2 b2 0),(3,ptr 3 b3 0),(11,sl 2 sE s.sT),(12,int (s.sT.length:Int)),(13,int (k:Int))] [(1,cell b1 [sl 1 rE_ s.aC,sl 2 sE s.sT]),(2,cell b2 [eqv (.slice none 0 0),eqv (.slice none 0 0)]),(3,cell b3 [fre w0.heap.size (sl 1 rE_ s.aC),osl 30 v]),(30,own v 79 2 (stateN w0.heap.size) acc)] _
 have hlen:acc.length≤k:=by rw[hI0];simp;omega
 refine sq (rg (bi J J b_lss (nl (th (sq ?_)))))
 refine cd J (fun hc0=> ?_) (fun hc0=> ?_)
 ·try simp at hc0
  have hb2:=hb1 k O
  refine sk (th (sq (bk (sq (rg (iF J J T.sl26 O gB (lFA J T.agg79 (Nat.le_of_ble_eq_true J) (al (key:=5) T.z79 (eC (eC eZ)) fun b5=>(sPA (cs':= [sl 1 nE (ix s.sT k).aP,sl 1 nE (ix s.sT k).next]) J J J T.agg79 J J (nl (th (dr (nh:=10) [0,1,0,4,12,0,32,124,252,508,1023,2047,4095] T.mixed kR ?_))))))))))))
  refine st_ J (fun _ _ _ gq kq=>fP (gq.1.trans J) T.fld28_1 kq) ?_
  refine st_ J (fun _ _ _ gq kq=>lP (gq.1.trans J) J J T.one26 kq) ?_
  refine st_ J (fun _ _ _ gq kq=>fP (gq.1.trans J) T.fld79_0 kq) ?_
  refine st_ J (fun _ _ _ gq kq=>lP (gq.1.trans J) J J T.one66 kq) ?_
  refine st_ J (fun _ _ _ gq kq=>appendN (enc:=nE) (ys:=(ix s.sT k).aP) J (gq.1.trans J) T.mk66 mL flat kq) ?_
  refine st_ J (fun _ _ _ gq kq=>fP (gq.1.trans J) T.fld79_1 kq) ?_
  refine st_ J (fun _ _ _ gq kq=>lP (gq.1.trans J) J J T.one66 kq) ?_
  refine st_ J (fun _ _ _ gq kq=>appendN (enc:=nE) (ys:=(ix s.sT k).next) J (gq.1.trans J) T.mk66 mL flat kq) ?_
  refine st_ J (fun _ _ _ gq kq=>bd (css:= [(0,_),(1,_)]) T.st79 (eC (eC eZ)) ⟨J,J,p1 (φ:=fre w0.heap.size (sl 1 nE (ix s.sT k).aP)) (by exact(gq.1.trans J)),⟨J,J,p1 (φ:=fre w0.heap.size (sl 1 nE (ix s.sT k).next)) (by exact(gq.2.1.trans J)),tV⟩⟩ kq) ?_
  refine st_ J (fun _ _ _ gq kq=>bsE (enc:=stateN w0.heap.size) (xs:= [(ix s.sT k)]) (css:= [[fre w0.heap.size (sl 1 nE (ix s.sT k).aP),fre w0.heap.size (sl 1 nE (ix s.sT k).next)]]) T.mk26 ⟨J,J,pA (cs:= [fre w0.heap.size (sl 1 nE (ix s.sT k).aP),fre w0.heap.size (sl 1 nE (ix s.sT k).next)]) (by exact(gq.1.trans J)),tV⟩ J J J J kq) ?_
  refine pn (ap (key:=30) (zs:= [(ix s.sT k)]) osl_eq J J J T.mk26 (by unfold maxL at*;simp;omega) (by unfold maxL at*;simp;omega) fun v27=>(fP J T.fld28_1 (storePO J J J J T.one26 J (nl (eb (th (rg (bi J J (b_add i6) (mv (nl ?_))))))))))
  have hN0:(k+1)≤s.sT.length:=by
   first|omega|simp_all
  have hN1:(acc++ [(ix s.sT k)])=s.sT.take (k+1):=by
   rw[hI0,take_s O]
  exact ln (⟨k+1,v27,acc++ [(ix s.sT k)]⟩:Nat × Value × (List SA)) ⟨hN0,hN1⟩ dO ⟨id,id,id,id,id,tV⟩ ⟨rI,rI,rI,rI,tV⟩
 ·try simp at hc0
  refine ex (xt_ (xt_ (xb (th (sq (rg (fzcN sE 3 30 1 noM (fun _=>J) J J J (by decide) (lPA J J T.agg28 J (sPA (cs':= [fre w0.heap.size (sl 1 rE_ s.aC),fre w0.heap.size (sl 2 sE acc)]) J J J T.agg28 J J (nl (th (rt ?_))))))))))))
  have hr0:acc=s.sT:=by
   rw[hI0,show k=s.sT.length by omega,List.take_length]
  exact rE () [.cell 2 28] J [agg [fre w0.heap.size (sl 1 rE_ s.aC),fre w0.heap.size (sl 2 sE acc)]] ⟨.agg J J T.agg28 J J,tV⟩ (cA1 (fun x0=>rV [agg [fre w0.heap.size (sl 1 rE_ s.aC),fre w0.heap.size (sl 2 sE x0)]]) hr0) trivial eX
end ref03
end
section
open ref01 ref03
structure okState (x:SA) (N n:Nat):Prop where
 len:x.next.length=n
 nx:∀a,a<n→ -1≤ix x.next a∧ix x.next a<(N:Int)
 ac:∀i,i<x.aP.length→0≤ix x.aP i∧ix x.aP i<256
 go:∀i,i<x.aP.length→∀a:Nat,has (ix x.aP i) (a:Int)=true→a<n∧0≤ix x.next a
 rise:rising x.aP=true
structure oK (s:SS):Prop where
 acts:actionsOK s.aC=true
 n8:s.aC.length≤8
 few0:1≤s.sT.length
 few1:s.sT.length≤10000
 st:∀k,k<s.sT.length→okState (ix s.sT k) s.sT.length s.aC.length
theorem okState_of {x:SA} {N n:Nat} (hn:n≤8) (h:stateOK x (N:Int) n=true):okState x N n:=by
 unfold stateOK at h
 simp only [Bool.and_eq_true,decide_eq_true_eq] at h
 obtain⟨⟨⟨h1,h2⟩,h3⟩,h4⟩:=h
 have hset:∀i,i<x.aP.length→setOK x n (ix x.aP i)=true:=fun i hi=>all_ix h4 hi
 refine⟨O,fun a ha=> ?_,fun i hi=> ?_,fun i hi a ha=> ?_,h2⟩
 ·have:=all_ix h3 (k:=a) O
  simpa using this
 ·have:=hset i hi
  unfold setOK at this
  simp only [Bool.and_eq_true] at this
  exact isSet_bd hn this.1
 ·have h5:=hset i hi
  unfold setOK at h5
  simp only [Bool.and_eq_true] at h5
  have han:a<n:=by
   have h6:=h5.1
   unfold isSet at h6
   simp only [Bool.and_eq_true,decide_eq_true_eq,Int.toNat_natCast] at h6
   unfold has at ha
   rw[Int.toNat_natCast] at ha
   have h7:2^a≤(ix x.aP i).toNat:=Nat.ge_two_pow_of_testBit ha
   have h8:(ix x.aP i).toNat<2^n:=by omega
   have h9:2^a<2^n:=Nat.lt_of_le_of_lt h7 h8
   exact(Nat.pow_lt_pow_iff_right O).1 h9
  refine⟨han,?_⟩
  have hm:(a:Int)∈listOf n (ix x.aP i):=List.mem_map.2 ⟨a,List.mem_filter.2 ⟨List.mem_range.2 han,ha⟩,rfl⟩
  have:=List.all_eq_true.1 h5.2 _ hm
  simpa using this
theorem okSpec_of {s:SS} (h:specOK s=true):oK s:=by
 unfold specOK at h
 simp only [Bool.and_eq_true,decide_eq_true_eq] at h
 obtain⟨⟨⟨h1,h2⟩,h3⟩,h4⟩:=h
 have hn:=actionsOK_len h1
 exact⟨h1,hn,h2,O,fun k hk=>okState_of hn (all_ix h4 hk)⟩
def falls (x:SA) (t:Int) (h:List Bool):Bool:=(List.range x.next.length).any fun a=>decide (0≤ix x.next a)&&has t (a:Int)&&ix h (ix x.next a).toNat
def allFall (x:SA) (h:List Bool):Bool:=x.aP.all fun t=>falls x t h
theorem any_range_succ (n:Nat) (f:Nat→Bool):(List.range (n+1)).any f=((List.range n).any f||f n):=by
 rw[List.range_succ,List.any_append];simp
theorem any_range_yes {n i:Nat} {f:Nat→Bool} (hi:i<n) (hf:f i=true):(List.range n).any f=true:=List.any_eq_true.2 ⟨i,List.mem_range.2 hi,hf⟩
def Closed (s:SS) (H:Nat→Prop):Prop:=∀x,x<s.sT.length→(∀i,i<(ix s.sT x).aP.length→∃a,a<(ix s.sT x).next.length∧0≤ix (ix s.sT x).next a∧has (ix (ix s.sT x).aP i) (a:Int)=true∧H (ix (ix s.sT x).next a).toNat)→H x
def Hol (s:SS) (x:Nat):Prop:=∀H,Closed s H→H x
theorem Hol_closed (s:SS):Closed s (Hol s):=fun x hx h H hH=>hH x hx (fun i hi=>by
 obtain⟨a,h1,h2,h3,h4⟩:=h i hi
 exact⟨a,h1,h2,h3,h4 H hH⟩)
theorem falls_iff {x:SA} {t:Int} {h:List Bool}:falls x t h=true↔∃a,a<x.next.length∧0≤ix x.next a∧has t (a:Int)=true∧ix h (ix x.next a).toNat=true:=by
 unfold falls
 rw[List.any_eq_true]
 constructor
 ·rintro⟨a,ha,hf⟩
  simp only [Bool.and_eq_true,decide_eq_true_eq] at hf
  exact⟨a,List.mem_range.1 ha,hf.1.1,hf.1.2,hf.2⟩
 ·rintro⟨a,ha,h1,h2,h3⟩
  exact⟨a,List.mem_range.2 ha,by simp[h1,h2,h3]⟩
theorem allFall_iff {x:SA} {h:List Bool}:allFall x h=true↔∀i,i<x.aP.length→∃a,a<x.next.length∧0≤ix x.next a∧has (ix x.aP i) (a:Int)=true∧ix h (ix x.next a).toNat=true:=by
 unfold allFall
 rw[List.all_eq_true]
 constructor
 ·intro hh i hi
  exact falls_iff.1 (hh _ (by rw[ix_get hi];exact List.getElem_mem hi))
 ·intro hh t ht
  obtain⟨i,hi,he⟩:=List.getElem_of_mem ht
  have:=falls_iff.2 (hh i hi)
  rwa [ix_get hi,he] at this
open Classical in
noncomputable def hOl (s:SS):List Bool:=(List.range s.sT.length).map fun x=>decide (Hol s x)
theorem hollow_len (s:SS):(hOl s).length=s.sT.length:=by simp[hOl]
theorem ix_set {α:Type} [Inhabited α] {xs:List α} {k:Nat} (hk:k<xs.length) (y:α) (j:Nat):ix (xs.set k y) j=if j=k then y else ix xs j:=by
 unfold ix
 by_cases h:j=k
 ·subst h;simp[hk]
 ·simp[h,List.getD,List.getElem?_set_ne (Ne.symm h)]
theorem hollow_eq {s:SS} {l:List Bool} (hl:l.length=s.sT.length) (h1:∀x,ix l x=true→Hol s x) (h2:∀x,x<s.sT.length→allFall (ix s.sT x) l=true→ix l x=true):l=hOl s:=by
 have hc:Closed s (fun x=>ix l x=true):=fun x hx h=>h2 x hx (allFall_iff.2 h)
 apply List.ext_getElem (by rw[hl,hollow_len])
 intro i hi hi'
 have e:ix l i=l[i]:=ix_get hi
 simp only [hOl,List.getElem_map,List.getElem_range]
 rw[←e]
 by_cases h:Hol s i
 ·rw[h _ hc];simp[h]
 ·have:ix l i≠true:=fun ht=>h (h1 i ht)
  simp[h] at this ⊢
  exact this
theorem count_set {l:List Bool} {k:Nat} (hk:k<l.length) (h:ix l k=false):(l.set k true).count false<l.count false:=by
 rw[ix_get hk] at h
 have h1:=List.count_set (l:=l) (i:=k) (a:=true) (b:=false) hk
 rw[h1,h]
 have:0<l.count false:=List.count_pos_iff.2 (by rw[←h];exact List.getElem_mem hk)
 simp
 omega
theorem rising_ix {l:List Int} (h:rising l=true) {i:Nat} (hi:i+1<l.length):ix l i<ix l (i+1):=by
 unfold rising at h
 have:=List.all_eq_true.1 h i (List.mem_range.2 O)
 simpa using this
theorem rising_ge {l:List Int} (h:rising l=true) (h0:∀i,i<l.length→0≤ix l i):∀i,i<l.length→(i:Int)≤ix l i
 |0,hi=>by simpa using h0 0 hi
 |i+1,hi=>by
  have h1:=rising_ge h h0 i O
  have h2:=rising_ix h (i:=i) hi
  omega
theorem okState.acl {x:SA} {N n:Nat} (h:okState x N n):x.aP.length≤256:=by
 rcases Nat.lt_or_ge 256 x.aP.length with hlt|hle
 ·have h1:=rising_ge h.rise (fun i hi=>(h.ac i hi).1) 256 hlt
  have h2:=(h.ac 256 hlt).2
  omega
 ·exact hle
def orAll (l:List Int):Int:=l.foldl (fun u t=>((u.toNat|||t.toNat:Nat):Int)) 0
theorem orAll_snoc (l:List Int) (t:Int):orAll (l++ [t])=(((orAll l).toNat|||t.toNat:Nat):Int):=by simp[orAll]
theorem or_lt256 {a b:Int} (ha:a<256) (hb:b<256):((a.toNat|||b.toNat:Nat):Int)<256:=by
 have:=Nat.or_lt_two_pow (x:=a.toNat) (y:=b.toNat) (n:=8) O O
 omega
noncomputable def keep (s:SS) (x:Nat):List Int:=(ix s.sT x).aP.filter fun t=> !ix (hOl s) x&& !falls (ix s.sT x) t (hOl s)
def cut (x:SA) (u:Int):List Int:=(List.range x.next.length).map fun(a:Nat)=>if has u (a:Int) then ix x.next a else-1
noncomputable def solidState (s:SS) (x:Nat):SA:=⟨keep s x,cut (ix s.sT x) (orAll (keep s x))⟩
noncomputable def solid (s:SS):SS:=⟨s.aC,(List.range s.sT.length).map (solidState s)⟩
theorem filter_take_succ {α:Type} [Inhabited α] {xs:List α} {k:Nat} (h:k<xs.length) (p:α→Bool):(xs.take (k+1)).filter p=(xs.take k).filter p++(if p (ix xs k) then [ix xs k] else []):=by
 rw[take_s h,List.filter_append]
 congr 1
 by_cases hp:p (ix xs k)<;>simp[hp]
theorem map_range_succ {α:Type} (f:Nat→α) (n:Nat):(List.range (n+1)).map f=(List.range n).map f++ [f n]:=by rw[List.range_succ,List.map_append];rfl
def visit (l ks:List Int):List Int:=ks.foldl (fun l k=>if decide (0≤k)&& !l.contains k then l++ [k] else l) l
theorem visit_snoc (l ks:List Int) (k:Int):visit l (ks++ [k])=if decide (0≤k)&& !(visit l ks).contains k then visit l ks++ [k] else visit l ks:=by simp[visit]
def bq (s:SS):Nat→List Int
 |0=> [0]
 |i+1=>if i<(bq s i).length then visit (bq s i) (ix s.sT (ix (bq s i) i).toNat).next else bq s i
def order (s:SS):List Int:=bq s s.sT.length
theorem bq_stable {s:SS} {i:Nat} (h:(bq s i).length≤i):∀j,bq s (i+j)=bq s i
 |0=>rfl
 |j+1=>by
  have ih:=bq_stable h j
  show(if i+j<(bq s (i+j)).length then _ else bq s (i+j))=_
  rw[ih,if_neg O]
def marks (n:Nat) (l:List Int):List Bool:=(List.range n).map fun(x:Nat)=>l.contains (x:Int)
theorem marks_len (n:Nat) (l:List Int):(marks n l).length=n:=by simp[marks]
theorem marks_ix {n:Nat} {l:List Int} {x:Nat} (h:x<n):ix (marks n l) x=l.contains (x:Int):=by
 rw[ix_get (by rw[marks_len];exact h)]
 simp[marks]
theorem marks_set {n:Nat} {l:List Int} {k:Int} (h0:0≤k):(marks n l).set k.toNat true=marks n (l++ [k]):=by
 apply List.ext_getElem (by simp[marks])
 intro i h1 h2
 rw[List.getElem_set]
 simp only [marks,List.getElem_map,List.getElem_range,List.contains_eq_mem,List.mem_append,List.mem_singleton]
 split
 ·next e=>subst e;simp;right;omega
 ·next e=>
  have:¬((i:Int)=k):=by omega
  simp[this]
def okQ (n:Nat) (l:List Int):Prop:=(∀i,i<l.length→0≤ix l i∧ix l i<(n:Int))∧(marks n l).count true=l.length∧1≤l.length
theorem okQ.le {n:Nat} {l:List Int} (h:okQ n l):l.length≤n:=by
 rw[←h.2.1]
 exact Nat.le_trans List.count_le_length (by rw[marks_len];exact Nat.le_refl _)
theorem ix_snoc (l:List Int) (k:Int) (i:Nat):ix (l++ [k]) i=if i<l.length then ix l i else if i=l.length then k else default:=by
 unfold ix
 by_cases h:i<l.length
 ·simp[h,List.getD,List.getElem?_append_left h]
 ·by_cases h2:i=l.length
  ·subst h2;simp[List.getD]
  ·rw[if_neg h,if_neg h2,List.getD_eq_getElem?_getD,List.getElem?_eq_none (by simp;omega)];rfl
theorem okQ_snoc {n:Nat} {l:List Int} {k:Int} (h:okQ n l) (h0:0≤k) (h1:k<(n:Int)) (hc:l.contains k=false):okQ n (l++ [k]):=by
 refine⟨fun i hi=> ?_,?_,by simp⟩
 ·rw[ix_snoc]
  simp at hi
  split
  ·next h2=>exact h.1 i h2
  ·rw[if_pos O];exact⟨h0,h1⟩
 ·rw[←marks_set h0]
  have hk:k.toNat<(marks n l).length:=by rw[marks_len];omega
  have h2:=List.count_set (l:=marks n l) (i:=k.toNat) (a:=true) (b:=true) hk
  have h3:(marks n l)[k.toNat]=false:=by
   have:=marks_ix (n:=n) (l:=l) (x:=k.toNat) O
   rw[ix_get hk,Int.toNat_of_nonneg h0,hc] at this
   exact this
  rw[h2,h3]
  simp[h.2.1]
theorem okQ_zero {n:Nat} (h:1≤n):okQ n [0]:=by
 refine⟨fun i hi=> ?_,?_,by simp⟩
 ·have:i=0:=by simpa using hi
  subst this
  show 0≤(0:Int)∧(0:Int)<(n:Int)
  omega
 ·have e:marks n []=List.replicate n false:=by
   apply List.ext_getElem (by simp[marks])
   intro i h1 h2
   simp[marks]
  have:=marks_set (n:=n) (l:= []) (k:=0) O
  rw[←show([]:List Int)++ [0]= [0] from rfl,←this,e]
  have h2:=List.count_set (l:=List.replicate n false) (i:=0) (a:=true) (b:=true) (by simp;omega)
  show((List.replicate n false).set 0 true).count true=1
  rw[h2]
  simp[List.count_replicate]
theorem marks_zero (n:Nat):(List.replicate n false).set 0 true=marks n [0]:=by
 have e:marks n []=List.replicate n false:=by
  apply List.ext_getElem (by simp[marks])
  intro i h1 h2
  simp[marks]
 have:=marks_set (n:=n) (l:= []) (k:=0) O
 rw[e] at this
 exact this
namespace T
theorem sl90:IsSlice Tryz.prog 90 4 1:=isSlice_of kR
theorem one4:IsOne Tryz.prog 4:=isOne_of kR
theorem ent143:Ent Tryz.prog 143:=ent_of kR
theorem mk90:MakeT Tryz.prog 90 4 1 1 [.bool false]:=makeT_of kR kR
theorem ent109:Ent Tryz.prog 109:=ent_of kR
theorem ent60:Ent Tryz.prog 60:=ent_of kR
end T
namespace ref04
theorem falls_ok (x:SA) (t:Int) (h:List Bool) (ht0:0≤t) (ht1:t<2^63) (hn:x.next.length≤64) (hb:∀a,a<x.next.length→ix x.next a<(h.length:Int)):
 Fn0 Tryz.prog 143 [state x,int t,bls h] (bl (falls x t h)):=by
 refine fnI Tryz.func143 rfl rfl (fun w0 F0=> ?_)
 refine fcC (inhS 0 J) (fun hS0=> ?_)
 obtain⟨hxa0,hxn0⟩:=state_lens hS0
 refine fcC (slenI 2 J) (fun hm2=> ?_)
 refine sq (rg (bx (key:=3) (cs:= [sl 1 nE x.aP,sl 1 nE x.next]) J fun b3=>(ag (nl (th (sq (sq (rg (fP J T.fld79_1 (lP J J J T.one66 (fc (slenI 10 J) fun hm10=>(lnF J T.sl66 (mv (nl (th (bk ?_))))))))))))))))
 have hI0_0:0≤x.next.length:=by
  first|omega|simp
 have hI0_1:(List.range 0).any (fun a=>decide (0≤ix x.next a)&&has t (a:Int)&&ix h (ix x.next a).toNat)=false:=by
  simp
 refine lp (κ:=Nat) (fun p=> [(1,int t),(2,sl 1 blE h),(10,sl 1 nE x.next),(11,int (x.next.length:Int)),(12,int (p:Int))]) (fun p=> [(3,cell b3 [sl 1 nE x.aP,sl 1 nE x.next])]) (fun p=>(p≤x.next.length)∧((List.range p).any (fun a=>decide (0≤ix x.next a)&&has t (a:Int)&&ix h (ix x.next a).toNat)=false)) (fun p=>x.next.length- p) 0 ⟨hI0_0,hI0_1⟩ ⟨id,id,id,id,id,tV⟩ ⟨rI,tV⟩ ?_
 intro k hG0
 obtain⟨hk0,hI0⟩:(k≤x.next.length)∧((List.range k).any (fun a=>decide (0≤ix x.next a)&&has t (a:Int)&&ix h (ix x.next a).toNat)=false):=hG0
 refine sq (rg (bi J J b_lss (nl (th (sq ?_)))))
 refine cd J (fun hc0=> ?_) (fun hc0=> ?_)
 ·try simp at hc0
  refine sk (th (sq (bk (sq (rg (mv (iF J J T.sl66 O gB (lF J J T.one3 (ag (ag (nl (th (sq (rg (mv (bi J J b_geq (mv ?_)))))))))))))))))
  apply gAnd (t:=19) (pd:=23) rfl
  rotate_left
  ·intro hg0 fin
   have hg0':=hg0
   try simp at hg0'
   exact gy J J J hg0 (mv (gy J J J hg0 (mv (gy J J J hg0 (cal0 (φs:= [int t,int (k:Int)]) (φ:=bl (has t (k:Int))) ⟨J,J,tV⟩ (ref01.Has_ok _ _ O O O O) T.ent51 (pkT J hg0 J (drp (X:= [(22,_),(21,_),(20,_)]) ⟨J,J,J,tV⟩ fin)))))))
  ·intro hg0 fin
   exact gn J J J hg0 J J (gn J J J hg0 J J (gn J J J hg0 J J (pkF J hg0 J (drp (X:= [(22,_),(21,_),(20,_)]) ⟨J,J,J,tV⟩ fin))))
  refine mv ?_
  apply gAnd (t:=24) (pd:=29) rfl
  rotate_left
  ·intro hg1 fin
   have hg1':=hg1
   try simp at hg1'
   have hbk:=hb k O
   exact gy J J J hg1 (mv (gy J J J hg1 (mv (gy J J J hg1 (iF J J T.sl90 O gB (gy J J J hg1 (lF J J T.one4 (pkT J hg1 J (drp (X:= [(28,_),(27,_),(26,_),(25,_)]) ⟨J,J,J,J,tV⟩ fin)))))))))
  ·intro hg1 fin
   exact gn J J J hg1 J J (gn J J J hg1 J J (gn J J J hg1 J J (gn J J J hg1 J J (pkF J hg1 J (drp (X:= [(28,_),(27,_),(26,_),(25,_)]) ⟨J,J,J,J,tV⟩ fin)))))
  refine nl (th ?_)
  refine cd J (fun hc1=> ?_) (fun hc1=> ?_)
  ·try simp at hc1
   refine sq (rg (ag (nl (th (rt (rb (rt_ (rt_ (rb (rt_ ?_))))))))))
   have hr0:true=(falls x t h):=by
    unfold falls
    rw[any_range_yes (i:=k) O]
    simp only [hc1];simp
   exact rE () [.tmp 6] J [bl true] ⟨.tmp J,tV⟩ (cA1 (fun x0=>rV [bl x0]) hr0) trivial eX
  ·try simp at hc1
   refine sk (eb (th (rg (bi J J (b_add i6) (mv (nl ?_))))))
   have hN0:(k+1)≤x.next.length:=by
    first|omega|simp_all
   have hN1:(List.range (k+1)).any (fun a=>decide (0≤ix x.next a)&&has t (a:Int)&&ix h (ix x.next a).toNat)=false:=by
    rw[any_range_succ,hI0]
    cases hq:(decide (0≤ix x.next k)&&has t (k:Int)&&ix h (ix x.next k).toNat)
    ·rfl
    ·simp at hq
     have:=hc1 hq.1.1 hq.1.2
     rw[hq.2] at this;cases this
   exact ln (k+1) ⟨hN0,hN1⟩ dO ⟨id,id,id,id,id,tV⟩ ⟨rI,tV⟩
 ·try simp at hc0
  refine ex (xt_ (xt_ (xb (th (sq (rg (ag (nl (th (rt ?_))))))))))
  have hr0:false=(falls x t h):=by
   unfold falls
   rw[show x.next.length=k by omega,hI0]
  exact rE () [.tmp 6] J [bl false] ⟨.tmp J,tV⟩ (cA1 (fun x0=>rV [bl x0]) hr0) trivial eX
theorem allFall_ok (x:SA) (h:List Bool) {n:Nat} (hx:okState x h.length n∧n≤8):
 Fn0 Tryz.prog 109 [state x,bls h] (bl (allFall x h)):=by
 refine fnI Tryz.func109 rfl rfl (fun w0 F0=> ?_)
 have hxl:=hx.1.len
 refine fcC (inhS 0 J) (fun hS0=> ?_)
 obtain⟨hxa0,hxn0⟩:=state_lens hS0
 refine fcC (slenI 1 J) (fun hm1=> ?_)
 refine sq (rg (bx (key:=2) (cs:= [sl 1 nE x.aP,sl 1 nE x.next]) J fun b2=>(ag (nl (th (sq (sq (rg (fP J T.fld79_0 (lP J J J T.one66 (fc (slenI 8 J) fun hm8=>(lnF J T.sl66 (mv (nl (th (bk ?_))))))))))))))))
 have hI0_0:0≤x.aP.length:=by
  first|omega|simp
 have hI0_1:(x.aP.take 0).all (fun t=>falls x t h)=true:=by
  simp
 refine lp (κ:=Nat) (fun p=> [(1,sl 1 blE h),(2,ptr 2 b2 0),(8,sl 1 nE x.aP),(9,int (x.aP.length:Int)),(10,int (p:Int))]) (fun p=> [(2,cell b2 [sl 1 nE x.aP,sl 1 nE x.next])]) (fun p=>(p≤x.aP.length)∧((x.aP.take p).all (fun t=>falls x t h)=true)) (fun p=>x.aP.length- p) 0 ⟨hI0_0,hI0_1⟩ ⟨id,id,id,id,id,tV⟩ ⟨rI,tV⟩ ?_
 intro k hG0
 obtain⟨hk0,hI0⟩:(k≤x.aP.length)∧((x.aP.take k).all (fun t=>falls x t h)=true):=hG0
 refine sq (rg (bi J J b_lss (nl (th (sq ?_)))))
 refine cd J (fun hc0=> ?_) (fun hc0=> ?_)
 ·try simp at hc0
  have hac:=hx.1.ac k O
  refine sk (th (sq (bk (sq (rg (iF J J T.sl66 O gB (lF J J T.one3 (ag (nl (th (sq (rg (lPA J J T.agg79 J (mv (mv (cal0 (φs:= [agg [sl 1 nE x.aP,sl 1 nE x.next],int (ix x.aP k),sl 1 blE h]) (φ:=bl (falls x (ix x.aP k) h)) ⟨J,J,J,tV⟩ (ref04.falls_ok x _ _ O O O (fun a ha=>(hx.1.nx a O).2)) T.ent143 (no J (nl (th ?_)))))))))))))))))))
  refine cd J (fun hc1=> ?_) (fun hc1=> ?_)
  ·try simp at hc1
   refine sq (rg (ag (nl (th (rt (rb (rt_ (rt_ (rb (rt_ ?_))))))))))
   have hr0:false=(allFall x h):=by
    unfold allFall
    rw[all_fail (xs:=x.aP) (k:=k) O (by simpa using hc1)]
   exact rE () [.tmp 4] J [bl false] ⟨.tmp J,tV⟩ (cA1 (fun x0=>rV [bl x0]) hr0) trivial eX
  ·try simp at hc1
   refine sk (eb (th (rg (bi J J (b_add i6) (mv (nl ?_))))))
   have hN0:(k+1)≤x.aP.length:=by
    first|omega|simp_all
   have hN1:(x.aP.take (k+1)).all (fun t=>falls x t h)=true:=by
    rw[all_take_succ O,hI0]
    simpa using hc1
   exact ln (k+1) ⟨hN0,hN1⟩ dO ⟨id,id,id,id,id,tV⟩ ⟨rI,tV⟩
 ·try simp at hc0
  refine ex (xt_ (xt_ (xb (th (sq (rg (ag (nl (th (rt ?_))))))))))
  have hr0:true=(allFall x h):=by
   unfold allFall
   rw[show k=x.aP.length by omega,List.take_length] at hI0
   rw[hI0]
  exact rE () [.tmp 4] J [bl true] ⟨.tmp J,tV⟩ (cA1 (fun x0=>rV [bl x0]) hr0) trivial eX
theorem Hollow_ok (s:SS) (h:oK s):
 Fn0 Tryz.prog 60 [spec s] (bls (hOl s)):=by
 refine fnI Tryz.func60 rfl rfl (fun w0 F0=> ?_)
 have hf0:=h.few0;have hf1:=h.few1
 refine fcC (inhS 0 J) (fun hS0=> ?_)
 obtain⟨hsa0,hss0,hse0⟩:=sLn hS0
 refine sq (rg (bx (key:=1) (cs:= [sl 1 rE_ s.aC,sl 2 sE s.sT]) J fun b1=>(ag (nl (th (sq (rg (fP J T.fld28_1 (lP J J J T.one26 (fc (slenI 8 J) fun hm8=>(lnF J T.sl26 (mk (key:=10) (m:=s.sT.length) (enc:=blE) (y:=false) J J T.mk90 (eC eZ) mL mL fun v10=>(ag (nl (th (sq (sq (rg (ag (nl (th (bk ?_))))))))))))))))))))))
 have hI0_0:(List.replicate s.sT.length false).length=s.sT.length∧(∀x,ix (List.replicate s.sT.length false) x=true→Hol s x)∧(true=false→∀x,x<s.sT.length→allFall (ix s.sT x) (List.replicate s.sT.length false)=true→ix (List.replicate s.sT.length false) x=true):=by
  refine⟨by simp,fun x hx=> ?_,by simp⟩
  unfold ix at hx
  rw[List.getD_eq_getElem?_getD] at hx
  rw[List.getElem?_replicate] at hx
  split at hx<;>simp at hx
 refine lp (κ:=Bool × (List Bool)) (fun p=> [(1,ptr 1 b1 0),(2,eqv (.slice none 0 0)),(3,osl 10 v10),(4,bl p.1)]) (fun p=> [(1,cell b1 [sl 1 rE_ s.aC,sl 2 sE s.sT]),(10,own v10 4 1 blE p.2)]) (fun p=>p.2.length=s.sT.length∧(∀x,ix p.2 x=true→Hol s x)∧(p.1=false→∀x,x<s.sT.length→allFall (ix s.sT x) p.2=true→ix p.2 x=true)) (fun p=>2*p.2.count false+p.1.toNat) ⟨true,List.replicate s.sT.length false⟩ hI0_0 ⟨id,id,id,id,tV⟩ ⟨rI,rI,tV⟩ ?_
 intro⟨b,l⟩ hG0
 have hI0:l.length=s.sT.length∧(∀x,ix l x=true→Hol s x)∧(b=false→∀x,x<s.sT.length→allFall (ix s.sT x) l=true→ix l x=true):=hG0
 show Ct _ _ _ _ [(1,ptr 1 b1 0),(2,eqv (.slice none 0 0)),(3,osl 10 v10),(4,bl b)] [(1,cell b1 [sl 1 rE_ s.aC,sl 2 sE s.sT]),(10,own v10 4 1 blE l)] _
 refine sq (sq (rg (mv (nl (th ?_)))))
 refine cd J (fun hc0=> ?_) (fun hc0=> ?_)
 ·try simp at hc0
  refine sk (th (bk (sq (rg (ag (nl (th (sq (rg (fP J T.fld28_1 (lP J J J T.one26 (lnF J T.sl26 (mv (nl (th (bk ?_))))))))))))))))
  have hI1_0:0≤s.sT.length:=by
   first|omega|simp
  have hI1_1:l.length=s.sT.length∧(∀x,ix l x=true→Hol s x)∧(false=false→l=l∧∀x,x<0→allFall (ix s.sT x) l=true→ix l x=true)∧(false=true→l.count false<l.count false):=by
   exact⟨hI0.1,hI0.2.1,fun _=>⟨rfl,fun x hx=>by omega⟩,fun h=>by cases h⟩
  refine lp (κ:=Nat × Bool × (List Bool)) (fun p=> [(1,ptr 1 b1 0),(2,eqv (.slice none 0 0)),(3,osl 10 v10),(4,bl p.2.1),(13,sl 2 sE s.sT),(14,int (s.sT.length:Int)),(15,int (p.1:Int))]) (fun p=> [(1,cell b1 [sl 1 rE_ s.aC,sl 2 sE s.sT]),(10,own v10 4 1 blE p.2.2)]) (fun p=>(p.1≤s.sT.length)∧(p.2.2.length=s.sT.length∧(∀x,ix p.2.2 x=true→Hol s x)∧(p.2.1=false→p.2.2=l∧∀x,x<p.1→allFall (ix s.sT x) l=true→ix l x=true)∧(p.2.1=true→p.2.2.count false<l.count false))) (fun p=>s.sT.length- p.1) ⟨0,false,l⟩ ⟨hI1_0,hI1_1⟩ ⟨id,id,id,id,id,id,id,tV⟩ ⟨rI,rI,tV⟩ ?_
  intro⟨k1,g1x,l1⟩ hG1
  obtain⟨hk1,hI1⟩:(k1≤s.sT.length)∧(l1.length=s.sT.length∧(∀x,ix l1 x=true→Hol s x)∧(g1x=false→l1=l∧∀x,x<k1→allFall (ix s.sT x) l=true→ix l x=true)∧(g1x=true→l1.count false<l.count false)):=hG1
  show Ct _ _ _ _ [(1,ptr 1 b1 0),(2,eqv (.slice none 0 0)),(3,osl 10 v10),(4,bl g1x),(13,sl 2 sE s.sT),(14,int (s.sT.length:Int)),(15,int (k1:Int))] [(1,cell b1 [sl 1 rE_ s.aC,sl 2 sE s.sT]),(10,own v10 4 1 blE l1)] _
  refine sq (rg (bi J J b_lss (nl (th (sq ?_)))))
  refine cd J (fun hc1=> ?_) (fun hc1=> ?_)
  ·try simp at hc1
   refine sk (th (sq (bk (sq (rg (mv (iF J J T.sl26 O gB (lFA J T.agg79 (Nat.le_of_ble_eq_true J) (al (key:=6) T.z79 (eC (eC eZ)) fun b6=>(ag (sPA (cs':= [sl 1 nE (ix s.sT k1).aP,sl 1 nE (ix s.sT k1).next]) J J J T.agg79 J J (nl (th (sq (rg (mv (mv (iO J J J T.sl90 O O (lO J J gB J T.one4 (no J (mv ?_)))))))))))))))))))))
   apply gAnd (t:=25) (pd:=29) rfl
   rotate_left
   ·intro hg0 fin
    have hg0':=hg0
    try simp at hg0'
    exact gy J J J hg0 (lPA J J T.agg79 J (gy J J J hg0 (mv (gy J J J hg0 (calB (φs:= [agg [sl 1 nE (ix s.sT k1).aP,sl 1 nE (ix s.sT k1).next],sl 1 blE l1]) ⟨.here J,.own 10 J J,tV⟩ (ref04.allFall_ok (ix s.sT k1) _ (n:=s.aC.length) ⟨by rw[hI1.1];exact h.st k1 O,h.n8⟩) T.ent109 (pkT J hg0 J (drp (X:= [(28,_),(27,_),(26,_)]) ⟨J,J,J,tV⟩ fin)))))))
   ·intro hg0 fin
    exact gn J J J hg0 J J (gn J J J hg0 J J (gn J J J hg0 J J (pkF J hg0 J (drp (X:= [(28,_),(27,_),(26,_)]) ⟨J,J,J,tV⟩ fin))))
   refine nl (th ?_)
   refine cd J (fun hc2=> ?_) (fun hc2=> ?_)
   ·try simp at hc2
    refine rg (mv (mv (iO J J J T.sl90 O O (sO (φ:=bl true) J J J T.one4 gB J (y':=true) J (ag (nl (eb (th (rg (bi J J (b_add i6) (mv (nl ?_))))))))))))
    have hN0:(k1+1)≤s.sT.length:=by
     first|omega|simp_all
    have hN1:(l1.set k1 true).length=s.sT.length∧(∀x,ix (l1.set k1 true) x=true→Hol s x)∧(true=false→(l1.set k1 true)=l∧∀x,x<(k1+1)→allFall (ix s.sT x) l=true→ix l x=true)∧(true=true→(l1.set k1 true).count false<l.count false):=by
     have hlt:k1<l1.length:=by omega
     refine⟨by simp[hI1.1],fun x hx=> ?_,fun h=>(by cases h),fun _=> ?_⟩
     ·rw[ix_set hlt] at hx
      split at hx
      ·next e=>subst e;exact Hol_closed s _ (by omega) (fun i hi=>by
         obtain⟨a,q1,q2,g3,g4⟩:=allFall_iff.1 hc2.2 i hi
         exact⟨a,q1,q2,g3,hI1.2.1 _ g4⟩)
      ·exact hI1.2.1 x hx
     ·have h1:=count_set hlt hc2.1
      cases g1x with
      |true=>have:=hI1.2.2.2 rfl;omega
      |false=>have:=(hI1.2.2.1 rfl).1;subst this;exact h1
    exact ln (⟨k1+1,true,l1.set k1 true⟩:Nat × Bool × (List Bool)) ⟨hN0,hN1⟩ dO ⟨id,id,id,id,id,id,id,tV⟩ ⟨rI,rI,tV⟩
   ·try simp at hc2
    refine sk (eb (th (rg (bi J J (b_add i6) (mv (nl ?_))))))
    have hN0:(k1+1)≤s.sT.length:=by
     first|omega|simp_all
    have hN1:l1.length=s.sT.length∧(∀x,ix l1 x=true→Hol s x)∧(g1x=false→l1=l∧∀x,x<(k1+1)→allFall (ix s.sT x) l=true→ix l x=true)∧(g1x=true→l1.count false<l.count false):=by
     refine⟨hI1.1,hI1.2.1,fun hb=>⟨(hI1.2.2.1 hb).1,fun x hx hf=> ?_⟩,hI1.2.2.2⟩
     by_cases e:x=k1
     ·subst e
      have he:=(hI1.2.2.1 hb).1
      subst he
      cases hq:ix l1 x
      ·have:=hc2 hq;rw[hf] at this;cases this
      ·rfl
     ·exact(hI1.2.2.1 hb).2 x O hf
    exact ln (⟨k1+1,g1x,l1⟩:Nat × Bool × (List Bool)) ⟨hN0,hN1⟩ dO ⟨id,id,id,id,id,id,id,tV⟩ ⟨rI,rI,tV⟩
  ·try simp at hc1
   refine ex (xt_ (xt_ (xb (eb ?_))))
   have hN0:l1.length=s.sT.length∧(∀x,ix l1 x=true→Hol s x)∧(g1x=false→∀x,x<s.sT.length→allFall (ix s.sT x) l1=true→ix l1 x=true):=by
    refine⟨hI1.1,hI1.2.1,fun hb x hx hf=> ?_⟩
    obtain⟨e,h3⟩:=hI1.2.2.1 hb
    subst e
    exact h3 x O hf
   exact ln (⟨g1x,l1⟩:Bool × (List Bool)) hN0 (by cases g1x with
    |true=>have:=hI1.2.2.2 rfl;subst hc0;simp;omega
    |false=>have:=(hI1.2.2.1 rfl).1;subst this;subst hc0;simp) ⟨id,id,id,id,tV⟩ ⟨rI,rI,tV⟩
 ·try simp at hc0
  refine ex (xt_ (xt_ (xb (th (sq (rg (mv (ag (nl (th (rt ?_)))))))))))
  refine fzA 10 2 rfl rfl ?_
  have hr0:l=(hOl s):=by
   exact hollow_eq hI0.1 hI0.2.1 (hI0.2.2 hc0)
  exact rE () [.tmp 2] J [sl 1 blE l] ⟨.tmp J,tV⟩ (cA1 (fun x0=>rV [sl 1 blE x0]) hr0) trivial eX
theorem Solid_ok (s:SS) (h:oK s):
 Fn0 Tryz.prog 126 [spec s] (spec (solid s)):=by
 refine fnI Tryz.func126 rfl rfl (fun w0 F0=> ?_)
 have hf0:=h.few0;have hf1:=h.few1;have hn8:=h.n8;have hhl:=hollow_len s
 refine fcC (inhS 0 J) (fun hS0=> ?_)
 obtain⟨hsa0,hss0,hse0⟩:=sLn hS0
 refine sq (rg (bx (key:=1) (cs:= [sl 1 rE_ s.aC,sl 2 sE s.sT]) J fun b1=>(al (key:=2) T.z28 (eC (eC eZ)) fun b2=>(nl (th (sq (rg (lPA J J T.agg28 J (cal0 (φs:= [agg [sl 1 rE_ s.aC,sl 2 sE s.sT]]) (φ:=sl 1 blE (hOl s)) ⟨J,tV⟩ (ref04.Hollow_ok s aS) T.ent60 (ag (nl (th (sq (rg (fP J T.fld28_0 (lP J J J T.one22 (appendF (enc:=rE_) (ys:=s.aC) J J T.mk22 mL (bd (css:= [(0,_)]) T.st28 (eC (eC eZ)) ⟨J,J,p1 (φ:=sl 1 rE_ s.aC) J,tV⟩ (al (key:=4) T.z28 (eC (eC eZ)) fun b4=>(sPA (cs':= [sl 1 rE_ s.aC,eqv (.slice none 0 0)]) J J J T.agg28 J J (nl (th (sq (sq (rg (fP J T.fld28_1 (lP J J J T.one26 (fc (slenI 20 J) fun hm20=>(lnF J T.sl26 (mv (nl (th (bk ?_)))))))))))))))))))))))))))))))))
 refine nwC 40 79 2 sE (kncC 4 1 (osl 40 (.slice none 0 0)) rfl rfl eq_osl ?_)
 have hI0_0:0≤s.sT.length:=by
  first|omega|simp
 have hI0_1:([]:List SA)=(List.range 0).map (solidState s):=by
  rfl
 refine lp (κ:=Nat × Value × (List SA)) (fun p=> [(2,ptr 2 b2 0),(3,sl 1 blE (hOl s)),(4,ptr 4 b4 0),(20,sl 2 sE s.sT),(21,int (s.sT.length:Int)),(22,int (p.1:Int))]) (fun p=> [(1,cell b1 [sl 1 rE_ s.aC,sl 2 sE s.sT]),(2,cell b2 [eqv (.slice none 0 0),eqv (.slice none 0 0)]),(4,cell b4 [sl 1 rE_ s.aC,osl 40 p.2.1]),(40,own p.2.1 79 2 sE p.2.2)]) (fun p=>(p.1≤s.sT.length)∧(p.2.2=(List.range p.1).map (solidState s))) (fun p=>s.sT.length- p.1) ⟨0,(.slice none 0 0),([]:List SA)⟩ ⟨hI0_0,hI0_1⟩ ⟨id,id,id,id,id,id,tV⟩ ⟨rI,rI,rI,rI,tV⟩ ?_
 intro⟨k,v,acc⟩ hG0
 obtain⟨hk0,hI0⟩:(k≤s.sT.length)∧(acc=(List.range k).map (solidState s)):=hG0
 show Ct _ _ _ _ [(2,ptr 2 b2 0),(3,sl 1 blE (hOl s)),(4,ptr 4 b4 0),(20,sl 2 sE s.sT),(21,int (s.sT.length:Int)),(22,int (k:Int))] [(1,cell b1 [sl 1 rE_ s.aC,sl 2 sE s.sT]),(2,cell b2 [eqv (.slice none 0 0),eqv (.slice none 0 0)]),(4,cell b4 [sl 1 rE_ s.aC,osl 40 v]),(40,own v 79 2 sE acc)] _
 have hal:acc.length=k:=by rw[hI0];simp
 refine sq (rg (bi J J b_lss (nl (th (sq ?_)))))
 refine cd J (fun hc0=> ?_) (fun hc0=> ?_)
 ·try simp at hc0
  have hst:=h.st k O;have hsl:=hst.len;have hacl:=hst.acl
  refine sk (th (sq (bk (sq (rg (mv (iF J J T.sl26 O gB (lFA J T.agg79 (Nat.le_of_ble_eq_true J) (al (key:=6) T.z79 (eC (eC eZ)) fun b6=>(ag (sPA (cs':= [sl 1 nE (ix s.sT k).aP,sl 1 nE (ix s.sT k).next]) J J J T.agg79 J J (nl (th (sq (rg (bd (css:= []) T.st79 (eC (eC eZ)) trivial (al (key:=7) T.z79 (eC (eC eZ)) fun b7=>(sPA (cs':= [eqv (.slice none 0 0),eqv (.slice none 0 0)]) J J J T.agg79 J J (ag (nl (th (sq (sq (rg (fP J T.fld79_0 (lP J J J T.one66 (fc (slenI 29 J) fun hm29=>(lnF J T.sl66 (mv (nl (th (bk ?_))))))))))))))))))))))))))))))))
  refine nwC 70 3 1 nE (kncC 7 0 (osl 70 (.slice none 0 0)) rfl rfl eq_osl ?_)
  have hI1_0:0≤(ix s.sT k).aP.length:=by
   first|omega|simp
  have hI1_1:([]:List Int)=((ix s.sT k).aP.take 0).filter (fun t=> !ix (hOl s) k&& !falls (ix s.sT k) t (hOl s))∧(0:Int)=orAll ([]:List Int)∧0≤(0:Int)∧(0:Int)<256∧([]:List Int).length≤0:=by
   refine⟨by simp,rfl,O,O,by simp⟩
  refine lp (κ:=Nat × Value × (List Int) × Int) (fun p=> [(2,ptr 2 b2 0),(3,sl 1 blE (hOl s)),(4,ptr 4 b4 0),(5,int (k:Int)),(6,ptr 6 b6 0),(7,ptr 7 b7 0),(8,int p.2.2.2),(20,sl 2 sE s.sT),(21,int (s.sT.length:Int)),(22,int (k:Int)),(29,sl 1 nE (ix s.sT k).aP),(30,int ((ix s.sT k).aP.length:Int)),(31,int (p.1:Int))]) (fun p=> [(1,cell b1 [sl 1 rE_ s.aC,sl 2 sE s.sT]),(2,cell b2 [eqv (.slice none 0 0),eqv (.slice none 0 0)]),(4,cell b4 [sl 1 rE_ s.aC,osl 40 v]),(6,cell b6 [sl 1 nE (ix s.sT k).aP,sl 1 nE (ix s.sT k).next]),(7,cell b7 [osl 70 p.2.1,eqv (.slice none 0 0)]),(40,own v 79 2 sE acc),(70,own p.2.1 3 1 nE p.2.2.1)]) (fun p=>(p.1≤(ix s.sT k).aP.length)∧(p.2.2.1=((ix s.sT k).aP.take p.1).filter (fun t=> !ix (hOl s) k&& !falls (ix s.sT k) t (hOl s))∧p.2.2.2=orAll p.2.2.1∧0≤p.2.2.2∧p.2.2.2<256∧p.2.2.1.length≤p.1)) (fun p=>(ix s.sT k).aP.length- p.1) ⟨0,(.slice none 0 0),([]:List Int),(0:Int)⟩ ⟨hI1_0,hI1_1⟩ ⟨id,id,id,id,id,id,id,id,id,id,id,id,id,tV⟩ ⟨rI,rI,rI,rI,rI,rI,rI,tV⟩ ?_
  intro⟨k1,v1x,l1,u⟩ hG1
  obtain⟨hk1,hI1⟩:(k1≤(ix s.sT k).aP.length)∧(l1=((ix s.sT k).aP.take k1).filter (fun t=> !ix (hOl s) k&& !falls (ix s.sT k) t (hOl s))∧u=orAll l1∧0≤u∧u<256∧l1.length≤k1):=hG1
  show Ct _ _ _ _ [(2,ptr 2 b2 0),(3,sl 1 blE (hOl s)),(4,ptr 4 b4 0),(5,int (k:Int)),(6,ptr 6 b6 0),(7,ptr 7 b7 0),(8,int u),(20,sl 2 sE s.sT),(21,int (s.sT.length:Int)),(22,int (k:Int)),(29,sl 1 nE (ix s.sT k).aP),(30,int ((ix s.sT k).aP.length:Int)),(31,int (k1:Int))] [(1,cell b1 [sl 1 rE_ s.aC,sl 2 sE s.sT]),(2,cell b2 [eqv (.slice none 0 0),eqv (.slice none 0 0)]),(4,cell b4 [sl 1 rE_ s.aC,osl 40 v]),(6,cell b6 [sl 1 nE (ix s.sT k).aP,sl 1 nE (ix s.sT k).next]),(7,cell b7 [osl 70 v1x,eqv (.slice none 0 0)]),(40,own v 79 2 sE acc),(70,own v1x 3 1 nE l1)] _
  refine sq (rg (bi J J b_lss (nl (th (sq ?_)))))
  refine cd J (fun hc1=> ?_) (fun hc1=> ?_)
  ·try simp at hc1
   have hac:=hst.ac k1 O
   refine sk (th (sq (bk (sq (rg (iF J J T.sl66 O gB (lF J J T.one3 (ag (nl (th (sq (rg (mv (mv (iF J J T.sl90 O gB (lF J J T.one4 (no J (mv ?_))))))))))))))))))
   apply gAnd (t:=40) (pd:=46) rfl
   rotate_left
   ·intro hg0 fin
    have hg0':=hg0
    try simp at hg0'
    exact gy J J J hg0 (lPA J J T.agg79 J (gy J J J hg0 (mv (gy J J J hg0 (mv (gy J J J hg0 (cal0 (φs:= [agg [sl 1 nE (ix s.sT k).aP,sl 1 nE (ix s.sT k).next],int (ix (ix s.sT k).aP k1),sl 1 blE (hOl s)]) (φ:=bl (falls (ix s.sT k) (ix (ix s.sT k).aP k1) (hOl s))) ⟨J,J,J,tV⟩ (ref04.falls_ok (ix s.sT k) _ _ O O O (fun a ha=>by rw[hollow_len];exact(hst.nx a O).2)) T.ent143 (gy J J J hg0 (no J (pkT J hg0 J (drp (X:= [(45,_),(44,_),(43,_),(42,_),(41,_)]) ⟨J,J,J,J,J,tV⟩ fin)))))))))))
   ·intro hg0 fin
    exact gn J J J hg0 J J (gn J J J hg0 J J (gn J J J hg0 J J (gn J J J hg0 J J (gn J J J hg0 J J (pkF J hg0 J (drp (X:= [(45,_),(44,_),(43,_),(42,_),(41,_)]) ⟨J,J,J,J,J,tV⟩ fin))))))
   refine nl (th ?_)
   refine cd J (fun hc2=> ?_) (fun hc2=> ?_)
   ·try simp at hc2
    refine sq (rg (fP J T.fld79_0 (lP J J J T.one66 (mv (bsE (enc:=nE) (xs:= [(ix (ix s.sT k).aP k1)]) (css:= [[int (ix (ix s.sT k).aP k1)]]) T.mk66 ⟨J,J,p1 (φ:=int (ix (ix s.sT k).aP k1)) J,tV⟩ J J J J (ap (key:=70) (zs:= [(ix (ix s.sT k).aP k1)]) osl_eq J J J T.mk66 (by unfold maxL at*;simp;omega) (by unfold maxL at*;simp;omega) fun v51=>(fP J T.fld79_0 (storePO J J J J T.one66 J (nl (th (rg (mv (mv (bi J J (b_orI O O O O) (ag (nl (eb (th (rg (bi J J (b_add i6) (mv (nl ?_))))))))))))))))))))))
    have hN0:(k1+1)≤(ix s.sT k).aP.length:=by
     first|omega|simp_all
    have hN1:(l1++ [(ix (ix s.sT k).aP k1)])=((ix s.sT k).aP.take (k1+1)).filter (fun t=> !ix (hOl s) k&& !falls (ix s.sT k) t (hOl s))∧((u.toNat|||(ix (ix s.sT k).aP k1).toNat:Nat):Int)=orAll (l1++ [(ix (ix s.sT k).aP k1)])∧0≤((u.toNat|||(ix (ix s.sT k).aP k1).toNat:Nat):Int)∧((u.toNat|||(ix (ix s.sT k).aP k1).toNat:Nat):Int)<256∧(l1++ [(ix (ix s.sT k).aP k1)]).length≤(k1+1):=by
     refine⟨?_,?_,O,or_lt256 hI1.2.2.2.1 hac.2,by simp;omega⟩
     ·rw[filter_take_succ O,hI1.1];simp[hc2]
     ·rw[orAll_snoc,hI1.2.1]
    exact ln (⟨k1+1,v51,l1++ [(ix (ix s.sT k).aP k1)],((u.toNat|||(ix (ix s.sT k).aP k1).toNat:Nat):Int)⟩:Nat × Value × (List Int) × Int) ⟨hN0,hN1⟩ dO ⟨id,id,id,id,id,id,id,id,id,id,id,id,id,tV⟩ ⟨rI,rI,rI,rI,rI,rI,rI,tV⟩
   ·try simp at hc2
    refine sk (eb (th (rg (bi J J (b_add i6) (mv (nl ?_))))))
    have hN0:(k1+1)≤(ix s.sT k).aP.length:=by
     first|omega|simp_all
    have hN1:l1=((ix s.sT k).aP.take (k1+1)).filter (fun t=> !ix (hOl s) k&& !falls (ix s.sT k) t (hOl s))∧u=orAll l1∧0≤u∧u<256∧l1.length≤(k1+1):=by
     refine⟨?_,hI1.2.1,hI1.2.2.1,hI1.2.2.2.1,O⟩
     rw[filter_take_succ O,hI1.1]
     by_cases hq:ix (hOl s) k=true<;>simp_all
    exact ln (⟨k1+1,v1x,l1,u⟩:Nat × Value × (List Int) × Int) ⟨hN0,hN1⟩ dO ⟨id,id,id,id,id,id,id,id,id,id,id,id,id,tV⟩ ⟨rI,rI,rI,rI,rI,rI,rI,tV⟩
  ·try simp at hc1
   refine ex (xt_ (xt_ (xb (th (sq (sq (rg (fP J T.fld79_1 (lP J J J T.one66 (fc (slenI 58 J) fun hm58=>(lnF J T.sl66 (mv (nl (th (bk ?_)))))))))))))))
   refine fzcC 7 70 0 rfl rfl rfl rfl (nwC 71 3 1 nE (kncC 7 1 (osl 71 (.slice none 0 0)) rfl rfl eq_osl ?_))
   have hI2_0:0≤(ix s.sT k).next.length:=by
    first|omega|simp
   have hI2_1:([]:List Int)=(List.range 0).map (fun(a:Nat)=>if has u (a:Int) then ix (ix s.sT k).next a else-1):=by
    rfl
   refine lp (κ:=Nat × Value × (List Int)) (fun p=> [(2,ptr 2 b2 0),(3,sl 1 blE (hOl s)),(4,ptr 4 b4 0),(7,ptr 7 b7 0),(8,int u),(20,sl 2 sE s.sT),(21,int (s.sT.length:Int)),(22,int (k:Int)),(58,sl 1 nE (ix s.sT k).next),(59,int ((ix s.sT k).next.length:Int)),(60,int (p.1:Int))]) (fun p=> [(1,cell b1 [sl 1 rE_ s.aC,sl 2 sE s.sT]),(2,cell b2 [eqv (.slice none 0 0),eqv (.slice none 0 0)]),(4,cell b4 [sl 1 rE_ s.aC,osl 40 v]),(6,cell b6 [sl 1 nE (ix s.sT k).aP,sl 1 nE (ix s.sT k).next]),(7,cell b7 [sl 1 nE l1,osl 71 p.2.1]),(40,own v 79 2 sE acc),(71,own p.2.1 3 1 nE p.2.2)]) (fun p=>(p.1≤(ix s.sT k).next.length)∧(p.2.2=(List.range p.1).map (fun(a:Nat)=>if has u (a:Int) then ix (ix s.sT k).next a else-1))) (fun p=>(ix s.sT k).next.length- p.1) ⟨0,(.slice none 0 0),([]:List Int)⟩ ⟨hI2_0,hI2_1⟩ ⟨id,id,id,id,id,id,id,id,id,id,id,tV⟩ ⟨rI,rI,rI,rI,rI,rI,rI,tV⟩ ?_
   intro⟨k2,v2x,l2⟩ hG2
   obtain⟨hk2,hI2⟩:(k2≤(ix s.sT k).next.length)∧(l2=(List.range k2).map (fun(a:Nat)=>if has u (a:Int) then ix (ix s.sT k).next a else-1)):=hG2
   show Ct _ _ _ _ [(2,ptr 2 b2 0),(3,sl 1 blE (hOl s)),(4,ptr 4 b4 0),(7,ptr 7 b7 0),(8,int u),(20,sl 2 sE s.sT),(21,int (s.sT.length:Int)),(22,int (k:Int)),(58,sl 1 nE (ix s.sT k).next),(59,int ((ix s.sT k).next.length:Int)),(60,int (k2:Int))] [(1,cell b1 [sl 1 rE_ s.aC,sl 2 sE s.sT]),(2,cell b2 [eqv (.slice none 0 0),eqv (.slice none 0 0)]),(4,cell b4 [sl 1 rE_ s.aC,osl 40 v]),(6,cell b6 [sl 1 nE (ix s.sT k).aP,sl 1 nE (ix s.sT k).next]),(7,cell b7 [sl 1 nE l1,osl 71 v2x]),(40,own v 79 2 sE acc),(71,own v2x 3 1 nE l2)] _
   have hl2:l2.length=k2:=by rw[hI2];simp
   refine sq (rg (bi J J b_lss (nl (th (sq ?_)))))
   refine cd J (fun hc3=> ?_) (fun hc3=> ?_)
   ·try simp at hc3
    refine sk (th (sq (bk (sq (rg (mv (iF J J T.sl66 O gB (lF J J T.one3 (ag (ag (nl (th (sq (sq (rg (mv (mv (cal0 (φs:= [int u,int (k2:Int)]) (φ:=bl (has u (k2:Int))) ⟨J,J,tV⟩ (ref01.Has_ok _ _ O O O O) T.ent51 (no J (nl (th ?_)))))))))))))))))))))
    refine cd J (fun hc4=> ?_) (fun hc4=> ?_)
    ·try simp at hc4
     refine rg (ag (nl (th (rg (fP J T.fld79_1 (lP J J J T.one66 (mv (bsE (enc:=nE) (xs:= [(-1)]) (css:= [[int (-1)]]) T.mk66 ⟨J,J,p1 (φ:=int (-1)) J,tV⟩ J J J J (ap (key:=71) (zs:= [(-1)]) osl_eq J J J T.mk66 (by unfold maxL at*;simp;omega) (by unfold maxL at*;simp;omega) fun v73=>(fP J T.fld79_1 (storePO J J J J T.one66 J (nl (eb (th (rg (bi J J (b_add i6) (mv (nl ?_))))))))))))))))))
     have hN0:(k2+1)≤(ix s.sT k).next.length:=by
      first|omega|simp_all
     have hN1:(l2++ [(-1)])=(List.range (k2+1)).map (fun(a:Nat)=>if has u (a:Int) then ix (ix s.sT k).next a else-1):=by
      rw[map_range_succ,hI2];simp[hc4]
     exact ln (⟨k2+1,v73,l2++ [(-1)]⟩:Nat × Value × (List Int)) ⟨hN0,hN1⟩ dO ⟨id,id,id,id,id,id,id,id,id,id,id,tV⟩ ⟨rI,rI,rI,rI,rI,rI,rI,tV⟩
    ·try simp at hc4
     refine sk (th (rg (fP J T.fld79_1 (lP J J J T.one66 (mv (bsE (enc:=nE) (xs:= [(ix (ix s.sT k).next k2)]) (css:= [[int (ix (ix s.sT k).next k2)]]) T.mk66 ⟨J,J,p1 (φ:=int (ix (ix s.sT k).next k2)) J,tV⟩ J J J J (ap (key:=71) (zs:= [(ix (ix s.sT k).next k2)]) osl_eq J J J T.mk66 (by unfold maxL at*;simp;omega) (by unfold maxL at*;simp;omega) fun v73=>(fP J T.fld79_1 (storePO J J J J T.one66 J (nl (eb (th (rg (bi J J (b_add i6) (mv (nl ?_))))))))))))))))
     have hN0:(k2+1)≤(ix s.sT k).next.length:=by
      first|omega|simp_all
     have hN1:(l2++ [(ix (ix s.sT k).next k2)])=(List.range (k2+1)).map (fun(a:Nat)=>if has u (a:Int) then ix (ix s.sT k).next a else-1):=by
      rw[map_range_succ,hI2];simp[hc4]
     exact ln (⟨k2+1,v73,l2++ [(ix (ix s.sT k).next k2)]⟩:Nat × Value × (List Int)) ⟨hN0,hN1⟩ dO ⟨id,id,id,id,id,id,id,id,id,id,id,tV⟩ ⟨rI,rI,rI,rI,rI,rI,rI,tV⟩
   ·try simp at hc3
    refine ex (xt_ (xt_ (xb (th (rg (fP J T.fld28_1 (lP J J J T.one26 (fzc 7 71 1 J J J J (lPA J J T.agg79 J (bsE (enc:=sE) (xs:= [(⟨l1,l2⟩)]) (css:= [[sl 1 nE l1,sl 1 nE l2]]) T.mk26 ⟨J,J,pA (cs:= [sl 1 nE l1,sl 1 nE l2]) J,tV⟩ J J J J (ap (key:=40) (zs:= [(⟨l1,l2⟩)]) osl_eq J J J T.mk26 (by unfold maxL at*;simp;omega) (by unfold maxL at*;simp;omega) fun v80=>(fP J T.fld28_1 (storePO J J J J T.one26 J (nl (eb (th (rg (bi J J (b_add i6) (mv (nl ?_))))))))))))))))))))
    have hN0:(k+1)≤s.sT.length:=by
     first|omega|simp_all
    have hN1:(acc++ [(⟨l1,l2⟩)])=(List.range (k+1)).map (solidState s):=by
     rw[map_range_succ,hI0]
     congr 2
     have e1:l1=keep s k:=by rw[hI1.1,show k1=(ix s.sT k).aP.length by omega,List.take_length];rfl
     have e2:l2=cut (ix s.sT k) u:=by rw[hI2,show k2=(ix s.sT k).next.length by omega];rfl
     rw[e2,hI1.2.1,e1];rfl
    exact ln (⟨k+1,v80,acc++ [(⟨l1,l2⟩)]⟩:Nat × Value × (List SA)) ⟨hN0,hN1⟩ dO ⟨id,id,id,id,id,id,tV⟩ ⟨rI,rI,rI,rI,tV⟩
 ·try simp at hc0
  refine ex (xt_ (xt_ (xb (th (sq (rg (fzc 4 40 1 J J J J (lPA J J T.agg28 J (sPA (cs':= [sl 1 rE_ s.aC,sl 2 sE acc]) J J J T.agg28 J J (nl (th (rt ?_))))))))))))
  have hr0:s.aC=(solid s).aC:=by
   rfl
  have hr1:acc=(solid s).sT:=by
   unfold solid;rw[hI0,show k=s.sT.length by omega]
  exact rE () [.cell 2 28] J [agg [sl 1 rE_ s.aC,sl 2 sE acc]] ⟨.agg J J T.agg28 J J,tV⟩ (cA2 (fun x0 x1=>rV [agg [sl 1 rE_ x0,sl 2 sE x1]]) hr0 hr1) trivial eX
theorem Order_ok (s:SS) (h1:1≤s.sT.length) (h2:s.sT.length≤10000) (hn:∀k,k<s.sT.length→(ix s.sT k).next.length≤8∧∀a,a<(ix s.sT k).next.length→ix (ix s.sT k).next a<(s.sT.length:Int)):
 Fn0 Tryz.prog 127 [spec s] (ints (order s)):=by
 refine fnI Tryz.func127 rfl rfl (fun w0 F0=> ?_)
 refine fcC (inhS 0 J) (fun hS0=> ?_)
 obtain⟨hsa0,hss0,hse0⟩:=sLn hS0
 refine sq (rg (bx (key:=1) (cs:= [sl 1 rE_ s.aC,sl 2 sE s.sT]) J fun b1=>(ag (nl (th (sq (rg (fP J T.fld28_1 (lP J J J T.one26 (fc (slenI 9 J) fun hm9=>(lnF J T.sl26 (mk (key:=11) (m:=s.sT.length) (enc:=blE) (y:=false) J J T.mk90 (eC eZ) mL mL fun v11=>(ag (nl (th (sq (rg (mv (iO J J J T.sl90 O (by simp;omega) (sO (φ:=bl true) J J J T.one4 (gK (k:=0) (by simp;omega)) J (y':=true) J (nl (th (sq (rg (bsO 14 (enc:=nE) (xs:= [0]) (css:= [[int 0]]) T.mk66 ⟨J,J,p1 (φ:=int 0) J,tV⟩ J J J J fun v14=>(ag (nl (th (sq (sq (rg (ag (nl (th (bk ?_)))))))))))))))))))))))))))))))))))
 have hI0_0:([0]:List Int)=bq s 0∧((List.replicate s.sT.length false).set 0 true)=marks s.sT.length ([0]:List Int)∧okQ s.sT.length ([0]:List Int)∧0≤([0]:List Int).length:=by
  exact⟨rfl,marks_zero _,okQ_zero h1,by simp⟩
 refine lp (κ:=Nat × Value × (List Int) × (List Bool)) (fun p=> [(1,ptr 1 b1 0),(2,eqv (.slice none 0 0)),(3,osl 11 v11),(4,osl 14 p.2.1),(5,int (p.1:Int))]) (fun p=> [(1,cell b1 [sl 1 rE_ s.aC,sl 2 sE s.sT]),(11,own v11 4 1 blE p.2.2.2),(14,own p.2.1 3 1 nE p.2.2.1)]) (fun p=>p.2.2.1=bq s p.1∧p.2.2.2=marks s.sT.length p.2.2.1∧okQ s.sT.length p.2.2.1∧p.1≤p.2.2.1.length) (fun p=>s.sT.length+1- p.1) ⟨0,v14,([0]:List Int),(List.replicate s.sT.length false).set 0 true⟩ hI0_0 ⟨id,id,id,id,id,tV⟩ ⟨rI,rI,rI,tV⟩ ?_
 intro⟨i,v,l,fl⟩ hG0
 have hI0:l=bq s i∧fl=marks s.sT.length l∧okQ s.sT.length l∧i≤l.length:=hG0
 show Ct _ _ _ _ [(1,ptr 1 b1 0),(2,eqv (.slice none 0 0)),(3,osl 11 v11),(4,osl 14 v),(5,int (i:Int))] [(1,cell b1 [sl 1 rE_ s.aC,sl 2 sE s.sT]),(11,own v11 4 1 blE fl),(14,own v 3 1 nE l)] _
 refine sq (sq (rg (mv (mv (lnO J J T.sl66 (bi J J b_lss (nl (th ?_))))))))
 refine cd J (fun hc0=> ?_) (fun hc0=> ?_)
 ·try simp at hc0
  have hq:=hI0.2.2.1.1 i O
  have hnx:=hn (ix l i).toNat O
  have hle:=hI0.2.2.1.le
  refine sk (th (sq (bk (sq (dr (nh:=11) [0,1,0,0,12,28,63,127,255,511,0] T.mixed kR ?_)))))
  refine st_ J (fun _ _ _ gq kq=>fP (gq.1.trans J) T.fld28_1 kq) ?_
  refine st_ J (fun _ _ _ gq kq=>lP (gq.1.trans J) J J T.one26 kq) ?_
  refine st_ J (fun _ _ _ gq kq=>mv' (gq.1.trans J) kq) ?_
  refine st_ J (fun _ _ _ gq kq=>mv' (gq.1.trans J) kq) ?_
  refine st_ J (fun _ _ _ gq kq=>iO (gq.1.trans J) J (gq.2.1.trans J) T.sl66 O O kq) ?_
  refine st_ J (fun _ _ _ gq kq=>lO (gq.1.trans J) J gB J T.one3 kq) ?_
  refine st_ J (fun _ _ _ gq kq=>iF (gq.1.trans J) (gq.2.1.trans J) T.sl26 O gB kq) ?_
  refine st_ J (fun _ _ _ gq kq=>fF (gq.1.trans J) T.fld79_1 kq) ?_
  refine st_ J (fun _ _ _ gq kq=>lF (gq.1.trans J) J T.one66 kq) ?_
  refine st_ J (fun _ _ _ gq kq=>lnF (gq.1.trans J) T.sl66 kq) ?_
  refine st_ J (fun _ _ _ gq kq=>mv kq) ?_
  refine pn (nl (th (bk ?_)))
  have hI1_0:0≤(ix s.sT (ix l i).toNat).next.length:=by
   first|omega|simp
  have hI1_1:l=visit l ((ix s.sT (ix l i).toNat).next.take 0)∧fl=marks s.sT.length l∧okQ s.sT.length l∧l.length≤l.length:=by
   exact⟨by simp[visit],hI0.2.1,hI0.2.2.1,Nat.le_refl _⟩
  refine lp (κ:=Nat × Value × (List Int) × (List Bool)) (fun p=> [(1,ptr 1 b1 0),(2,eqv (.slice none 0 0)),(3,osl 11 v11),(4,osl 14 p.2.1),(5,int (i:Int)),(29,sl 1 nE (ix s.sT (ix l i).toNat).next),(30,int ((ix s.sT (ix l i).toNat).next.length:Int)),(31,int (p.1:Int))]) (fun p=> [(1,cell b1 [sl 1 rE_ s.aC,sl 2 sE s.sT]),(11,own v11 4 1 blE p.2.2.2),(14,own p.2.1 3 1 nE p.2.2.1)]) (fun p=>(p.1≤(ix s.sT (ix l i).toNat).next.length)∧(p.2.2.1=visit l ((ix s.sT (ix l i).toNat).next.take p.1)∧p.2.2.2=marks s.sT.length p.2.2.1∧okQ s.sT.length p.2.2.1∧l.length≤p.2.2.1.length)) (fun p=>(ix s.sT (ix l i).toNat).next.length- p.1) ⟨0,v,l,fl⟩ ⟨hI1_0,hI1_1⟩ ⟨id,id,id,id,id,id,id,id,tV⟩ ⟨rI,rI,rI,tV⟩ ?_
  intro⟨k1,v1x,l1,f1⟩ hG1
  obtain⟨hk1,hI1⟩:(k1≤(ix s.sT (ix l i).toNat).next.length)∧(l1=visit l ((ix s.sT (ix l i).toNat).next.take k1)∧f1=marks s.sT.length l1∧okQ s.sT.length l1∧l.length≤l1.length):=hG1
  show Ct _ _ _ _ [(1,ptr 1 b1 0),(2,eqv (.slice none 0 0)),(3,osl 11 v11),(4,osl 14 v1x),(5,int (i:Int)),(29,sl 1 nE (ix s.sT (ix l i).toNat).next),(30,int ((ix s.sT (ix l i).toNat).next.length:Int)),(31,int (k1:Int))] [(1,cell b1 [sl 1 rE_ s.aC,sl 2 sE s.sT]),(11,own v11 4 1 blE f1),(14,own v1x 3 1 nE l1)] _
  refine sq (rg (bi J J b_lss (nl (th (sq ?_)))))
  refine cd J (fun hc1=> ?_) (fun hc1=> ?_)
  ·try simp at hc1
   have hnk:=hnx.2 k1 O
   have hfl:f1.length=s.sT.length:=by rw[hI1.2.1,marks_len]
   have hl1:=hI1.2.2.1.le
   refine sk (th (sq (bk (sq (rg (iF J J T.sl66 O gB (lF J J T.one3 (ag (nl (th (sq (rg (mv (bi J J b_geq (mv ?_)))))))))))))))
   apply gAnd (t:=37) (pd:=43) rfl
   rotate_left
   ·intro hg0 fin
    have hg0':=hg0
    try simp at hg0'
    exact gy J J J hg0 (mv (gy J J J hg0 (mv (gy J J J hg0 (iO J J J T.sl90 O O (gy J J J hg0 (lO J J gB J T.one4 (gy J J J hg0 (no J (pkT J hg0 J (drp (X:= [(42,_),(41,_),(40,_),(39,_),(38,_)]) ⟨J,J,J,J,J,tV⟩ fin)))))))))))
   ·intro hg0 fin
    exact gn J J J hg0 J J (gn J J J hg0 J J (gn J J J hg0 J J (gn J J J hg0 J J (gn J J J hg0 J J (pkF J hg0 J (drp (X:= [(42,_),(41,_),(40,_),(39,_),(38,_)]) ⟨J,J,J,J,J,tV⟩ fin))))))
   refine nl (th ?_)
   refine cd J (fun hc2=> ?_) (fun hc2=> ?_)
   ·try simp at hc2
    refine sq (rg (mv (mv (iO J J J T.sl90 O O (sO (φ:=bl true) J J J T.one4 gB J (y':=true) J (nl (th (rg (mv (mv (bsE (enc:=nE) (xs:= [(ix (ix s.sT (ix l i).toNat).next k1)]) (css:= [[int (ix (ix s.sT (ix l i).toNat).next k1)]]) T.mk66 ⟨J,J,p1 (φ:=int (ix (ix s.sT (ix l i).toNat).next k1)) J,tV⟩ J J J J (ap (key:=14) (zs:= [(ix (ix s.sT (ix l i).toNat).next k1)]) osl_eq J J J T.mk66 (by unfold maxL at*;simp;omega) (by unfold maxL at*;simp;omega) fun v50=>(ag (nl (eb (th (rg (bi J J (b_add i6) (mv (nl ?_))))))))))))))))))))
    have hN0:(k1+1)≤(ix s.sT (ix l i).toNat).next.length:=by
     first|omega|simp_all
    have hN1:(l1++ [(ix (ix s.sT (ix l i).toNat).next k1)])=visit l ((ix s.sT (ix l i).toNat).next.take (k1+1))∧(f1.set (ix (ix s.sT (ix l i).toNat).next k1).toNat true)=marks s.sT.length (l1++ [(ix (ix s.sT (ix l i).toNat).next k1)])∧okQ s.sT.length (l1++ [(ix (ix s.sT (ix l i).toNat).next k1)])∧l.length≤(l1++ [(ix (ix s.sT (ix l i).toNat).next k1)]).length:=by
     have hcc:l1.contains (ix (ix s.sT (ix l i).toNat).next k1)=false:=by
      have h3:=hc2.2
      rw[hI1.2.1,marks_ix O,Int.toNat_of_nonneg hc2.1] at h3
      exact h3
     refine⟨?_,?_,okQ_snoc hI1.2.2.1 hc2.1 hnk hcc,by simp;omega⟩
     ·rw[take_s O,visit_snoc,←hI1.1,hcc];simp[hc2.1]
     ·rw[hI1.2.1,marks_set hc2.1]
    exact ln (⟨k1+1,v50,l1++ [(ix (ix s.sT (ix l i).toNat).next k1)],f1.set (ix (ix s.sT (ix l i).toNat).next k1).toNat true⟩:Nat × Value × (List Int) × (List Bool)) ⟨hN0,hN1⟩ dO ⟨id,id,id,id,id,id,id,id,tV⟩ ⟨rI,rI,rI,tV⟩
   ·try simp at hc2
    refine sk (eb (th (rg (bi J J (b_add i6) (mv (nl ?_))))))
    have hN0:(k1+1)≤(ix s.sT (ix l i).toNat).next.length:=by
     first|omega|simp_all
    have hN1:l1=visit l ((ix s.sT (ix l i).toNat).next.take (k1+1))∧f1=marks s.sT.length l1∧okQ s.sT.length l1∧l.length≤l1.length:=by
     refine⟨?_,hI1.2.1,hI1.2.2.1,hI1.2.2.2⟩
     rw[take_s O,visit_snoc,←hI1.1]
     by_cases h0:0≤ix (ix s.sT (ix l i).toNat).next k1
     ·have h3:=hc2 h0
      rw[hI1.2.1,marks_ix O,Int.toNat_of_nonneg h0] at h3
      rw[h3];simp
     ·simp[h0]
    exact ln (⟨k1+1,v1x,l1,f1⟩:Nat × Value × (List Int) × (List Bool)) ⟨hN0,hN1⟩ dO ⟨id,id,id,id,id,id,id,id,tV⟩ ⟨rI,rI,rI,tV⟩
  ·try simp at hc1
   refine ex (xt_ (xt_ (xb (eb (th (rg (mv (bi J J (b_add i6) (ag (nl ?_))))))))))
   have hN0:l1=bq s (i+1)∧f1=marks s.sT.length l1∧okQ s.sT.length l1∧(i+1)≤l1.length:=by
    refine⟨?_,hI1.2.1,hI1.2.2.1,O⟩
    have e:l1=visit l (ix s.sT (ix l i).toNat).next:=by rw[hI1.1,show k1=(ix s.sT (ix l i).toNat).next.length by omega,List.take_length]
    show l1=if i<(bq s i).length then _ else _
    rw[←hI0.1,if_pos O,e]
   exact ln (⟨i+1,v1x,l1,f1⟩:Nat × Value × (List Int) × (List Bool)) hN0 dO ⟨id,id,id,id,id,tV⟩ ⟨rI,rI,rI,tV⟩
 ·try simp at hc0
  refine ex (xt_ (xt_ (xb (th (sq (rg (mv (ag (nl (th (rt ?_)))))))))))
  refine fzA 14 2 rfl rfl ?_
  have hr0:l=(order s):=by
   have hle:=hI0.2.2.1.le
   have hst:=bq_stable (s:=s) (i:=i) (by rw[←hI0.1];omega) (s.sT.length- i)
   unfold order
   rw[show i+(s.sT.length- i)=s.sT.length by omega] at hst
   rw[hst,←hI0.1]
  exact rE () [.tmp 2] J [sl 1 nE l] ⟨.tmp J,tV⟩ (cA1 (fun x0=>rV [sl 1 nE x0]) hr0) trivial eX
end ref04
end
section
namespace Part
def numBy (rel:Nat→Nat→Bool):Nat→List Int × List Int
 |0=>([],[])
 |k+1=>match(numBy rel k).2.findIdx? (fun y=>rel k y.toNat) with
  |some j=>((numBy rel k).1++ [(j:Int)],(numBy rel k).2)
  |none=>((numBy rel k).1++ [((numBy rel k).2.length:Int)],(numBy rel k).2++ [(k:Int)])
structure EqOn (n:Nat) (rel:Nat→Nat→Bool):Prop where
 refl:∀x,x<n→rel x x=true
 symm:∀x y,x<n→y<n→rel x y=true→rel y x=true
 trans:∀x y z,x<n→y<n→z<n→rel x y=true→rel y z=true→rel x z=true
structure NumOK (rel:Nat→Nat→Bool) (k:Nat) (nx fs:List Int):Prop where
 len:nx.length=k
 fs0:∀j,j<fs.length→0≤ix fs j∧ix fs j<(k:Int)
 at_:∀j,j<fs.length→ix nx (ix fs j).toNat=(j:Int)
 cls:∀x,x<k→0≤ix nx x∧ix nx x<(fs.length:Int)∧rel x (ix fs (ix nx x).toNat).toNat=true
 dis:∀i j,i<fs.length→j<fs.length→rel (ix fs i).toNat (ix fs j).toNat=true→i=j
end Part
end
section
open ref01 ref03 ref04 Part
def stepBad (class_:List Int) (k j:Int):Bool:=(decide (k<0) !=decide (j<0))||(decide (0≤k)&&decide (ix class_ k.toNat≠ix class_ j.toNat))
def alikeNext (class_:List Int) (a b:List Int):Bool:=(List.range a.length).all fun i=> !stepBad class_ (ix a i) (ix b i)
def alike (s:SS) (class_:List Int) (x y:Nat):Bool:=decide (ix class_ x=ix class_ y)&&decide ((ix s.sT x).aP=(ix s.sT y).aP)&&alikeNext class_ (ix s.sT x).next (ix s.sT y).next
theorem ix_map_range {α:Type} [Inhabited α] {f:Nat→α} {n x:Nat} (h:x<n):ix ((List.range n).map f) x=f x:=by
 rw[ix_get (by simpa using h)];simp
theorem solid_at {s:SS} {x:Nat} (h:x<s.sT.length):ix (solid s).sT x=solidState s x:=ix_map_range h
theorem solid_len (s:SS):(solid s).sT.length=s.sT.length:=by simp[solid]
theorem cut_len (x:SA) (u:Int):(cut x u).length=x.next.length:=by simp[cut]
theorem cut_ix {x:SA} {u:Int} {a:Nat} (h:a<x.next.length):ix (cut x u) a=if has u (a:Int) then ix x.next a else-1:=ix_map_range h
theorem solid_next {s:SS} (h:oK s) {x:Nat} (hx:x<s.sT.length):(ix (solid s).sT x).next.length=s.aC.length:=by
 rw[solid_at hx]
 show(cut _ _).length=_
 rw[cut_len];exact(h.st x hx).len
theorem solid_bd {s:SS} (h:oK s) {x:Nat} (hx:x<s.sT.length) {a:Nat} (ha:a<(ix (solid s).sT x).next.length):ix (ix (solid s).sT x).next a<(s.sT.length:Int):=by
 rw[solid_next h hx] at ha
 rw[solid_at hx]
 show ix (cut _ _) a<_
 rw[cut_ix (by rw[(h.st x hx).len];exact ha)]
 split
 ·exact((h.st x hx).nx a ha).2
 ·omega
noncomputable def itR (s:SS):Nat→List Int × Nat
 |0=>(List.replicate s.sT.length 0,0)
 |i+1=>((numBy (alike (solid s) (itR s i).1) s.sT.length).1,(numBy (alike (solid s) (itR s i).1) s.sT.length).2.length)
theorem okQ_visit {n:Nat}:∀(ks l:List Int),okQ n l→(∀i,i<ks.length→ix ks i<(n:Int))→okQ n (visit l ks)
 | [],l,h,_=>h
 |k::ks,l,h,hk=>by
  have hk0:k<(n:Int):=hk 0 (by simp)
  have ht:∀i,i<ks.length→ix ks i<(n:Int):=fun i hi=>hk (i+1) (by simpa using hi)
  show okQ n (visit (if decide (0≤k)&& !l.contains k then l++ [k] else l) ks)
  refine okQ_visit ks _ ?_ ht
  split
  ·next hc=>
   simp only [Bool.and_eq_true,decide_eq_true_eq,Bool.not_eq_true'] at hc
   exact okQ_snoc h hc.1 hk0 hc.2
  ·exact h
theorem okQ_bq {s:SS} (h1:1≤s.sT.length) (hn:∀k,k<s.sT.length→∀a,a<(ix s.sT k).next.length→ix (ix s.sT k).next a<(s.sT.length:Int)):∀i,okQ s.sT.length (bq s i)
 |0=>okQ_zero h1
 |i+1=>by
  have ih:=okQ_bq h1 hn i
  unfold bq
  split
  ·next hi=>
   have:=ih.1 i hi
   exact okQ_visit _ _ ih (fun a ha=>hn _ O a ha)
  ·exact ih
theorem order_okQ {s:SS} (h:oK s):okQ s.sT.length (order (solid s)):=by
 have:=okQ_bq (s:=solid s) (by rw[solid_len];exact h.few0) (fun k hk a ha=>by rw[solid_len] at hk ⊢;exact solid_bd h hk ha) (solid s).sT.length
 rw[solid_len] at this
 unfold order
 rw[solid_len];exact this
def mapK (tl:List Int) (k:Int):Int:=if 0≤k then ix tl k.toNat else k
theorem map_take_succ {α β:Type} [Inhabited α] {xs:List α} {k:Nat} (h:k<xs.length) (f:α→β):(xs.take (k+1)).map f=(xs.take k).map f++ [f (ix xs k)]:=by rw[take_s h,List.map_append];rfl
namespace ref06
end ref06
end
section
open ref01 ref03 ref04 ref06 Part
theorem indexOf_bd (l:List ByteArray) (s:ByteArray):(0≤indexOf l s↔s∈l):=by
 unfold indexOf
 cases h:l.findIdx? (fun x=>decide (x=s)) with
 |none=>
  rw[List.findIdx?_eq_none_iff] at h
  simp
  intro hm
  have:=h s hm
  simp at this
 |some i=>
  rw[List.findIdx?_eq_some_iff_getElem] at h
  obtain⟨h1,h2,_⟩:=h
  simp at h2
  simp
  rw[←h2];exact List.getElem_mem h1
theorem bsize {s:ByteArray} (h:¬s=⟨#[]⟩):1≤s.size:=by
 rcases Nat.eq_zero_or_pos s.size with h0|h0
 ·exact absurd (by
   cases s with
   |mk d=>simp[ByteArray.size] at h0;simp[h0]) h
 ·exact h0
theorem indexOf_self {l:List ByteArray} {k:Nat} (hk:k<l.length):(indexOf l (ix l k)=(k:Int))↔¬ix l k∈l.take k:=by
 unfold indexOf
 cases h:l.findIdx? (fun x=>decide (x=ix l k)) with
 |none=>
  rw[List.findIdx?_eq_none_iff] at h
  have:=h (ix l k) (by rw[ix_get hk];exact List.getElem_mem hk)
  simp at this
 |some i=>
  rw[List.findIdx?_eq_some_iff_getElem] at h
  obtain⟨h1,h2,h3⟩:=h
  simp at h2
  constructor
  ·intro e hm
   have e:(i:Int)=(k:Int):=e
   have e:i=k:=by omega
   subst e
   obtain⟨j,hj,he⟩:=List.mem_take_iff_getElem.1 hm
   have:=h3 j O
   simp at this
   exact this he
  ·intro hn
   rcases Nat.lt_trichotomy i k with hlt|e|hgt
   ·exact absurd (List.mem_take_iff_getElem.2 ⟨i,O,h2⟩) hn
   ·simp[e]
   ·have:=h3 k hgt
    rw[ix_get hk] at this
    simp at this
namespace T
theorem ent178:Ent Tryz.prog 178:=ent_of kR
theorem ent179:Ent Tryz.prog 179:=ent_of kR
theorem ent145:Ent Tryz.prog 145:=ent_of kR
theorem ent146:Ent Tryz.prog 146:=ent_of kR
end T
namespace prog
theorem aletter_ok (c:Int):
 Fn0 Tryz.prog 178 [u8 c] (bl (isLetter c)):=by
 refine fnI Tryz.func178 rfl rfl (fun w0 F0=> ?_)
 refine sq (rg (ag (nl (th (sq (rg (mv (bi J J b_geq (mv ?_)))))))))
 apply gAnd (t:=5) (pd:=8) rfl
 rotate_left
 ·intro hg0 fin
  have hg0':=hg0
  try simp at hg0'
  exact gy J J J hg0 (mv (gy J J J hg0 (bi J J b_leq (pkT J hg0 J (drp (X:= [(7,_),(6,_)]) ⟨J,J,tV⟩ fin)))))
 ·intro hg0 fin
  exact gn J J J hg0 J J (gn J J J hg0 J J (pkF J hg0 J (drp (X:= [(7,_),(6,_)]) ⟨J,J,tV⟩ fin)))
 refine mv ?_
 apply gOr (t:=9) (pd:=16) rfl
 rotate_left
 ·intro hg1 fin
  have hg1':=hg1
  try simp at hg1'
  refine gy rfl rfl rfl hg1 (mv (gy rfl rfl rfl hg1 (bi rfl rfl b_geq (gy rfl rfl rfl hg1 (mv ?_)))))
  apply gAnd (t:=12) (pd:=15) rfl
  rotate_left
  ·intro hg2 fin
   have hg2':=hg2
   try simp at hg2'
   exact gy J J J hg2 (mv (gy J J J hg2 (bi J J b_leq (gy J J J hg1 (pkT J hg2 J (drp (X:= [(14,_),(13,_)]) ⟨J,J,tV⟩ fin))))))
  ·intro hg2 fin
   exact gn J J J hg2 J J (gn J J J hg2 J J (gy J J J hg1 (pkF J hg2 J (drp (X:= [(14,_),(13,_)]) ⟨J,J,tV⟩ fin))))
  exact pkF rfl hg1 rfl (drp (X:= [(15,_),(12,_),(11,_),(10,_)]) ⟨rfl,rfl,rfl,rfl,tV⟩ fin)
 ·intro hg1 fin
  exact gn J J J hg1 J J (gn J J J hg1 J J (gn J J J hg1 J J (gu J J J J J (gu J J J J J (gn J J J hg1 J J (pkT J hg1 J (drp (X:= [(15,_),(14,_),(13,_),(12,_),(11,_),(10,_)]) ⟨J,J,J,J,J,J,tV⟩ fin)))))))
 refine ag (nl (th (rt ?_)))
 have hr0:(((decide (97≤c))&&(decide (c≤122)))||((decide (65≤c))&&(decide (c≤90))))=(isLetter c):=by
  first|rfl|simp_all|omega
 exact rE () [.tmp 2] J [bl (((decide (97≤c))&&(decide (c≤122)))||((decide (65≤c))&&(decide (c≤90))))] ⟨.tmp J,tV⟩ (cA1 (fun x0=>rV [bl x0]) hr0) trivial eX
theorem aName_ok (s:ByteArray):
 Fn0 Tryz.prog 145 [str s] (bl (isName s)):=by
 refine fnI Tryz.func145 rfl rfl (fun w0 F0=> ?_)
 refine sq (rg (ag (nl (th (sq (sq (rg (mv (bi J J b_eqlS (mv ?_))))))))))
 apply gOr (t:=7) (pd:=11) rfl
 rotate_left
 ·intro hg0 fin
  have hg0':=hg0
  try simp at hg0'
  exact gy J J J hg0 (mv (gy J J J hg0 (lnS J T.str9 (gy J J J hg0 (bi J J b_gtr (pkF J hg0 J (drp (X:= [(10,_),(9,_),(8,_)]) ⟨J,J,J,tV⟩ fin)))))))
 ·intro hg0 fin
  exact gn J J J hg0 J J (gn J J J hg0 J J (gn J J J hg0 J J (pkT J hg0 J (drp (X:= [(10,_),(9,_),(8,_)]) ⟨J,J,J,tV⟩ fin))))
 refine mv ?_
 apply gOr (t:=12) (pd:=17) rfl
 rotate_left
 ·intro hg1 fin
  have hg1':=hg1
  try simp at hg1'
  have hs1:1≤s.size:=bsize (fun e=>by rw[decide_eq_true e] at hg1;cases hg1)
  exact gy J J J hg1 (mv (gy J J J hg1 (idxS J J T.str9 O O (gy J J J hg1 (cal0 (φs:= [u8 (byteAt s 0)]) (φ:=bl (isLetter (byteAt s 0))) ⟨J,tV⟩ (prog.aletter_ok _) T.ent178 (gy J J J hg1 (no J (pkF J hg1 J (drp (X:= [(16,_),(15,_),(14,_),(13,_)]) ⟨J,J,J,J,tV⟩ fin)))))))))
 ·intro hg1 fin
  exact gn J J J hg1 J J (gn J J J hg1 J J (gn J J J hg1 J J (gn J J J hg1 J J (pkT J hg1 J (drp (X:= [(16,_),(15,_),(14,_),(13,_)]) ⟨J,J,J,J,tV⟩ fin)))))
 refine nl (th ?_)
 refine cd J (fun hc0=> ?_) (fun hc0=> ?_)
 ·try simp at hc0
  refine sq (rg (ag (nl (th (rt (rt_ ?_))))))
  have hr0:false=(isName s):=by
   unfold isName
   by_cases h0:1≤s.size
   ·by_cases h2:s.size≤20
    ·by_cases h1:isLetter (byteAt s 0)=true
     ·exfalso
      rcases hc0 with(h|h)|h
      ·subst h;simp[ByteArray.size] at h0
      ·omega
      ·rw[h1] at h;cases h
     ·simp[h1]
    ·simp[h2]
   ·simp[h0]
  exact rE () [.tmp 2] J [bl false] ⟨.tmp J,tV⟩ (cA1 (fun x0=>rV [bl x0]) hr0) trivial eX
 ·try simp at hc0
  have hs1:1≤s.size:=bsize (by simpa using hc0.1.1)
  refine sk (th (sq (sq (rg (mv (lnS J T.str9 (mv (nl (th (bk ?_))))))))))
  have hI0_0:0≤s.size:=by
   first|omega|simp
  have hI0_1:(List.range 0).all (fun i=>nameByte (byteAt s i))=true:=by
   simp
  refine lp (κ:=Nat) (fun p=> [(0,str s),(19,int (s.size:Int)),(20,int (p:Int))]) (fun p=> []) (fun p=>(p≤s.size)∧((List.range p).all (fun i=>nameByte (byteAt s i))=true)) (fun p=>s.size- p) 0 ⟨hI0_0,hI0_1⟩ ⟨id,id,id,tV⟩ trivial ?_
  intro k hG0
  obtain⟨hk0,hI0⟩:(k≤s.size)∧((List.range k).all (fun i=>nameByte (byteAt s i))=true):=hG0
  refine sq (rg (bi J J b_lss (nl (th (sq ?_)))))
  refine cd J (fun hc1=> ?_) (fun hc1=> ?_)
  ·try simp at hc1
   refine sk (th (sq (bk (sq (rg (mv (ag (nl (th (sq (rg (mv (mv (idxS J J T.str9 O O (ag (nl (th (sq (rg (mv (cal0 (φs:= [u8 (byteAt s k)]) (φ:=bl (isLetter (byteAt s k))) ⟨J,tV⟩ (prog.aletter_ok _) T.ent178 (no J (mv ?_)))))))))))))))))))))))
   apply gAnd (t:=29) (pd:=36) rfl
   rotate_left
   ·intro hg2 fin
    have hg2':=hg2
    try simp at hg2'
    refine gy rfl rfl rfl hg2 (mv (gy rfl rfl rfl hg2 (bi rfl rfl b_lss (gy rfl rfl rfl hg2 (mv ?_)))))
    apply gOr (t:=32) (pd:=35) rfl
    rotate_left
    ·intro hg3 fin
     have hg3':=hg3
     try simp at hg3'
     exact gy J J J hg3 (mv (gy J J J hg3 (bi J J b_gtr (gy J J J hg2 (pkF J hg3 J (drp (X:= [(34,_),(33,_)]) ⟨J,J,tV⟩ fin))))))
    ·intro hg3 fin
     exact gn J J J hg3 J J (gn J J J hg3 J J (gy J J J hg2 (pkT J hg3 J (drp (X:= [(34,_),(33,_)]) ⟨J,J,tV⟩ fin))))
    exact pkT rfl hg2 rfl (drp (X:= [(35,_),(32,_),(31,_),(30,_)]) ⟨rfl,rfl,rfl,rfl,tV⟩ fin)
   ·intro hg2 fin
    exact gn J J J hg2 J J (gn J J J hg2 J J (gn J J J hg2 J J (gu J J J J J (gu J J J J J (gn J J J hg2 J J (pkF J hg2 J (drp (X:= [(35,_),(34,_),(33,_),(32,_),(31,_),(30,_)]) ⟨J,J,J,J,J,J,tV⟩ fin)))))))
   refine mv ?_
   apply gAnd (t:=37) (pd:=40) rfl
   rotate_left
   ·intro hg4 fin
    have hg4':=hg4
    try simp at hg4'
    exact gy J J J hg4 (mv (gy J J J hg4 (bi J J b_neq (pkT J hg4 J (drp (X:= [(39,_),(38,_)]) ⟨J,J,tV⟩ fin)))))
   ·intro hg4 fin
    exact gn J J J hg4 J J (gn J J J hg4 J J (pkF J hg4 J (drp (X:= [(39,_),(38,_)]) ⟨J,J,tV⟩ fin)))
   refine mv ?_
   apply gAnd (t:=41) (pd:=44) rfl
   rotate_left
   ·intro hg5 fin
    have hg5':=hg5
    try simp at hg5'
    exact gy J J J hg5 (mv (gy J J J hg5 (bi J J b_neq (pkT J hg5 J (drp (X:= [(43,_),(42,_)]) ⟨J,J,tV⟩ fin)))))
   ·intro hg5 fin
    exact gn J J J hg5 J J (gn J J J hg5 J J (pkF J hg5 J (drp (X:= [(43,_),(42,_)]) ⟨J,J,tV⟩ fin)))
   refine nl (th ?_)
   refine cd J (fun hc2=> ?_) (fun hc2=> ?_)
   ·try simp at hc2
    refine sq (rg (ag (nl (th (rt (rb (rt_ (rt_ (rb (rt_ ?_))))))))))
    have hr0:false=(isName s):=by
     unfold isName
     rw[all_range_not (i:=k) O ?_]
     ·simp
     ·simp[nameByte,hc2.1.1.1]
      omega
    exact rE () [.tmp 2] J [bl false] ⟨.tmp J,tV⟩ (cA1 (fun x0=>rV [bl x0]) hr0) trivial eX
   ·try simp at hc2
    refine sk (eb (th (rg (bi J J (b_add i6) (mv (nl ?_))))))
    have hN0:(k+1)≤s.size:=by
     first|omega|simp_all
    have hN1:(List.range (k+1)).all (fun i=>nameByte (byteAt s i))=true:=by
     rw[all_range_succ,hI0]
     simp[nameByte]
     by_cases h1:isLetter (byteAt s k)=true
     ·simp[h1]
     ·simp[h1] at hc2
      simp[h1]
      omega
    exact ln (k+1) ⟨hN0,hN1⟩ dO ⟨id,id,id,tV⟩ trivial
  ·try simp at hc1
   refine ex (xt_ (xt_ (xb (th (sq (rg (ag (nl (th (rt ?_))))))))))
   have hr0:true=(isName s):=by
    unfold isName
    rw[show s.size=k by omega,hI0]
    simp[hc0.2]
    omega
   exact rE () [.tmp 2] J [bl true] ⟨.tmp J,tV⟩ (cA1 (fun x0=>rV [bl x0]) hr0) trivial eX
theorem sIndex_ok (l:List ByteArray) (s:ByteArray):
 Fn0 Tryz.prog 179 [strs l,str s] (int (indexOf l s)):=by
 refine fnI Tryz.func179 rfl rfl (fun w0 F0=> ?_)
 refine fcC (slenI 0 J) (fun hm0=> ?_)
 refine sq (rg (ag (nl (th (sq (sq (rg (mv (lnF J T.sl22 (mv (nl (th (bk ?_)))))))))))))
 have hI0_0:0≤l.length:=by
  first|omega|simp
 have hI0_1:∀x∈l.take 0,x≠s:=by
  simp
 refine lp (κ:=Nat) (fun p=> [(0,sl 1 rE_ l),(1,str s),(7,int (l.length:Int)),(8,int (p:Int))]) (fun p=> []) (fun p=>(p≤l.length)∧(∀x∈l.take p,x≠s)) (fun p=>l.length- p) 0 ⟨hI0_0,hI0_1⟩ ⟨id,id,id,id,tV⟩ trivial ?_
 intro k hG0
 obtain⟨hk0,hI0⟩:(k≤l.length)∧(∀x∈l.take k,x≠s):=hG0
 refine sq (rg (bi J J b_lss (nl (th (sq ?_)))))
 refine cd J (fun hc0=> ?_) (fun hc0=> ?_)
 ·try simp at hc0
  refine sk (th (sq (bk (sq (rg (mv (ag (nl (th (sq (rg (mv (mv (mv (iF J J T.sl22 O gB (lF J J T.one9 (bi J J b_eqlS (nl (th ?_)))))))))))))))))))
  refine cd J (fun hc1=> ?_) (fun hc1=> ?_)
  ·try simp at hc1
   refine sq (rg (mv (ag (nl (th (rt (rb (rt_ (rt_ (rb (rt_ ?_)))))))))))
   have hr0:((k:Int):Int)=(indexOf l s):=by
    unfold indexOf
    have:l.findIdx? (fun x=>decide (x=s))=some k:=by
     rw[List.findIdx?_eq_some_iff_getElem]
     refine⟨O,by simpa [ix_get (show k<l.length by omega)] using hc1.symm,fun j hj=> ?_⟩
     have:=hI0 l[j] (List.mem_take_iff_getElem.2 ⟨j,O,rfl⟩)
     simpa using this
    rw[this]
   exact rE () [.tmp 4] J [int (k:Int)] ⟨.tmp J,tV⟩ (cA1 (fun x0=>rV [int x0]) hr0) trivial eX
  ·try simp at hc1
   refine sk (eb (th (rg (bi J J (b_add i6) (mv (nl ?_))))))
   have hN0:(k+1)≤l.length:=by
    first|omega|simp_all
   have hN1:∀x∈l.take (k+1),x≠s:=by
    rw[take_s O]
    intro x hx
    rcases List.mem_append.1 hx with hx|hx
    ·exact hI0 x hx
    ·simp at hx;subst hx;exact fun e=>hc1 e.symm
   exact ln (k+1) ⟨hN0,hN1⟩ dO ⟨id,id,id,id,tV⟩ trivial
 ·try simp at hc0
  refine ex (xt_ (xt_ (xb (th (sq (rg (ag (nl (th (rt ?_))))))))))
  have hr0:((-1):Int)=(indexOf l s):=by
   unfold indexOf
   have:l.findIdx? (fun x=>decide (x=s))=none:=by
    rw[List.findIdx?_eq_none_iff]
    intro x hx
    have hk2:k=l.length:=by omega
    rw[hk2,List.take_length] at hI0
    simp[hI0 x hx]
   rw[this]
  exact rE () [.tmp 4] J [int (-1)] ⟨.tmp J,tV⟩ (cA1 (fun x0=>rV [int x0]) hr0) trivial eX
theorem sContains_ok (l:List ByteArray) (s:ByteArray):
 Fn0 Tryz.prog 146 [strs l,str s] (bl (decide (0≤indexOf l s))):=by
 refine fnI Tryz.func146 rfl rfl (fun w0 F0=> ?_)
 refine fcC (slenI 0 J) (fun hm0=> ?_)
 refine sq (rg (ag (nl (th (sq (rg (mv (mv (cal0 (φs:= [sl 1 rE_ l,str s]) (φ:=int (indexOf l s)) ⟨J,J,tV⟩ (prog.sIndex_ok _ _) T.ent179 (bi J J b_geq (ag (nl (th (rt ?_))))))))))))))
 have hr0:(decide (0≤(indexOf l s)))=(decide (0≤indexOf l s)):=by
  first|rfl|simp_all|omega
 exact rE () [.tmp 4] J [bl (decide (0≤(indexOf l s)))] ⟨.tmp J,tV⟩ (cA1 (fun x0=>rV [bl x0]) hr0) trivial eX
theorem aValid_ok (l:List ByteArray):
 Fn0 Tryz.prog 113 [strs l] (bl (actionsOK l)):=by
 refine fnI Tryz.func113 rfl rfl (fun w0 F0=> ?_)
 refine fcC (slenI 0 J) (fun hm0=> ?_)
 refine sq (rg (ag (nl (th (sq (sq (rg (mv (lnF J T.sl22 (bi J J b_gtr (nl (th ?_))))))))))))
 refine cd J (fun hc0=> ?_) (fun hc0=> ?_)
 ·try simp at hc0
  refine sq (rg (ag (nl (th (rt (rt_ ?_))))))
  have hr0:false=(actionsOK l):=by
   unfold actionsOK
   rw[decide_eq_false O];rfl
  exact rE () [.tmp 2] J [bl false] ⟨.tmp J,tV⟩ (cA1 (fun x0=>rV [bl x0]) hr0) trivial eX
 ·try simp at hc0
  refine sk (th (sq (sq (rg (mv (lnF J T.sl22 (mv (nl (th (bk ?_))))))))))
  have hI0_0:0≤l.length:=by
   first|omega|simp
  have hI0_1:(List.range 0).all (fun i=>isName (ix l i)&&decide (indexOf l (ix l i)=(i:Int)))=true:=by
   simp
  refine lp (κ:=Nat) (fun p=> [(0,sl 1 rE_ l),(8,sl 1 rE_ l),(9,int (l.length:Int)),(10,int (p:Int))]) (fun p=> []) (fun p=>(p≤l.length)∧((List.range p).all (fun i=>isName (ix l i)&&decide (indexOf l (ix l i)=(i:Int)))=true)) (fun p=>l.length- p) 0 ⟨hI0_0,hI0_1⟩ ⟨id,id,id,id,tV⟩ trivial ?_
  intro k hG0
  obtain⟨hk0,hI0⟩:(k≤l.length)∧((List.range k).all (fun i=>isName (ix l i)&&decide (indexOf l (ix l i)=(i:Int)))=true):=hG0
  refine sq (rg (bi J J b_lss (nl (th (sq ?_)))))
  refine cd J (fun hc1=> ?_) (fun hc1=> ?_)
  ·try simp at hc1
   refine sk (th (sq (bk (sq (rg (mv (iF J J T.sl22 O gB (lF J J T.one9 (ag (ag (nl (th (sq (rg (mv (cal0 (φs:= [str (ix l k)]) (φ:=bl (isName (ix l k))) ⟨J,tV⟩ (prog.aName_ok _) T.ent145 (no J (mv ?_))))))))))))))))))
   apply gOr (t:=18) (pd:=24) rfl
   rotate_left
   ·intro hg0 fin
    have hg0':=hg0
    try simp at hg0'
    exact gy J J J hg0 (mv (gy J J J hg0 (mv (gy J J J hg0 (sliceF (l:=0) (m:=k) J T.sl22 J J O O (gy J J J hg0 (mv (gy J J J hg0 (cal0 (φs:= [sl 1 rE_ (l.take k),str (ix l k)]) (φ:=bl (decide (0≤indexOf (l.take k) (ix l k)))) ⟨J,J,tV⟩ (prog.sContains_ok _ _) T.ent146 (pkF J hg0 J (drp (X:= [(23,_),(22,_),(21,_),(20,_),(19,_)]) ⟨J,J,J,J,J,tV⟩ fin)))))))))))
   ·intro hg0 fin
    exact gn J J J hg0 J J (gn J J J hg0 J J (gn J J J hg0 J J (gn J J J hg0 J J (gn J J J hg0 J J (pkT J hg0 J (drp (X:= [(23,_),(22,_),(21,_),(20,_),(19,_)]) ⟨J,J,J,J,J,tV⟩ fin))))))
   refine nl (th ?_)
   refine cd J (fun hc2=> ?_) (fun hc2=> ?_)
   ·try simp at hc2
    refine sq (rg (ag (nl (th (rt (rb (rt_ (rt_ (rb (rt_ ?_))))))))))
    have hr0:false=(actionsOK l):=by
     unfold actionsOK
     rw[all_range_not (i:=k) O ?_]
     ·simp
     ·by_cases h:isName (ix l k)=true
      ·have h2:=(indexOf_bd (l.take k) (ix l k)).1 (by simpa [h] using hc2)
       have h3:¬indexOf l (ix l k)=(k:Int):=fun e=>(indexOf_self O).1 e h2
       simp[h3]
      ·simp[h]
    exact rE () [.tmp 2] J [bl false] ⟨.tmp J,tV⟩ (cA1 (fun x0=>rV [bl x0]) hr0) trivial eX
   ·try simp at hc2
    refine sk (eb (th (rg (bi J J (b_add i6) (mv (nl ?_))))))
    have hN0:(k+1)≤l.length:=by
     first|omega|simp_all
    have hN1:(List.range (k+1)).all (fun i=>isName (ix l i)&&decide (indexOf l (ix l i)=(i:Int)))=true:=by
     rw[all_range_succ,hI0]
     have h1:indexOf l (ix l k)=(k:Int):=(indexOf_self O).2 (fun hm=>by
      have h2:=(indexOf_bd (l.take k) (ix l k)).2 hm
      have:=hc2.2;omega)
     simp[hc2.1,h1]
    exact ln (k+1) ⟨hN0,hN1⟩ dO ⟨id,id,id,id,tV⟩ trivial
  ·try simp at hc1
   refine ex (xt_ (xt_ (xb (th (sq (rg (ag (nl (th (rt ?_))))))))))
   have hr0:true=(actionsOK l):=by
    unfold actionsOK
    rw[show l.length=k by omega,hI0,decide_eq_true O];rfl
   exact rE () [.tmp 2] J [bl true] ⟨.tmp J,tV⟩ (cA1 (fun x0=>rV [bl x0]) hr0) trivial eX
theorem sClonestrE_ok (l:List ByteArray) (hl:l.length≤1000000):
 AL.Fn Tryz.prog 92 [strs l] [] (ι:=Unit) (fun N _=>fre N (strs l)) (fun _=> []):=by
 refine fnI Tryz.func92 rfl rfl (fun w0 F0=> ?_)
 refine fcC (slenI 0 J) (fun hm0=> ?_)
 refine sq (rg (ag (nl (th (sq (sq (rg (mv (nilF J T.sl22.und fun nb4 hnb4=>(nl (th ?_)))))))))))
 refine cd J (fun hc0=> ?_) (fun hc0=> ?_)
 ·try simp at hc0
  refine sq (rg (ag (nl (th (rt (rt_ ?_))))))
  refine knA 2 (fre w0.heap.size (sl 1 rE_ [])) rfl nw_nil ?_
  have hr0: []=l:=by
   rw[hnb4 hc0]
  exact rE () [.tmp 2] J [fre w0.heap.size (sl 1 rE_ [])] ⟨.tmp J,tV⟩ (cA1 (fun x0=>rV [fre w0.heap.size (sl 1 rE_ x0)]) hr0) trivial eX
 ·try simp at hc0
  refine sk (th (sq (rg (bs0 5 rE_ T.mk22 fun v5=>(mv (ap (key:=5) (zs:=l) osl_eq J J J T.mk22 (by unfold maxL at*;simp;omega) (by unfold maxL at*;simp;omega) fun v7=>(ag (nl (th (rt ?_))))))))))
  refine fzNA rE_ 5 2 noM flat rfl rfl ?_
  have hr0:([]++l)=l:=by
   first|rfl|simp_all|omega
  exact rE () [.tmp 2] J [fre w0.heap.size (sl 1 rE_ ([]++l))] ⟨.tmp J,tV⟩ (cA1 (fun x0=>rV [fre w0.heap.size (sl 1 rE_ x0)]) hr0) trivial eX
theorem sEqualstrE_ok (xs ys:List ByteArray):
 Fn0 Tryz.prog 68 [strs xs,strs ys] (bl (decide (xs=ys))):=by
 refine fnI Tryz.func68 rfl rfl (fun w0 F0=> ?_)
 refine fcC (slenI 0 J) (fun hm0=> ?_)
 refine fcC (slenI 1 J) (fun hm1=> ?_)
 refine sq (rg (ag (nl (th (sq (sq (rg (mv (lnF J T.sl22 (mv (lnF J T.sl22 (bi J J b_neq (nl (th ?_))))))))))))))
 refine cd J (fun hc0=> ?_) (fun hc0=> ?_)
 ·try simp at hc0
  refine sq (rg (ag (nl (th (rt (rt_ ?_))))))
  have hr0:false=(decide (xs=ys)):=by
   rw[decide_eq_false];intro h;subst h;simp at hc0
  exact rE () [.tmp 4] J [bl false] ⟨.tmp J,tV⟩ (cA1 (fun x0=>rV [bl x0]) hr0) trivial eX
 ·try simp at hc0
  refine sk (th (sq (sq (rg (mv (lnF J T.sl22 (mv (nl (th (bk ?_))))))))))
  have hI0_0:0≤xs.length:=by
   first|omega|simp
  have hI0_1:xs.take 0=ys.take 0:=by
   simp
  refine lp (κ:=Nat) (fun p=> [(0,sl 1 rE_ xs),(1,sl 1 rE_ ys),(12,int (xs.length:Int)),(13,int (p:Int))]) (fun p=> []) (fun p=>(p≤xs.length)∧(xs.take p=ys.take p)) (fun p=>xs.length- p) 0 ⟨hI0_0,hI0_1⟩ ⟨id,id,id,id,tV⟩ trivial ?_
  intro k hG0
  obtain⟨hk0,hI0⟩:(k≤xs.length)∧(xs.take k=ys.take k):=hG0
  refine sq (rg (bi J J b_lss (nl (th (sq ?_)))))
  refine cd J (fun hc1=> ?_) (fun hc1=> ?_)
  ·try simp at hc1
   refine sk (th (sq (bk (sq (rg (mv (ag (nl (th (sq (dr (nh:=9) [0,0,3,7,0,0,48,112,255] T.mixed kR ?_)))))))))))
   refine st_ J (fun _ _ _ gq kq=>mv' (gq.1.trans J) kq) ?_
   refine st_ J (fun _ _ _ gq kq=>mv' (gq.1.trans J) kq) ?_
   refine st_ J (fun _ _ _ gq kq=>iF (gq.1.trans J) (gq.2.1.trans J) T.sl22 O gB kq) ?_
   refine st_ J (fun _ _ _ gq kq=>lF (gq.1.trans J) J T.one9 kq) ?_
   refine st_ J (fun _ _ _ gq kq=>mv' (gq.1.trans J) kq) ?_
   refine st_ J (fun _ _ _ gq kq=>mv' (gq.1.trans J) kq) ?_
   refine st_ J (fun _ _ _ gq kq=>iF (gq.1.trans J) (gq.2.1.trans J) T.sl22 O gB kq) ?_
   refine st_ J (fun _ _ _ gq kq=>lF (gq.1.trans J) J T.one9 kq) ?_
   refine st_ J (fun _ _ _ gq kq=>bi (gq.1.trans J) (gq.2.1.trans J) b_neqS kq) ?_
   refine pn (nl (th ?_))
   refine cd J (fun hc2=> ?_) (fun hc2=> ?_)
   ·try simp at hc2
    refine sq (rg (ag (nl (th (rt (rb (rt_ (rt_ (rb (rt_ ?_))))))))))
    have hr0:false=(decide (xs=ys)):=by
     rw[decide_eq_false];intro h;subst h;simp at hc2
    exact rE () [.tmp 4] J [bl false] ⟨.tmp J,tV⟩ (cA1 (fun x0=>rV [bl x0]) hr0) trivial eX
   ·try simp at hc2
    refine sk (eb (th (rg (bi J J (b_add i6) (mv (nl ?_))))))
    have hN0:(k+1)≤xs.length:=by
     first|omega|simp_all
    have hN1:xs.take (k+1)=ys.take (k+1):=by
     rw[take_s O,take_s O,hI0];try simp at hc2
     rw[hc2]
    exact ln (k+1) ⟨hN0,hN1⟩ dO ⟨id,id,id,id,tV⟩ trivial
  ·try simp at hc1
   refine ex (xt_ (xt_ (xb (th (sq (rg (ag (nl (th (rt ?_))))))))))
   have hr0:true=(decide (xs=ys)):=by
    rw[decide_eq_true]
    rw[show k=xs.length by omega,List.take_length] at hI0
    rw[hI0,show xs.length=ys.length by omega,List.take_length]
   exact rE () [.tmp 4] J [bl true] ⟨.tmp J,tV⟩ (cA1 (fun x0=>rV [bl x0]) hr0) trivial eX
end prog
end
end Go.Proofs.YtnlfjojfgghchaaGreatDoor
