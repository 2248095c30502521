/- The walks of the functions and the plain laws. Own texts of this claim, packed: prog6, LeftM, prog7, prog8, TrimM, prog9, Itoa, Keys, prog10, RoundM. -/
import Derived.Test.YtolpjmllmlahfaaDoorX04
import Derived.Test.YtolpjmllmlahfaaDoorX03
import Derived.Test.YtolpjmllmlahfaaDoorX02
import Derived.Shelf.LaysM
import Derived.Shelf.Strconv.Itoa3
import Derived.Lib.ItoaLen
set_option linter.all false
namespace Go.Proofs.YtolpjmllmlahfaaDoor
open AL Go
set_option maxRecDepth 100000
set_option linter.all false
open ref01 ref03 ref04 ref06 prog prog2 prog3 Part Rungs
def pairE:Int × Int→List AV:=fun p=> [int p.1,int p.2]
instance (x:Int × Int):OneAll (pairE x):=inferInstanceAs (OneAll [int x.1,int x.2])
theorem has_and (t:Int) (a:Nat):has t (a:Int)=decide (((t.toNat>>>a&&&1:Nat):Int)=1):=by
 unfold has;rw[Int.toNat_natCast,has_eq]
abbrev ladH (c5 c4 c7:Nat) (w22 w20:Value) (us:List Value) (v7:Value) (st:LS):Hp:=
 [(5,cell c5 [osl 22 w22]),(22,own w22 72 1 eqvE us),(221,bigown us 4 1 blE st.dead none),(4,cell c4 [osl 20 w20]),(20,own w20 3 1 intE st.left),(7,cell c7 [osl 70 v7]),(70,own v7 3 1 intE st.out)]
namespace T
theorem ent119:Ent Tryd.prog 119:=ent_of (by kernel_rfl)
theorem one171:IsOne Tryd.prog 171:=isOne_of (by kernel_rfl)
theorem sl171:IsSlice Tryd.prog 171 72 1:=isSlice_of (by kernel_rfl)
theorem one72:IsOne Tryd.prog 72:=isOne_of (by kernel_rfl)
theorem z28:ZeroIs Tryd.prog 28 [.slice none 0 0]:=zeroIs_of (by kernel_rfl)
theorem mk171:MakeT Tryd.prog 171 72 1 24 [.slice none 0 0]:=makeT_of (by kernel_rfl) (by kernel_rfl)
theorem z171:ZeroIs Tryd.prog 171 [.slice none 0 0]:=zeroIs_of (by kernel_rfl)
theorem mk172:MakeT Tryd.prog 172 58 1 24 [.slice none 0 0]:=makeT_of (by kernel_rfl) (by kernel_rfl)
theorem sl172:IsSlice Tryd.prog 172 58 1:=isSlice_of (by kernel_rfl)
theorem one58:IsOne Tryd.prog 58:=isOne_of (by kernel_rfl)
theorem st56:StructT Tryd.prog 56 [(0,1),(1,1)] [.int .i64 0,.int .i64 0]:=arrT_of (by kernel_rfl) (by kernel_rfl)
theorem mk58:MakeT Tryd.prog 58 56 2 16 [.int .i64 0,.int .i64 0]:=makeT_of (by kernel_rfl) (by kernel_rfl)
theorem sl58:IsSlice Tryd.prog 58 56 2:=isSlice_of (by kernel_rfl)
theorem agg56:IsAgg Tryd.prog 56 2:=isAgg_of (by kernel_rfl)
theorem z56:ZeroIs Tryd.prog 56 [.int .i64 0,.int .i64 0]:=zeroIs_of (by kernel_rfl)
theorem arr56:Tryd.prog.underlying 56=some (.array 2 3):=by kernel_rfl
end T
namespace prog6
theorem lower_ok (s:SSpec) (hs:okSpec s) (x a:Nat) (hx:x<s.states.length) (ha:a<(ix s.states x).next.length) (h0:0≤ix (ix s.states x).next a) (hH:Hol s (ix (ix s.states x).next a).toNat) (st:LS) (hst:LInv s st) (c5 c4 c7:Nat) (w22 w20 w7:Value) (us:List Value) (hus:us.length=s.states.length):
 AL.Fn Tryd.prog 119 [int (x:Int),int (a:Int),fp [strs s.actions,sl 2 stateE s.states],ptr 5 c5 0,ptr 4 c4 0,ptr 7 c7 0] (ladH c5 c4 c7 w22 w20 us w7 st) (fun _ (_:Value)=>tup []) (fun v=>ladH c5 c4 c7 w22 w20 us v (low s x (a:Int) st)):=by
 refine fnI Tryd.func119 rfl rfl (fun w0 F0=> ?_)
 have hf1:=hs.few1;have hox:=hs.st x hx;have hal:=hox.acl;have hn8:=hs.n8;have hln:=hox.len
 refine sq (rg (fF rfl T.fld25_1 (lF rfl rfl T.one23 (mv (iF rfl rfl T.sl23 (by omega) (by first|exact gN (by omega)|exact gI (by omega) (by omega)) (fF rfl T.fld69_0 (lF rfl rfl T.one28 (fc (slenI 15 rfl) fun hm15=>(lnF rfl T.sl28 (mv (nl (th (bk ?_)))))))))))))
 have hI0_0:0≤(ix s.states x).accept.length:=by
  first|omega|simp
 have hI0_1:(⟨st.left,st.dead,st.out⟩:LS)=(lowK s x (a:Int) 0 st):=by
  rfl
 refine lp (κ:=Nat × (List Int) × (List (List Bool)) × Value × (List Int)) (fun p=> [(0,int (x:Int)),(1,int (a:Int)),(3,ptr 5 c5 0),(4,ptr 4 c4 0),(5,ptr 7 c7 0),(15,sl 1 intE ((ix s.states x).accept)),(16,int (((ix s.states x).accept).length:Int)),(17,int (p.1:Int))]) (fun p=> [(4,cell c4 [osl 20 w20]),(5,cell c5 [osl 22 w22]),(7,cell c7 [osl 70 p.2.2.2.1]),(20,own w20 3 1 intE p.2.1),(22,own w22 72 1 eqvE us),(70,own p.2.2.2.1 3 1 intE p.2.2.2.2),(221,bigown us 4 1 blE p.2.2.1 none)]) (fun p=>(p.1≤(ix s.states x).accept.length)∧((⟨p.2.1,p.2.2.1,p.2.2.2.2⟩:LS)=(lowK s x (a:Int) p.1 st))) (fun p=>(ix s.states x).accept.length- p.1) ⟨0,st.left,st.dead,w7,st.out⟩ ⟨hI0_0,hI0_1⟩ ⟨id,id,id,id,id,id,id,id,trivial⟩ ⟨⟨rfl,id⟩,⟨rfl,id⟩,⟨rfl,id⟩,⟨rfl,id⟩,⟨rfl,id⟩,⟨rfl,id⟩,⟨rfl,id⟩,trivial⟩ ?_
 intro⟨k,left,dead,u7,out⟩ hG0
 obtain⟨hk0,hI0⟩:(k≤(ix s.states x).accept.length)∧((⟨left,dead,out⟩:LS)=(lowK s x (a:Int) k st)):=hG0
 show Ct _ _ _ _ [(0,int (x:Int)),(1,int (a:Int)),(3,ptr 5 c5 0),(4,ptr 4 c4 0),(5,ptr 7 c7 0),(15,sl 1 intE ((ix s.states x).accept)),(16,int (((ix s.states x).accept).length:Int)),(17,int (k:Int))] [(4,cell c4 [osl 20 w20]),(5,cell c5 [osl 22 w22]),(7,cell c7 [osl 70 u7]),(20,own w20 3 1 intE left),(22,own w22 72 1 eqvE us),(70,own u7 3 1 intE out),(221,bigown us 4 1 blE dead none)] _
 obtain⟨hL,hLe,_⟩:=lowK_inv hx ha h0 hH hst k hk0
 rw[←hI0] at hL
 have hac:=fun h=>hox.ac k h
 have hll:=hL.ll
 have hdl:=hL.dl
 have hdx:=hL.dx x hx
 have hcn:=hL.cnt x hx
 have hol:=hL.len
 dsimp only at hll hdl hdx hcn hol
 refine sq (rg (bi rfl rfl b_lss (nl (th (sq ?_)))))
 refine cd rfl (fun hc0=> ?_) (fun hc0=> ?_)
 ·try simp at hc0
  refine sk (th (sq (bk (sq (rg (mv (iF rfl rfl T.sl28 (by omega) (by first|exact gN (by omega)|exact gI (by omega) (by omega)) (lF rfl rfl T.one3 (ag (ag (nl (th (sq (rg (mv (mv (bi rfl rfl (b_shrI (by omega) (by omega) (by omega)) (bi rfl rfl (b_and1 (m:=(((ix ((ix s.states x).accept) k).toNat)>>>a)) (Nat.lt_of_le_of_lt (Nat.shiftRight_le _ _) (by have:=hac hc0;omega))) (bi rfl rfl b_eql (mv ?_))))))))))))))))))))
  apply gAnd (t:=27) (pd:=36) rfl
  rotate_left
  ·intro hg0 fin
   have hg0':=hg0
   try simp at hg0'
   exact gy rfl rfl rfl hg0 (lP rfl rfl rfl T.one171 (gy rfl rfl rfl hg0 (mv (gy rfl rfl rfl hg0 (iO rfl rfl rfl T.sl171 (by omega) (by omega) (gy rfl rfl rfl hg0 (lO rfl rfl (by first|exact gN (by omega)|exact gI (by omega) (by omega)) rfl T.one72 (tkB 221 31 x rfl rfl (by decide) (gK (by omega)) (gK (by omega)) (kn 31 (osl 31 (ix us x)) rfl eq_osl (gy rfl rfl rfl hg0 (mv (gy rfl rfl rfl hg0 (iO rfl rfl rfl T.sl72 (by omega) (by omega) (gy rfl rfl rfl hg0 (lO rfl rfl (by first|exact gN (by omega)|exact gI (by omega) (by omega)) rfl T.one4 (gvR 221 31 x rfl rfl (by decide) (gK (by omega)) (gK (by omega)) (gy rfl rfl rfl hg0 (no rfl (pkT rfl hg0 rfl (drp (X:= [(35,_),(34,_),(33,_),(32,_),(31,_),(31,_),(30,_),(29,_),(28,_)]) ⟨rfl,rfl,rfl,rfl,rfl,rfl,rfl,rfl,rfl,trivial⟩ (fin)))))))))))))))))))))
  ·intro hg0 fin
   exact gn rfl rfl rfl hg0 rfl rfl (gn rfl rfl rfl hg0 rfl rfl (gn rfl rfl rfl hg0 rfl rfl (gn rfl rfl rfl hg0 rfl rfl (gn rfl rfl rfl hg0 rfl rfl (gn rfl rfl rfl hg0 rfl rfl (gn rfl rfl rfl hg0 rfl rfl (gn rfl rfl rfl hg0 rfl rfl (pkF rfl hg0 rfl (drp (X:= [(35,_),(34,_),(33,_),(32,_),(31,_),(30,_),(29,_),(28,_)]) ⟨rfl,rfl,rfl,rfl,rfl,rfl,rfl,rfl,trivial⟩ (fin))))))))))
  refine nl (th ?_)
  refine cd rfl (fun hc1=> ?_) (fun hc1=> ?_)
  ·try simp at hc1
   refine sq (rg (lP rfl rfl rfl T.one171 (mv (iO rfl rfl rfl T.sl171 (by omega) (by omega) (lO rfl rfl (by first|exact gN (by omega)|exact gI (by omega) (by omega)) rfl T.one72 (tkB 221 40 x rfl rfl (by decide) (gK (by omega)) (gK (by omega)) (kn 40 (osl 40 (ix us x)) rfl eq_osl (mv (iO rfl rfl rfl T.sl72 (by omega) (by omega) (sO (φ:=bl true) rfl rfl rfl T.one4 (by first|exact gN (by omega)|exact gI (by omega) (by omega)) rfl (y':=true) rfl (nl (th (sq (rg (gvU 221 40 x rfl rfl (by decide) (gK (by omega)) (lP rfl rfl rfl T.one28 (mv (iO rfl rfl rfl T.sl28 (by omega) (by omega) (lO rfl rfl (by first|exact gN (by omega)|exact gI (by omega) (by omega)) rfl T.one3 (bi rfl rfl (b_sub (by have hcl:=List.count_le_length (a:=false) (l:=ix dead x);unfold I64;omega)) (iO rfl rfl rfl T.sl28 (by omega) (by omega) (sO (φ:=int ((ix left x)- 1)) rfl rfl rfl T.one3 (by first|exact gN (by omega)|exact gI (by omega) (by omega)) rfl (y':=((ix left x)- 1)) rfl (nl (th (sq (rg (lP rfl rfl rfl T.one28 (mv (iO rfl rfl rfl T.sl28 (by omega) (by simp;omega) (lO rfl rfl (by first|exact gN (by simp;omega)|exact gI (by omega) (by simp;omega)) rfl T.one3 (bi rfl rfl b_eql (nl (th ?_)))))))))))))))))))))))))))))))))
   refine cd rfl (fun hc2=> ?_) (fun hc2=> ?_)
   ·try simp at hc2
    refine rg (lP rfl rfl rfl T.one28 (mv (bsE (enc:=intE) (xs:= [(x:Int)]) (css:= [[int (x:Int)]]) T.mk28 ⟨rfl,rfl,p1 (φ:=int (x:Int)) rfl,trivial⟩ rfl rfl rfl rfl (ap (key:=70) (zs:= [(x:Int)]) osl_eq rfl rfl rfl T.mk28 (by unfold maxL at*;simp;omega) (by unfold maxL at*;simp;omega) fun v57=>(storePO rfl rfl rfl rfl T.one28 rfl (nl (eb (th (rg (bi rfl rfl (b_add (by unfold I64;omega)) (mv (nl ?_))))))))))))
    have hN0:(k+1)≤(ix s.states x).accept.length:=by
     first|omega|simp_all
    have hN1:(⟨(left.set x ((ix left x)- 1)),(dead.set x ((ix dead x).set k true)),(out++ [(x:Int)])⟩:LS)=(lowK s x (a:Int) (k+1) st):=by
     show _=lowS s x a k (lowK s x a k st)
     rw[←hI0]
     unfold lowS
     have hcc:(has (ix (ix s.states x).accept k) (a:Int)&& !ix (ix dead x) k)=true:=by rw[has_and];simpa using hc1
     have hz:ix left x- 1=0:=by simpa [ix_set (xs:=left) (k:=x) (by omega)] using hc2
     simp[hcc,hz]
    exact ln (⟨k+1,left.set x ((ix left x)- 1),dead.set x ((ix dead x).set k true),v57,out++ [(x:Int)]⟩:Nat × (List Int) × (List (List Bool)) × Value × (List Int)) ⟨hN0,hN1⟩ (by first|omega|(dsimp only;omega)) ⟨id,id,id,id,id,id,id,id,trivial⟩ ⟨⟨rfl,id⟩,⟨rfl,id⟩,⟨rfl,id⟩,⟨rfl,id⟩,⟨rfl,id⟩,⟨rfl,id⟩,⟨rfl,id⟩,trivial⟩
   ·try simp at hc2
    refine sk (eb (th (rg (bi rfl rfl (b_add (by unfold I64;omega)) (mv (nl ?_))))))
    have hN0:(k+1)≤(ix s.states x).accept.length:=by
     first|omega|simp_all
    have hN1:(⟨(left.set x ((ix left x)- 1)),(dead.set x ((ix dead x).set k true)),out⟩:LS)=(lowK s x (a:Int) (k+1) st):=by
     show _=lowS s x a k (lowK s x a k st)
     rw[←hI0]
     unfold lowS
     have hcc:(has (ix (ix s.states x).accept k) (a:Int)&& !ix (ix dead x) k)=true:=by rw[has_and];simpa using hc1
     have hz:¬ix left x- 1=0:=by simpa [ix_set (xs:=left) (k:=x) (by omega)] using hc2
     simp[hcc,hz]
    exact ln (⟨k+1,left.set x ((ix left x)- 1),dead.set x ((ix dead x).set k true),u7,out⟩:Nat × (List Int) × (List (List Bool)) × Value × (List Int)) ⟨hN0,hN1⟩ (by first|omega|(dsimp only;omega)) ⟨id,id,id,id,id,id,id,id,trivial⟩ ⟨⟨rfl,id⟩,⟨rfl,id⟩,⟨rfl,id⟩,⟨rfl,id⟩,⟨rfl,id⟩,⟨rfl,id⟩,⟨rfl,id⟩,trivial⟩
  ·try simp at hc1
   refine sk (eb (th (rg (bi rfl rfl (b_add (by unfold I64;omega)) (mv (nl ?_))))))
   have hN0:(k+1)≤(ix s.states x).accept.length:=by
    first|omega|simp_all
   have hN1:(⟨left,dead,out⟩:LS)=(lowK s x (a:Int) (k+1) st):=by
    show _=lowS s x a k (lowK s x a k st)
    rw[←hI0]
    unfold lowS
    have hcc:(has (ix (ix s.states x).accept k) (a:Int)&& !ix (ix dead x) k)=false:=by rw[has_and];simpa using hc1
    simp[hcc]
   exact ln (⟨k+1,left,dead,u7,out⟩:Nat × (List Int) × (List (List Bool)) × Value × (List Int)) ⟨hN0,hN1⟩ (by first|omega|(dsimp only;omega)) ⟨id,id,id,id,id,id,id,id,trivial⟩ ⟨⟨rfl,id⟩,⟨rfl,id⟩,⟨rfl,id⟩,⟨rfl,id⟩,⟨rfl,id⟩,⟨rfl,id⟩,⟨rfl,id⟩,trivial⟩
 ·try simp at hc0
  refine ex (xt_ (xt_ (xb ?_)))
  have hlow:low s x (a:Int) st=⟨left,dead,out⟩:=by unfold low;rw[hI0,show(ix s.states x).accept.length=k by omega]
  exact rE u7 [] rfl [] trivial (rfl) (by show SubH (ladH c5 c4 c7 w22 w20 us u7 (low s x (a:Int) st)) _;rw[hlow];exact⟨⟨rfl,id⟩,⟨rfl,id⟩,⟨rfl,id⟩,⟨rfl,id⟩,⟨rfl,id⟩,⟨rfl,id⟩,⟨rfl,id⟩,trivial⟩) (by first|exact .inr rfl|exact .inl rfl)
theorem rungs_ok (s:SSpec) (hs:okSpec s):
 Fn0 Tryd.prog 101 [spec s] (ints (rungs s)):=by
 refine fnI Tryd.func101 rfl rfl (fun w0 F0=> ?_)
 have hf1:=hs.few1;have hn8:=hs.n8
 refine fcC (inhS 0 rfl) (fun hS0=> ?_)
 obtain⟨hsa0,hss0,hse0⟩:=spec_lens hS0
 refine sq (rg (bx (key:=1) (cs:= [sl 1 strE s.actions,sl 2 stateE s.states]) rfl fun b1=>(ag (nl (th (sq (rg (fzv 1 1 rfl rfl (fF rfl T.fld25_1 (lF rfl rfl T.one23 (fc (slenI 17 rfl) fun hm17=>(lnF rfl T.sl23 (ag (nl (th (sq (rg (mv (mk (key:=20) (m:=s.states.length) (enc:=intE) (y:=(0:Int)) rfl rfl T.mk28 (ex_cons ex_nil) (by unfold maxL;omega) (by unfold maxL;omega) fun v20=>(al (key:=4) T.z28 (ex_cons (ex_nil)) fun b4=>(storePO rfl rfl rfl rfl T.one28 rfl (nl (th (sq (rg (mv (mk (key:=22) (m:=s.states.length) (enc:=eqvE) (y:=(.slice none 0 0:Value)) rfl rfl T.mk171 (ex_cons ex_nil) (by unfold maxL;omega) (by unfold maxL;omega) fun v22=>(al (key:=5) T.z171 (ex_cons (ex_nil)) fun b5=>(storePO rfl rfl rfl rfl T.one171 rfl (nl (th (sq (rg (nbB 221 s.states.length 4 1 blE (mv (mk (key:=24) (m:=s.states.length) (enc:=eqvE) (y:=(.slice none 0 0:Value)) rfl rfl T.mk172 (ex_cons ex_nil) (by unfold maxL;omega) (by unfold maxL;omega) fun v24=>(ag (nl (th (sq (rg (al (key:=7) T.z28 (ex_cons (ex_nil)) fun b7=>(nl (th (sq (sq (rg (nw 70 3 1 intE (knc 7 0 (osl 70 (.slice none 0 0)) rfl rfl eq_osl (nbB 241 s.states.length 56 2 pairE (fF rfl T.fld25_1 (lF rfl rfl T.one23 (lnF rfl T.sl23 (mv (nl (th (bk ?_)))))))))))))))))))))))))))))))))))))))))))))))))))))))))
 have hI0_0:0≤s.states.length:=by
  first|omega|simp
 have hI0_1:(List.replicate s.states.length (.slice none 0 0:Value)).length=s.states.length∧(List.replicate s.states.length (.slice none 0 0:Value)).length=s.states.length∧(⟨(List.replicate s.states.length (0:Int)),(List.replicate s.states.length []),([]:List Int)⟩:LS)=init s 0∧(List.replicate s.states.length [])=(List.range s.states.length).map (preds s 0):=by
  exact⟨by simp,by simp,by rw[init_zero],(preds_zero s).symm⟩
 refine lp (κ:=Nat × (List Value) × (List (List Bool)) × (List Int) × Value × (List Int) × (List Value) × (List (List (Int × Int)))) (fun p=> [(1,fp [sl 1 strE s.actions,sl 2 stateE s.states]),(2,eqv (.slice none 0 0)),(4,ptr 4 b4 0),(5,ptr 5 b5 0),(6,osl 24 v24),(7,ptr 7 b7 0),(26,sl 2 stateE s.states),(27,int (s.states.length:Int)),(28,int (p.1:Int))]) (fun p=> [(4,cell b4 [osl 20 v20]),(5,cell b5 [osl 22 v22]),(7,cell b7 [osl 70 p.2.2.2.2.1]),(20,own v20 3 1 intE p.2.2.2.1),(22,own v22 72 1 eqvE p.2.1),(24,own v24 58 1 eqvE p.2.2.2.2.2.2.1),(70,own p.2.2.2.2.1 3 1 intE p.2.2.2.2.2.1),(221,bigown p.2.1 4 1 blE p.2.2.1 none),(241,bigown p.2.2.2.2.2.2.1 56 2 pairE p.2.2.2.2.2.2.2 none)]) (fun p=>(p.1≤s.states.length)∧(p.2.1.length=s.states.length∧p.2.2.2.2.2.2.1.length=s.states.length∧(⟨p.2.2.2.1,p.2.2.1,p.2.2.2.2.2.1⟩:LS)=init s p.1∧p.2.2.2.2.2.2.2=(List.range s.states.length).map (preds s p.1))) (fun p=>s.states.length- p.1) ⟨0,List.replicate s.states.length (.slice none 0 0:Value),List.replicate s.states.length [],List.replicate s.states.length (0:Int),(.slice none 0 0),([]:List Int),List.replicate s.states.length (.slice none 0 0:Value),List.replicate s.states.length []⟩ ⟨hI0_0,hI0_1⟩ ⟨id,id,id,id,id,id,id,id,id,trivial⟩ ⟨⟨rfl,id⟩,⟨rfl,id⟩,⟨rfl,id⟩,⟨rfl,id⟩,⟨rfl,id⟩,⟨rfl,id⟩,⟨rfl,id⟩,⟨rfl,id⟩,⟨rfl,id⟩,trivial⟩ ?_
 intro⟨k,us,dead,left,u7,out,us2,into⟩ hG0
 obtain⟨hk0,hI0⟩:(k≤s.states.length)∧(us.length=s.states.length∧us2.length=s.states.length∧(⟨left,dead,out⟩:LS)=init s k∧into=(List.range s.states.length).map (preds s k)):=hG0
 show Ct _ _ _ _ [(1,fp [sl 1 strE s.actions,sl 2 stateE s.states]),(2,eqv (.slice none 0 0)),(4,ptr 4 b4 0),(5,ptr 5 b5 0),(6,osl 24 v24),(7,ptr 7 b7 0),(26,sl 2 stateE s.states),(27,int (s.states.length:Int)),(28,int (k:Int))] [(4,cell b4 [osl 20 v20]),(5,cell b5 [osl 22 v22]),(7,cell b7 [osl 70 u7]),(20,own v20 3 1 intE left),(22,own v22 72 1 eqvE us),(24,own v24 58 1 eqvE us2),(70,own u7 3 1 intE out),(221,bigown us 4 1 blE dead none),(241,bigown us2 56 2 pairE into none)] _
 obtain⟨hul,hul2,hst,hin⟩:=hI0
 have hdl:dead.length=s.states.length:=by have:=congrArg (fun z=>z.dead.length) hst;simpa [init] using this
 have hll:left.length=s.states.length:=by have:=congrArg (fun z=>z.left.length) hst;simpa [init] using this
 have hil:into.length=s.states.length:=by rw[hin];simp
 have hol:out.length≤s.states.length:=by have:=congrArg (fun z=>z.out.length) hst;have h2:=init_out_le s k;dsimp only at this;omega
 refine sq (rg (bi rfl rfl b_lss (nl (th (sq ?_)))))
 refine cd rfl (fun hc0=> ?_) (fun hc0=> ?_)
 ·try simp at hc0
  have hox:=hs.st k hc0;have hxl:=hox.len;have hxa:=hox.acl
  refine sk (th (sq (bk (sq (rg (mv (iF rfl rfl T.sl23 (by omega) (by first|exact gN (by omega)|exact gI (by omega) (by omega)) (lFA rfl T.agg69 (Nat.le_of_ble_eq_true rfl) (al (key:=9) T.z69 (ex_cons (ex_cons (ex_nil))) fun b9=>(ag (sPA (cs':= [sl 1 intE ((ix s.states k).accept),sl 1 intE ((ix s.states k).next)]) rfl rfl rfl T.agg69 rfl rfl (nl (th (sq (tkBC 221 99 k rfl rfl (by decide) (gK (by omega)) (gK (by omega)) ?_)))))))))))))))
  refine drH (nh:=15) [0,0,0,0,0,16,48,0,128,384,896,115,2163,8191,16383] [(none,[4]),(none,[]),(none,[5]),(none,[]),(none,[]),(none,[9]),(none,[]),(none,[]),(none,[9]),(none,[]),(some 43,[]),(none,[20]),(some 20,[20]),(none,[22]),(some 22,[22])] T.mixed (by kernel_rfl) (by kernel_rfl) ?_
  refine stv (d:=33) (fun β0=>osl 20 v20) [4] rfl (fun β β' hb=>rfl) (fun β0 _ _ _ _ gq gh kq=>lP (gq.1.trans rfl) (gh.1.trans rfl) rfl T.one28 kq) ?_
  refine stv (d:=34) (fun β0=>int (k:Int)) [] rfl (fun β β' hb=>rfl) (fun β0 _ _ _ _ gq gh kq=>mv' (gq.1.trans rfl) kq) ?_
  refine stv (d:=35) (fun β0=>osl 22 v22) [5] rfl (fun β β' hb=>rfl) (fun β0 _ _ _ _ gq gh kq=>lP (gq.1.trans rfl) (gh.1.trans rfl) rfl T.one171 kq) ?_
  refine stv (d:=36) (fun β0=>int (k:Int)) [] rfl (fun β β' hb=>rfl) (fun β0 _ _ _ _ gq gh kq=>mv' (gq.1.trans rfl) kq) ?_
  refine stv (d:=37) (fun β0=>ptr 9 b9 0) [] rfl (fun β β' hb=>rfl) (fun β0 _ _ _ _ gq gh kq=>fP (gq.1.trans rfl) T.fld69_0 kq) ?_
  refine stv (d:=38) (fun β0=>sl 1 intE ((ix s.states k).accept)) [9] rfl (fun β β' hb=>rfl) (fun β0 _ _ _ _ gq gh kq=>lP (gq.1.trans rfl) (gh.1.trans rfl) rfl T.one28 kq) ?_
  refine stv (d:=39) (fun β0=>int (((ix s.states k).accept).length:Int)) [] rfl (fun β β' hb=>rfl) (fun β0 _ _ _ _ gq gh kq=>lnF (gq.1.trans rfl) T.sl28 kq) ?_
  refine stv (d:=40) (fun β0=>ptr 9 b9 0) [] rfl (fun β β' hb=>rfl) (fun β0 _ _ _ _ gq gh kq=>fP (gq.1.trans rfl) T.fld69_0 kq) ?_
  refine stv (d:=41) (fun β0=>sl 1 intE ((ix s.states k).accept)) [9] rfl (fun β β' hb=>rfl) (fun β0 _ _ _ _ gq gh kq=>lP (gq.1.trans rfl) (gh.1.trans rfl) rfl T.one28 kq) ?_
  refine stv (d:=42) (fun β0=>int (((ix s.states k).accept).length:Int)) [] rfl (fun β β' hb=>rfl) (fun β0 _ _ _ _ gq gh kq=>lnF (gq.1.trans rfl) T.sl28 kq) ?_
  refine stm (m:=((ix s.states k).accept).length) (enc:=blE) (y:=false) 43 T.mk72 (ex_cons ex_nil) (by unfold maxL;omega) (by unfold maxL;omega) (fun β0 _ gq=>⟨(gq.1.trans rfl),(gq.2.1.trans rfl)⟩) ?_
  refine stv (d:=44) (fun β0=>eptr 20 v20 1 k 0) [20] rfl (fun β β' hb=>rfl) (fun β0 _ _ _ _ gq gh kq=>iO (gq.1.trans rfl) (gh.1.trans rfl) (gq.2.1.trans rfl) T.sl28 (by omega) (by omega) kq) ?_
  refine stw 20 (fun β0=>own v20 3 1 intE (left.set k (((ix s.states k).accept).length:Int))) [20] rfl (fun β β' hb=>rfl) (fun β0 _ _ _ _ gq gh kq=>sO (φ:=int (((ix s.states k).accept).length:Int)) (gq.1.trans rfl) (gh.1.trans rfl) (gq.2.1.trans rfl) T.one3 (by first|exact gN (by omega)|exact gI (by omega) (by omega)) rfl (y':=(((ix s.states k).accept).length:Int)) rfl kq) ?_
  refine stv (d:=45) (fun β0=>eptr 22 v22 1 k 0) [22] rfl (fun β β' hb=>rfl) (fun β0 _ _ _ _ gq gh kq=>iO (gq.1.trans rfl) (gh.1.trans rfl) (gq.2.1.trans rfl) T.sl171 (by omega) (by omega) kq) ?_
  refine stw 22 (fun β0=>own v22 72 1 eqvE (us.set k (.slice (some ⟨gbk (β0 10),0,none⟩) (((ix s.states k).accept).length) (((ix s.states k).accept).length)))) [22] rfl (fun β β' hb=>by first|rw[hb 10 rfl]|(dsimp only;rw[hb 10 rfl])) (fun β0 _ _ _ _ gq gh kq=>sO (φ:=eqv (.slice (some ⟨gbk (β0 10),0,none⟩) (((ix s.states k).accept).length) (((ix s.states k).accept).length))) (gq.1.trans rfl) (gh.1.trans rfl) ((gq.2.1.trans rfl).trans osl_is) T.one72 (by first|exact gN (by omega)|exact gI (by omega) (by omega)) rfl (y':=(.slice (some ⟨gbk (β0 10),0,none⟩) (((ix s.states k).accept).length) (((ix s.states k).accept).length))) rfl kq) ?_
  refine pnH fun β0=>(nl (th (sq (sq (rg (gvB (us:=us) 221 43 k rfl rfl (by decide) (by omega) (lP rfl rfl rfl T.one28 (mv (iO rfl rfl rfl T.sl28 (by omega) (by simp;omega) (lO rfl rfl (by first|exact gN (by simp;omega)|exact gI (by omega) (by simp;omega)) rfl T.one3 (bi rfl rfl b_eql (nl (th ?_)))))))))))))
  refine jn (κ:=Value × (List Int)) (fun p=> [(1,fp [sl 1 strE s.actions,sl 2 stateE s.states]),(2,eqv (.slice none 0 0)),(4,ptr 4 b4 0),(5,ptr 5 b5 0),(6,osl 24 v24),(7,ptr 7 b7 0),(8,int (k:Int)),(9,ptr 9 b9 0),(26,sl 2 stateE s.states),(27,int (s.states.length:Int)),(28,int (k:Int))]) (fun p=> [(4,cell b4 [osl 20 v20]),(5,cell b5 [osl 22 v22]),(7,cell b7 [osl 70 p.1]),(9,cell b9 [sl 1 intE ((ix s.states k).accept),sl 1 intE ((ix s.states k).next)]),(20,own v20 3 1 intE (left.set k (((ix s.states k).accept).length:Int))),(22,own v22 72 1 eqvE (us.set k (.slice (some ⟨gbk (β0 10),0,none⟩) (((ix s.states k).accept).length) (((ix s.states k).accept).length)))),(24,own v24 58 1 eqvE us2),(70,own p.1 3 1 intE p.2),(99,own (ix us k) 4 1 blE (ix dead k)),(221,bigown (us.set k (.slice (some ⟨gbk (β0 10),0,none⟩) (((ix s.states k).accept).length) (((ix s.states k).accept).length))) 4 1 blE (dead.set k (List.replicate (((ix s.states k).accept).length) false)) none),(241,bigown us2 56 2 pairE into none)]) (fun p=>p.2=if ((ix s.states k).accept.length:Int)=0 then out++ [(k:Int)] else out) ?_ ?_
  ·
   refine cd rfl (fun hc1=> ?_) (fun hc1=> ?_)
   ·try simp at hc1
    refine rg (lP rfl rfl rfl T.one28 (mv (bsE (enc:=intE) (xs:= [(k:Int)]) (css:= [[int (k:Int)]]) T.mk28 ⟨rfl,rfl,p1 (φ:=int (k:Int)) rfl,trivial⟩ rfl rfl rfl rfl (ap (key:=70) (zs:= [(k:Int)]) osl_eq rfl rfl rfl T.mk28 (by unfold maxL at*;simp;omega) (by unfold maxL at*;simp;omega) fun v54=>(storePO rfl rfl rfl rfl T.one28 rfl (nl ?_))))))
    have hN0:(out++ [(k:Int)])=if ((ix s.states k).accept.length:Int)=0 then out++ [(k:Int)] else out:=by
     rw[ix_set (by omega),if_pos (by simp)] at hc1
     rw[if_pos hc1]
    exact jx ⟨v54,out++ [(k:Int)]⟩ hN0 ⟨id,id,id,id,id,id,id,id,id,id,id,trivial⟩ ⟨⟨rfl,id⟩,⟨rfl,id⟩,⟨rfl,id⟩,⟨rfl,id⟩,⟨rfl,id⟩,⟨rfl,id⟩,⟨rfl,id⟩,⟨rfl,id⟩,⟨rfl,id⟩,⟨rfl,id⟩,⟨rfl,id⟩,trivial⟩
   ·try simp at hc1
    refine sk ?_
    have hN0:out=if ((ix s.states k).accept.length:Int)=0 then out++ [(k:Int)] else out:=by
     rw[ix_set (by omega),if_pos (by simp)] at hc1
     rw[if_neg hc1]
    exact jx ⟨u7,out⟩ hN0 ⟨id,id,id,id,id,id,id,id,id,id,id,trivial⟩ ⟨⟨rfl,id⟩,⟨rfl,id⟩,⟨rfl,id⟩,⟨rfl,id⟩,⟨rfl,id⟩,⟨rfl,id⟩,⟨rfl,id⟩,⟨rfl,id⟩,⟨rfl,id⟩,⟨rfl,id⟩,⟨rfl,id⟩,trivial⟩
  ·intro⟨w7,ou⟩ hG
   have hJ1:ou=if ((ix s.states k).accept.length:Int)=0 then out++ [(k:Int)] else out:=hG
   skip
   show At _ _ _ [(1,fp [sl 1 strE s.actions,sl 2 stateE s.states]),(2,eqv (.slice none 0 0)),(4,ptr 4 b4 0),(5,ptr 5 b5 0),(6,osl 24 v24),(7,ptr 7 b7 0),(8,int (k:Int)),(9,ptr 9 b9 0),(26,sl 2 stateE s.states),(27,int (s.states.length:Int)),(28,int (k:Int))] [(4,cell b4 [osl 20 v20]),(5,cell b5 [osl 22 v22]),(7,cell b7 [osl 70 w7]),(9,cell b9 [sl 1 intE ((ix s.states k).accept),sl 1 intE ((ix s.states k).next)]),(20,own v20 3 1 intE (left.set k (((ix s.states k).accept).length:Int))),(22,own v22 72 1 eqvE (us.set k (.slice (some ⟨gbk (β0 10),0,none⟩) (((ix s.states k).accept).length) (((ix s.states k).accept).length)))),(24,own v24 58 1 eqvE us2),(70,own w7 3 1 intE ou),(99,own (ix us k) 4 1 blE (ix dead k)),(221,bigown (us.set k (.slice (some ⟨gbk (β0 10),0,none⟩) (((ix s.states k).accept).length) (((ix s.states k).accept).length))) 4 1 blE (dead.set k (List.replicate (((ix s.states k).accept).length) false)) none),(241,bigown us2 56 2 pairE into none)]
   refine th (sq (rg (fP rfl T.fld69_1 (lP rfl rfl rfl T.one28 (fc (slenI 56 rfl) fun hm56=>(lnF rfl T.sl28 (mv (nl (th (bk ?_))))))))))
   have hI1_0:0≤((ix s.states k).next).length:=by
    first|omega|simp
   have hI1_1:us2.length=s.states.length∧into=(List.range s.states.length).map (fun y=>preds s k y++preds1 s k y 0):=by
    exact⟨hul2,by rw[hin];exact List.map_congr_left (fun y _=>by simp[preds1])⟩
   refine lp (κ:=Nat × (List Value) × (List (List (Int × Int)))) (fun p=> [(1,fp [sl 1 strE s.actions,sl 2 stateE s.states]),(2,eqv (.slice none 0 0)),(4,ptr 4 b4 0),(5,ptr 5 b5 0),(6,osl 24 v24),(7,ptr 7 b7 0),(8,int (k:Int)),(26,sl 2 stateE s.states),(27,int (s.states.length:Int)),(28,int (k:Int)),(56,sl 1 intE ((ix s.states k).next)),(57,int (((ix s.states k).next).length:Int)),(58,int (p.1:Int))]) (fun p=> [(4,cell b4 [osl 20 v20]),(5,cell b5 [osl 22 v22]),(7,cell b7 [osl 70 w7]),(9,cell b9 [sl 1 intE ((ix s.states k).accept),sl 1 intE ((ix s.states k).next)]),(20,own v20 3 1 intE (left.set k (((ix s.states k).accept).length:Int))),(22,own v22 72 1 eqvE (us.set k (.slice (some ⟨gbk (β0 10),0,none⟩) (((ix s.states k).accept).length) (((ix s.states k).accept).length)))),(24,own v24 58 1 eqvE p.2.1),(70,own w7 3 1 intE ou),(99,own (ix us k) 4 1 blE (ix dead k)),(221,bigown (us.set k (.slice (some ⟨gbk (β0 10),0,none⟩) (((ix s.states k).accept).length) (((ix s.states k).accept).length))) 4 1 blE (dead.set k (List.replicate (((ix s.states k).accept).length) false)) none),(241,bigown p.2.1 56 2 pairE p.2.2 none)]) (fun p=>(p.1≤((ix s.states k).next).length)∧(p.2.1.length=s.states.length∧p.2.2=(List.range s.states.length).map (fun y=>preds s k y++preds1 s k y p.1))) (fun p=>((ix s.states k).next).length- p.1) ⟨0,us2,into⟩ ⟨hI1_0,hI1_1⟩ ⟨id,id,id,id,id,id,id,id,id,id,id,id,id,trivial⟩ ⟨⟨rfl,id⟩,⟨rfl,id⟩,⟨rfl,id⟩,⟨rfl,id⟩,⟨rfl,id⟩,⟨rfl,id⟩,⟨rfl,id⟩,⟨rfl,id⟩,⟨rfl,id⟩,⟨rfl,id⟩,⟨rfl,id⟩,trivial⟩ ?_
   intro⟨k1,us3,into3⟩ hG1
   obtain⟨hk1,hI1⟩:(k1≤((ix s.states k).next).length)∧(us3.length=s.states.length∧into3=(List.range s.states.length).map (fun y=>preds s k y++preds1 s k y k1)):=hG1
   show Ct _ _ _ _ [(1,fp [sl 1 strE s.actions,sl 2 stateE s.states]),(2,eqv (.slice none 0 0)),(4,ptr 4 b4 0),(5,ptr 5 b5 0),(6,osl 24 v24),(7,ptr 7 b7 0),(8,int (k:Int)),(26,sl 2 stateE s.states),(27,int (s.states.length:Int)),(28,int (k:Int)),(56,sl 1 intE ((ix s.states k).next)),(57,int (((ix s.states k).next).length:Int)),(58,int (k1:Int))] [(4,cell b4 [osl 20 v20]),(5,cell b5 [osl 22 v22]),(7,cell b7 [osl 70 w7]),(9,cell b9 [sl 1 intE ((ix s.states k).accept),sl 1 intE ((ix s.states k).next)]),(20,own v20 3 1 intE (left.set k (((ix s.states k).accept).length:Int))),(22,own v22 72 1 eqvE (us.set k (.slice (some ⟨gbk (β0 10),0,none⟩) (((ix s.states k).accept).length) (((ix s.states k).accept).length)))),(24,own v24 58 1 eqvE us3),(70,own w7 3 1 intE ou),(99,own (ix us k) 4 1 blE (ix dead k)),(221,bigown (us.set k (.slice (some ⟨gbk (β0 10),0,none⟩) (((ix s.states k).accept).length) (((ix s.states k).accept).length))) 4 1 blE (dead.set k (List.replicate (((ix s.states k).accept).length) false)) none),(241,bigown us3 56 2 pairE into3 none)] _
   have hul3:=hI1.1
   have hil3:into3.length=s.states.length:=by rw[hI1.2];simp
   refine sq (rg (bi rfl rfl b_lss (nl (th (sq ?_)))))
   refine cd rfl (fun hc2=> ?_) (fun hc2=> ?_)
   ·try simp at hc2
    have hnx:=hox.nx k1 (by omega)
    refine sk (th (sq (bk (sq (rg (mv (iF rfl rfl T.sl28 (by omega) (by first|exact gN (by omega)|exact gI (by omega) (by omega)) (lF rfl rfl T.one3 (ag (ag (nl (th (sq (rg (mv (bi rfl rfl b_geq (nl (th ?_))))))))))))))))))
    refine cd rfl (fun hc3=> ?_) (fun hc3=> ?_)
    ·try simp at hc3
     have hpb:(ix into3 (ix (ix s.states k).next k1).toNat).length≤80000:=by
      rw[hI1.2,ix_map_range (by omega),List.length_append]
      have h1:=preds_le (s:=s) (y:=(ix (ix s.states k).next k1).toNat) (m:=8) k (fun x hx=>by rw[(hs.st x (by omega)).len];exact hn8)
      have h2:=preds1_le s k (ix (ix s.states k).next k1).toNat k1
      omega
     refine rg (mv (mv (mv (mv (iO rfl rfl rfl T.sl172 (by omega) (by omega) (lO rfl rfl (by first|exact gN (by omega)|exact gI (by omega) (by omega)) rfl T.one58 (tkB 241 75 ((ix (ix s.states k).next k1).toNat) rfl rfl (by decide) (gK (by omega)) (gK (by omega)) (kn 70 (osl 75 (ix us3 ((ix (ix s.states k).next k1).toNat))) rfl eq_osl (mv (mv (bd (css:= [(0,_),(1,_)]) T.st56 (ex_cons (ex_cons (ex_nil))) ⟨rfl,rfl,p1 (φ:=int (k:Int)) rfl,⟨rfl,rfl,p1 (φ:=int (k1:Int)) rfl,trivial⟩⟩ (bs (css:= [[int (k:Int),int (k1:Int)]]) T.mk58 ⟨rfl,rfl,pA (cs:= [int (k:Int),int (k1:Int)]) rfl,trivial⟩ rfl rfl rfl (ap (key:=75) (zs:= [((k:Int),(k1:Int))]) osl_eq rfl rfl rfl T.mk58 (by unfold maxL at*;simp;omega) (by unfold maxL at*;simp;omega) fun v75=>(iO rfl rfl rfl T.sl172 (by omega) (by omega) (sOO (k2:=75) rfl rfl osl_is rfl T.one58 (by first|exact gN (by omega)|exact gI (by omega) (by omega)) rfl (y':=v75) rfl (gvB (us:=us3) 241 75 ((ix (ix s.states k).next k1).toNat) rfl rfl (by decide) (by omega) (nl (eb (th (rg (bi rfl rfl (b_add (by unfold I64;omega)) (mv (nl ?_)))))))))))))))))))))))
     have hN0:(k1+1)≤((ix s.states k).next).length:=by
      first|omega|simp_all
     have hN1:(us3.set ((ix ((ix s.states k).next) k1).toNat) v75).length=s.states.length∧(into3.set ((ix (ix s.states k).next k1).toNat) ((ix into3 ((ix (ix s.states k).next k1).toNat))++ [((k:Int),(k1:Int))]))=(List.range s.states.length).map (fun y=>preds s k y++preds1 s k y (k1+1)):=by
      have ht:(ix (ix s.states k).next k1).toNat<s.states.length:=by omega
      refine⟨by simpa using hul3,?_⟩
      have e:ix into3 (ix (ix s.states k).next k1).toNat=preds s k (ix (ix s.states k).next k1).toNat++preds1 s k (ix (ix s.states k).next k1).toNat k1:=by rw[hI1.2];exact ix_map_range ht
      rw[e,hI1.2]
      exact preds1_put (by omega) ht
     exact ln (⟨k1+1,us3.set ((ix ((ix s.states k).next) k1).toNat) v75,into3.set ((ix (ix s.states k).next k1).toNat) ((ix into3 ((ix (ix s.states k).next k1).toNat))++ [((k:Int),(k1:Int))])⟩:Nat × (List Value) × (List (List (Int × Int)))) ⟨hN0,hN1⟩ (by first|omega|(dsimp only;omega)) ⟨id,id,id,id,id,id,id,id,id,id,id,id,id,trivial⟩ ⟨⟨rfl,id⟩,⟨rfl,id⟩,⟨rfl,id⟩,⟨rfl,id⟩,⟨rfl,id⟩,⟨rfl,id⟩,⟨rfl,id⟩,⟨rfl,id⟩,⟨rfl,id⟩,⟨rfl,id⟩,⟨rfl,id⟩,trivial⟩
    ·try simp at hc3
     refine sk (eb (th (rg (bi rfl rfl (b_add (by unfold I64;omega)) (mv (nl ?_))))))
     have hN0:(k1+1)≤((ix s.states k).next).length:=by
      first|omega|simp_all
     have hN1:us3.length=s.states.length∧into3=(List.range s.states.length).map (fun y=>preds s k y++preds1 s k y (k1+1)):=by
      refine⟨hul3,?_⟩
      rw[hI1.2]
      exact preds1_none (by omega)
     exact ln (⟨k1+1,us3,into3⟩:Nat × (List Value) × (List (List (Int × Int)))) ⟨hN0,hN1⟩ (by first|omega|(dsimp only;omega)) ⟨id,id,id,id,id,id,id,id,id,id,id,id,id,trivial⟩ ⟨⟨rfl,id⟩,⟨rfl,id⟩,⟨rfl,id⟩,⟨rfl,id⟩,⟨rfl,id⟩,⟨rfl,id⟩,⟨rfl,id⟩,⟨rfl,id⟩,⟨rfl,id⟩,⟨rfl,id⟩,⟨rfl,id⟩,trivial⟩
   ·try simp at hc2
    refine ex (xt_ (xt_ (xb (eb (th (rg (bi rfl rfl (b_add (by unfold I64;omega)) (mv (nl ?_)))))))))
    have hN0:(k+1)≤s.states.length:=by
     first|omega|simp_all
    have hN1:(us.set k (.slice (some ⟨gbk (β0 10),0,none⟩) (((ix s.states k).accept).length) (((ix s.states k).accept).length))).length=s.states.length∧us3.length=s.states.length∧(⟨(left.set k (((ix s.states k).accept).length:Int)),(dead.set k (List.replicate (((ix s.states k).accept).length) false)),ou⟩:LS)=init s (k+1)∧into3=(List.range s.states.length).map (preds s (k+1)):=by
     rw[init_succ hc0,←hst,hJ1]
     refine⟨by simpa using hul,hI1.1,rfl,?_⟩
     rw[hI1.2,show k1=(ix s.states k).next.length by omega]
     exact List.map_congr_left (fun y _=>(preds_succ s k y).symm)
    exact ln (⟨k+1,us.set k (.slice (some ⟨gbk (β0 10),0,none⟩) (((ix s.states k).accept).length) (((ix s.states k).accept).length)),dead.set k (List.replicate (((ix s.states k).accept).length) false),left.set k (((ix s.states k).accept).length:Int),w7,ou,us3,into3⟩:Nat × (List Value) × (List (List Bool)) × (List Int) × Value × (List Int) × (List Value) × (List (List (Int × Int)))) ⟨hN0,hN1⟩ (by first|omega|(dsimp only;omega)) ⟨id,id,id,id,id,id,id,id,id,trivial⟩ ⟨⟨rfl,id⟩,⟨rfl,id⟩,⟨rfl,id⟩,⟨rfl,id⟩,⟨rfl,id⟩,⟨rfl,id⟩,⟨rfl,id⟩,⟨rfl,id⟩,⟨rfl,id⟩,trivial⟩
 ·try simp at hc0
  refine ex (xt_ (xt_ (xb (th (sq (rg (mkf (ag (nl (th (sq (sq (rg (ag (nl (th (bk ?_)))))))))))))))))
  have hkn:k=s.states.length:=by omega
  have hI2_0:(⟨left,dead,out⟩:LS)=rq s 0∧0≤out.length:=by
   rw[hst,hkn]
   exact⟨rfl,Nat.zero_le _⟩
  refine lp (κ:=Nat × (List (List Bool)) × (List Int) × Value × (List Int)) (fun p=> [(2,eqv (.slice none 0 0)),(6,osl 24 v24),(7,ptr 7 b7 0),(12,clo 119 [fp [sl 1 strE s.actions,sl 2 stateE s.states],ptr 5 b5 0,ptr 4 b4 0,ptr 7 b7 0]),(13,int (p.1:Int))]) (fun p=> [(4,cell b4 [osl 20 v20]),(5,cell b5 [osl 22 v22]),(7,cell b7 [osl 70 p.2.2.2.1]),(20,own v20 3 1 intE p.2.2.1),(22,own v22 72 1 eqvE us),(24,own v24 58 1 eqvE us2),(70,own p.2.2.2.1 3 1 intE p.2.2.2.2),(221,bigown us 4 1 blE p.2.1 none),(241,bigown us2 56 2 pairE into none)]) (fun p=>(⟨p.2.2.1,p.2.1,p.2.2.2.2⟩:LS)=rq s p.1∧p.1≤p.2.2.2.2.length) (fun p=>s.states.length- p.1) ⟨0,dead,left,u7,out⟩ hI2_0 ⟨id,id,id,id,id,trivial⟩ ⟨⟨rfl,id⟩,⟨rfl,id⟩,⟨rfl,id⟩,⟨rfl,id⟩,⟨rfl,id⟩,⟨rfl,id⟩,⟨rfl,id⟩,⟨rfl,id⟩,⟨rfl,id⟩,trivial⟩ ?_
  intro⟨i,dead,left,u7,out⟩ hG2
  have hI2:(⟨left,dead,out⟩:LS)=rq s i∧i≤out.length:=hG2
  show Ct _ _ _ _ [(2,eqv (.slice none 0 0)),(6,osl 24 v24),(7,ptr 7 b7 0),(12,clo 119 [fp [sl 1 strE s.actions,sl 2 stateE s.states],ptr 5 b5 0,ptr 4 b4 0,ptr 7 b7 0]),(13,int (i:Int))] [(4,cell b4 [osl 20 v20]),(5,cell b5 [osl 22 v22]),(7,cell b7 [osl 70 u7]),(20,own v20 3 1 intE left),(22,own v22 72 1 eqvE us),(24,own v24 58 1 eqvE us2),(70,own u7 3 1 intE out),(221,bigown us 4 1 blE dead none),(241,bigown us2 56 2 pairE into none)] _
  have hL:=rq_inv s i
  rw[←hI2.1] at hL
  have hll:=hL.ll
  have hdl:=hL.dl
  have hol:=hL.len
  dsimp only at hll hdl hol
  refine sq (sq (rg (mv (lP rfl rfl rfl T.one28 (lnO rfl rfl T.sl28 (bi rfl rfl b_lss (nl (th ?_))))))))
  refine cd rfl (fun hc4=> ?_) (fun hc4=> ?_)
  ·try simp at hc4
   have hoy:=hL.outHol (ix_mem hc4)
   dsimp only at hoy
   have hHy:=hoy.2.2
   have hiy:ix into (ix out i).toNat=preds s s.states.length (ix out i).toNat:=by rw[hin,hkn];exact ix_map_range (by omega)
   have hpb:(ix into (ix out i).toNat).length≤80000:=by
    rw[hiy]
    have h1:=preds_le (s:=s) (y:=(ix out i).toNat) (m:=8) s.states.length (fun x hx=>by rw[(hs.st x hx).len];exact hn8)
    omega
   refine sk (th (sq (bk (sq (rg (mv (lP rfl rfl rfl T.one28 (mv (iO rfl rfl rfl T.sl28 (by omega) (by omega) (lO rfl rfl (by first|exact gN (by omega)|exact gI (by omega) (by omega)) rfl T.one3 (iO rfl rfl rfl T.sl172 (by omega) (by omega) (lO rfl rfl (by first|exact gN (by omega)|exact gI (by omega) (by omega)) rfl T.one58 (tkB 241 92 ((ix out i).toNat) rfl rfl (by decide) (gK (by omega)) (gK (by omega)) (kn 92 (osl 92 (ix us2 ((ix out i).toNat))) rfl eq_osl (lnO rfl rfl T.sl58 (mv (nl (th (bk ?_)))))))))))))))))))
   have hI3_0:0≤(ix into ((ix out i).toNat)).length:=by
    first|omega|simp
   have hI3_1:(⟨left,dead,out⟩:LS)=procs s ((preds s s.states.length (ix out i).toNat).take 0) (rq s i):=by
    rw[List.take_zero];exact hI2.1
   refine lp (κ:=Nat × (List (List Bool)) × (List Int) × Value × (List Int)) (fun p=> [(2,eqv (.slice none 0 0)),(6,osl 24 v24),(7,ptr 7 b7 0),(12,clo 119 [fp [sl 1 strE s.actions,sl 2 stateE s.states],ptr 5 b5 0,ptr 4 b4 0,ptr 7 b7 0]),(13,int (i:Int)),(92,osl 92 (ix us2 ((ix out i).toNat))),(93,int ((ix into ((ix out i).toNat)).length:Int)),(94,int (p.1:Int))]) (fun p=> [(4,cell b4 [osl 20 v20]),(5,cell b5 [osl 22 v22]),(7,cell b7 [osl 70 p.2.2.2.1]),(20,own v20 3 1 intE p.2.2.1),(22,own v22 72 1 eqvE us),(24,own v24 58 1 eqvE us2),(70,own p.2.2.2.1 3 1 intE p.2.2.2.2),(92,own (ix us2 ((ix out i).toNat)) 56 2 pairE (ix into ((ix out i).toNat))),(221,bigown us 4 1 blE p.2.1 none),(241,bigown us2 56 2 pairE into (some ((ix out i).toNat)))]) (fun p=>(p.1≤(ix into ((ix out i).toNat)).length)∧((⟨p.2.2.1,p.2.1,p.2.2.2.2⟩:LS)=procs s ((preds s s.states.length (ix out i).toNat).take p.1) (rq s i))) (fun p=>(ix into ((ix out i).toNat)).length- p.1) ⟨0,dead,left,u7,out⟩ ⟨hI3_0,hI3_1⟩ ⟨id,id,id,id,id,id,id,id,trivial⟩ ⟨⟨rfl,id⟩,⟨rfl,id⟩,⟨rfl,id⟩,⟨rfl,id⟩,⟨rfl,id⟩,⟨rfl,id⟩,⟨rfl,id⟩,⟨rfl,id⟩,⟨rfl,id⟩,⟨rfl,id⟩,trivial⟩ ?_
   intro⟨k3,dead3,left3,u73,out3⟩ hG3
   obtain⟨hk3,hI3⟩:(k3≤(ix into ((ix out i).toNat)).length)∧((⟨left3,dead3,out3⟩:LS)=procs s ((preds s s.states.length (ix out i).toNat).take k3) (rq s i)):=hG3
   show Ct _ _ _ _ [(2,eqv (.slice none 0 0)),(6,osl 24 v24),(7,ptr 7 b7 0),(12,clo 119 [fp [sl 1 strE s.actions,sl 2 stateE s.states],ptr 5 b5 0,ptr 4 b4 0,ptr 7 b7 0]),(13,int (i:Int)),(92,osl 92 (ix us2 ((ix out i).toNat))),(93,int ((ix into ((ix out i).toNat)).length:Int)),(94,int (k3:Int))] [(4,cell b4 [osl 20 v20]),(5,cell b5 [osl 22 v22]),(7,cell b7 [osl 70 u73]),(20,own v20 3 1 intE left3),(22,own v22 72 1 eqvE us),(24,own v24 58 1 eqvE us2),(70,own u73 3 1 intE out3),(92,own (ix us2 ((ix out i).toNat)) 56 2 pairE (ix into ((ix out i).toNat))),(221,bigown us 4 1 blE dead3 none),(241,bigown us2 56 2 pairE into (some ((ix out i).toNat)))] _
   refine sq (rg (bi rfl rfl b_lss (nl (th (sq ?_)))))
   refine cd rfl (fun hc5=> ?_) (fun hc5=> ?_)
   ·try simp at hc5
    obtain⟨px,pa,hpe,hpx,hpa,hp0,hpH⟩:=preds_ok hHy (ix (ix into (ix out i).toNat) k3) (by rw[←hiy];exact ix_memS (by omega))
    have hps:=procs_inv (ps:=(preds s s.states.length (ix out i).toNat).take k3) (fun p hp=>preds_ok hHy p (List.mem_of_mem_take hp)) (rq_inv s i)
    rw[←hI3] at hps
    have hp1:(ix (ix into (ix out i).toNat) k3).1=(px:Int):=by rw[hpe]
    have hp2:(ix (ix into (ix out i).toNat) k3).2=(pa:Int):=by rw[hpe]
    refine sk (th (sq (bk (sq (rg (iO rfl rfl rfl T.sl58 (by omega) (by omega) (lOA rfl rfl (by first|exact gN (by omega)|exact gI (by omega) (by omega)) T.agg56 (by decide) (al (key:=15) T.z56 (ex_cons (ex_cons (ex_nil))) fun b15=>(sPA (cs':= [int ((ix (ix into ((ix out i).toNat)) k3).1),int ((ix (ix into ((ix out i).toNat)) k3).2)]) rfl rfl rfl T.agg56 rfl rfl (nl (th (rg (mv (iPA rfl rfl T.arr56 T.one3 rfl (lP rfl rfl rfl T.one3 (iPA rfl rfl T.arr56 T.one3 rfl (lP rfl rfl rfl T.one3 (callC (Hi:=ladH b5 b4 b7 v22 v20 us u73 (⟨left3,dead3,out3⟩:LS)) (ι:=Value) (res:=fun _ _=>tup []) (Ho:=fun v=>ladH b5 b4 b7 v22 v20 us v (low s px (pa:Int) (⟨left3,dead3,out3⟩:LS))) rfl (by show AL.Fn _ _ [int (ix (ix into (ix out i).toNat) k3).1,int (ix (ix into (ix out i).toNat) k3).2,_,_,_,_] _ _ _;rw[hp1,hp2];exact lower_ok s hs px pa hpx hpa hp0 hpH (⟨left3,dead3,out3⟩:LS) hps.1 b5 b4 b7 v22 v20 u73 us hul) T.ent119 ⟨⟨rfl,id⟩,⟨rfl,id⟩,⟨rfl,id⟩,⟨rfl,id⟩,⟨rfl,id⟩,⟨rfl,id⟩,⟨rfl,id⟩,trivial⟩ fun N z=>(nl (eb (th (rg (bi rfl rfl (b_add (by unfold I64;omega)) (mv (nl ?_)))))))))))))))))))))))))
    have hN0:(k3+1)≤(ix into ((ix out i).toNat)).length:=by
     first|omega|simp_all
    have hN1:(⟨((low s px (pa:Int) (⟨left3,dead3,out3⟩:LS)).left),((low s px (pa:Int) (⟨left3,dead3,out3⟩:LS)).dead),((low s px (pa:Int) (⟨left3,dead3,out3⟩:LS)).out)⟩:LS)=procs s ((preds s s.states.length (ix out i).toNat).take (k3+1)) (rq s i):=by
     rw[take_s (by rw[←hiy];omega),procs_snoc,←hI3,←hiy,hpe]
     rfl
    exact ln (⟨k3+1,(low s px (pa:Int) (⟨left3,dead3,out3⟩:LS)).dead,(low s px (pa:Int) (⟨left3,dead3,out3⟩:LS)).left,z,(low s px (pa:Int) (⟨left3,dead3,out3⟩:LS)).out⟩:Nat × (List (List Bool)) × (List Int) × Value × (List Int)) ⟨hN0,hN1⟩ (by first|omega|(dsimp only;omega)) ⟨id,id,id,id,id,id,id,id,trivial⟩ ⟨⟨rfl,id⟩,⟨rfl,id⟩,⟨rfl,id⟩,⟨rfl,id⟩,⟨rfl,id⟩,⟨rfl,id⟩,⟨rfl,id⟩,⟨rfl,id⟩,⟨rfl,id⟩,⟨rfl,id⟩,trivial⟩
   ·try simp at hc5
    refine ex (xt_ (xt_ (xb (eb (th (rg (gvS 241 92 ((ix out i).toNat) rfl rfl (by decide) (gK (by omega)) (gK (by omega)) (mv (bi rfl rfl (b_add (by unfold I64;omega)) (ag (nl ?_)))))))))))
    have hN0:(⟨left3,dead3,out3⟩:LS)=rq s (i+1)∧(i+1)≤out3.length:=by
     have hps:=procs_inv (preds_ok hHy) (rq_inv s i)
     rw[show k3=(preds s s.states.length (ix out i).toNat).length by rw[←hiy];omega,List.take_length] at hI3
     rw[←hI3,←hI2.1] at hps
     have hpl:=hps.2.1.1.length_le
     refine⟨?_,by dsimp only at hpl;omega⟩
     rw[hI3]
     show _=if _ then _ else _
     rw[←hI2.1,if_pos hc4]
    exact ln (⟨i+1,dead3,left3,u73,out3⟩:Nat × (List (List Bool)) × (List Int) × Value × (List Int)) hN0 (by first|omega|(dsimp only;omega)) ⟨id,id,id,id,id,trivial⟩ ⟨⟨rfl,id⟩,⟨rfl,id⟩,⟨rfl,id⟩,⟨rfl,id⟩,⟨rfl,id⟩,⟨rfl,id⟩,⟨rfl,id⟩,⟨rfl,id⟩,⟨rfl,id⟩,trivial⟩
  ·try simp at hc4
   refine ex (xt_ (xt_ (xb (th (sq (rg (lP rfl rfl rfl T.one28 (ag (nl (th (rt ?_)))))))))))
   refine fzA 70 2 rfl rfl ?_
   have hr0:out=(rungs s):=by
    have hR:=rungs_of (s:=s) (i:=i) (by rw[←hI2.1];exact hc4)
    rw[←hR,←hI2.1]
   have hall:∀x0,out=x0→resAV [sl 1 intE out]=resAV [sl 1 intE x0]:=by rintro _ rfl;rfl
   exact rE () [.tmp 2] rfl [sl 1 intE out] ⟨.tmp rfl,trivial⟩ (hall _ hr0) trivial (by first|exact .inr rfl|exact .inl rfl)
end prog6
end Go.Proofs.YtolpjmllmlahfaaDoor
namespace Go.Proofs.YtolpjmllmlahfaaDoor
open AL ref01 ref03 ref04 ref06 Rungs
namespace LeftM
theorem listOf_mem {n:Nat} {t x:Int}:x∈listOf n t↔∃a:Nat,x=(a:Int)∧a<n∧has t (a:Int)=true:=by
 unfold listOf
 constructor
 ·intro h
  obtain⟨a,ha,rfl⟩:=List.mem_map.1 h
  obtain⟨h1,h2⟩:=List.mem_filter.1 ha
  exact⟨a,rfl,List.mem_range.1 h1,h2⟩
 ·rintro⟨a,rfl,h1,h2⟩
  exact List.mem_map.2 ⟨a,List.mem_filter.2 ⟨List.mem_range.2 h1,h2⟩,rfl⟩
theorem listOf_get {n m:Nat} {t x:Int} (h:(listOf n t)[m]?=some x):∃a:Nat,x=(a:Int)∧a<n∧has t (a:Int)=true:=listOf_mem.1 (List.mem_of_getElem? h)
def fine (x:SState) (t:Int) (h:List Bool):Bool:=(listOf 63 t).all fun a=> !ix h (ix x.next a.toNat).toNat
theorem fine_eq {x:SState} {N n:Nat} (hx:okState x N n) (hn:n≤8) {t:Int} (ht:t∈x.accept) (h:List Bool):fine x t h= !falls x t h:=by
 obtain⟨i,hi,e⟩:=mem_ix ht
 have hgo:=hx.go i hi
 rw[e] at hgo
 unfold fine
 rw[Bool.eq_iff_iff,List.all_eq_true,Bool.not_eq_true',←Bool.not_eq_true,falls_iff]
 constructor
 ·rintro h1 ⟨a,h2,h3,h4,h5⟩
  have:=h1 (a:Int) (listOf_mem.2 ⟨a,rfl,by have:=hx.len;omega,h4⟩)
  rw[Int.toNat_natCast,h5] at this
  cases this
 ·intro h1 x' hx'
  obtain⟨a,rfl,h2,h3⟩:=listOf_mem.1 hx'
  obtain⟨h4,h5⟩:=hgo a h3
  rw[Int.toNat_natCast]
  cases hb:ix h (ix x.next a).toNat with
  |false=>rfl
  |true=>exact absurd ⟨a,by have:=hx.len;omega,h5,h3,hb⟩ h1
theorem fine_snoc {x:SState} {t:Int} {h:List Bool} {m:Nat} {a:Int} (ha:(listOf 63 t)[m]?=some a):((listOf 63 t).take (m+1)).all (fun a=> !ix h (ix x.next a.toNat).toNat)=(((listOf 63 t).take m).all (fun a=> !ix h (ix x.next a.toNat).toNat)&& !ix h (ix x.next a.toNat).toNat):=by
 have hm:=(List.getElem?_eq_some_iff.1 ha)
 obtain⟨hm,rfl⟩:=hm
 rw[List.take_succ_eq_append_getElem hm,List.all_append];simp
theorem has_or {u t:Int} {a:Nat}:has ((u.toNat|||t.toNat:Nat):Int) (a:Int)=(has u (a:Int)||has t (a:Int)):=by
 unfold has
 rw[Int.toNat_natCast,Int.toNat_natCast,Nat.testBit_or]
theorem snoc_ind {α:Type} {p:List α→Prop} (h0:p []) (h1:∀l a,p l→p (l++ [a])) (l:List α):p l:=by
 have:∀n (l:List α),l.length=n→p l:=fun n=>by
  induction n with
  |zero=>intro l hl;rw[List.eq_nil_of_length_eq_zero hl];exact h0
  |succ n ih=>
   intro l hl
   rcases List.eq_nil_or_concat l with rfl|⟨l',t,rfl⟩
   ·exact h0
   ·rw[List.concat_eq_append] at hl ⊢
    exact h1 _ _ (ih l' (by simpa using hl))
 exact this _ l rfl
theorem orAll_has (l:List Int) (a:Nat):has (orAll l) (a:Int)=true↔∃t∈l,has t (a:Int)=true:=by
 refine snoc_ind (p:=fun l=>has (orAll l) (a:Int)=true↔∃t∈l,has t (a:Int)=true) ?_ (fun l t ih=> ?_) l
 ·simp[orAll,has]
 ·rw[orAll_snoc,has_or,Bool.or_eq_true,ih]
  constructor
  ·rintro(⟨u,h1,h2⟩|h)
   ·exact⟨u,by simp[h1],h2⟩
   ·exact⟨t,by simp,h⟩
  ·rintro⟨u,h1,h2⟩
   rcases List.mem_append.1 h1 with h|h
   ·exact .inl ⟨u,h,h2⟩
   ·have:u=t:=by simpa using h
    subst this;exact .inr h2
theorem keep_mem {s:SSpec} {x:Nat} {t:Int} (h:t∈keep s x):t∈(ix s.states x).accept∧ix (hollow s) x=false∧falls (ix s.states x) t (hollow s)=false:=by
 unfold keep at h
 obtain⟨h1,h2⟩:=List.mem_filter.1 h
 simp only [Bool.and_eq_true,Bool.not_eq_true'] at h2
 exact⟨h1,h2.1,h2.2⟩
theorem keep_filter {s:SSpec} {x:Nat} (h:ix (hollow s) x=false):keep s x=(ix s.states x).accept.filter fun t=> !falls (ix s.states x) t (hollow s):=by
 unfold keep;rw[h];simp
theorem acc_bd {x:SState} {N n:Nat} (hx:okState x N n) {t:Int} (ht:t∈x.accept):0≤t∧t<256:=by
 obtain⟨i,hi,rfl⟩:=mem_ix ht
 exact hx.ac i hi
theorem acc_go {x:SState} {N n:Nat} (hx:okState x N n) {t:Int} (ht:t∈x.accept) {a:Nat} (h:has t (a:Int)=true):a<n∧0≤ix x.next a:=by
 obtain⟨i,hi,rfl⟩:=mem_ix ht
 exact hx.go i hi a h
theorem can_go {s:SSpec} (hs:okSpec s) {x:Nat} (hx:x<s.states.length) {a:Nat} (h:has (orAll (keep s x)) (a:Int)=true):
 a<(ix s.states x).next.length∧0≤ix (ix s.states x).next a∧ix (ix s.states x).next a<(s.states.length:Int)∧ix (hollow s) (ix (ix s.states x).next a).toNat=false:=by
 obtain⟨t,ht,hh⟩:=(orAll_has _ _).1 h
 obtain⟨h1,h2,h3⟩:=keep_mem ht
 have hok:=hs.st x hx
 obtain⟨h4,h5⟩:=acc_go hok h1 hh
 rw[←hok.len] at h4
 refine⟨h4,h5,(hok.nx a (by rw[←hok.len];exact h4)).2,?_⟩
 cases hb:ix (hollow s) (ix (ix s.states x).next a).toNat with
 |false=>rfl
 |true=>
  rw[falls_iff.2 ⟨a,h4,h5,hh,hb⟩] at h3;cases h3
def visit1 (l:List Int) (k:Int):List Int:=if decide (0≤k)&& !l.contains k then l++ [k] else l
theorem visit_foldl (l ks:List Int):visit l ks=ks.foldl visit1 l:=rfl
theorem visit_filter {p:Nat→Bool} {g:Nat→Int}:∀(xs:List Nat) (l:List Int),visit l (xs.map fun a=>if p a then g a else-1)=visit l ((xs.filter p).map g)
 | [],l=>rfl
 |x::xs,l=>by
  rw[visit_foldl,visit_foldl]
  by_cases h:p x=true
  ·rw[List.filter_cons,if_pos h,List.map_cons,List.map_cons,List.foldl_cons,List.foldl_cons,if_pos h]
   exact visit_filter xs _
  ·rw[List.filter_cons,if_neg h,List.map_cons,List.foldl_cons,if_neg h]
   have:visit1 l (-1)=l:=rfl
   rw[this]
   exact visit_filter xs l
theorem filter_range {p:Nat→Bool} {m:Nat}:∀j,(∀a,p a=true→a<m)→(List.range (m+j)).filter p=(List.range m).filter p
 |0,_=>rfl
 |j+1,h=>by
  rw[show m+(j+1)=m+j+1 by omega,List.range_succ,List.filter_append,filter_range j h]
  have:p (m+j)=false:=by
   cases hp:p (m+j) with
   |false=>rfl
   |true=>have:=h _ hp;omega
  simp[this]
theorem listOf_cut {x:SState} {u:Int} (hl:x.next.length≤63) (h:∀a:Nat,has u (a:Int)=true→a<x.next.length):listOf 63 u=listOf x.next.length u:=by
 unfold listOf
 have:=filter_range (p:=fun a=>has u (a:Int)) (m:=x.next.length) (63- x.next.length) h
 rw[show x.next.length+(63- x.next.length)=63 by omega] at this
 rw[this]
theorem visit_cut {x:SState} {u:Int} (hl:x.next.length≤63) (h:∀a:Nat,has u (a:Int)=true→a<x.next.length) (l:List Int):visit l (cut x u)=visit l ((listOf 63 u).map fun a=>ix x.next a.toNat):=by
 unfold cut
 rw[visit_filter,listOf_cut hl h]
 unfold listOf
 rw[List.map_map]
 rfl
theorem visit_prefix:∀(ks l:List Int),l<+:visit l ks
 | [],l=>List.prefix_rfl
 |k::ks,l=>by
  rw[visit_foldl,List.foldl_cons]
  refine List.IsPrefix.trans ?_ (visit_prefix ks _)
  unfold visit1
  split
  ·exact List.prefix_append _ _
  ·exact List.prefix_rfl
theorem bq_step (s:SSpec) (i:Nat):bq s i<+:bq s (i+1):=by
 show _<+:(if _ then _ else _)
 split
 ·exact visit_prefix _ _
 ·exact List.prefix_rfl
theorem bq_prefix (s:SSpec) (i:Nat):∀j,bq s i<+:bq s (i+j)
 |0=>List.prefix_rfl
 |j+1=>(bq_prefix s i j).trans (bq_step s (i+j))
theorem bq_order {s:SSpec} (h:okSpec s) {i:Nat} (hi:i≤s.states.length):bq (solid s) i<+:order (solid s):=by
 have:=bq_prefix (solid s) i ((solid s).states.length- i)
 rw[solid_len] at this
 rw[show i+(s.states.length- i)=s.states.length by omega] at this
 unfold order
 rw[solid_len];exact this
theorem bq_end {s:SSpec} (h:okSpec s) {i:Nat} (hi:(bq (solid s) i).length≤i) (hn:i≤s.states.length):bq (solid s) i=order (solid s):=by
 have:=bq_stable hi (s.states.length- i)
 rw[show i+(s.states.length- i)=s.states.length by omega] at this
 unfold order
 rw[solid_len];exact this.symm
theorem bq_ok {s:SSpec} (h:okSpec s) (i:Nat):okQ s.states.length (bq (solid s) i):=by
 have:=okQ_bq (s:=solid s) (by rw[solid_len];exact h.few0) (fun k hk a ha=>by rw[solid_len] at hk ⊢;exact solid_bd h hk ha) i
 rw[solid_len] at this
 exact this
theorem bq_succ {s:SSpec} (h:okSpec s) {i:Nat} (hi:i<(bq (solid s) i).length):bq (solid s) (i+1)=visit (bq (solid s) i) ((listOf 63 (orAll (keep s (ix (bq (solid s) i) i).toNat))).map fun a=>ix (ix s.states (ix (bq (solid s) i) i).toNat).next a.toNat):=by
 have hb:=(bq_ok h i).1 i hi
 have hx:(ix (bq (solid s) i) i).toNat<s.states.length:=by omega
 show(if _ then _ else _)=_
 rw[if_pos hi,solid_at hx]
 have hok:=h.st _ hx
 have hn8:=h.n8
 exact visit_cut (by have:=hok.len;omega) (fun a ha=>(can_go h hx ha).1) _
theorem visit_mem {y:Int}:∀(ks l:List Int),y∈visit l ks→y∈l∨y∈ks
 | [],l,h=> .inl h
 |k::ks,l,h=>by
  rw[visit_foldl,List.foldl_cons] at h
  rcases visit_mem ks _ h with h|h
  ·unfold visit1 at h
   split at h
   ·rcases List.mem_append.1 h with h|h
    ·exact .inl h
    ·exact .inr (by simp at h;simp[h])
   ·exact .inl h
  ·exact .inr (by simp[h])
theorem bq_solid {s:SSpec} (h:okSpec s) (h0:ix (hollow s) 0=false):∀i,∀y∈bq (solid s) i,ix (hollow s) y.toNat=false
 |0,y,hy=>by
  have:y=0:=by simpa [bq] using hy
  subst this;exact h0
 |i+1,y,hy=>by
  by_cases hi:i<(bq (solid s) i).length
  ·rw[bq_succ h hi] at hy
   rcases visit_mem _ _ hy with hy|hy
   ·exact bq_solid h h0 i y hy
   ·obtain⟨a,ha,rfl⟩:=List.mem_map.1 hy
    obtain⟨a',rfl,_,hh⟩:=listOf_mem.1 ha
    have hb:=(bq_ok h i).1 i hi
    exact(can_go h (by omega) hh).2.2.2
  ·have e:bq (solid s) (i+1)=bq (solid s) i:=by
    show(if _ then _ else _)=_
    rw[if_neg hi]
   rw[e] at hy
   exact bq_solid h h0 i y hy
noncomputable def leftL (s:SSpec):List (Int × List Int):=if ix (hollow s) 0=true then [] else(order (solid s)).map fun x=>(x,keep s x.toNat)
theorem leftL_at {s:SSpec} (h:okSpec s) (h0:ix (hollow s) 0=false) {i:Nat} (hn:i≤s.states.length) (hi:i<(bq (solid s) i).length):(leftL s)[i]?=some (ix (bq (solid s) i) i,keep s (ix (bq (solid s) i) i).toNat):=by
 have hp:=bq_order h hn
 have hl:=hp.length_le
 unfold leftL
 rw[h0]
 rw[if_neg (by simp),List.getElem?_map,List.getElem?_eq_getElem (by omega),←ix_get (by omega),ix_prefix hp hi];rfl
theorem leftL_len {s:SSpec} (h0:ix (hollow s) 0=false):(leftL s).length=(order (solid s)).length:=by
 unfold leftL
 rw[h0];simp
end LeftM
end Go.Proofs.YtolpjmllmlahfaaDoor
namespace Go.Proofs.YtolpjmllmlahfaaDoor
open AL Go
set_option maxRecDepth 100000
set_option linter.all false
open ref01 ref03 ref04 ref06 prog prog2 prog3 prog4 prog6 Part Rungs LeftM
def leftE:Int × List Int→List AV:=fun p=> [int p.1,ints p.2]
attribute [local semireducible] andp any in
theorem andp_any7 {q:Prop} (hq:q) {w:World} {F:Fz} {v:Value}:(andp q any).p w F v:=⟨hq,trivial⟩
theorem marks_step {n:Nat} {l:List Int} {k:Nat} (hk:k<l.length) (h0:0≤ix l k):(marks n (l.take k)).set (ix l k).toNat true=marks n (l.take (k+1)):=by
 rw[marks_set h0,take_s hk]
theorem take_at {α:Type} {l:List α} {m:Nat} {x:α} (h:l[m]?=some x):l.take (m+1)=l.take m++ [x]:=by
 obtain⟨hm,rfl⟩:=List.getElem?_eq_some_iff.1 h
 rw[List.take_succ_eq_append_getElem hm]
theorem hol_false {s:SSpec} {x:Nat} (h:¬ix (hollow s) x=true):ix (hollow s) x=false:=by simpa using h
namespace T
theorem ent101:Ent Tryd.prog 101:=ent_of (by kernel_rfl)
theorem ent90:Ent Tryd.prog 90:=ent_of (by kernel_rfl)
theorem z72:ZeroIs Tryd.prog 72 [.slice none 0 0]:=zeroIs_of (by kernel_rfl)
theorem z4:ZeroIs Tryd.prog 4 [.bool false]:=zeroIs_of (by kernel_rfl)
theorem ent95:Ent Tryd.prog 95:=ent_of (by kernel_rfl)
theorem ent115:Ent Tryd.prog 115:=ent_of (by kernel_rfl)
end T
namespace prog7
theorem Hollows_ok (s:SSpec) (hs:okSpec s):
 Fn0 Tryd.prog 90 [spec s] (bls (hollow s)):=by
 refine fnI Tryd.func90 rfl rfl (fun w0 F0=> ?_)
 have hf1:=hs.few1;have hI:=rq_inv s s.states.length;have hrl:(rungs s).length≤s.states.length:=hI.len
 refine fcC (inhS 0 rfl) (fun hS0=> ?_)
 obtain⟨hsa0,hss0,hse0⟩:=spec_lens hS0
 refine sq (rg (bx (key:=1) (cs:= [sl 1 strE s.actions,sl 2 stateE s.states]) rfl fun b1=>(ag (nl (th (sq (rg (fP rfl T.fld25_1 (lP rfl rfl rfl T.one23 (fc (slenI 7 rfl) fun hm7=>(lnF rfl T.sl23 (mk (key:=9) (m:=s.states.length) (enc:=blE) (y:=false) rfl rfl T.mk72 (ex_cons ex_nil) (by unfold maxL;omega) (by unfold maxL;omega) fun v9=>(ag (nl (th (sq (sq (rg (lPA rfl rfl T.agg25 rfl (cal0 (φs:= [agg [sl 1 strE s.actions,sl 2 stateE s.states]]) (φ:=sl 1 intE (rungs s)) ⟨rfl,trivial⟩ (prog6.rungs_ok s (by assumption)) T.ent101 (fc (slenI 11 rfl) fun hm11=>(lnF rfl T.sl28 (mv (nl (th (bk ?_))))))))))))))))))))))))))
 have hI0_0:0≤(rungs s).length:=by
  first|omega|simp
 have hI0_1:(List.replicate s.states.length false)=marks s.states.length ((rungs s).take 0):=by
  rw[List.take_zero];apply List.ext_getElem?;intro j;simp[marks,List.getElem?_replicate];split<;>simp_all
 refine lp (κ:=Nat × (List Bool)) (fun p=> [(2,eqv (.slice none 0 0)),(3,osl 9 v9),(11,sl 1 intE (rungs s)),(12,int ((rungs s).length:Int)),(13,int (p.1:Int))]) (fun p=> [(1,cell b1 [sl 1 strE s.actions,sl 2 stateE s.states]),(9,own v9 4 1 blE p.2)]) (fun p=>(p.1≤(rungs s).length)∧(p.2=marks s.states.length ((rungs s).take p.1))) (fun p=>(rungs s).length- p.1) ⟨0,List.replicate s.states.length false⟩ ⟨hI0_0,hI0_1⟩ ⟨id,id,id,id,id,trivial⟩ ⟨⟨rfl,id⟩,⟨rfl,id⟩,trivial⟩ ?_
 intro⟨k,acc⟩ hG0
 obtain⟨hk0,hI0⟩:(k≤(rungs s).length)∧(acc=marks s.states.length ((rungs s).take k)):=hG0
 show Ct _ _ _ _ [(2,eqv (.slice none 0 0)),(3,osl 9 v9),(11,sl 1 intE (rungs s)),(12,int ((rungs s).length:Int)),(13,int (k:Int))] [(1,cell b1 [sl 1 strE s.actions,sl 2 stateE s.states]),(9,own v9 4 1 blE acc)] _
 refine sq (rg (bi rfl rfl b_lss (nl (th (sq ?_)))))
 refine cd rfl (fun hc0=> ?_) (fun hc0=> ?_)
 ·try simp at hc0
  have hob:=hI.bd _ (ix_mem (l:=rungs s) hc0)
  have hal:acc.length=s.states.length:=by rw[hI0];exact marks_len _ _
  refine sk (th (sq (bk (sq (rg (iF rfl rfl T.sl28 (by omega) (by first|exact gN (by omega)|exact gI (by omega) (by omega)) (lF rfl rfl T.one3 (ag (nl (th (rg (mv (mv (iO rfl rfl rfl T.sl72 (by omega) (by omega) (sO (φ:=bl true) rfl rfl rfl T.one4 (by first|exact gN (by omega)|exact gI (by omega) (by omega)) rfl (y':=true) rfl (nl (eb (th (rg (bi rfl rfl (b_add (by unfold I64;omega)) (mv (nl ?_))))))))))))))))))))))
  have hN0:(k+1)≤(rungs s).length:=by
   first|omega|simp_all
  have hN1:(acc.set ((ix (rungs s) k).toNat) true)=marks s.states.length ((rungs s).take (k+1)):=by
   rw[hI0];exact marks_step hc0 hob.1
  exact ln (⟨k+1,acc.set ((ix (rungs s) k).toNat) true⟩:Nat × (List Bool)) ⟨hN0,hN1⟩ (by first|omega|(dsimp only;omega)) ⟨id,id,id,id,id,trivial⟩ ⟨⟨rfl,id⟩,⟨rfl,id⟩,trivial⟩
 ·try simp at hc0
  refine ex (xt_ (xt_ (xb (th (sq (rg (mv (ag (nl (th (rt ?_)))))))))))
  refine fzA 9 2 rfl rfl ?_
  have hr0:acc=(hollow s):=by
   rw[hI0,show k=(rungs s).length by omega,List.take_length];exact hollow_rungs hs
  have hall:∀x0,acc=x0→resAV [sl 1 blE acc]=resAV [sl 1 blE x0]:=by rintro _ rfl;rfl
  exact rE () [.tmp 2] rfl [sl 1 blE acc] ⟨.tmp rfl,trivial⟩ (hall _ hr0) trivial (by first|exact .inr rfl|exact .inl rfl)
theorem Left_ok (s:SSpec):
 Fn0 Tryd.prog 98 [spec s] (clo 118 [fp [strs s.actions,sl 2 stateE s.states]]):=by
 refine fnI Tryd.func98 rfl rfl (fun w0 F0=> ?_)
 refine fcC (inhS 0 rfl) (fun hS0=> ?_)
 obtain⟨hsa0,hss0,hse0⟩:=spec_lens hS0
 refine sq (rg (bx (key:=1) (cs:= [sl 1 strE s.actions,sl 2 stateE s.states]) rfl fun b1=>(ag (nl (th (sq (rg (fzv 1 1 rfl rfl (mkf (ag (nl (th (rt ?_)))))))))))))
 exact rE () [.tmp 2] rfl [clo 118 [fp [sl 1 strE s.actions,sl 2 stateE s.states]]] ⟨.tmp rfl,trivial⟩ (rfl) trivial (by first|exact .inr rfl|exact .inl rfl)
theorem LeftIt (s:SSpec) (hs:okSpec s):
 It Tryd.prog 118 [fp [strs s.actions,sl 2 stateE s.states]] leftE (leftL s):=by
 intro y Y Z hlaw hz hY0
 refine fnI Tryd.func118 rfl rfl (fun w0 F0=> ?_)
 have hf0:=hs.few0;have hf1:=hs.few1;have hn8:=hs.n8;have hhl:=hollow_len s
 refine sq (rg (lFA rfl T.agg25 (Nat.le_of_ble_eq_true rfl) (cal0 (φs:= [agg [sl 1 strE s.actions,sl 2 stateE s.states]]) (φ:=sl 1 blE (hollow s)) ⟨rfl,trivial⟩ (prog7.Hollows_ok s (by assumption)) T.ent90 (al (key:=3) T.z72 (ex_cons (ex_nil)) fun b3=>(sP (φ:=sl 1 blE (hollow s)) rfl rfl rfl T.one72 rfl (nl (th (sq (sq (rg (lP rfl rfl rfl T.one72 (iF rfl rfl T.sl72 (by omega) (gK (k:=0) (by omega)) (lF rfl rfl T.one4 (nl (th ?_)))))))))))))))
 refine cd rfl (fun hc0=> ?_) (fun hc0=> ?_)
 ·try simp at hc0
  refine rt (rt_ ?_)
  exact r0 hz rfl (fun _=>andp_any7 (.inl (by unfold leftL;rw[if_pos hc0];exact hY0))) ⟨⟨rfl,id⟩,trivial⟩ (.inr rfl)
 ·try simp at hc0
  have h00:=hol_false (by rw[hc0];simp)
  refine sk (th (sq (rg (fF rfl T.fld25_1 (lF rfl rfl T.one23 (fc (slenI 22 rfl) fun hm22=>(lnF rfl T.sl23 (mk (key:=24) (m:=s.states.length) (enc:=blE) (y:=false) rfl rfl T.mk72 (ex_cons ex_nil) (by unfold maxL;omega) (by unfold maxL;omega) fun v24=>(al (key:=4) T.z72 (ex_cons (ex_nil)) fun b4=>(storePO rfl rfl rfl rfl T.one72 rfl (nl (th (sq (rg (lP rfl rfl rfl T.one72 (iO rfl rfl rfl T.sl72 (by omega) (by simp;omega) (sO (φ:=bl true) rfl rfl rfl T.one4 (gN (by simp;omega)) rfl (y':=true) rfl (nl (th (sq (rg (bsO 27 (enc:=intE) (xs:= [0]) (css:= [[int 0]]) T.mk28 ⟨rfl,rfl,p1 (φ:=int 0) rfl,trivial⟩ rfl rfl rfl rfl fun v27=>(al (key:=5) T.z28 (ex_cons (ex_nil)) fun b5=>(storePO rfl rfl rfl rfl T.one28 rfl (nl (th (sq (rg (ag (nl (th (bk ?_))))))))))))))))))))))))))))))))
  have hI0_0:([0]:List Int)=bq (solid s) 0∧((List.replicate s.states.length false).set 0 true)=marks s.states.length ([0]:List Int)∧Y 0 hz∧0≤([0]:List Int).length:=by
   exact⟨rfl,marks_zero _,hY0,Nat.zero_le _⟩
  refine lp (κ:=Nat × (List Bool) × Value × (List Int) × HA) (fun p=> [(0,eqv y),(1,fp [sl 1 strE s.actions,sl 2 stateE s.states]),(3,ptr 3 b3 0),(4,ptr 4 b4 0),(5,ptr 5 b5 0),(6,int (p.1:Int))]) (fun p=> [(0,p.2.2.2.2),(3,cell b3 [sl 1 blE (hollow s)]),(4,cell b4 [osl 24 v24]),(5,cell b5 [osl 27 p.2.2.1]),(24,own v24 4 1 blE p.2.1),(27,own p.2.2.1 3 1 intE p.2.2.2.1)]) (fun p=>p.2.2.2.1=bq (solid s) p.1∧p.2.1=marks s.states.length p.2.2.2.1∧Y p.1 p.2.2.2.2∧p.1≤p.2.2.2.1.length) (fun p=>s.states.length- p.1) ⟨0,(List.replicate s.states.length false).set 0 true,v27,([0]:List Int),hz⟩ hI0_0 ⟨id,id,id,id,id,id,trivial⟩ ⟨⟨rfl,id⟩,⟨rfl,id⟩,⟨rfl,id⟩,⟨rfl,id⟩,⟨rfl,id⟩,⟨rfl,id⟩,trivial⟩ ?_
  intro⟨i,met,u5,ord,hh⟩ hG0
  have hI0:ord=bq (solid s) i∧met=marks s.states.length ord∧Y i hh∧i≤ord.length:=hG0
  show Ct _ _ _ _ [(0,eqv y),(1,fp [sl 1 strE s.actions,sl 2 stateE s.states]),(3,ptr 3 b3 0),(4,ptr 4 b4 0),(5,ptr 5 b5 0),(6,int (i:Int))] [(0,hh),(3,cell b3 [sl 1 blE (hollow s)]),(4,cell b4 [osl 24 v24]),(5,cell b5 [osl 27 u5]),(24,own v24 4 1 blE met),(27,own u5 3 1 intE ord)] _
  have hoq:=bq_ok hs i
  rw[←hI0.1] at hoq
  have hol:=hoq.le
  have hml:met.length=s.states.length:=by rw[hI0.2.1];exact marks_len _ _
  refine sq (sq (rg (mv (lP rfl rfl rfl T.one28 (lnO rfl rfl T.sl28 (bi rfl rfl b_lss (nl (th ?_))))))))
  refine cd rfl (fun hc1=> ?_) (fun hc1=> ?_)
  ·try simp at hc1
   have hob:=hoq.1 i hc1
   have hox:=hs.st (ix ord i).toNat (by omega)
   have hxn:(ix ord i).toNat<s.states.length:=by omega
   refine sk (th (sq (bk (sq ?_))))
   refine drH (nh:=10) [0,1,0,0,12,28,63,127,0,511] [(none,[]),(none,[]),(none,[5]),(none,[]),(none,[27]),(none,[27]),(none,[]),(none,[]),(some 7,[]),(some 7,[7])] T.mixed (by kernel_rfl) (by kernel_rfl) ?_
   refine stv (d:=34) (fun β0=>fp [sl 2 stateE s.states]) [] rfl (fun β β' hb=>rfl) (fun β0 _ _ _ _ gq gh kq=>fF (gq.1.trans rfl) T.fld25_1 kq) ?_
   refine stv (d:=35) (fun β0=>sl 2 stateE s.states) [] rfl (fun β β' hb=>rfl) (fun β0 _ _ _ _ gq gh kq=>lF (gq.1.trans rfl) rfl T.one23 kq) ?_
   refine stv (d:=36) (fun β0=>osl 27 u5) [5] rfl (fun β β' hb=>rfl) (fun β0 _ _ _ _ gq gh kq=>lP (gq.1.trans rfl) (gh.1.trans rfl) rfl T.one28 kq) ?_
   refine stv (d:=37) (fun β0=>int (i:Int)) [] rfl (fun β β' hb=>rfl) (fun β0 _ _ _ _ gq gh kq=>mv' (gq.1.trans rfl) kq) ?_
   refine stv (d:=38) (fun β0=>eptr 27 u5 1 i 0) [27] rfl (fun β β' hb=>rfl) (fun β0 _ _ _ _ gq gh kq=>iO (gq.1.trans rfl) (gh.1.trans rfl) (gq.2.1.trans rfl) T.sl28 (by omega) (by omega) kq) ?_
   refine stv (d:=39) (fun β0=>int (ix ord i)) [27] rfl (fun β β' hb=>rfl) (fun β0 _ _ _ _ gq gh kq=>lO (gq.1.trans rfl) (gh.1.trans rfl) (by first|exact gN (by omega)|exact gI (by omega) (by omega)) rfl T.one3 kq) ?_
   refine stv (d:=40) (fun β0=>fp [sl 1 intE ((ix s.states ((ix ord i).toNat)).accept),sl 1 intE ((ix s.states ((ix ord i).toNat)).next)]) [] rfl (fun β β' hb=>rfl) (fun β0 _ _ _ _ gq gh kq=>iF (gq.1.trans rfl) (gq.2.1.trans rfl) T.sl23 (by omega) (by first|exact gN (by omega)|exact gI (by omega) (by omega)) kq) ?_
   refine stv (d:=41) (fun β0=>agg [sl 1 intE ((ix s.states ((ix ord i).toNat)).accept),sl 1 intE ((ix s.states ((ix ord i).toNat)).next)]) [] rfl (fun β β' hb=>rfl) (fun β0 _ _ _ _ gq gh kq=>lFA (gq.1.trans rfl) T.agg69 (Nat.le_of_ble_eq_true rfl) kq) ?_
   refine sta 7 T.z69 (ex_cons (ex_cons (ex_nil))) ?_
   refine stw 7 (fun β0=>cell (gbk (β0 8)) [sl 1 intE ((ix s.states ((ix ord i).toNat)).accept),sl 1 intE ((ix s.states ((ix ord i).toNat)).next)]) [7] rfl (fun β β' hb=>by first|rw[hb 8 rfl]|(dsimp only;rw[hb 8 rfl])) (fun β0 _ _ _ _ gq gh kq=>sPA (cs':= [sl 1 intE ((ix s.states ((ix ord i).toNat)).accept),sl 1 intE ((ix s.states ((ix ord i).toNat)).next)]) (gq.1.trans rfl) (gh.1.trans rfl) (gq.2.1.trans rfl) T.agg69 rfl rfl kq) ?_
   refine pnH fun β0=>(nl (th (sq (rg (nw 8 3 1 intE (ag (rtg (key:=8) 8 rfl (nl (th (sq (rg (ag (nl (th (sq (sq (rg (fP rfl T.fld69_0 (lP rfl rfl rfl T.one28 (fc (slenI 43 rfl) fun hm43=>(lnF rfl T.sl28 (mv (nl (th (bk ?_)))))))))))))))))))))))))
   have hI1_0:0≤((ix s.states ((ix ord i).toNat)).accept).length:=by
    first|omega|simp
   have hI1_1:([]:List Int)=((ix s.states (ix ord i).toNat).accept.take 0).filter (fun t=> !falls (ix s.states (ix ord i).toNat) t (hollow s))∧(0:Int)=orAll ([]:List Int)∧0≤(0:Int)∧(0:Int)<256∧([]:List Int).length≤0:=by
    exact⟨by simp,rfl,by omega,by omega,by simp⟩
   refine lp (κ:=Nat × Value × (List Int) × Int) (fun p=> [(0,eqv y),(1,fp [sl 1 strE s.actions,sl 2 stateE s.states]),(3,ptr 3 b3 0),(4,ptr 4 b4 0),(5,ptr 5 b5 0),(6,int (i:Int)),(7,ptr 7 (gbk (β0 8)) 0),(8,osl 8 p.2.1),(9,int p.2.2.2),(43,sl 1 intE ((ix s.states ((ix ord i).toNat)).accept)),(44,int (((ix s.states ((ix ord i).toNat)).accept).length:Int)),(45,int (p.1:Int))]) (fun p=> [(0,hh),(3,cell b3 [sl 1 blE (hollow s)]),(4,cell b4 [osl 24 v24]),(5,cell b5 [osl 27 u5]),(7,cell (gbk (β0 8)) [sl 1 intE ((ix s.states ((ix ord i).toNat)).accept),sl 1 intE ((ix s.states ((ix ord i).toNat)).next)]),(8,own p.2.1 3 1 intE p.2.2.1),(24,own v24 4 1 blE met),(27,own u5 3 1 intE ord)]) (fun p=>(p.1≤((ix s.states ((ix ord i).toNat)).accept).length)∧(p.2.2.1=((ix s.states (ix ord i).toNat).accept.take p.1).filter (fun t=> !falls (ix s.states (ix ord i).toNat) t (hollow s))∧p.2.2.2=orAll p.2.2.1∧0≤p.2.2.2∧p.2.2.2<256∧p.2.2.1.length≤p.1)) (fun p=>((ix s.states ((ix ord i).toNat)).accept).length- p.1) ⟨0,(.slice none 0 0),([]:List Int),(0:Int)⟩ ⟨hI1_0,hI1_1⟩ ⟨id,id,id,id,id,id,id,id,id,id,id,id,trivial⟩ ⟨⟨rfl,id⟩,⟨rfl,id⟩,⟨rfl,id⟩,⟨rfl,id⟩,⟨rfl,id⟩,⟨rfl,id⟩,⟨rfl,id⟩,⟨rfl,id⟩,trivial⟩ ?_
   intro⟨k1,u8,sets,cn⟩ hG1
   obtain⟨hk1,hI1⟩:(k1≤((ix s.states ((ix ord i).toNat)).accept).length)∧(sets=((ix s.states (ix ord i).toNat).accept.take k1).filter (fun t=> !falls (ix s.states (ix ord i).toNat) t (hollow s))∧cn=orAll sets∧0≤cn∧cn<256∧sets.length≤k1):=hG1
   show Ct _ _ _ _ [(0,eqv y),(1,fp [sl 1 strE s.actions,sl 2 stateE s.states]),(3,ptr 3 b3 0),(4,ptr 4 b4 0),(5,ptr 5 b5 0),(6,int (i:Int)),(7,ptr 7 (gbk (β0 8)) 0),(8,osl 8 u8),(9,int cn),(43,sl 1 intE ((ix s.states ((ix ord i).toNat)).accept)),(44,int (((ix s.states ((ix ord i).toNat)).accept).length:Int)),(45,int (k1:Int))] [(0,hh),(3,cell b3 [sl 1 blE (hollow s)]),(4,cell b4 [osl 24 v24]),(5,cell b5 [osl 27 u5]),(7,cell (gbk (β0 8)) [sl 1 intE ((ix s.states ((ix ord i).toNat)).accept),sl 1 intE ((ix s.states ((ix ord i).toNat)).next)]),(8,own u8 3 1 intE sets),(24,own v24 4 1 blE met),(27,own u5 3 1 intE ord)] _
   have hacl:=hox.acl
   refine sq (rg (bi rfl rfl b_lss (nl (th (sq ?_)))))
   refine cd rfl (fun hc2=> ?_) (fun hc2=> ?_)
   ·try simp at hc2
    have hac:=hox.ac k1 (by omega)
    refine sk (th (sq (bk (sq (rg (iF rfl rfl T.sl28 (by omega) (by first|exact gN (by omega)|exact gI (by omega) (by omega)) (lF rfl rfl T.one3 (ag (nl (th (sq (rg (al (key:=12) T.z4 (ex_cons (ex_nil)) fun b12=>(sP (φ:=bl true) rfl rfl rfl T.one4 rfl (nl (th (sq (sq (rg (mv (cal0 (φs:= [int (ix ((ix s.states ((ix ord i).toNat)).accept) k1)]) (φ:=clo 115 [fp [int (ix ((ix s.states ((ix ord i).toNat)).accept) k1)]]) ⟨rfl,trivial⟩ (prog3.In_ok (ix ((ix s.states ((ix ord i).toNat)).accept) k1)) T.ent95 (nl (th (bk ?_))))))))))))))))))))))))
    have hR0:true=((listOf 63 (ix (ix s.states (ix ord i).toNat).accept k1)).take 0).all (fun a=> !ix (hollow s) (ix (ix s.states (ix ord i).toNat).next a.toNat).toNat):=by
     simp
    refine rf (κ:=Bool) 900 (fun p=> [(0,hh),(3,cell b3 [sl 1 blE (hollow s)]),(4,cell b4 [osl 24 v24]),(5,cell b5 [osl 27 u5]),(7,cell (gbk (β0 8)) [sl 1 intE ((ix s.states ((ix ord i).toNat)).accept),sl 1 intE ((ix s.states ((ix ord i).toNat)).next)]),(8,own u8 3 1 intE sets),(12,cell b12 [bl p]),(24,own v24 4 1 blE met),(27,own u5 3 1 intE ord)]) (fun iR p=>p=((listOf 63 (ix (ix s.states (ix ord i).toNat).accept k1)).take iR).all (fun a=> !ix (hollow s) (ix (ix s.states (ix ord i).toNat).next a.toNat).toNat)) (fun c p=>False) rfl (InIt (ix (ix s.states (ix ord i).toNat).accept k1) (by omega) (by omega)) T.ent115 rfl (fun _=>rfl) (fun _=>rfl) true hR0 ⟨⟨rfl,id⟩,⟨rfl,id⟩,⟨rfl,id⟩,⟨rfl,id⟩,⟨rfl,id⟩,⟨rfl,id⟩,⟨rfl,id⟩,⟨rfl,id⟩,⟨rfl,id⟩,trivial⟩ ?_ ?_ (fun k h=>h.elim) (fun id k h=>h.elim) (fun c k h=>h.elim)
    ·intro m0 fi x0 hG0 hx0 l R w1 M1 F1 hRd
     have hR0:fi=((listOf 63 (ix (ix s.states (ix ord i).toNat).accept k1)).take m0).all (fun a=> !ix (hollow s) (ix (ix s.states (ix ord i).toNat).next a.toNat).toNat):=hG0
     obtain⟨a,rfl,ha63,hha⟩:=listOf_get hx0
     have hgo:=hox.go k1 (by omega) a hha
     have hnx:=hox.nx a hgo.1
     have hxl:=hox.len
     refine rg (ag (nl (aq hRd rfl (bk (dr (nh:=12) [0,1,3,3,11,3,59,123,255,511,1023,2047,4095] T.mixed (by kernel_rfl) ?_)))))
     refine st_ rfl (fun _ _ _ gq kq=>lP (gq.1.trans rfl) rfl rfl T.one4 kq) ?_
     refine st_ rfl (fun _ _ _ gq kq=>mv' (gq.1.trans rfl) kq) ?_
     refine sg_ (φ:=sl 1 blE (hollow s)) rfl rfl rfl rfl (List.mem_of_elem_eq_true rfl) (fun hgd=> ?_) ?_
     ·have hgd':=hgd
      try simp at hgd'
      exact fun _ _ _ gq kq=>lP (gq.1.trans rfl) rfl rfl T.one72 kq
     refine sg_ (φ:=ptr 7 (gbk (β0 8)) 1) rfl rfl rfl rfl (List.mem_of_elem_eq_true rfl) (fun hgd=> ?_) ?_
     ·have hgd':=hgd
      try simp at hgd'
      exact fun _ _ _ gq kq=>fP (gq.1.trans rfl) T.fld69_1 kq
     refine sg_ (φ:=sl 1 intE ((ix s.states ((ix ord i).toNat)).next)) rfl rfl rfl rfl (List.mem_of_elem_eq_true rfl) (fun hgd=> ?_) ?_
     ·have hgd':=hgd
      try simp at hgd'
      exact fun _ _ _ gq kq=>lP (gq.1.trans (gif_t hgd)) rfl rfl T.one28 kq
     refine sg_ (φ:=int (a:Int)) rfl rfl rfl rfl (List.mem_of_elem_eq_true rfl) (fun hgd=> ?_) ?_
     ·have hgd':=hgd
      try simp at hgd'
      exact fun _ _ _ gq kq=>mv' (gq.1.trans rfl) kq
     refine sg_ (φ:=fp [int (ix ((ix s.states ((ix ord i).toNat)).next) a)]) rfl rfl rfl rfl (List.mem_of_elem_eq_true rfl) (fun hgd=> ?_) ?_
     ·have hgd':=hgd
      try simp at hgd'
      exact fun _ _ _ gq kq=>iF (gq.1.trans (gif_t hgd)) (gq.2.1.trans (gif_t hgd)) T.sl28 (by omega) (by first|exact gN (by omega)|exact gI (by omega) (by omega)) kq
     refine sg_ (φ:=int (ix ((ix s.states ((ix ord i).toNat)).next) a)) rfl rfl rfl rfl (List.mem_of_elem_eq_true rfl) (fun hgd=> ?_) ?_
     ·have hgd':=hgd
      try simp at hgd'
      exact fun _ _ _ gq kq=>lF (gq.1.trans (gif_t hgd)) rfl T.one3 kq
     refine sg_ (φ:=fp [bl (ix (hollow s) ((ix ((ix s.states ((ix ord i).toNat)).next) a).toNat))]) rfl rfl rfl rfl (List.mem_of_elem_eq_true rfl) (fun hgd=> ?_) ?_
     ·have hgd':=hgd
      try simp at hgd'
      exact fun _ _ _ gq kq=>iF (gq.1.trans (gif_t hgd)) (gq.2.1.trans (gif_t hgd)) T.sl72 (by omega) (by first|exact gN (by omega)|exact gI (by omega) (by omega)) kq
     refine sg_ (φ:=bl (ix (hollow s) ((ix ((ix s.states ((ix ord i).toNat)).next) a).toNat))) rfl rfl rfl rfl (List.mem_of_elem_eq_true rfl) (fun hgd=> ?_) ?_
     ·have hgd':=hgd
      try simp at hgd'
      exact fun _ _ _ gq kq=>lF (gq.1.trans (gif_t hgd)) rfl T.one4 kq
     refine sg_ (φ:=bl (!(ix (hollow s) ((ix ((ix s.states ((ix ord i).toNat)).next) a).toNat)))) rfl rfl rfl rfl (List.mem_of_elem_eq_true rfl) (fun hgd=> ?_) ?_
     ·have hgd':=hgd
      try simp at hgd'
      exact fun _ _ _ gq kq=>no (gq.1.trans (gif_t hgd)) kq
     refine st_ rfl (fun _ _ _ gq kq=>pk (gq.1.trans rfl) (pk_and (x:= .tmp 53) (gq.1.trans rfl) (gq.2.1.trans rfl) rfl) kq) ?_
     refine pn (sP (φ:=bl (fi&&(!(ix (hollow s) ((ix ((ix s.states ((ix ord i).toNat)).next) a).toNat))))) rfl rfl rfl T.one4 rfl (nl (eb ?_)))
     have hN0:(fi&&(!(ix (hollow s) ((ix ((ix s.states ((ix ord i).toNat)).next) a).toNat))))=((listOf 63 (ix (ix s.states (ix ord i).toNat).accept k1)).take (m0+1)).all (fun a=> !ix (hollow s) (ix (ix s.states (ix ord i).toNat).next a.toNat).toNat):=by
      rw[fine_snoc hx0,hR0];simp
     exact rqN (fi&&(!(ix (hollow s) ((ix ((ix s.states ((ix ord i).toNat)).next) a).toNat)))) hN0 ⟨⟨rfl,id⟩,⟨rfl,id⟩,⟨rfl,id⟩,⟨rfl,id⟩,⟨rfl,id⟩,⟨rfl,id⟩,⟨rfl,id⟩,⟨rfl,id⟩,⟨rfl,id⟩,⟨rfl,id⟩,trivial⟩
    ·intro fi hG0
     have hR0:fi=((listOf 63 (ix (ix s.states (ix ord i).toNat).accept k1)).take ((listOf 63 (ix (ix s.states (ix ord i).toNat).accept k1)).length)).all (fun a=> !ix (hollow s) (ix (ix s.states (ix ord i).toNat).next a.toNat).toNat):=hG0
     refine eb (th (sq (rg (lP rfl rfl rfl T.one4 (nl (th ?_))))))
     refine cd rfl (fun hc3=> ?_) (fun hc3=> ?_)
     ·try simp at hc3
      refine sq (rg (mv (mv (bsE (enc:=intE) (xs:= [(ix ((ix s.states ((ix ord i).toNat)).accept) k1)]) (css:= [[int (ix ((ix s.states ((ix ord i).toNat)).accept) k1)]]) T.mk28 ⟨rfl,rfl,p1 (φ:=int (ix ((ix s.states ((ix ord i).toNat)).accept) k1)) rfl,trivial⟩ rfl rfl rfl rfl (ap (key:=8) (zs:= [(ix ((ix s.states ((ix ord i).toNat)).accept) k1)]) osl_eq rfl rfl rfl T.mk28 (by unfold maxL at*;simp;omega) (by unfold maxL at*;simp;omega) fun v68=>(ag (nl (th (rg (mv (mv (bi rfl rfl (b_orI (by omega) (by omega) (by omega) (by omega)) (ag (nl (eb (th (rg (bi rfl rfl (b_add (by unfold I64;omega)) (mv (nl ?_))))))))))))))))))))
      have hN0:(k1+1)≤((ix s.states ((ix ord i).toNat)).accept).length:=by
       first|omega|simp_all
      have hN1:(sets++ [(ix ((ix s.states ((ix ord i).toNat)).accept) k1)])=((ix s.states (ix ord i).toNat).accept.take (k1+1)).filter (fun t=> !falls (ix s.states (ix ord i).toNat) t (hollow s))∧((cn.toNat|||((ix ((ix s.states ((ix ord i).toNat)).accept) k1).toNat):Nat):Int)=orAll (sets++ [(ix ((ix s.states ((ix ord i).toNat)).accept) k1)])∧0≤((cn.toNat|||((ix ((ix s.states ((ix ord i).toNat)).accept) k1).toNat):Nat):Int)∧((cn.toNat|||((ix ((ix s.states ((ix ord i).toNat)).accept) k1).toNat):Nat):Int)<256∧(sets++ [(ix ((ix s.states ((ix ord i).toNat)).accept) k1)]).length≤(k1+1):=by
       have hfi:falls (ix s.states (ix ord i).toNat) (ix (ix s.states (ix ord i).toNat).accept k1) (hollow s)=false:=by
                have h1:fi=fine (ix s.states (ix ord i).toNat) (ix (ix s.states (ix ord i).toNat).accept k1) (hollow s):=by rw[hR0,List.take_length];rfl
                rw[fine_eq hox hn8 (ix_mem (by omega)),hc3] at h1;simpa using h1.symm
       refine⟨?_,?_,by omega,or_lt256 hI1.2.2.2.1 hac.2,by simp;omega⟩
       ·rw[filter_take_succ (by omega),hI1.1];simp[hfi]
       ·rw[orAll_snoc,←hI1.2.1]
      exact ln (⟨k1+1,v68,sets++ [(ix ((ix s.states ((ix ord i).toNat)).accept) k1)],((cn.toNat|||((ix ((ix s.states ((ix ord i).toNat)).accept) k1).toNat):Nat):Int)⟩:Nat × Value × (List Int) × Int) ⟨hN0,hN1⟩ (by first|omega|(dsimp only;omega)) ⟨id,id,id,id,id,id,id,id,id,id,id,id,trivial⟩ ⟨⟨rfl,id⟩,⟨rfl,id⟩,⟨rfl,id⟩,⟨rfl,id⟩,⟨rfl,id⟩,⟨rfl,id⟩,⟨rfl,id⟩,⟨rfl,id⟩,trivial⟩
     ·try simp at hc3
      refine sk (eb (th (rg (bi rfl rfl (b_add (by unfold I64;omega)) (mv (nl ?_))))))
      have hN0:(k1+1)≤((ix s.states ((ix ord i).toNat)).accept).length:=by
       first|omega|simp_all
      have hN1:sets=((ix s.states (ix ord i).toNat).accept.take (k1+1)).filter (fun t=> !falls (ix s.states (ix ord i).toNat) t (hollow s))∧cn=orAll sets∧0≤cn∧cn<256∧sets.length≤(k1+1):=by
       have hfi:falls (ix s.states (ix ord i).toNat) (ix (ix s.states (ix ord i).toNat).accept k1) (hollow s)=true:=by
                have h1:fi=fine (ix s.states (ix ord i).toNat) (ix (ix s.states (ix ord i).toNat).accept k1) (hollow s):=by rw[hR0,List.take_length];rfl
                rw[fine_eq hox hn8 (ix_mem (by omega)),hc3] at h1;simpa using h1.symm
       refine⟨?_,hI1.2.1,hI1.2.2.1,hI1.2.2.2.1,by omega⟩
       rw[filter_take_succ (by omega),hI1.1];simp[hfi]
      exact ln (⟨k1+1,u8,sets,cn⟩:Nat × Value × (List Int) × Int) ⟨hN0,hN1⟩ (by first|omega|(dsimp only;omega)) ⟨id,id,id,id,id,id,id,id,id,id,id,id,trivial⟩ ⟨⟨rfl,id⟩,⟨rfl,id⟩,⟨rfl,id⟩,⟨rfl,id⟩,⟨rfl,id⟩,⟨rfl,id⟩,⟨rfl,id⟩,⟨rfl,id⟩,trivial⟩
   ·try simp at hc2
    have hnh:=bq_solid hs h00 i (ix ord i) (by rw[←hI0.1];exact ix_mem hc1)
    have hsets:sets=keep s (ix ord i).toNat:=by rw[keep_filter hnh,hI1.1,show k1=(ix s.states (ix ord i).toNat).accept.length by omega,List.take_length]
    have hcn:cn=orAll (keep s (ix ord i).toNat):=by rw[hI1.2.1,hsets]
    refine ex (xt_ (xt_ (xb (th (sq (sq (rg (mv (cal0 (φs:= [int cn]) (φ:=clo 115 [fp [int cn]]) ⟨rfl,trivial⟩ (prog3.In_ok cn) T.ent95 (nl (th (bk ?_))))))))))))
    have hR1:ord=visit ord (((listOf 63 cn).take 0).map fun a=>ix (ix s.states (ix ord i).toNat).next a.toNat)∧met=marks s.states.length ord∧okQ s.states.length ord:=by
     exact⟨by simp[visit],hI0.2.1,hoq⟩
    refine rf (κ:=(List Bool) × Value × (List Int)) 901 (fun p=> [(0,hh),(3,cell b3 [sl 1 blE (hollow s)]),(4,cell b4 [osl 24 v24]),(5,cell b5 [osl 27 p.2.1]),(7,cell (gbk (β0 8)) [sl 1 intE ((ix s.states ((ix ord i).toNat)).accept),sl 1 intE ((ix s.states ((ix ord i).toNat)).next)]),(8,own u8 3 1 intE sets),(24,own v24 4 1 blE p.1),(27,own p.2.1 3 1 intE p.2.2)]) (fun iR p=>p.2.2=visit ord (((listOf 63 cn).take iR).map fun a=>ix (ix s.states (ix ord i).toNat).next a.toNat)∧p.1=marks s.states.length p.2.2∧okQ s.states.length p.2.2) (fun c p=>False) rfl (InIt cn (by omega) (by omega)) T.ent115 rfl (fun _=>rfl) (fun _=>rfl) ⟨met,u5,ord⟩ hR1 ⟨⟨rfl,id⟩,⟨rfl,id⟩,⟨rfl,id⟩,⟨rfl,id⟩,⟨rfl,id⟩,⟨rfl,id⟩,⟨rfl,id⟩,⟨rfl,id⟩,trivial⟩ ?_ ?_ (fun k h=>h.elim) (fun id k h=>h.elim) (fun c k h=>h.elim)
    ·intro m1 ⟨met2,u52,ord2⟩ x1 hG1 hx1 l R w1 M1 F1 hRd
     have hR1:ord2=visit ord (((listOf 63 cn).take m1).map fun a=>ix (ix s.states (ix ord i).toNat).next a.toNat)∧met2=marks s.states.length ord2∧okQ s.states.length ord2:=hG1
     show Ct _ _ _ _ _ ((901,obj l (.loop R)):: [(0,hh),(3,cell b3 [sl 1 blE (hollow s)]),(4,cell b4 [osl 24 v24]),(5,cell b5 [osl 27 u52]),(7,cell (gbk (β0 8)) [sl 1 intE ((ix s.states ((ix ord i).toNat)).accept),sl 1 intE ((ix s.states ((ix ord i).toNat)).next)]),(8,own u8 3 1 intE sets),(24,own v24 4 1 blE met2),(27,own u52 3 1 intE ord2)]) _
     obtain⟨a,rfl,ha63,hha⟩:=listOf_get hx1
     have hgo:=can_go hs hxn (by rw[←hcn];exact hha)
     have hol2:=hR1.2.2.le
     have hml2:met2.length=s.states.length:=by rw[hR1.2.1];exact marks_len _ _
     refine rg (ag (nl (aq hRd rfl (bk (sq (rg (fP rfl T.fld69_1 (lP rfl rfl rfl T.one28 (mv (iF rfl rfl T.sl28 (by omega) (by first|exact gN (by omega)|exact gI (by omega) (by omega)) (lF rfl rfl T.one3 (ag (nl (th (sq (rg (lP rfl rfl rfl T.one72 (mv (iO rfl rfl rfl T.sl72 (by omega) (by omega) (lO rfl rfl (by first|exact gN (by omega)|exact gI (by omega) (by omega)) rfl T.one4 (no rfl (nl (th ?_)))))))))))))))))))))))
     refine cd rfl (fun hc4=> ?_) (fun hc4=> ?_)
     ·try simp at hc4
      refine sq (rg (lP rfl rfl rfl T.one72 (mv (iO rfl rfl rfl T.sl72 (by omega) (by omega) (sO (φ:=bl true) rfl rfl rfl T.one4 (by first|exact gN (by omega)|exact gI (by omega) (by omega)) rfl (y':=true) rfl (nl (th (rg (lP rfl rfl rfl T.one28 (mv (bsE (enc:=intE) (xs:= [(ix ((ix s.states ((ix ord i).toNat)).next) a)]) (css:= [[int (ix ((ix s.states ((ix ord i).toNat)).next) a)]]) T.mk28 ⟨rfl,rfl,p1 (φ:=int (ix ((ix s.states ((ix ord i).toNat)).next) a)) rfl,trivial⟩ rfl rfl rfl rfl (ap (key:=27) (zs:= [(ix ((ix s.states ((ix ord i).toNat)).next) a)]) osl_eq rfl rfl rfl T.mk28 (by unfold maxL at*;simp;omega) (by unfold maxL at*;simp;omega) fun v92=>(storePO rfl rfl rfl rfl T.one28 rfl (nl (eb ?_)))))))))))))))
      have hN0:(ord2++ [(ix ((ix s.states ((ix ord i).toNat)).next) a)])=visit ord (((listOf 63 cn).take (m1+1)).map fun a=>ix (ix s.states (ix ord i).toNat).next a.toNat)∧(met2.set ((ix ((ix s.states ((ix ord i).toNat)).next) a).toNat) true)=marks s.states.length (ord2++ [(ix ((ix s.states ((ix ord i).toNat)).next) a)])∧okQ s.states.length (ord2++ [(ix ((ix s.states ((ix ord i).toNat)).next) a)]):=by
       have hcc:ord2.contains (ix (ix s.states (ix ord i).toNat).next a)=false:=by
                rw[hR1.2.1,marks_ix (by omega),Int.toNat_of_nonneg hgo.2.1] at hc4;exact hc4
       refine⟨?_,?_,okQ_snoc hR1.2.2 hgo.2.1 hgo.2.2.1 hcc⟩
       ·rw[take_at hx1,List.map_append,List.map_cons,List.map_nil,visit_snoc,←hR1.1,Int.toNat_natCast,if_pos (by simp only [hcc];simpa using hgo.2.1)]
       ·rw[hR1.2.1,marks_set hgo.2.1]
      exact rqN ⟨met2.set ((ix ((ix s.states ((ix ord i).toNat)).next) a).toNat) true,v92,ord2++ [(ix ((ix s.states ((ix ord i).toNat)).next) a)]⟩ hN0 ⟨⟨rfl,id⟩,⟨rfl,id⟩,⟨rfl,id⟩,⟨rfl,id⟩,⟨rfl,id⟩,⟨rfl,id⟩,⟨rfl,id⟩,⟨rfl,id⟩,⟨rfl,id⟩,trivial⟩
     ·try simp at hc4
      refine sk (eb ?_)
      have hN0:ord2=visit ord (((listOf 63 cn).take (m1+1)).map fun a=>ix (ix s.states (ix ord i).toNat).next a.toNat)∧met2=marks s.states.length ord2∧okQ s.states.length ord2:=by
       have hcc:ord2.contains (ix (ix s.states (ix ord i).toNat).next a)=true:=by
                rw[hR1.2.1,marks_ix (by omega),Int.toNat_of_nonneg hgo.2.1] at hc4;exact hc4
       refine⟨?_,hR1.2.1,hR1.2.2⟩
       rw[take_at hx1,List.map_append,List.map_cons,List.map_nil,visit_snoc,←hR1.1,Int.toNat_natCast,if_neg (by simp only [hcc];simp)]
      exact rqN ⟨met2,u52,ord2⟩ hN0 ⟨⟨rfl,id⟩,⟨rfl,id⟩,⟨rfl,id⟩,⟨rfl,id⟩,⟨rfl,id⟩,⟨rfl,id⟩,⟨rfl,id⟩,⟨rfl,id⟩,⟨rfl,id⟩,trivial⟩
    ·intro⟨met2,u52,ord2⟩ hG1
     have hR1:ord2=visit ord (((listOf 63 cn).take ((listOf 63 cn).length)).map fun a=>ix (ix s.states (ix ord i).toNat).next a.toNat)∧met2=marks s.states.length ord2∧okQ s.states.length ord2:=hG1
     show At _ _ _ _ [(0,hh),(3,cell b3 [sl 1 blE (hollow s)]),(4,cell b4 [osl 24 v24]),(5,cell b5 [osl 27 u52]),(7,cell (gbk (β0 8)) [sl 1 intE ((ix s.states ((ix ord i).toNat)).accept),sl 1 intE ((ix s.states ((ix ord i).toNat)).next)]),(8,own u8 3 1 intE sets),(24,own v24 4 1 blE met2),(27,own u52 3 1 intE ord2)]
     refine eb (th (sq (rg ?_)))
     have hor:=hR1.1
     rw[List.take_length] at hor
     have ho2:ord2=bq (solid s) (i+1):=by rw[bq_succ hs (by rw[←hI0.1];exact hc1),←hI0.1,←hcn,hor]
     have hpx:ord<+:ord2:=by rw[hor];exact visit_prefix _ _
     have hix:ix ord2 i=ix ord i:=ix_prefix hpx hc1
     have hpl:=hpx.length_le
     have hla:=leftL_at hs h00 (i:=i) (by omega) (by rw[←hI0.1];exact hc1)
     rw[←hI0.1] at hla
     have hol3:=hR1.2.2.le
     refine mv (lP rfl rfl rfl T.one28 (mv (iO rfl rfl rfl T.sl28 (by omega) (by omega) (lO rfl rfl (by first|exact gN (by omega)|exact gI (by omega) (by omega)) rfl T.one3 (mv (fz 8 98 rfl rfl (callV (Hi:= [(0,hh)]) rfl (by show FnV _ _ [int (ix ord2 i),ints sets] _ _ _;rw[hix,hsets];exact hlaw i hh (ix ord i,keep s (ix ord i).toNat) hI0.2.2.1 hla) ⟨⟨rfl,id⟩,trivial⟩ fun N bh=>oan 99 rfl fun hres=>(no rfl (nl (th ?_))))))))))
     refine cd rfl (fun hc5=> ?_) (fun hc5=> ?_)
     ·try simp at hc5
      refine rt (rb (rt_ (rt_ (rb ?_))))
      exact r0 bh.2 rfl (fun _=>andp_any7 (.inr (hres.2 hc5))) ⟨⟨rfl,id⟩,trivial⟩ (.inr rfl)
     ·try simp at hc5
      refine sk (eb (th (rg (mv (bi rfl rfl (b_add (by unfold I64;omega)) (ag (nl ?_)))))))
      have hN0:ord2=bq (solid s) (i+1)∧met2=marks s.states.length ord2∧Y (i+1) bh.2∧(i+1)≤ord2.length:=by
       refine⟨ho2,hR1.2.1,hres.1 (by simpa using hc5),?_⟩
       omega
      exact ln (⟨i+1,met2,u52,ord2,bh.2⟩:Nat × (List Bool) × Value × (List Int) × HA) hN0 (by first|omega|(dsimp only;omega)) ⟨id,id,id,id,id,id,trivial⟩ ⟨⟨rfl,id⟩,⟨rfl,id⟩,⟨rfl,id⟩,⟨rfl,id⟩,⟨rfl,id⟩,⟨rfl,id⟩,trivial⟩
  ·try simp at hc1
   refine ex (xt_ (xt_ (xb ?_)))
   exact r0 hh rfl (fun _=>andp_any7 (.inl (by have he:=bq_end hs (i:=i) (by rw[←hI0.1];exact hc1) (by omega);rw[leftL_len h00,←he,←hI0.1,show ord.length=i by omega];exact hI0.2.2.1))) ⟨⟨rfl,id⟩,trivial⟩ (.inl rfl)
end prog7
end Go.Proofs.YtolpjmllmlahfaaDoor
namespace Go.Proofs.YtolpjmllmlahfaaDoor
open AL Go
set_option maxRecDepth 100000
set_option linter.all false
open ref01 ref03 ref04 ref06 prog prog2 prog3 prog4 prog6 prog7 Part Rungs LeftM
theorem rep_step {n cp:Nat} (h:cp≤n):(List.replicate cp (-1:Int)++List.replicate (n- cp) 0).take cp++(List.replicate cp (-1:Int)++List.replicate (n- cp) 0).take (min cp (n- cp))++(List.replicate cp (-1:Int)++List.replicate (n- cp) 0).drop (cp+min cp (n- cp))=List.replicate (cp+min cp (n- cp)) (-1)++List.replicate (n- (cp+min cp (n- cp))) 0:=by
 have h1:(List.replicate cp (-1:Int)++List.replicate (n- cp) 0).take cp=List.replicate cp (-1):=by
  rw[List.take_append_of_le_length (by simp)];simp
 have h2:(List.replicate cp (-1:Int)++List.replicate (n- cp) 0).take (min cp (n- cp))=List.replicate (min cp (n- cp)) (-1):=by
  rw[List.take_append_of_le_length (by simp;omega)];simp[List.take_replicate]
 have h3:(List.replicate cp (-1:Int)++List.replicate (n- cp) 0).drop (cp+min cp (n- cp))=List.replicate (n- (cp+min cp (n- cp))) 0:=by
  rw[List.drop_append];simp;omega
 rw[h1,h2,h3,List.replicate_append_replicate]
theorem rep_first (n:Nat):(List.replicate n (0:Int)).take 0++([-1]:List Int).take (min 1 n)++(List.replicate n (0:Int)).drop (0+min 1 n)=List.replicate (min 1 n) (-1)++List.replicate (n- min 1 n) 0:=by
 cases n with
 |zero=>rfl
 |succ n=>simp[show min 1 (n+1)=1 by omega,List.replicate_succ]
namespace T
theorem ent117:Ent Tryd.prog 117:=ent_of (by kernel_rfl)
theorem kd3:Tryd.prog.underlying 3=some (.int .i64):=by kernel_rfl
theorem kd143:Tryd.prog.underlying 143=some (.int .u64):=by kernel_rfl
theorem ent96:Ent Tryd.prog 96:=ent_of (by kernel_rfl)
theorem ent97:Ent Tryd.prog 97:=ent_of (by kernel_rfl)
theorem ent63:Ent Tryd.prog 63:=ent_of (by kernel_rfl)
end T
namespace prog8
theorem Mul64_ok (n:Int) (h0:0≤n) (h1:n<4294967296):
 Fn0 Tryd.prog 117 [u64 1,u64 n] (tup [u64 0,u64 n]):=by
 refine fnI Tryd.func117 rfl rfl (fun w0 F0=> ?_)
 refine sq (rg (ag (ag (nl (th (sq (rg (mv (bi rfl rfl (b_and32U (by omega) (by omega)) (ag (nl (th (sq (rg (mv (bi rfl rfl (b_shr32U (by omega) (by omega)) (ag (nl (th (sq (rg (mv (bi rfl rfl (b_and32U (by omega) (by omega)) (ag (nl (th (sq (rg (mv (bi rfl rfl (b_shr32U (by omega) (by omega)) (ag (nl (th (sq (rg (mv (mv (bi rfl rfl (b_mulU (by unfold U64;omega)) (ag (nl (th (sq (rg (mv (mv (bi rfl rfl (b_mulU (by unfold U64;omega)) (mv (bi rfl rfl (b_shr32U (by omega) (by omega)) (bi rfl rfl (b_addU (by unfold U64;omega)) (ag (nl (th (sq (rg (mv (bi rfl rfl (b_and32U (by omega) (by omega)) (ag (nl (th (sq (rg (mv (bi rfl rfl (b_shr32U (by omega) (by omega)) (ag (nl (th (sq (rg (mv (mv (mv (bi rfl rfl (b_mulU (by unfold U64;omega)) (bi rfl rfl (b_addU (by unfold U64;omega)) (ag (nl (th (sq (rg (mv (mv (bi rfl rfl (b_mulU (by unfold U64;omega)) (mv (bi rfl rfl (b_addU (by unfold U64;omega)) (mv (bi rfl rfl (b_shr32U (by omega) (by omega)) (bi rfl rfl (b_addU (by unfold U64;omega)) (ag (nl (th (sq (rg (mv (mv (bi rfl rfl (b_mulU (by unfold U64;omega)) (ag (nl (th (rt ?_))))))))))))))))))))))))))))))))))))))))))))))))))))))))))))))))))))))))))))))))))))))))))))))))))
 have hr0:((((0*0)+0)+0):Int)=0:=by
  omega
 have hr1:((1*n):Int)=n:=by
  omega
 have hall:∀x0 x1,(((0*0)+0)+0)=x0→(1*n)=x1→resAV [u64 (((0*0)+0)+0),u64 (1*n)]=resAV [u64 x0,u64 x1]:=by rintro _ _ rfl rfl;rfl
 exact rE () [.tmp 4,.tmp 5] rfl [u64 (((0*0)+0)+0),u64 (1*n)] ⟨.tmp rfl,.tmp rfl,trivial⟩ (hall _ _ hr0 hr1) trivial (by first|exact .inr rfl|exact .inl rfl)
theorem Mul_ok (n:Int) (h0:0≤n) (h1:n<4294967296):
 Fn0 Tryd.prog 96 [u64 1,u64 n] (tup [u64 0,u64 n]):=by
 refine fnI Tryd.func96 rfl rfl (fun w0 F0=> ?_)
 refine sq (rg (ag (ag (nl (th (sq ?_))))))
 refine cd rfl (fun hc0=> ?_) (fun hc0=> ?_)
 ·try simp at hc0
  skip
 ·try simp at hc0
  refine sk (th (sq (rg (mv (mv (cal0 (φs:= [u64 1,u64 n]) (φ:=tup [u64 0,u64 n]) ⟨rfl,rfl,trivial⟩ (prog8.Mul64_ok n (by omega) (by omega)) T.ent117 (mv (xt rfl rfl (xt rfl rfl (ag (ag (nl (th (sq (rg (mv (mv (ag (ag (nl (th (rt ?_))))))))))))))))))))))
  exact rE () [.tmp 4,.tmp 5] rfl [u64 0,u64 n] ⟨.tmp rfl,.tmp rfl,trivial⟩ (rfl) trivial (by first|exact .inr rfl|exact .inl rfl)
theorem Repeat_ok (n:Nat) (hn:n≤1000000):
 AL.Fn Tryd.prog 63 [ints [-1],int (n:Int)] [] (fun _ v=>osl 30 v) (fun v=> [(30,own v 3 1 intE (List.replicate n (-1)))]):=by
 refine fnI Tryd.func63 rfl rfl (fun w0 F0=> ?_)
 refine fcC (slenI 0 rfl) (fun hm0=> ?_)
 refine sq (rg (ag (nl (th (sq (sq (rg (mv (bi rfl rfl b_lss (nl (th ?_)))))))))))
 refine cd rfl (fun hc0=> ?_) (fun hc0=> ?_)
 ·try simp at hc0
  exfalso;omega
 ·try simp at hc0
  refine sk (th (sq (rg (mv (lnF rfl T.sl28 (cv rfl T.kd3 T.kd143 (wrap_U64 ⟨by simp,by simp⟩) (mv (cv rfl T.kd3 T.kd143 (wrap_U64 ⟨by omega,by omega⟩) (cal0 (φs:= [u64 ([-1].length:Int),u64 (n:Int)]) (φ:=tup [u64 0,u64 (n:Int)]) ⟨rfl,rfl,trivial⟩ (prog8.Mul_ok (n:Int) (by omega) (by omega)) T.ent96 (mv (xt rfl rfl (xt rfl rfl (ag (ag (nl (th (sq (sq (rg (mv (bi rfl rfl b_gtr (mv ?_))))))))))))))))))))))
  apply gOr (t:=23) (pd:=26) rfl
  rotate_left
  ·intro hg0 fin
   have hg0':=hg0
   try simp at hg0'
   exact gy rfl rfl rfl hg0 (mv (gy rfl rfl rfl hg0 (bi rfl rfl b_gtr (pkF rfl hg0 rfl (drp (X:= [(25,_),(24,_)]) ⟨rfl,rfl,trivial⟩ (fin))))))
  ·intro hg0 fin
   exact gn rfl rfl rfl hg0 rfl rfl (gn rfl rfl rfl hg0 rfl rfl (pkT rfl hg0 rfl (drp (X:= [(25,_),(24,_)]) ⟨rfl,rfl,trivial⟩ (fin))))
  refine nl (th ?_)
  refine cd rfl (fun hc1=> ?_) (fun hc1=> ?_)
  ·try simp at hc1
   exfalso;omega
  ·try simp at hc1
   refine sk (th (sq (rg (mv (cv rfl T.kd143 T.kd3 (wrap_I64 ⟨by omega,by omega⟩) (mkB (key:=30) (m:=n) (enc:=intE) (y:=(0:Int)) rfl rfl T.mk28 (ex_cons ex_nil) (by unfold maxL;omega) (by unfold maxL;omega) fun b30=>(ag (nl (th (sq (rg (mv (mv (cpF (key:=30) (i:=0) (l:=n) (c:=n) (b:=b30) (n:=min 1 n) (ys:=([-1]:List Int)) (xs:=List.replicate n (0:Int)) osl_is rfl rfl T.mk28 (fun y=>inferInstance) rfl (by rw[List.length_replicate];omega) (ag (nl (th (sq (bk ?_)))))))))))))))))))
   have hI0_0:((List.replicate n (0:Int)).take 0++([-1]:List Int).take (min 1 n)++(List.replicate n (0:Int)).drop (0+min 1 n))=List.replicate (min 1 n) (-1)++List.replicate (n- (min 1 n)) 0∧(min 1 n)≤n∧(n=0∨1≤(min 1 n)):=by
    exact⟨rep_first n,by omega,by omega⟩
   refine lp (κ:=Nat × (List Int)) (fun p=> [(4,eqv (.slice none 0 0)),(7,osl 30 (.slice (some ⟨b30,0,none⟩) n n)),(8,int (p.1:Int))]) (fun p=> [(30,own (.slice (some ⟨b30,0,none⟩) n n) 3 1 intE p.2)]) (fun p=>p.2=List.replicate p.1 (-1)++List.replicate (n- p.1) 0∧p.1≤n∧(n=0∨1≤p.1)) (fun p=>n- p.1) ⟨min 1 n,(List.replicate n (0:Int)).take 0++([-1]:List Int).take (min 1 n)++(List.replicate n (0:Int)).drop (0+min 1 n)⟩ hI0_0 ⟨id,id,id,trivial⟩ ⟨⟨rfl,id⟩,trivial⟩ ?_
   intro⟨cp,xs⟩ hG0
   have hI0:xs=List.replicate cp (-1)++List.replicate (n- cp) 0∧cp≤n∧(n=0∨1≤cp):=hG0
   show Ct _ _ _ _ [(4,eqv (.slice none 0 0)),(7,osl 30 (.slice (some ⟨b30,0,none⟩) n n)),(8,int (cp:Int))] [(30,own (.slice (some ⟨b30,0,none⟩) n n) 3 1 intE xs)] _
   have hxl:xs.length=n:=by rw[hI0.1];simp;omega
   refine sq (sq (rg (mv (mv (lnO rfl rfl T.sl28 (bi rfl rfl b_lss (nl (th ?_))))))))
   refine cd rfl (fun hc2=> ?_) (fun hc2=> ?_)
   ·try simp at hc2
    refine sk (th (bk ?_))
    refine drH (nh:=10) [0,0,0,6,0,0,48,126,255,511] [(none,[]),(none,[]),(none,[]),(none,[]),(none,[]),(none,[]),(none,[]),(some 30,[30]),(none,[]),(none,[])] T.mixed (by kernel_rfl) (by kernel_rfl) ?_
    refine stv (d:=38) (fun β0=>int (cp:Int)) [] rfl (fun β β' hb=>rfl) (fun β0 _ _ _ _ gq gh kq=>mv' (gq.1.trans rfl) kq) ?_
    refine stv (d:=39) (fun β0=>osl 30 (.slice (some ⟨b30,0,none⟩) n n)) [] rfl (fun β β' hb=>rfl) (fun β0 _ _ _ _ gq gh kq=>mv' (gq.1.trans rfl) kq) ?_
    refine stv (d:=40) (fun β0=>int (cp:Int)) [] rfl (fun β β' hb=>rfl) (fun β0 _ _ _ _ gq gh kq=>mv' (gq.1.trans rfl) kq) ?_
    refine stv (d:=41) (fun β0=>eqv (.slice (some ⟨b30,cp,none⟩) (n- cp) (n- cp))) [] rfl (fun β β' hb=>rfl) (fun β0 _ _ _ _ gq gh kq=>sliceV (l:=cp) (m:=n) ((gq.1.trans rfl).trans rfl) T.sl28 (gq.2.1.trans rfl) rfl (by omega) (by omega) (by omega) (by omega) kq) ?_
    refine stv (d:=42) (fun β0=>osl 30 (.slice (some ⟨b30,0,none⟩) n n)) [] rfl (fun β β' hb=>rfl) (fun β0 _ _ _ _ gq gh kq=>mv' (gq.1.trans rfl) kq) ?_
    refine stv (d:=43) (fun β0=>int (cp:Int)) [] rfl (fun β β' hb=>rfl) (fun β0 _ _ _ _ gq gh kq=>mv' (gq.1.trans rfl) kq) ?_
    refine stv (d:=44) (fun β0=>eqv (.slice (some ⟨b30,0,none⟩) (cp- 0) (n- 0))) [] rfl (fun β β' hb=>rfl) (fun β0 _ _ _ _ gq gh kq=>sliceV (l:=0) (m:=cp) ((gq.1.trans rfl).trans rfl) T.sl28 rfl (gq.2.1.trans rfl) (by omega) (by omega) (by omega) (by omega) kq) ?_
    refine stb (d:=45) 30 (fun β0=>int ((min cp (n- cp):Nat):Int)) (fun β0=>own (.slice (some ⟨b30,0,none⟩) n n) 3 1 intE (xs.take cp++xs.take (min cp (n- cp))++xs.drop (cp+min cp (n- cp)))) [30] rfl (fun β β' hb=>rfl) (fun β β' hb=>rfl) (fun β0 _ _ _ _ gq gh kq=>cpO (key:=30) (i:=cp) (l:=n- cp) (c:=n- cp) (l2:=cp) (c2:=n) (b:=b30) (n:=min cp (n- cp)) (gq.1.trans rfl) (gh.1.trans rfl) (gq.2.1.trans rfl) T.mk28 (fun y=>inferInstance) rfl (by rw[hI0.1];simp) (by rw[hI0.1];simp;omega) kq) ?_
    refine stv (d:=46) (fun β0=>int ((cp+(min cp (n- cp)):Nat):Int)) [] rfl (fun β β' hb=>rfl) (fun β0 _ _ _ _ gq gh kq=>bi (gq.1.trans rfl) (gq.2.1.trans rfl) (b_add (by unfold I64;omega)) kq) ?_
    refine stv (d:=8) (fun β0=>int ((cp+(min cp (n- cp)):Nat):Int)) [] rfl (fun β β' hb=>rfl) (fun β0 _ _ _ _ gq gh kq=>ag' (gq.1.trans rfl) kq) ?_
    refine pnH fun β0=>(nl (eb ?_))
    have hN0:(xs.take cp++xs.take (min cp (n- cp))++xs.drop (cp+min cp (n- cp)))=List.replicate (cp+(min cp (n- cp))) (-1)++List.replicate (n- (cp+(min cp (n- cp)))) 0∧(cp+(min cp (n- cp)))≤n∧(n=0∨1≤(cp+(min cp (n- cp)))):=by
     refine⟨?_,by omega,by omega⟩
     rw[hI0.1];exact rep_step hI0.2.1
    exact ln (⟨cp+(min cp (n- cp)),xs.take cp++xs.take (min cp (n- cp))++xs.drop (cp+min cp (n- cp))⟩:Nat × (List Int)) hN0 (by first|omega|(dsimp only;omega)) ⟨id,id,id,trivial⟩ ⟨⟨rfl,id⟩,trivial⟩
   ·try simp at hc2
    refine ex (xt_ (xt_ (xb (th (sq (rg (mv (ag (nl (th (rt ?_)))))))))))
    have hcp:cp=n:=by omega
    have hxs:xs=List.replicate n (-1):=by rw[hI0.1,hcp];simp
    subst hxs
    exact rE (.slice (some ⟨b30,0,none⟩) n n) [.tmp 4] rfl [osl 30 (.slice (some ⟨b30,0,none⟩) n n)] ⟨.tmp rfl,trivial⟩ (rfl) ⟨⟨rfl,id⟩,trivial⟩ (by first|exact .inr rfl|exact .inl rfl)
theorem Nothing_ok (l:List ByteArray) (hl:l.length≤1000):
 AL.Fn Tryd.prog 99 [strs l] [] (ι:=Unit) (fun N _=>nspec N (nothing l)) (fun _=> []):=by
 refine fnI Tryd.func99 rfl rfl (fun w0 F0=> ?_)
 refine fcC (slenI 0 rfl) (fun hm0=> ?_)
 refine sq (rg (al (key:=2) T.z25 (ex_cons (ex_cons (ex_nil))) fun b2=>(nl (th (sq (rg (mv (calW (φs:= [sl 1 strE l]) (φ:=fre w0.heap.size (sl 1 strE l)) ⟨rfl,trivial⟩ (prog.sClonestrE_ok _ (by omega)) T.ent97 (fun N hN=>fun h=>nw_mono (hN) h) (bsE (enc:=intE) (xs:= [(-1)]) (css:= [[int (-1)]]) T.mk28 ⟨rfl,rfl,p1 (φ:=int (-1)) rfl,trivial⟩ rfl rfl rfl rfl (mv (lnF rfl T.sl22 (cl (prog8.Repeat_ok l.length (by omega)) T.ent63 trivial fun N8 v8=>(fzN intE 30 8 noM flat rfl rfl (bd (css:= [(1,_)]) T.st69 (ex_cons (ex_cons (ex_nil))) ⟨rfl,rfl,p1 (φ:=fre w0.heap.size (sl 1 intE (List.replicate l.length (-1)))) rfl,trivial⟩ (kn 9 (agg [fre w0.heap.size (sl 1 intE []),fre w0.heap.size (sl 1 intE (List.replicate l.length (-1)))]) rfl (agg_le (cs:= [eqv (.slice none 0 0),fre w0.heap.size (sl 1 intE (List.replicate l.length (-1)))]) (ds:= [fre w0.heap.size (sl 1 intE []),fre w0.heap.size (sl 1 intE (List.replicate l.length (-1)))]) ⟨fun h=>nw_nil h,fun h=>h,trivial⟩) (bsO 10 (enc:=stateN w0.heap.size) (xs:= [(⟨[],List.replicate l.length (-1)⟩)]) (css:= [[fre w0.heap.size (sl 1 intE []),fre w0.heap.size (sl 1 intE (List.replicate l.length (-1)))]]) T.mk23 ⟨rfl,rfl,pA (cs:= [fre w0.heap.size (sl 1 intE []),fre w0.heap.size (sl 1 intE (List.replicate l.length (-1)))]) rfl,trivial⟩ rfl rfl rfl rfl fun v10=>(fzN stateE 10 10 noM (fun _=>rfl) rfl rfl (bd (css:= [(0,_),(1,_)]) T.st25 (ex_cons (ex_cons (ex_nil))) ⟨rfl,rfl,p1 (φ:=fre w0.heap.size (sl 1 strE l)) rfl,⟨rfl,rfl,p1 (φ:=fre w0.heap.size (sl 2 stateE [(⟨[],List.replicate l.length (-1)⟩)])) rfl,trivial⟩⟩ (sPA (cs':= [fre w0.heap.size (sl 1 strE l),fre w0.heap.size (sl 2 stateE [(⟨[],List.replicate l.length (-1)⟩)])]) rfl rfl rfl T.agg25 rfl rfl (nl (th (rt ?_))))))))))))))))))))))
 have hr0:l=((nothing l).actions):=by
  first|rfl|simp_all|omega
 have hr1: [(⟨[],List.replicate l.length (-1)⟩)]=((nothing l).states):=by
  first|rfl|simp_all|omega
 have hall:∀x0 x1,l=x0→[(⟨[],List.replicate l.length (-1)⟩)]=x1→resAV [agg [fre w0.heap.size (sl 1 strE l),fre w0.heap.size (sl 2 stateE [(⟨[],List.replicate l.length (-1)⟩)])]]=resAV [agg [fre w0.heap.size (sl 1 strE x0),fre w0.heap.size (sl 2 stateE x1)]]:=by rintro _ _ rfl rfl;rfl
 exact rE () [.cell 2 25] rfl [agg [fre w0.heap.size (sl 1 strE l),fre w0.heap.size (sl 2 stateE [(⟨[],List.replicate l.length (-1)⟩)])]] ⟨.agg rfl rfl T.agg25 rfl rfl,trivial⟩ (hall _ _ hr0 hr1) trivial (by first|exact .inr rfl|exact .inl rfl)
end prog8
end Go.Proofs.YtolpjmllmlahfaaDoor
namespace Go.Proofs.YtolpjmllmlahfaaDoor
open AL ref01 ref03 ref04 ref06 Rungs LeftM
namespace TrimM
theorem visit_nodup:∀(ks l:List Int),l.Nodup→(visit l ks).Nodup
 | [],l,h=>h
 |k::ks,l,h=>by
  rw[visit_foldl,List.foldl_cons]
  refine visit_nodup ks _ ?_
  unfold visit1
  split
  ·next hc=>
   simp only [Bool.and_eq_true,Bool.not_eq_true',decide_eq_true_eq] at hc
   exact nodup_snoc h (fun hm=>by rw[List.contains_iff_mem.2 hm] at hc;cases hc.2)
  ·exact h
theorem bq_nodup (s:SSpec):∀i,(bq s i).Nodup
 |0=>by simp[bq]
 |i+1=>by
  show List.Nodup (if _ then _ else _)
  split
  ·exact visit_nodup _ _ (bq_nodup s i)
  ·exact bq_nodup s i
theorem order_nodup (s:SSpec):(order s).Nodup:=bq_nodup s _
theorem fresh {l:List Int} (h:l.Nodup) {m:Nat} (hm:m<l.length):ix l m∉l.take m:=fun hx=>by
 have h1:(l.take (m+1)).Nodup:=h.sublist (List.take_sublist _ _)
 rw[take_s hm,List.nodup_append] at h1
 exact h1.2.2 _ hx (ix l m) (by simp) rfl
def posN (l:List Int) (y:Int):Int:=match l.findIdx? (fun z=>decide (z=y)) with|some j=>(j:Int)|none=>0
def atL (n:Nat) (l:List Int):List Int:=(List.range n).map fun(y:Nat)=>posN l (y:Int)
theorem atL_zero (n:Nat):List.replicate n 0=atL n []:=by
 unfold atL
 apply List.ext_getElem?
 intro j
 rw[List.getElem?_replicate,List.getElem?_map]
 split
 ·next h=>rw[List.getElem?_range h];rfl
 ·next h=>rw[List.getElem?_eq_none (by simpa using h)];rfl
theorem posN_snoc_self {l:List Int} {x:Int} (h:x∉l):posN (l++ [x]) x=(l.length:Int):=by
 unfold posN
 rw[List.findIdx?_append]
 have:l.findIdx? (fun z=>decide (z=x))=none:=by
  rw[List.findIdx?_eq_none_iff]
  intro z hz
  simp only [decide_eq_false_iff_not]
  exact fun e=>h (by rw[←e];exact hz)
 rw[this];simp
theorem posN_snoc_other {l:List Int} {x y:Int} (h:y≠x):posN (l++ [x]) y=posN l y:=by
 unfold posN
 rw[List.findIdx?_append]
 cases hf:l.findIdx? (fun z=>decide (z=y)) with
 |some j=>rfl
 |none=>
  have:([x]:List Int).findIdx? (fun z=>decide (z=y))=none:=by simp[Ne.symm h]
  rw[this];rfl
theorem atL_snoc {n:Nat} {l:List Int} {x:Int} (h:x∉l) (h0:0≤x) (h1:x<(n:Int)):(atL n l).set x.toNat (l.length:Int)=atL n (l++ [x]):=
 map_upd (by omega) (by rw[Int.toNat_of_nonneg h0,posN_snoc_self h]) (fun y _ hne=>posN_snoc_other (by omega))
theorem atL_ix {n:Nat} {l:List Int} {y:Nat} (h:y<n):ix (atL n l) y=posN l (y:Int):=ix_map_range h
theorem atL_len (n:Nat) (l:List Int):(atL n l).length=n:=by simp[atL]
theorem posN_bd (l:List Int) (y:Int):0≤posN l y∧(posN l y<(l.length:Int)∨posN l y=0):=by
 unfold posN
 cases hf:l.findIdx? (fun z=>decide (z=y)) with
 |some j=>
  have:=(List.findIdx?_eq_some_iff_getElem.1 hf).1
  dsimp only;omega
 |none=>dsimp only;omega
theorem posN_at {l:List Int} {y:Int} (h:y∈l):posN l y<(l.length:Int)∧ix l (posN l y).toNat=y:=by
 unfold posN
 cases hf:l.findIdx? (fun z=>decide (z=y)) with
 |some j=>
  obtain⟨h1,h2,_⟩:=List.findIdx?_eq_some_iff_getElem.1 hf
  refine⟨by dsimp only;omega,?_⟩
  dsimp only
  rw[Int.toNat_natCast,ix_get h1]
  simpa using h2
 |none=>
  rw[List.findIdx?_eq_none_iff] at hf
  have:=hf y h
  simp at this
theorem posN_ix {l:List Int} (hn:l.Nodup) {i:Nat} (hi:i<l.length):posN l (ix l i)=(i:Int):=by
 obtain⟨h1,h2⟩:=posN_at (ix_mem hi)
 have h0:=(posN_bd l (ix l i)).1
 have hj:(posN l (ix l i)).toNat<l.length:=by omega
 have h3:l[(posN l (ix l i)).toNat]=l[i]:=by rw[←ix_get hj,h2,ix_get hi]
 have:=(List.getElem_inj hn).1 h3
 omega
noncomputable abbrev ordS (s:SSpec):List Int:=order (solid s)
noncomputable def tnext (s:SSpec) (x:Int):List Int:=(List.range s.actions.length).map fun(a:Nat)=>if has (orAll (keep s x.toNat)) (a:Int) then posN (ordS s) (ix (ix s.states x.toNat).next a) else-1
noncomputable def tstate (s:SSpec) (x:Int):SState:=⟨keep s x.toNat,tnext s x⟩
noncomputable def half (s:SSpec) (x:Int):SState:=⟨keep s x.toNat,[]⟩
noncomputable def outs (s:SSpec) (i:Nat):List SState:=(List.range (ordS s).length).map fun j=>if j<i then tstate s (ix (ordS s) j) else half s (ix (ordS s) j)
noncomputable def trimS (s:SSpec):SSpec × List Int:=if ix (hollow s) 0=true then(nothing s.actions,[]) else(⟨s.actions,(ordS s).map (tstate s)⟩,ordS s)
theorem map_ix_range {α β:Type} [Inhabited α] (l:List α) (f:α→β):l.map f=(List.range l.length).map fun j=>f (ix l j):=by
 apply List.ext_getElem?
 intro j
 rw[List.getElem?_map,List.getElem?_map]
 by_cases h:j<l.length
 ·rw[List.getElem?_range h,List.getElem?_eq_getElem h];simp[ix_get h]
 ·rw[List.getElem?_eq_none (by omega),List.getElem?_eq_none (by simpa using h)];rfl
theorem outs_zero (s:SSpec):outs s 0=(ordS s).map (half s):=by
 rw[map_ix_range]
 unfold outs
 simp
theorem outs_end (s:SSpec):outs s (ordS s).length=(ordS s).map (tstate s):=by
 rw[map_ix_range]
 unfold outs
 exact List.map_congr_left (fun j hj=>by rw[if_pos (List.mem_range.1 hj)])
theorem outs_len (s:SSpec) (i:Nat):(outs s i).length=(ordS s).length:=by simp[outs]
theorem outs_ix {s:SSpec} {i:Nat} (hi:i<(ordS s).length):ix (outs s i) i=half s (ix (ordS s) i):=by
 unfold outs
 rw[ix_map_range hi,if_neg (by omega)]
theorem outs_succ {s:SSpec} {i:Nat} (hi:i<(ordS s).length):(outs s i).set i (tstate s (ix (ordS s) i))=outs s (i+1):=
 map_upd hi (by rw[if_pos (by omega)]) (fun j _ hne=>by
  by_cases h:j<i
  ·rw[if_pos h,if_pos (by omega)]
  ·rw[if_neg h,if_neg (by omega)])
noncomputable def nxL (s:SSpec) (x:Int) (m:Nat):List Int:=(List.range s.actions.length).map fun(a:Nat)=>if ((listOf 63 (orAll (keep s x.toNat))).take m).contains (a:Int) then posN (ordS s) (ix (ix s.states x.toNat).next a) else-1
theorem nxL_zero (s:SSpec) (x:Int):List.replicate s.actions.length (-1)=nxL s x 0:=by
 unfold nxL
 simp[List.map_const']
theorem nxL_succ {s:SSpec} {x:Int} {m a:Nat} (h:(listOf 63 (orAll (keep s x.toNat)))[m]?=some (a:Int)) (ha:a<s.actions.length):(nxL s x m).set a (posN (ordS s) (ix (ix s.states x.toNat).next a))=nxL s x (m+1):=by
 obtain⟨hm,he⟩:=List.getElem?_eq_some_iff.1 h
 have e:(listOf 63 (orAll (keep s x.toNat))).take (m+1)=(listOf 63 (orAll (keep s x.toNat))).take m++ [(a:Int)]:=by rw[List.take_succ_eq_append_getElem hm,he]
 refine map_upd ha ?_ (fun y _ hne=> ?_)
 ·rw[e,if_pos (by simp)]
 ·rw[e]
  have:(((listOf 63 (orAll (keep s x.toNat))).take m++ [(a:Int)]).contains (y:Int))=((listOf 63 (orAll (keep s x.toNat))).take m).contains (y:Int):=by
   rw[Bool.eq_iff_iff,List.contains_iff_mem,List.contains_iff_mem,List.mem_append]
   constructor
   ·rintro(h|h)
    ·exact h
    ·simp at h;omega
   ·exact .inl
  rw[this]
theorem nxL_end {s:SSpec} (hs:okSpec s) (x:Int):nxL s x (listOf 63 (orAll (keep s x.toNat))).length=tnext s x:=by
 unfold nxL tnext
 rw[List.take_length]
 refine List.map_congr_left (fun a ha=> ?_)
 have ha:=List.mem_range.1 ha
 have hn:=hs.n8
 by_cases h:has (orAll (keep s x.toNat)) (a:Int)=true
 ·rw[if_pos h,if_pos (List.contains_iff_mem.2 (listOf_mem.2 ⟨a,rfl,by omega,h⟩))]
 ·rw[if_neg h,if_neg (fun hc=>h (by
   obtain⟨b,hb,_,hh⟩:=listOf_mem.1 (List.contains_iff_mem.1 hc)
   have:b=a:=by omega
   subst this;exact hh))]
theorem leftL_get {s:SSpec} {m:Nat} {x:Int × List Int} (h:(leftL s)[m]?=some x):ix (hollow s) 0=false∧m<(ordS s).length∧x.1=ix (ordS s) m∧x.2=keep s (ix (ordS s) m).toNat:=by
 unfold leftL at h
 by_cases h0:ix (hollow s) 0=true
 ·rw[if_pos h0] at h;simp at h
 ·rw[if_neg h0,List.getElem?_map] at h
  have h00:ix (hollow s) 0=false:=by simpa using h0
  by_cases hm:m<(ordS s).length
  ·rw[List.getElem?_eq_getElem hm] at h
   simp at h
   subst h
   exact⟨h00,hm,(ix_get hm).symm,by rw[ix_get hm]⟩
  ·rw[List.getElem?_eq_none (show(ordS s).length≤m by omega)] at h;simp at h
theorem ordS_pos (s:SSpec):1≤(ordS s).length:=by
 have h:=bq_prefix (solid s) 0 (solid s).states.length
 rw[Nat.zero_add] at h
 exact h.length_le
theorem trimmed_not {s:SSpec} (h:ix (hollow s) 0=false):trimS s=(⟨s.actions,(ordS s).map (tstate s)⟩,ordS s):=by
 unfold trimS;rw[if_neg (by simp[h])]
theorem trimmed_hol {s:SSpec} (h:ix (hollow s) 0=true):trimS s=(nothing s.actions,[]):=by
 unfold trimS;rw[if_pos h]
end TrimM
end Go.Proofs.YtolpjmllmlahfaaDoor
namespace Go.Proofs.YtolpjmllmlahfaaDoor
open AL Go
set_option maxRecDepth 100000
set_option linter.all false
open ref01 ref03 ref04 ref06 prog prog2 prog3 prog4 prog6 prog7 prog8 Part Rungs LeftM TrimM
namespace T
theorem ent98:Ent Tryd.prog 98:=ent_of (by kernel_rfl)
theorem ent118:Ent Tryd.prog 118:=ent_of (by kernel_rfl)
theorem ent99:Ent Tryd.prog 99:=ent_of (by kernel_rfl)
theorem z3:ZeroIs Tryd.prog 3 [.int .i64 0]:=zeroIs_of (by kernel_rfl)
end T
namespace prog9
theorem Trimmed_ok (s:SSpec) (hs:okSpec s):
 AL.Fn Tryd.prog 64 [spec s] [] (ι:=Unit) (fun N _=>tup [agg [fre N (strs (trimS s).1.actions),frb (ix (hollow s) 0) N (sl 2 stateE (trimS s).1.states)],ints (trimS s).2]) (fun _=> []):=by
 refine fnI Tryd.func64 rfl rfl (fun w0 F0=> ?_)
 have hf0:=hs.few0;have hf1:=hs.few1;have hn8:=hs.n8;have hoq:okQ s.states.length (ordS s):=order_okQ hs;have hol:(ordS s).length≤s.states.length:=hoq.le;have hnd:(ordS s).Nodup:=order_nodup _;have hop:=ordS_pos s
 refine fcC (inhS 0 rfl) (fun hS0=> ?_)
 obtain⟨hsa0,hss0,hse0⟩:=spec_lens hS0
 refine sq (rg (bx (key:=1) (cs:= [sl 1 strE s.actions,sl 2 stateE s.states]) rfl fun b1=>(al (key:=2) T.z25 (ex_cons (ex_cons (ex_nil))) fun b2=>(ag (nl (th (sq (rg (fP rfl T.fld25_0 (lP rfl rfl rfl T.one22 (calW (φs:= [sl 1 strE s.actions]) (φ:=fre w0.heap.size (sl 1 strE s.actions)) ⟨rfl,trivial⟩ (prog.sClonestrE_ok _ (by omega)) T.ent97 (fun N hN=>fun h=>nw_mono (hN) h) (bd (css:= [(0,_)]) T.st25 (ex_cons (ex_cons (ex_nil))) ⟨rfl,rfl,p1 (φ:=fre w0.heap.size (sl 1 strE s.actions)) rfl,trivial⟩ (al (key:=4) T.z25 (ex_cons (ex_cons (ex_nil))) fun b4=>(sPA (cs':= [fre w0.heap.size (sl 1 strE s.actions),eqv (.slice none 0 0)]) rfl rfl rfl T.agg25 rfl rfl (nl (th (sq (rg (al (key:=5) T.z28 (ex_cons (ex_nil)) fun b5=>(nl (th (sq (rg (fP rfl T.fld25_1 (lP rfl rfl rfl T.one23 (fc (slenI 21 rfl) fun hm21=>(lnF rfl T.sl23 (mk (key:=23) (m:=s.states.length) (enc:=intE) (y:=(0:Int)) rfl rfl T.mk28 (ex_cons ex_nil) (by unfold maxL;omega) (by unfold maxL;omega) fun v23=>(al (key:=6) T.z28 (ex_cons (ex_nil)) fun b6=>(storePO rfl rfl rfl rfl T.one28 rfl (nl (th (sq (sq (rg (nw 50 3 1 intE (knc 5 0 (osl 50 (.slice none 0 0)) rfl rfl eq_osl (nw 40 69 2 stateE (knc 4 1 (osl 40 (.slice none 0 0)) rfl rfl eq_osl (lPA rfl rfl T.agg25 rfl (cal0 (φs:= [agg [sl 1 strE s.actions,sl 2 stateE s.states]]) (φ:=clo 118 [fp [sl 1 strE s.actions,sl 2 stateE s.states]]) ⟨rfl,trivial⟩ (prog7.Left_ok s) T.ent98 (nl (th (bk ?_))))))))))))))))))))))))))))))))))))))))))))
 have hR0:(List.replicate s.states.length (0:Int))=atL s.states.length ((ordS s).take 0)∧([]:List Int)=(if ix (hollow s) 0=true then [] else(ordS s).take 0)∧([]:List SState)=([]:List Int).map (half s):=by
  exact⟨atL_zero _,by split<;>rfl,rfl⟩
 refine rf (κ:=(List Int) × Value × (List Int) × Value × (List SState)) 900 (fun p=> [(1,cell b1 [sl 1 strE s.actions,sl 2 stateE s.states]),(2,cell b2 [eqv (.slice none 0 0),eqv (.slice none 0 0)]),(4,cell b4 [fre w0.heap.size (sl 1 strE s.actions),osl 40 p.2.2.2.1]),(5,cell b5 [osl 50 p.2.1]),(6,cell b6 [osl 23 v23]),(23,own v23 3 1 intE p.1),(40,own p.2.2.2.1 69 2 stateE p.2.2.2.2),(50,own p.2.1 3 1 intE p.2.2.1)]) (fun iR p=>p.1=atL s.states.length ((ordS s).take iR)∧p.2.2.1=(if ix (hollow s) 0=true then [] else(ordS s).take iR)∧p.2.2.2.2=p.2.2.1.map (half s)) (fun c p=>False) rfl (LeftIt s hs) T.ent118 rfl (fun _=>rfl) (fun _=>rfl) ⟨List.replicate s.states.length (0:Int),(.slice none 0 0),([]:List Int),(.slice none 0 0),([]:List SState)⟩ hR0 ⟨⟨rfl,id⟩,⟨rfl,id⟩,⟨rfl,id⟩,⟨rfl,id⟩,⟨rfl,id⟩,⟨rfl,id⟩,⟨rfl,id⟩,⟨rfl,id⟩,trivial⟩ ?_ ?_ (fun k h=>h.elim) (fun id k h=>h.elim) (fun c k h=>h.elim)
 ·intro m0 ⟨at_,u50,fr,u40,sts⟩ x0 hG0 hx0 l R w1 M1 F1 hRd
  have hR0:at_=atL s.states.length ((ordS s).take m0)∧fr=(if ix (hollow s) 0=true then [] else(ordS s).take m0)∧sts=fr.map (half s):=hG0
  show Ct _ _ _ _ _ ((900,obj l (.loop R)):: [(1,cell b1 [sl 1 strE s.actions,sl 2 stateE s.states]),(2,cell b2 [eqv (.slice none 0 0),eqv (.slice none 0 0)]),(4,cell b4 [fre w0.heap.size (sl 1 strE s.actions),osl 40 u40]),(5,cell b5 [osl 50 u50]),(6,cell b6 [osl 23 v23]),(23,own v23 3 1 intE at_),(40,own u40 69 2 stateE sts),(50,own u50 3 1 intE fr)]) _
  obtain⟨h00,hm0,hxa,hxb⟩:=leftL_get hx0
  have hob:=hoq.1 m0 hm0
  have hal:at_.length=s.states.length:=by rw[hR0.1];exact atL_len _ _
  have hfl:fr.length=m0:=by rw[hR0.2.1,if_neg (by simp[h00])];simp;omega
  have hstl:sts.length=m0:=by rw[hR0.2.2];simp[hfl]
  refine sq (rg (ag (nl (th (rg (ag (nl (aq hRd rfl (bk (sq (rg (lP rfl rfl rfl T.one28 (mv (lP rfl rfl rfl T.one28 (lnO rfl rfl T.sl28 (iO rfl rfl rfl T.sl28 (by omega) (by omega) (sO (φ:=int (fr.length:Int)) rfl rfl rfl T.one3 (by first|exact gN (by omega)|exact gI (by omega) (by omega)) rfl (y':=(fr.length:Int)) rfl (nl (th (sq (rg (lP rfl rfl rfl T.one28 (mv (bsE (enc:=intE) (xs:= [x0.1]) (css:= [[int x0.1]]) T.mk28 ⟨rfl,rfl,p1 (φ:=int x0.1) rfl,trivial⟩ rfl rfl rfl rfl (ap (key:=50) (zs:= [x0.1]) osl_eq rfl rfl rfl T.mk28 (by unfold maxL at*;simp;omega) (by unfold maxL at*;simp;omega) fun v36=>(storePO rfl rfl rfl rfl T.one28 rfl (nl (th (rg (fP rfl T.fld25_1 (lP rfl rfl rfl T.one23 (mv (bd (css:= [(0,_)]) T.st69 (ex_cons (ex_cons (ex_nil))) ⟨rfl,rfl,p1 (φ:=sl 1 intE x0.2) rfl,trivial⟩ (kn 40 (agg [sl 1 intE x0.2,sl 1 intE []]) rfl (agg_le (cs:= [sl 1 intE x0.2,eqv (.slice none 0 0)]) (ds:= [sl 1 intE x0.2,sl 1 intE []]) ⟨fun h=>h,fun h=>slnil h,trivial⟩) (bsE (enc:=stateE) (xs:= [(⟨x0.2,[]⟩)]) (css:= [[sl 1 intE x0.2,sl 1 intE []]]) T.mk23 ⟨rfl,rfl,pA (cs:= [sl 1 intE x0.2,sl 1 intE []]) rfl,trivial⟩ rfl rfl rfl rfl (ap (key:=40) (zs:= [(⟨x0.2,[]⟩)]) osl_eq rfl rfl rfl T.mk23 (by unfold maxL at*;simp;omega) (by unfold maxL at*;simp;omega) fun v42=>(fP rfl T.fld25_1 (storePO rfl rfl rfl rfl T.one23 rfl (nl (eb ?_))))))))))))))))))))))))))))))))))))))))
  have hN0:(at_.set x0.1.toNat (fr.length:Int))=atL s.states.length ((ordS s).take (m0+1))∧(fr++ [x0.1])=(if ix (hollow s) 0=true then [] else(ordS s).take (m0+1))∧(sts++ [(⟨x0.2,[]⟩)])=(fr++ [x0.1]).map (half s):=by
   have hfl2:fr.length=((ordS s).take m0).length:=by rw[hfl];simp;omega
   refine⟨?_,?_,?_⟩
   ·rw[hR0.1,hxa,hfl2,take_s hm0,atL_snoc (fresh hnd hm0) hob.1 hob.2]
   ·rw[if_neg (by simp[h00]),take_s hm0,hR0.2.1,if_neg (by simp[h00]),hxa]
   ·rw[List.map_append,←hR0.2.2,hxb,hxa];rfl
  exact rqN ⟨at_.set x0.1.toNat (fr.length:Int),v36,fr++ [x0.1],v42,sts++ [(⟨x0.2,[]⟩)]⟩ hN0 ⟨⟨rfl,id⟩,⟨rfl,id⟩,⟨rfl,id⟩,⟨rfl,id⟩,⟨rfl,id⟩,⟨rfl,id⟩,⟨rfl,id⟩,⟨rfl,id⟩,⟨rfl,id⟩,trivial⟩
 ·intro⟨at_,u50,fr,u40,sts⟩ hG0
  have hR0:at_=atL s.states.length ((ordS s).take ((leftL s).length))∧fr=(if ix (hollow s) 0=true then [] else(ordS s).take ((leftL s).length))∧sts=fr.map (half s):=hG0
  show At _ _ _ _ [(1,cell b1 [sl 1 strE s.actions,sl 2 stateE s.states]),(2,cell b2 [eqv (.slice none 0 0),eqv (.slice none 0 0)]),(4,cell b4 [fre w0.heap.size (sl 1 strE s.actions),osl 40 u40]),(5,cell b5 [osl 50 u50]),(6,cell b6 [osl 23 v23]),(23,own v23 3 1 intE at_),(40,own u40 69 2 stateE sts),(50,own u50 3 1 intE fr)]
  refine eb (th (sq (sq (rg (lP rfl rfl rfl T.one28 (lnO rfl rfl T.sl28 (bi rfl rfl b_eql (nl (th ?_)))))))))
  refine cd rfl (fun hc0=> ?_) (fun hc0=> ?_)
  ·try simp at hc0
   have hh0:ix (hollow s) 0=true:=by
    cases h:ix (hollow s) 0 with
    |true=>rfl
    |false=>
     exfalso
     have h2:=hR0.2.1
     rw[if_neg (by simp[h]),leftL_len h,List.take_length] at h2
     have h3:=hop
     rw[hc0] at h2
     rw[show ordS s= [] from h2.symm] at h3
     simp at h3
   refine sq (rg (fP rfl T.fld25_0 (lP rfl rfl rfl T.one22 (calW (φs:= [sl 1 strE s.actions]) (φ:=agg [fre w0.heap.size (sl 1 strE ((nothing s.actions).actions)),fre w0.heap.size (sl 2 stateE ((nothing s.actions).states))]) ⟨rfl,trivial⟩ (prog8.Nothing_ok s.actions (by omega)) T.ent99 (fun N hN=>fun h=>agg_le (cs:= [fre N (sl 1 strE ((nothing s.actions).actions)),fre N (sl 2 stateE ((nothing s.actions).states))]) (ds:= [fre w0.heap.size (sl 1 strE ((nothing s.actions).actions)),fre w0.heap.size (sl 2 stateE ((nothing s.actions).states))]) ⟨fun h=>nw_mono (hN) h,fun h=>nw_mono (hN) h,trivial⟩ h) (sPA (cs':= [fre w0.heap.size (sl 1 strE ((nothing s.actions).actions)),fre w0.heap.size (sl 2 stateE ((nothing s.actions).states))]) rfl rfl rfl T.agg25 rfl rfl (ag (nl (th (rt (rt_ ?_))))))))))
   refine kncA 2 1 (frb (ix (hollow s) 0) w0.heap.size (sl 2 stateE ((nothing s.actions).states))) rfl rfl (frb_t hh0) ?_
   refine knA 3 (sl 1 intE []) rfl slnil ?_
   have hr0:((nothing s.actions).actions)=((trimS s).1.actions):=by
    rw[trimmed_hol hh0]
   have hr1:((nothing s.actions).states)=((trimS s).1.states):=by
    rw[trimmed_hol hh0]
   have hr2: []=((trimS s).2):=by
    rw[trimmed_hol hh0]
   have hall:∀x0 x1 x2,((nothing s.actions).actions)=x0→((nothing s.actions).states)=x1→[]=x2→resAV [agg [fre w0.heap.size (sl 1 strE ((nothing s.actions).actions)),frb (ix (hollow s) 0) w0.heap.size (sl 2 stateE ((nothing s.actions).states))],sl 1 intE []]=resAV [agg [fre w0.heap.size (sl 1 strE x0),frb (ix (hollow s) 0) w0.heap.size (sl 2 stateE x1)],sl 1 intE x2]:=by rintro _ _ _ rfl rfl rfl;rfl
   exact rE () [.cell 2 25,.tmp 3] rfl [agg [fre w0.heap.size (sl 1 strE ((nothing s.actions).actions)),frb (ix (hollow s) 0) w0.heap.size (sl 2 stateE ((nothing s.actions).states))],sl 1 intE []] ⟨.agg rfl rfl T.agg25 rfl rfl,.tmp rfl,trivial⟩ (hall _ _ _ hr0 hr1 hr2) trivial (by first|exact .inr rfl|exact .inl rfl)
  ·try simp at hc0
   have h00:ix (hollow s) 0=false:=by
    cases h:ix (hollow s) 0 with
    |false=>rfl
    |true=>exact absurd (by rw[hR0.2.1,if_pos h]) hc0
   have hfr:fr=ordS s:=by rw[hR0.2.1,if_neg (by simp[h00]),leftL_len h00,List.take_length]
   have hat:at_=atL s.states.length (ordS s):=by rw[hR0.1,leftL_len h00,List.take_length]
   have hfl:fr.length=(ordS s).length:=by rw[hfr]
   have hal:at_.length=s.states.length:=by rw[hat];exact atL_len _ _
   refine sk (th (sq (sq (rg (lP rfl rfl rfl T.one28 (lnO rfl rfl T.sl28 (mv (nl (th (bk ?_))))))))))
   have hI0_0:0≤fr.length:=by
    first|omega|simp
   have hI0_1:sts=outs s 0:=by
    rw[hR0.2.2,hfr,outs_zero]
   refine lp (κ:=Nat × (List SState)) (fun p=> [(1,ptr 1 b1 0),(2,ptr 2 b2 0),(3,eqv (.slice none 0 0)),(4,ptr 4 b4 0),(5,ptr 5 b5 0),(6,ptr 6 b6 0),(50,osl 50 u50),(51,int (fr.length:Int)),(52,int (p.1:Int))]) (fun p=> [(1,cell b1 [sl 1 strE s.actions,sl 2 stateE s.states]),(2,cell b2 [eqv (.slice none 0 0),eqv (.slice none 0 0)]),(4,cell b4 [fre w0.heap.size (sl 1 strE s.actions),osl 40 u40]),(5,cell b5 [osl 50 u50]),(6,cell b6 [osl 23 v23]),(23,own v23 3 1 intE at_),(40,own u40 69 2 stateE p.2),(50,own u50 3 1 intE fr)]) (fun p=>(p.1≤fr.length)∧(p.2=outs s p.1)) (fun p=>fr.length- p.1) ⟨0,sts⟩ ⟨hI0_0,hI0_1⟩ ⟨id,id,id,id,id,id,id,id,id,trivial⟩ ⟨⟨rfl,id⟩,⟨rfl,id⟩,⟨rfl,id⟩,⟨rfl,id⟩,⟨rfl,id⟩,⟨rfl,id⟩,⟨rfl,id⟩,⟨rfl,id⟩,trivial⟩ ?_
   intro⟨k,sts2⟩ hG0
   obtain⟨hk0,hI0⟩:(k≤fr.length)∧(sts2=outs s k):=hG0
   show Ct _ _ _ _ [(1,ptr 1 b1 0),(2,ptr 2 b2 0),(3,eqv (.slice none 0 0)),(4,ptr 4 b4 0),(5,ptr 5 b5 0),(6,ptr 6 b6 0),(50,osl 50 u50),(51,int (fr.length:Int)),(52,int (k:Int))] [(1,cell b1 [sl 1 strE s.actions,sl 2 stateE s.states]),(2,cell b2 [eqv (.slice none 0 0),eqv (.slice none 0 0)]),(4,cell b4 [fre w0.heap.size (sl 1 strE s.actions),osl 40 u40]),(5,cell b5 [osl 50 u50]),(6,cell b6 [osl 23 v23]),(23,own v23 3 1 intE at_),(40,own u40 69 2 stateE sts2),(50,own u50 3 1 intE fr)] _
   have hsl:sts2.length=(ordS s).length:=by rw[hI0];exact outs_len s k
   refine sq (rg (bi rfl rfl b_lss (nl (th (sq ?_)))))
   refine cd rfl (fun hc1=> ?_) (fun hc1=> ?_)
   ·try simp at hc1
    have hkl:k<(ordS s).length:=by omega
    have hob:=hoq.1 k hkl
    rw[←hfr] at hob
    have hxn:(ix fr k).toNat<s.states.length:=by omega
    have hox:=hs.st _ hxn
    have hacl:=hox.acl
    have hxl:=hox.len
    have hhf:ix sts2 k=half s (ix fr k):=by rw[hI0,hfr];exact outs_ix hkl
    have hha:(ix sts2 k).accept=keep s (ix fr k).toNat:=by rw[hhf];rfl
    refine sk (th (sq (bk (sq (rg (mv (iO rfl rfl rfl T.sl28 (by omega) (by omega) (lO rfl rfl (by first|exact gN (by omega)|exact gI (by omega) (by omega)) rfl T.one3 (al (key:=10) T.z3 (ex_cons (ex_nil)) fun b10=>(ag (sP (φ:=int (ix fr k)) rfl rfl rfl T.one3 rfl (nl (th (sq (rg (ag (nl (th (sq (sq (rg (fP rfl T.fld25_1 (lP rfl rfl rfl T.one23 (mv (iO rfl rfl rfl T.sl23 (by omega) (by omega) (fO rfl T.fld69_0 (lO rfl rfl (by first|exact gN (by omega)|exact gI (by omega) (by omega)) rfl T.one28 (fc (slenI 62 rfl) fun hm62=>(lnF rfl T.sl28 (mv (nl (th (bk ?_)))))))))))))))))))))))))))))))))
    have hI1_0:0≤((ix sts2 k).accept).length:=by
     first|omega|simp
    have hI1_1:(0:Int)=orAll ((keep s (ix fr k).toNat).take 0)∧0≤(0:Int)∧(0:Int)<256:=by
     exact⟨rfl,by omega,by omega⟩
    refine lp (κ:=Nat × Int) (fun p=> [(1,ptr 1 b1 0),(2,ptr 2 b2 0),(3,eqv (.slice none 0 0)),(4,ptr 4 b4 0),(5,ptr 5 b5 0),(6,ptr 6 b6 0),(9,int (k:Int)),(10,ptr 10 b10 0),(11,int p.2),(50,osl 50 u50),(51,int (fr.length:Int)),(52,int (k:Int)),(62,sl 1 intE ((ix sts2 k).accept)),(63,int (((ix sts2 k).accept).length:Int)),(64,int (p.1:Int))]) (fun p=> [(1,cell b1 [sl 1 strE s.actions,sl 2 stateE s.states]),(2,cell b2 [eqv (.slice none 0 0),eqv (.slice none 0 0)]),(4,cell b4 [fre w0.heap.size (sl 1 strE s.actions),osl 40 u40]),(5,cell b5 [osl 50 u50]),(6,cell b6 [osl 23 v23]),(10,cell b10 [int (ix fr k)]),(23,own v23 3 1 intE at_),(40,own u40 69 2 stateE sts2),(50,own u50 3 1 intE fr)]) (fun p=>(p.1≤((ix sts2 k).accept).length)∧(p.2=orAll ((keep s (ix fr k).toNat).take p.1)∧0≤p.2∧p.2<256)) (fun p=>((ix sts2 k).accept).length- p.1) ⟨0,(0:Int)⟩ ⟨hI1_0,hI1_1⟩ ⟨id,id,id,id,id,id,id,id,id,id,id,id,id,id,id,trivial⟩ ⟨⟨rfl,id⟩,⟨rfl,id⟩,⟨rfl,id⟩,⟨rfl,id⟩,⟨rfl,id⟩,⟨rfl,id⟩,⟨rfl,id⟩,⟨rfl,id⟩,⟨rfl,id⟩,trivial⟩ ?_
    intro⟨k1,cn⟩ hG1
    obtain⟨hk1,hI1⟩:(k1≤((ix sts2 k).accept).length)∧(cn=orAll ((keep s (ix fr k).toNat).take k1)∧0≤cn∧cn<256):=hG1
    show Ct _ _ _ _ [(1,ptr 1 b1 0),(2,ptr 2 b2 0),(3,eqv (.slice none 0 0)),(4,ptr 4 b4 0),(5,ptr 5 b5 0),(6,ptr 6 b6 0),(9,int (k:Int)),(10,ptr 10 b10 0),(11,int cn),(50,osl 50 u50),(51,int (fr.length:Int)),(52,int (k:Int)),(62,sl 1 intE ((ix sts2 k).accept)),(63,int (((ix sts2 k).accept).length:Int)),(64,int (k1:Int))] [(1,cell b1 [sl 1 strE s.actions,sl 2 stateE s.states]),(2,cell b2 [eqv (.slice none 0 0),eqv (.slice none 0 0)]),(4,cell b4 [fre w0.heap.size (sl 1 strE s.actions),osl 40 u40]),(5,cell b5 [osl 50 u50]),(6,cell b6 [osl 23 v23]),(10,cell b10 [int (ix fr k)]),(23,own v23 3 1 intE at_),(40,own u40 69 2 stateE sts2),(50,own u50 3 1 intE fr)] _
    refine sq (rg (bi rfl rfl b_lss (nl (th (sq ?_)))))
    refine cd rfl (fun hc2=> ?_) (fun hc2=> ?_)
    ·try simp at hc2
     have hkb:0≤ix (ix sts2 k).accept k1∧ix (ix sts2 k).accept k1<256:=by
         rw[hha] at hc2 ⊢
         exact acc_bd hox (keep_mem (ix_mem hc2)).1
     refine sk (th (sq (bk (sq (rg (iF rfl rfl T.sl28 (by omega) (by first|exact gN (by omega)|exact gI (by omega) (by omega)) (lF rfl rfl T.one3 (ag (nl (th (rg (mv (mv (bi rfl rfl (b_orI (by omega) (by omega) (by omega) (by omega)) (ag (nl (eb (th (rg (bi rfl rfl (b_add (by unfold I64;omega)) (mv (nl ?_))))))))))))))))))))))
     have hN0:(k1+1)≤((ix sts2 k).accept).length:=by
         first|omega|simp_all
     have hN1:((cn.toNat|||((ix ((ix sts2 k).accept) k1).toNat):Nat):Int)=orAll ((keep s (ix fr k).toNat).take (k1+1))∧0≤((cn.toNat|||((ix ((ix sts2 k).accept) k1).toNat):Nat):Int)∧((cn.toNat|||((ix ((ix sts2 k).accept) k1).toNat):Nat):Int)<256:=by
         refine⟨?_,by omega,or_lt256 hI1.2.2 hkb.2⟩
         rw[take_s (by rw[←hha];omega),orAll_snoc,←hI1.1,hha]
     exact ln (⟨k1+1,((cn.toNat|||((ix ((ix sts2 k).accept) k1).toNat):Nat):Int)⟩:Nat × Int) ⟨hN0,hN1⟩ (by first|omega|(dsimp only;omega)) ⟨id,id,id,id,id,id,id,id,id,id,id,id,id,id,id,trivial⟩ ⟨⟨rfl,id⟩,⟨rfl,id⟩,⟨rfl,id⟩,⟨rfl,id⟩,⟨rfl,id⟩,⟨rfl,id⟩,⟨rfl,id⟩,⟨rfl,id⟩,⟨rfl,id⟩,trivial⟩
    ·try simp at hc2
     have hcn:cn=orAll (keep s (ix fr k).toNat):=by rw[hI1.1,show k1=(keep s (ix fr k).toNat).length by rw[←hha];omega,List.take_length]
     refine ex (xt_ (xt_ (xb (th (sq (rg (bsE (enc:=intE) (xs:= [(-1)]) (css:= [[int (-1)]]) T.mk28 ⟨rfl,rfl,p1 (φ:=int (-1)) rfl,trivial⟩ rfl rfl rfl rfl (fP rfl T.fld25_0 (lP rfl rfl rfl T.one22 (fc (slenI 74 rfl) fun hm74=>(lnF rfl T.sl22 (cl (prog8.Repeat_ok s.actions.length (by omega)) T.ent63 trivial fun N76 v76=>(al (key:=14) T.z28 (ex_cons (ex_nil)) fun b14=>(storePO rfl rfl rfl rfl T.one28 rfl (nl (th (sq (sq (rg (mv (cal0 (φs:= [int cn]) (φ:=clo 115 [fp [int cn]]) ⟨rfl,trivial⟩ (prog3.In_ok cn) T.ent95 (nl (th (bk ?_))))))))))))))))))))))))
     have hR1:(List.replicate s.actions.length (-1))=nxL s (ix fr k) 0:=by
         exact nxL_zero _ _
     refine rf (κ:=(List Int)) 901 (fun p=> [(1,cell b1 [sl 1 strE s.actions,sl 2 stateE s.states]),(2,cell b2 [eqv (.slice none 0 0),eqv (.slice none 0 0)]),(4,cell b4 [fre w0.heap.size (sl 1 strE s.actions),osl 40 u40]),(5,cell b5 [osl 50 u50]),(6,cell b6 [osl 23 v23]),(10,cell b10 [int (ix fr k)]),(14,cell b14 [osl 30 v76]),(23,own v23 3 1 intE at_),(30,own v76 3 1 intE p),(40,own u40 69 2 stateE sts2),(50,own u50 3 1 intE fr)]) (fun iR p=>p=nxL s (ix fr k) iR) (fun c p=>False) rfl (InIt cn (by omega) (by omega)) T.ent115 rfl (fun _=>rfl) (fun _=>rfl) (List.replicate s.actions.length (-1)) hR1 ⟨⟨rfl,id⟩,⟨rfl,id⟩,⟨rfl,id⟩,⟨rfl,id⟩,⟨rfl,id⟩,⟨rfl,id⟩,⟨rfl,id⟩,⟨rfl,id⟩,⟨rfl,id⟩,⟨rfl,id⟩,⟨rfl,id⟩,trivial⟩ ?_ ?_ (fun k h=>h.elim) (fun id k h=>h.elim) (fun c k h=>h.elim)
     ·intro m1 nx x1 hG1 hx1 l R w1 M1 F1 hRd
      have hR1:nx=nxL s (ix fr k) m1:=hG1
      obtain⟨a,rfl,ha63,hha2⟩:=listOf_get hx1
      rw[hcn] at hx1 hha2
      have hgo:=can_go hs hxn hha2
      have hnl:nx.length=s.actions.length:=by rw[hR1];simp[nxL]
      refine rg (ag (nl (aq hRd rfl (bk (dr (nh:=15) [0,0,0,0,8,0,56,120,248,0,1016,2040,4092,8188,16383,32767] T.mixed (by kernel_rfl) ?_)))))
      refine st_ rfl (fun _ _ _ gq kq=>lP (gq.1.trans rfl) rfl rfl T.one28 kq) ?_
      refine st_ rfl (fun _ _ _ gq kq=>mv' (gq.1.trans rfl) kq) ?_
      refine st_ rfl (fun _ _ _ gq kq=>lP (gq.1.trans rfl) rfl rfl T.one28 kq) ?_
      refine st_ rfl (fun _ _ _ gq kq=>fP (gq.1.trans rfl) T.fld25_1 kq) ?_
      refine st_ rfl (fun _ _ _ gq kq=>lP (gq.1.trans rfl) rfl rfl T.one23 kq) ?_
      refine st_ rfl (fun _ _ _ gq kq=>lP (gq.1.trans rfl) rfl rfl T.one3 kq) ?_
      refine st_ rfl (fun _ _ _ gq kq=>iF (gq.1.trans rfl) (gq.2.1.trans rfl) T.sl23 (by omega) (by first|exact gN (by omega)|exact gI (by omega) (by omega)) kq) ?_
      refine st_ rfl (fun _ _ _ gq kq=>fF (gq.1.trans rfl) T.fld69_1 kq) ?_
      refine st_ rfl (fun _ _ _ gq kq=>lF (gq.1.trans rfl) rfl T.one28 kq) ?_
      refine st_ rfl (fun _ _ _ gq kq=>mv' (gq.1.trans rfl) kq) ?_
      refine st_ rfl (fun _ _ _ gq kq=>iF (gq.1.trans rfl) (gq.2.1.trans rfl) T.sl28 (by omega) (by first|exact gN (by omega)|exact gI (by omega) (by omega)) kq) ?_
      refine st_ rfl (fun _ _ _ gq kq=>lF (gq.1.trans rfl) rfl T.one3 kq) ?_
      refine st_ rfl (fun _ _ _ gq kq=>iO (gq.1.trans rfl) rfl (gq.2.1.trans rfl) T.sl28 (by omega) (by omega) kq) ?_
      refine st_ rfl (fun _ _ _ gq kq=>lO (gq.1.trans rfl) rfl (by first|exact gN (by omega)|exact gI (by omega) (by omega)) rfl T.one3 kq) ?_
      refine st_ rfl (fun _ _ _ gq kq=>iO (gq.1.trans rfl) rfl (gq.2.1.trans rfl) T.sl28 (by omega) (by omega) kq) ?_
      refine pn (sO (φ:=int (ix at_ ((ix ((ix s.states ((ix fr k).toNat)).next) a).toNat))) rfl rfl rfl T.one3 (by first|exact gN (by omega)|exact gI (by omega) (by omega)) rfl (y':=(ix at_ ((ix ((ix s.states ((ix fr k).toNat)).next) a).toNat))) rfl (nl (eb ?_)))
      have hN0:(nx.set a (ix at_ ((ix ((ix s.states ((ix fr k).toNat)).next) a).toNat)))=nxL s (ix fr k) (m1+1):=by
         rw[←nxL_succ hx1 (by omega),←hR1,hat,atL_ix (by omega),Int.toNat_of_nonneg hgo.2.1]
      exact rqN (nx.set a (ix at_ ((ix ((ix s.states ((ix fr k).toNat)).next) a).toNat))) hN0 ⟨⟨rfl,id⟩,⟨rfl,id⟩,⟨rfl,id⟩,⟨rfl,id⟩,⟨rfl,id⟩,⟨rfl,id⟩,⟨rfl,id⟩,⟨rfl,id⟩,⟨rfl,id⟩,⟨rfl,id⟩,⟨rfl,id⟩,⟨rfl,id⟩,trivial⟩
     ·intro nx hG1
      have hR1:nx=nxL s (ix fr k) ((listOf 63 cn).length):=hG1
      refine eb (th (rg (fP rfl T.fld25_1 (lP rfl rfl rfl T.one23 (mv (lP rfl rfl rfl T.one28 (iO rfl rfl rfl T.sl23 (by omega) (by omega) (fO rfl T.fld69_1 (fz 30 98 rfl rfl (sO (φ:=sl 1 intE nx) rfl rfl rfl T.one28 (gN (by omega)) rfl (y':=⟨(ix sts2 k).accept,nx⟩) rfl (nl (eb (th (rg (bi rfl rfl (b_add (by unfold I64;omega)) (mv (nl ?_)))))))))))))))))
      have hN0:(k+1)≤fr.length:=by
         first|omega|simp_all
      have hN1:(sts2.set k (⟨(ix sts2 k).accept,nx⟩))=outs s (k+1):=by
         rw[hcn,nxL_end hs] at hR1
         rw[←outs_succ hkl,←hI0,hR1,hha]
         rw[show ix fr k=ix (ordS s) k by rw[hfr]]
         rfl
      exact ln (⟨k+1,sts2.set k (⟨(ix sts2 k).accept,nx⟩)⟩:Nat × (List SState)) ⟨hN0,hN1⟩ (by first|omega|(dsimp only;omega)) ⟨id,id,id,id,id,id,id,id,id,trivial⟩ ⟨⟨rfl,id⟩,⟨rfl,id⟩,⟨rfl,id⟩,⟨rfl,id⟩,⟨rfl,id⟩,⟨rfl,id⟩,⟨rfl,id⟩,⟨rfl,id⟩,trivial⟩
   ·try simp at hc1
    refine ex (xt_ (xt_ (xb (th (sq (fzcC 4 40 1 rfl rfl rfl rfl (fzcC 5 50 0 rfl rfl rfl rfl ?_)))))))
    refine drH (nh:=4) [0,0,1,7] [(none,[4]),(none,[5]),(some 2,[2]),(none,[])] T.mixed (by kernel_rfl) (by kernel_rfl) ?_
    refine stv (d:=102) (fun β0=>agg [fre w0.heap.size (sl 1 strE s.actions),sl 2 stateE sts2]) [4] rfl (fun β β' hb=>rfl) (fun β0 _ _ _ _ gq gh kq=>lPA (gq.1.trans rfl) (gh.1.trans rfl) T.agg25 rfl kq) ?_
    refine stv (d:=103) (fun β0=>sl 1 intE fr) [5] rfl (fun β β' hb=>rfl) (fun β0 _ _ _ _ gq gh kq=>lP (gq.1.trans rfl) (gh.1.trans rfl) rfl T.one28 kq) ?_
    refine stw 2 (fun β0=>cell b2 [fre w0.heap.size (sl 1 strE s.actions),sl 2 stateE sts2]) [2] rfl (fun β β' hb=>rfl) (fun β0 _ _ _ _ gq gh kq=>sPA (cs':= [fre w0.heap.size (sl 1 strE s.actions),sl 2 stateE sts2]) (gq.1.trans rfl) (gh.1.trans rfl) (gq.2.1.trans rfl) T.agg25 rfl rfl kq) ?_
    refine stv (d:=3) (fun β0=>sl 1 intE fr) [] rfl (fun β β' hb=>rfl) (fun β0 _ _ _ _ gq gh kq=>ag' (gq.1.trans rfl) kq) ?_
    refine pnH fun β0=>(nl (th (rt ?_)))
    refine kncA 2 1 (frb (ix (hollow s) 0) w0.heap.size (sl 2 stateE sts2)) rfl rfl (frb_f h00) ?_
    have hr0:s.actions=((trimS s).1.actions):=by
     rw[trimmed_not h00]
    have hr1:sts2=((trimS s).1.states):=by
     rw[trimmed_not h00,hI0,show k=(ordS s).length by omega,outs_end]
    have hr2:fr=((trimS s).2):=by
     rw[trimmed_not h00,hfr]
    have hall:∀x0 x1 x2,s.actions=x0→sts2=x1→fr=x2→resAV [agg [fre w0.heap.size (sl 1 strE s.actions),frb (ix (hollow s) 0) w0.heap.size (sl 2 stateE sts2)],sl 1 intE fr]=resAV [agg [fre w0.heap.size (sl 1 strE x0),frb (ix (hollow s) 0) w0.heap.size (sl 2 stateE x1)],sl 1 intE x2]:=by rintro _ _ _ rfl rfl rfl;rfl
    exact rE () [.cell 2 25,.tmp 3] rfl [agg [fre w0.heap.size (sl 1 strE s.actions),frb (ix (hollow s) 0) w0.heap.size (sl 2 stateE sts2)],sl 1 intE fr] ⟨.agg rfl rfl T.agg25 rfl rfl,.tmp rfl,trivial⟩ (hall _ _ _ hr0 hr1 hr2) trivial (by first|exact .inr rfl|exact .inl rfl)
end prog9
end Go.Proofs.YtolpjmllmlahfaaDoor
namespace Go.Proofs.YtolpjmllmlahfaaDoor
open AL Go Go.Shelf
set_option maxRecDepth 100000
set_option linter.all false
namespace Itoa
def ren171:Go.Shelf.Ren:=
{
 f:=fun x=>
  match x with
  |171=>93
  |243=>114
  |246=>136
  |283=>150
  |284=>151
  |285=>152
  |286=>153
  |129=>134
  |317=>158
  |318=>159
  |319=>160
  |320=>161
  |337=>163
  |338=>164
  |n=>n,
 t:=fun x=>
  match x with
  |3=>3
  |9=>9
  |2=>2
  |4=>4
  |171=>197
  |0=>0
  |53=>168
  |37=>199
  |5=>5
  |173=>200
  |212=>208
  |51=>165
  |20=>20
  |213=>209
  |46=>143
  |232=>211
  |233=>212
  |n=>n,
 g:=fun x=>
  match x with
  |17=>0
  |18=>1
  |19=>2
  |n=>n }
theorem lays171:LaysM.n171 Tryd.prog ren171:=
{ mixed:=Eq.refl true,f129:=Eq.trans Tryd.func134 (congrArg some (Eq.refl (Body.n129 ren171))),
  f171:=Eq.trans Tryd.func93 (congrArg some (Eq.refl (Body.n171 ren171))),
  f243:=Eq.trans Tryd.func114 (congrArg some (Eq.refl (Body.n243 ren171))),
  f246:=Eq.trans Tryd.func136 (congrArg some (Eq.refl (Body.n246 ren171))),
  f283:=Eq.trans Tryd.func150 (congrArg some (Eq.refl (Body.n283 ren171))),
  f284:=Eq.trans Tryd.func151 (congrArg some (Eq.refl (Body.n284 ren171))),
  f285:=Eq.trans Tryd.func152 (congrArg some (Eq.refl (Body.n285 ren171))),
  f286:=Eq.trans Tryd.func153 (congrArg some (Eq.refl (Body.n286 ren171))),
  f317:=Eq.trans Tryd.func158 (congrArg some (Eq.refl (Body.n317 ren171))),
  f318:=Eq.trans Tryd.func159 (congrArg some (Eq.refl (Body.n318 ren171))),
  f319:=Eq.trans Tryd.func160 (congrArg some (Eq.refl (Body.n319 ren171))),
  f320:=Eq.trans Tryd.func161 (congrArg some (Eq.refl (Body.n320 ren171))),
  f337:=Eq.trans Tryd.func163 (congrArg some (Eq.refl (Body.n337 ren171))),
  f338:=Eq.trans Tryd.func164 (congrArg some (Eq.refl (Body.n338 ren171))),t0:=Tryd.underlying0,
  a0:=Tryd.isAgg0,z0:=Tryd.sizeOf0,v0:=Tryd.zeroValue0,t2:=Tryd.underlying2,a2:=Tryd.isAgg2,
  z2:=Tryd.sizeOf2,v2:=Tryd.zeroValue2,t3:=Tryd.underlying3,a3:=Tryd.isAgg3,z3:=Tryd.sizeOf3,
  v3:=Tryd.zeroValue3,t4:=Tryd.underlying4,a4:=Tryd.isAgg4,z4:=Tryd.sizeOf4,v4:=Tryd.zeroValue4,
  t5:=Tryd.underlying5,a5:=Tryd.isAgg5,z5:=Tryd.sizeOf5,v5:=Tryd.zeroValue5,t9:=Tryd.underlying9,
  a9:=Tryd.isAgg9,z9:=Tryd.sizeOf9,v9:=Tryd.zeroValue9,t20:=Tryd.underlying20,a20:=Tryd.isAgg20,
  z20:=Tryd.sizeOf20,v20:=Tryd.zeroValue20,t37:=Tryd.underlying199,a37:=Tryd.isAgg199,z37:=Tryd.sizeOf199,
  v37:=Tryd.zeroValue199,t46:=Tryd.underlying143,a46:=Tryd.isAgg143,z46:=Tryd.sizeOf143,
  v46:=Tryd.zeroValue143,t51:=Tryd.underlying165,a51:=Tryd.isAgg165,z51:=Tryd.sizeOf165,
  v51:=Tryd.zeroValue165,t53:=Tryd.underlying168,a53:=Tryd.isAgg168,z53:=Tryd.sizeOf168,
  v53:=Tryd.zeroValue168,t171:=Tryd.underlying197,a171:=Tryd.isAgg197,z171:=Tryd.sizeOf197,
  v171:=Tryd.zeroValue197,t173:=Tryd.underlying200,a173:=Tryd.isAgg200,z173:=Tryd.sizeOf200,
  v173:=Tryd.zeroValue200,t212:=Tryd.underlying208,a212:=Tryd.isAgg208,z212:=Tryd.sizeOf208,
  v212:=Tryd.zeroValue208,t213:=Tryd.underlying209,a213:=Tryd.isAgg209,z213:=Tryd.sizeOf209,
  t232:=Tryd.underlying211,a232:=Tryd.isAgg211,z232:=Tryd.sizeOf211,v232:=Tryd.zeroValue211,
  t233:=Tryd.underlying212,a233:=Tryd.isAgg212,z233:=Tryd.sizeOf212,v233:=Tryd.zeroValue212,
  g17:=by kernel_rfl,g18:=by kernel_rfl,
  g19:=by kernel_rfl,i0:=Eq.refl (some (some (Value.tuple #[]),1,0)),
  i2:=Eq.refl (some (some (Value.int IntKind.i64 0),1,8)),
  i3:=Eq.refl (some (some (Value.int IntKind.i64 0),1,8)),i4:=Eq.refl (some (some (Value.bool false),1,1)),
  i5:=Eq.refl (some (some (Value.int IntKind.u8 0),1,1)),
  i9:=Eq.refl (some (some (Value.string ⟨#[]⟩),1,16)),i20:=Eq.refl (some (some Value.nilIface,1,16)),
  i37:=Eq.refl (some (some (Value.slice none 0 0),1,24)),
  i46:=Eq.refl (some (some (Value.int IntKind.u64 0),1,8)),
  i51:=Eq.refl (some (some (Value.int IntKind.u32 0),1,4)),
  i53:=Eq.refl (some (some (Value.int IntKind.u64 0),1,8)),
  i171:=
   Eq.refl
    (some
      (some
        (Value.agg
          #[Value.int IntKind.u8 0,Value.int IntKind.u8 0,Value.int IntKind.u8 0,Value.int IntKind.u8 0,
            Value.int IntKind.u8 0,Value.int IntKind.u8 0,Value.int IntKind.u8 0,Value.int IntKind.u8 0,
            Value.int IntKind.u8 0,Value.int IntKind.u8 0,Value.int IntKind.u8 0,Value.int IntKind.u8 0,
            Value.int IntKind.u8 0,Value.int IntKind.u8 0,Value.int IntKind.u8 0,Value.int IntKind.u8 0,
            Value.int IntKind.u8 0,Value.int IntKind.u8 0,Value.int IntKind.u8 0,Value.int IntKind.u8 0,
            Value.int IntKind.u8 0,Value.int IntKind.u8 0,Value.int IntKind.u8 0,Value.int IntKind.u8 0]),
        24,24)),
  i173:=Eq.refl (some (some (Value.tuple #[Value.slice none 0 0,Value.string ⟨#[]⟩]),1,0)),
  i212:=
   Eq.refl
    (some
      (some
        (Value.agg
          #[Value.int IntKind.u64 0,Value.int IntKind.u64 0,Value.int IntKind.u64 0,Value.int IntKind.u64 0,
            Value.int IntKind.u64 0,Value.int IntKind.u64 0,Value.int IntKind.u64 0,Value.int IntKind.u64 0,
            Value.int IntKind.u64 0,Value.int IntKind.u64 0,Value.int IntKind.u64 0,Value.int IntKind.u64 0,
            Value.int IntKind.u64 0,Value.int IntKind.u64 0,Value.int IntKind.u64 0,Value.int IntKind.u64 0,
            Value.int IntKind.u64 0,Value.int IntKind.u64 0,Value.int IntKind.u64 0,Value.int IntKind.u64 0]),
        20,160)),
  i232:=
   Eq.refl
    (some
      (some
        (Value.agg
          #[Value.int IntKind.u8 0,Value.int IntKind.u8 0,Value.int IntKind.u8 0,Value.int IntKind.u8 0,
            Value.int IntKind.u8 0,Value.int IntKind.u8 0,Value.int IntKind.u8 0,Value.int IntKind.u8 0,
            Value.int IntKind.u8 0,Value.int IntKind.u8 0,Value.int IntKind.u8 0,Value.int IntKind.u8 0,
            Value.int IntKind.u8 0,Value.int IntKind.u8 0,Value.int IntKind.u8 0,Value.int IntKind.u8 0,
            Value.int IntKind.u8 0,Value.int IntKind.u8 0,Value.int IntKind.u8 0,Value.int IntKind.u8 0,
            Value.int IntKind.u8 0,Value.int IntKind.u8 0,Value.int IntKind.u8 0,Value.int IntKind.u8 0,
            Value.int IntKind.u8 0,Value.int IntKind.u8 0,Value.int IntKind.u8 0,Value.int IntKind.u8 0,
            Value.int IntKind.u8 0,Value.int IntKind.u8 0,Value.int IntKind.u8 0,Value.int IntKind.u8 0]),
        32,32)),
  i233:=
   Eq.refl
    (some
      (some
        (Value.agg
          (let y:=
            let y:=
             let y:=
              let y:=
               [Value.int IntKind.u8 0,Value.int IntKind.u8 0,Value.int IntKind.u8 0,
                       Value.int IntKind.u8 0];
              Value.int IntKind.u8 0::
               Value.int IntKind.u8 0::Value.int IntKind.u8 0::Value.int IntKind.u8 0::y;
             let y:=
              Value.int IntKind.u8 0::
               Value.int IntKind.u8 0::Value.int IntKind.u8 0::Value.int IntKind.u8 0::y;
             Value.int IntKind.u8 0::
              Value.int IntKind.u8 0::Value.int IntKind.u8 0::Value.int IntKind.u8 0::y;
            let y:=
             let y:=
              Value.int IntKind.u8 0::
               Value.int IntKind.u8 0::Value.int IntKind.u8 0::Value.int IntKind.u8 0::y;
             Value.int IntKind.u8 0::
              Value.int IntKind.u8 0::Value.int IntKind.u8 0::Value.int IntKind.u8 0::y;
            let y:=
             Value.int IntKind.u8 0::
              Value.int IntKind.u8 0::Value.int IntKind.u8 0::Value.int IntKind.u8 0::y;
            Value.int IntKind.u8 0::
             Value.int IntKind.u8 0::Value.int IntKind.u8 0::Value.int IntKind.u8 0::y;
            let y:=
             let y:=
              let y:=
               Value.int IntKind.u8 0::
                Value.int IntKind.u8 0::Value.int IntKind.u8 0::Value.int IntKind.u8 0::y;
              Value.int IntKind.u8 0::
               Value.int IntKind.u8 0::Value.int IntKind.u8 0::Value.int IntKind.u8 0::y;
             let y:=
              Value.int IntKind.u8 0::
               Value.int IntKind.u8 0::Value.int IntKind.u8 0::Value.int IntKind.u8 0::y;
             Value.int IntKind.u8 0::
              Value.int IntKind.u8 0::Value.int IntKind.u8 0::Value.int IntKind.u8 0::y;
            let y:=
             let y:=
              Value.int IntKind.u8 0::
               Value.int IntKind.u8 0::Value.int IntKind.u8 0::Value.int IntKind.u8 0::y;
             Value.int IntKind.u8 0::
              Value.int IntKind.u8 0::Value.int IntKind.u8 0::Value.int IntKind.u8 0::y;
            let y:=
             Value.int IntKind.u8 0::
              Value.int IntKind.u8 0::Value.int IntKind.u8 0::Value.int IntKind.u8 0::y;
            Value.int IntKind.u8 0::
             Value.int IntKind.u8 0::Value.int IntKind.u8 0::Value.int IntKind.u8 0::y).toArray),
        64,64)),
  m17:=by kernel_rfl,m18:=by kernel_rfl,
  m19:=by kernel_rfl }
def tabName:String:= "internal/strconv.uint64pow10"
def tab:AV:=⟨fun w F _=> ∃g,Tryd.prog.globalNamed tabName=some g∧F g∧Lib.TabIs Tryd.prog w tabName .u64 Lib.pow10Tab,fun {w F w' F' v} hF hw ⟨g,h1,h2,h3⟩=>⟨g,h1,hF g h2,by
 unfold Lib.TabIs World.var? at h3 ⊢
 rw[h1] at h3 ⊢
 simp only [Option.bind_some] at h3 ⊢
 rw[hw g h2];exact h3⟩⟩
instance:Amb tab:=⟨fun _ h=>h⟩
abbrev tabbed (φ:AV):AV:=both φ tab
def itoaB (n:Int):ByteArray:=⟨(Lib.itoa n).toArray⟩
theorem itoa_size {n:Int} (h0: -9223372036854775808≤n) (h1:n≤9223372036854775807):(itoaB n).size≤21:=by
 have:=Lib.itoa_length_le n h0 h1
 show(Lib.itoa n).toArray.size≤21
 simpa using this
attribute [local semireducible] eqv emp in
theorem Itoa_ok (n:Int) (h0: -9223372036854775808≤n) (h1:n≤9223372036854775807):Fn0 Tryd.prog 93 [tabbed (int n)] (str (itoaB n)):=by
 intro w F vs hvs hb hH
 match vs,hvs with
 | [v],⟨⟨hv,g,hg,hF,ht⟩,_⟩=>
   have hv:v= .int .i64 n:=hv
   subst hv
   refine(Any.strconv_Itoa lays171 n h0 h1 w ht).mono ?_
   rintro e w' ⟨rfl,k,os,rfl⟩
   refine⟨(),_,F,rfl,?_⟩
   have hheap:∀b,b<w.heap.size→(Sort.grow (w.drewN k) os).heap[b]?=w.heap[b]?:=fun b hb=>by
     show(w.heap++os)[b]?=_
     rw[Array.getElem?_append_left hb]
   exact { res:=rfl,ok:=hpOk_nil _ _,sub:=fun _ h=>h,new:=fun b h=> .inl h,foot:=fun b h=>by obtain⟨k,h⟩:=h;exact(show False from h).elim,old:=fun b hb _=>hheap b hb,size:=by show _≤(w.heap++os).size;simp,os:=rfl,tape:=rfl,out:=rfl }
end Itoa
end Go.Proofs.YtolpjmllmlahfaaDoor
namespace Go.Proofs.YtolpjmllmlahfaaDoor
open AL ref01 ref03 ref04 ref06 Rungs LeftM TrimM Itoa
namespace Keys
def dval (l:List UInt8):Nat:=l.foldl (fun a d=>a*10+(d.toNat- 48)) 0
theorem dval_snoc (l:List UInt8) (d:UInt8):dval (l++ [d])=dval l*10+(d.toNat- 48):=by simp[dval]
theorem dec_spec (u:Nat):dval (Lib.decDigits u)=u∧(∀d∈Lib.decDigits u,d≠32)∧Lib.decDigits u≠[]:=by
 induction u using Nat.strongRecOn with
 |ind u ih=>
  have hd:∀k,k<10→(UInt8.ofNat (48+k)).toNat=48+k:=fun k hk=>by
   rw[UInt8.toNat_ofNat'];omega
  have hne:∀k,k<10→UInt8.ofNat (48+k)≠32:=fun k hk e=>by
   have:=congrArg UInt8.toNat e
   rw[hd k hk] at this
   have h2:(32:UInt8).toNat=32:=rfl
   omega
  rw[Lib.decDigits]
  by_cases h:u<10
  ·rw[dif_pos h]
   refine⟨?_,fun d hm=> ?_,by simp⟩
   ·have:=dval_snoc [] (UInt8.ofNat (48+u))
    rw[List.nil_append] at this
    rw[this,hd u h]
    show 0*10+_=u
    omega
   ·have:d=UInt8.ofNat (48+u):=by simpa using hm
    subst this;exact hne u h
  ·rw[dif_neg h]
   obtain⟨h1,h2,h3⟩:=ih (u/10) (by omega)
   refine⟨?_,fun d hm=> ?_,by simp⟩
   ·rw[dval_snoc,h1,hd _ (by omega)];omega
   ·rcases List.mem_append.1 hm with hm|hm
    ·exact h2 d hm
    ·have:d=UInt8.ofNat (48+u % 10):=by simpa using hm
     subst this;exact hne _ (by omega)
theorem itoa_nn {n:Int} (h:0≤n):Lib.itoa n=Lib.decDigits n.toNat:=by unfold Lib.itoa;rw[if_neg (by omega)]
theorem itoa_inj {m n:Int} (hm:0≤m) (hn:0≤n) (h:Lib.itoa m=Lib.itoa n):m=n:=by
 rw[itoa_nn hm,itoa_nn hn] at h
 have h1:=(dec_spec m.toNat).1
 have h2:=(dec_spec n.toNat).1
 rw[h,h2] at h1
 omega
theorem itoa_no {m:Int} (hm:0≤m):∀d∈Lib.itoa m,d≠32:=by
 rw[itoa_nn hm];exact(dec_spec _).2.1
def tail_ (l:List Int):List UInt8:=l.flatMap fun t=>32::Lib.itoa t
theorem cut_eq {a b r s:List UInt8} (ha:∀d∈a,d≠32) (hb:∀d∈b,d≠32) (hr:r= []∨∃t,r=32::t) (hs:s= []∨∃t,s=32::t) (h:a++r=b++s):a=b∧r=s:=by
 induction a generalizing b with
 |nil=>
  cases b with
  |nil=>exact⟨rfl,h⟩
  |cons y b=>
   rcases hr with rfl|⟨t,rfl⟩
   ·simp at h
   ·simp at h;exact absurd h.1.symm (hb y (by simp))
 |cons x a ih=>
  cases b with
  |nil=>
   rcases hs with rfl|⟨t,rfl⟩
   ·simp at h
   ·simp at h;exact absurd h.1 (ha x (by simp))
  |cons y b=>
   simp at h
   obtain⟨h1,h2⟩:=ih (fun d hd=>ha d (by simp[hd])) (fun d hd=>hb d (by simp[hd])) h.2
   exact⟨by rw[h.1,h1],h2⟩
theorem tail_cases (l:List Int):tail_ l= []∨∃t,tail_ l=32::t:=by
 cases l with
 |nil=>exact .inl rfl
 |cons x l=>exact .inr ⟨_,rfl⟩
theorem tail_inj:∀{l m:List Int},(∀x∈l,0≤x)→(∀x∈m,0≤x)→tail_ l=tail_ m→l=m
 | [],[],_,_,_=>rfl
 | [],y::m,_,_,h=>by simp[tail_] at h
 |x::l,[],_,_,h=>by simp[tail_] at h
 |x::l,y::m,hl,hm,h=>by
  have h:32::(Lib.itoa x++tail_ l)=32::(Lib.itoa y++tail_ m):=h
  obtain⟨h1,h2⟩:=cut_eq (itoa_no (hl x (by simp))) (itoa_no (hm y (by simp))) (tail_cases l) (tail_cases m) (List.cons.inj h).2
  rw[itoa_inj (hl x (by simp)) (hm y (by simp)) h1,tail_inj (fun z hz=>hl z (by simp[hz])) (fun z hz=>hm z (by simp[hz])) h2]
theorem tail_snoc (l:List Int) (x:Int):tail_ (l++ [x])=tail_ l++32::Lib.itoa x:=by simp[tail_]
def tailB (l:List Int):ByteArray:=⟨(tail_ l).toArray⟩
theorem ba_append (a b:List UInt8):(⟨a.toArray⟩:ByteArray)++⟨b.toArray⟩=⟨(a++b).toArray⟩:=by
 apply ByteArray.ext
 rw[ByteArray.data_append]
 simp
theorem tailB_snoc (l:List Int) (x:Int):tailB l++(⟨#[32]⟩++itoaB x)=tailB (l++ [x]):=by
 unfold tailB itoaB
 rw[tail_snoc,show(⟨#[32]⟩:ByteArray)=⟨([32]:List UInt8).toArray⟩ from rfl,ba_append,ba_append];rfl
def keyB (c:Int) (l:List Int):ByteArray:=⟨(Lib.itoa c++tail_ l).toArray⟩
theorem keyB_nil (c:Int):itoaB c=keyB c []:=by unfold itoaB keyB;simp[tail_]
theorem keyB_snoc (c:Int) (l:List Int) (x:Int):keyB c l++(⟨#[32]⟩++itoaB x)=keyB c (l++ [x]):=by
 unfold keyB itoaB
 rw[tail_snoc,show(⟨#[32]⟩:ByteArray)=⟨([32]:List UInt8).toArray⟩ from rfl,ba_append,ba_append];simp
theorem ba_inj {a b:List UInt8} (h:(⟨a.toArray⟩:ByteArray)=⟨b.toArray⟩):a=b:=by
 have:=congrArg (fun z:ByteArray=>z.data.toList) h
 simpa using this
theorem tailB_inj {l m:List Int} (hl:∀x∈l,0≤x) (hm:∀x∈m,0≤x) (h:tailB l=tailB m):l=m:=tail_inj hl hm (ba_inj h)
theorem keyB_inj {c d:Int} {l m:List Int} (hc:0≤c) (hd:0≤d) (hl:∀x∈l,0≤x) (hm:∀x∈m,0≤x) (h:keyB c l=keyB d m):c=d∧l=m:=by
 obtain⟨h1,h2⟩:=cut_eq (itoa_no hc) (itoa_no hd) (tail_cases l) (tail_cases m) (ba_inj h)
 exact⟨itoa_inj hc hd h1,tail_inj hl hm h2⟩
theorem tail_len (l:List Int) (h:∀x∈l,0≤x∧x≤9223372036854775807):(tail_ l).length≤22*l.length:=by
 induction l with
 |nil=>simp[tail_]
 |cons x l ih=>
  have h1:=Lib.itoa_length_le x (by have:=h x (by simp);omega) (h x (by simp)).2
  have h2:=ih (fun y hy=>h y (by simp[hy]))
  have:tail_ (x::l)=32::(Lib.itoa x++tail_ l):=rfl
  rw[this];simp;omega
theorem tailB_size (l:List Int) (h:∀x∈l,0≤x∧x≤9223372036854775807):(tailB l).size≤22*l.length:=by
 have:=tail_len l h
 show(tail_ l).toArray.size≤_
 simpa using this
theorem keyB_size (c:Int) (l:List Int) (hc:0≤c∧c≤9223372036854775807) (h:∀x∈l,0≤x∧x≤9223372036854775807):(keyB c l).size≤22+22*l.length:=by
 have h1:=tail_len l h
 have h2:=Lib.itoa_length_le c (by omega) hc.2
 show(Lib.itoa c++tail_ l).toArray.size≤_
 simp;omega
end Keys
end Go.Proofs.YtolpjmllmlahfaaDoor
namespace Go.Proofs.YtolpjmllmlahfaaDoor
open AL Go
set_option maxRecDepth 100000
set_option linter.all false
open ref01 ref03 ref04 ref06 prog prog2 prog3 prog4 prog5 prog6 prog7 prog8 prog9 Part Rungs LeftM TrimM Itoa Keys
def intsE:List Int→List AV:=fun xs=> [ints xs]
noncomputable def keepL (s:SSpec) (k:Nat) (z:Nat→List Int):List (List Int):=(List.range s.states.length).map fun x=>if x<k then keep s x else z x
theorem keepL_put {s:SSpec} {k:Nat} (hk:k<s.states.length) {l l':List Int}:(keepL s k (fun x=>if x=k then l else [])).set k l'=keepL s k (fun x=>if x=k then l' else []):=
 map_upd hk (by simp) (fun y _ hne=>by by_cases h:y<k<;>simp[h,hne])
theorem keepL_zero (s:SSpec):List.replicate s.states.length []=keepL s 0 (fun _=> []):=by
 unfold keepL;simp[List.map_const']
theorem keepL_in (s:SSpec) (k:Nat):keepL s k (fun _=> [])=keepL s k (fun x=>if x=k then [] else []):=by
 unfold keepL;simp
theorem keepL_out (s:SSpec) (k:Nat):keepL s k (fun x=>if x=k then keep s k else [])=keepL s (k+1) (fun _=> []):=by
 unfold keepL
 refine List.map_congr_left (fun x _=> ?_)
 by_cases h:x<k
 ·simp[h,show x<k+1 by omega]
 ·by_cases e:x=k
  ·subst e;simp
  ·simp[h,e,show ¬x<k+1 by omega]
theorem keepL_at {s:SSpec} {k:Nat} (hk:k<s.states.length) (l:List Int):ix (keepL s k (fun x=>if x=k then l else [])) k=l:=by
 unfold keepL;rw[ix_map_range hk];simp
theorem keepL_len (s:SSpec) (k:Nat) (z:Nat→List Int):(keepL s k z).length=s.states.length:=by simp[keepL]
noncomputable def keeps (s:SSpec):List (List Int):=(List.range s.states.length).map (keep s)
theorem keepL_end (s:SSpec):keepL s s.states.length (fun _=> [])=keeps s:=by
 unfold keepL keeps
 exact List.map_congr_left (fun x hx=>by rw[if_pos (List.mem_range.1 hx)])
namespace T
theorem mk134:MakeT Tryd.prog 134 28 1 24 [.slice none 0 0]:=makeT_of (by kernel_rfl) (by kernel_rfl)
theorem sl134:IsSlice Tryd.prog 134 28 1:=isSlice_of (by kernel_rfl)
end T
namespace prog10
theorem left_ok (s:SSpec) (hs:okSpec s):
 Fn0 Tryd.prog 89 [spec s,bls (hollow s)] (sl 1 intsE (keeps s)):=by
 refine fnI Tryd.func89 rfl rfl (fun w0 F0=> ?_)
 have hf1:=hs.few1;have hn8:=hs.n8;have hhl:=hollow_len s
 refine fcC (inhS 0 rfl) (fun hS0=> ?_)
 obtain⟨hsa0,hss0,hse0⟩:=spec_lens hS0
 refine fcC (slenI 1 rfl) (fun hm1=> ?_)
 refine sq (rg (bx (key:=2) (cs:= [sl 1 strE s.actions,sl 2 stateE s.states]) rfl fun b2=>(bx1 (key:=3) (φ:=sl 1 blE (hollow s)) rfl fun b3=>(ag (nl (th (sq (rg (fP rfl T.fld25_1 (lP rfl rfl rfl T.one23 (fc (slenI 13 rfl) fun hm13=>(lnF rfl T.sl23 (mk (key:=15) (m:=s.states.length) (enc:=eqvE) (y:=(.slice none 0 0:Value)) rfl rfl T.mk134 (ex_cons ex_nil) (by unfold maxL;omega) (by unfold maxL;omega) fun v15=>(ag (nl (th (sq (sq (rg (nbB 151 s.states.length 3 1 intE (fP rfl T.fld25_1 (lP rfl rfl rfl T.one23 (lnF rfl T.sl23 (mv (nl (th (bk ?_)))))))))))))))))))))))))))
 have hI0_0:0≤s.states.length:=by
  first|omega|simp
 have hI0_1:(List.replicate s.states.length (.slice none 0 0:Value)).length=s.states.length∧(List.replicate s.states.length [])=keepL s 0 (fun _=> []):=by
  exact⟨by simp,keepL_zero s⟩
 refine lp (κ:=Nat × (List Value) × (List (List Int))) (fun p=> [(3,ptr 3 b3 0),(4,eqv (.slice none 0 0)),(5,osl 15 v15),(17,sl 2 stateE s.states),(18,int (s.states.length:Int)),(19,int (p.1:Int))]) (fun p=> [(2,cell b2 [sl 1 strE s.actions,sl 2 stateE s.states]),(3,cell b3 [sl 1 blE (hollow s)]),(15,own v15 28 1 eqvE p.2.1),(151,bigown p.2.1 3 1 intE p.2.2 none)]) (fun p=>(p.1≤s.states.length)∧(p.2.1.length=s.states.length∧p.2.2=keepL s p.1 (fun _=> []))) (fun p=>s.states.length- p.1) ⟨0,List.replicate s.states.length (.slice none 0 0:Value),List.replicate s.states.length []⟩ ⟨hI0_0,hI0_1⟩ ⟨id,id,id,id,id,id,trivial⟩ ⟨⟨rfl,id⟩,⟨rfl,id⟩,⟨rfl,id⟩,⟨rfl,id⟩,trivial⟩ ?_
 intro⟨k,us,xss⟩ hG0
 obtain⟨hk0,hI0⟩:(k≤s.states.length)∧(us.length=s.states.length∧xss=keepL s k (fun _=> [])):=hG0
 show Ct _ _ _ _ [(3,ptr 3 b3 0),(4,eqv (.slice none 0 0)),(5,osl 15 v15),(17,sl 2 stateE s.states),(18,int (s.states.length:Int)),(19,int (k:Int))] [(2,cell b2 [sl 1 strE s.actions,sl 2 stateE s.states]),(3,cell b3 [sl 1 blE (hollow s)]),(15,own v15 28 1 eqvE us),(151,bigown us 3 1 intE xss none)] _
 have hul:=hI0.1
 have hxl0:xss.length=s.states.length:=by rw[hI0.2];exact keepL_len _ _ _
 refine sq (rg (bi rfl rfl b_lss (nl (th (sq ?_)))))
 refine cd rfl (fun hc0=> ?_) (fun hc0=> ?_)
 ·try simp at hc0
  have hox:=hs.st k hc0
  have hacl:=hox.acl
  have hxl:=hox.len
  refine sk (th (sq (bk (sq (rg (mv (iF rfl rfl T.sl23 (by omega) (by first|exact gN (by omega)|exact gI (by omega) (by omega)) (lFA rfl T.agg69 (Nat.le_of_ble_eq_true rfl) (al (key:=7) T.z69 (ex_cons (ex_cons (ex_nil))) fun b7=>(ag (sPA (cs':= [sl 1 intE ((ix s.states k).accept),sl 1 intE ((ix s.states k).next)]) rfl rfl rfl T.agg69 rfl rfl (nl (th (sq (rg (fP rfl T.fld69_0 (lP rfl rfl rfl T.one28 (fc (slenI 25 rfl) fun hm25=>(lnF rfl T.sl28 (mv (nl (th (bk ?_)))))))))))))))))))))))
  have hI1_0:0≤((ix s.states k).accept).length:=by
   first|omega|simp
  have hI1_1:us.length=s.states.length∧xss=keepL s k (fun x=>if x=k then((ix s.states k).accept.take 0).filter (fun t=> !ix (hollow s) k&& !falls (ix s.states k) t (hollow s)) else []):=by
   exact⟨hul,by rw[hI0.2,keepL_in];rfl⟩
  refine lp (κ:=Nat × (List Value) × (List (List Int))) (fun p=> [(3,ptr 3 b3 0),(4,eqv (.slice none 0 0)),(5,osl 15 v15),(6,int (k:Int)),(7,ptr 7 b7 0),(17,sl 2 stateE s.states),(18,int (s.states.length:Int)),(19,int (k:Int)),(25,sl 1 intE ((ix s.states k).accept)),(26,int (((ix s.states k).accept).length:Int)),(27,int (p.1:Int))]) (fun p=> [(2,cell b2 [sl 1 strE s.actions,sl 2 stateE s.states]),(3,cell b3 [sl 1 blE (hollow s)]),(7,cell b7 [sl 1 intE ((ix s.states k).accept),sl 1 intE ((ix s.states k).next)]),(15,own v15 28 1 eqvE p.2.1),(151,bigown p.2.1 3 1 intE p.2.2 none)]) (fun p=>(p.1≤((ix s.states k).accept).length)∧(p.2.1.length=s.states.length∧p.2.2=keepL s k (fun x=>if x=k then((ix s.states k).accept.take p.1).filter (fun t=> !ix (hollow s) k&& !falls (ix s.states k) t (hollow s)) else []))) (fun p=>((ix s.states k).accept).length- p.1) ⟨0,us,xss⟩ ⟨hI1_0,hI1_1⟩ ⟨id,id,id,id,id,id,id,id,id,id,id,trivial⟩ ⟨⟨rfl,id⟩,⟨rfl,id⟩,⟨rfl,id⟩,⟨rfl,id⟩,⟨rfl,id⟩,trivial⟩ ?_
  intro⟨k1,us3,xss3⟩ hG1
  obtain⟨hk1,hI1⟩:(k1≤((ix s.states k).accept).length)∧(us3.length=s.states.length∧xss3=keepL s k (fun x=>if x=k then((ix s.states k).accept.take k1).filter (fun t=> !ix (hollow s) k&& !falls (ix s.states k) t (hollow s)) else [])):=hG1
  show Ct _ _ _ _ [(3,ptr 3 b3 0),(4,eqv (.slice none 0 0)),(5,osl 15 v15),(6,int (k:Int)),(7,ptr 7 b7 0),(17,sl 2 stateE s.states),(18,int (s.states.length:Int)),(19,int (k:Int)),(25,sl 1 intE ((ix s.states k).accept)),(26,int (((ix s.states k).accept).length:Int)),(27,int (k1:Int))] [(2,cell b2 [sl 1 strE s.actions,sl 2 stateE s.states]),(3,cell b3 [sl 1 blE (hollow s)]),(7,cell b7 [sl 1 intE ((ix s.states k).accept),sl 1 intE ((ix s.states k).next)]),(15,own v15 28 1 eqvE us3),(151,bigown us3 3 1 intE xss3 none)] _
  have hul3:=hI1.1
  have hxl3:xss3.length=s.states.length:=by rw[hI1.2];exact keepL_len _ _ _
  refine sq (rg (bi rfl rfl b_lss (nl (th (sq ?_)))))
  refine cd rfl (fun hc1=> ?_) (fun hc1=> ?_)
  ·try simp at hc1
   have hac:=hox.ac k1 hc1
   refine sk (th (sq (bk (sq (rg (iF rfl rfl T.sl28 (by omega) (by first|exact gN (by omega)|exact gI (by omega) (by omega)) (lF rfl rfl T.one3 (ag (nl (th (sq (rg (lP rfl rfl rfl T.one72 (mv (iF rfl rfl T.sl72 (by omega) (gN (by omega)) (lF rfl rfl T.one4 (no rfl (al (key:=10) T.z4 (ex_cons (ex_nil)) fun b10=>(sP (φ:=bl (!(ix (hollow s) k))) rfl rfl rfl T.one4 rfl (nl (th (sq (sq (rg (mv (cal0 (φs:= [int (ix ((ix s.states k).accept) k1)]) (φ:=clo 115 [fp [int (ix ((ix s.states k).accept) k1)]]) ⟨rfl,trivial⟩ (prog3.In_ok (ix ((ix s.states k).accept) k1)) T.ent95 (nl (th (bk ?_)))))))))))))))))))))))))))))
   have hR0:(!(ix (hollow s) k))=(!ix (hollow s) k&&((listOf 63 (ix (ix s.states k).accept k1)).take 0).all (fun a=> !ix (hollow s) (ix (ix s.states k).next a.toNat).toNat)):=by
    simp
   refine rf (κ:=Bool) 900 (fun p=> [(2,cell b2 [sl 1 strE s.actions,sl 2 stateE s.states]),(3,cell b3 [sl 1 blE (hollow s)]),(7,cell b7 [sl 1 intE ((ix s.states k).accept),sl 1 intE ((ix s.states k).next)]),(10,cell b10 [bl p]),(15,own v15 28 1 eqvE us3),(151,bigown us3 3 1 intE xss3 none)]) (fun iR p=>p=(!ix (hollow s) k&&((listOf 63 (ix (ix s.states k).accept k1)).take iR).all (fun a=> !ix (hollow s) (ix (ix s.states k).next a.toNat).toNat))) (fun c p=>False) rfl (InIt (ix (ix s.states k).accept k1) (by omega) (by omega)) T.ent115 rfl (fun _=>rfl) (fun _=>rfl) (!(ix (hollow s) k)) hR0 ⟨⟨rfl,id⟩,⟨rfl,id⟩,⟨rfl,id⟩,⟨rfl,id⟩,⟨rfl,id⟩,⟨rfl,id⟩,trivial⟩ ?_ ?_ (fun k h=>h.elim) (fun id k h=>h.elim) (fun c k h=>h.elim)
   ·intro m0 fi x0 hG0 hx0 l R w1 M1 F1 hRd
    have hR0:fi=(!ix (hollow s) k&&((listOf 63 (ix (ix s.states k).accept k1)).take m0).all (fun a=> !ix (hollow s) (ix (ix s.states k).next a.toNat).toNat)):=hG0
    obtain⟨a,rfl,ha63,hha⟩:=listOf_get hx0
    have hgo:=hox.go k1 hc1 a hha
    have hnx:=hox.nx a hgo.1
    refine rg (ag (nl (aq hRd rfl (bk (dr (nh:=12) [0,1,3,3,11,3,59,123,255,511,1023,2047,4095] T.mixed (by kernel_rfl) ?_)))))
    refine st_ rfl (fun _ _ _ gq kq=>lP (gq.1.trans rfl) rfl rfl T.one4 kq) ?_
    refine st_ rfl (fun _ _ _ gq kq=>mv' (gq.1.trans rfl) kq) ?_
    refine sg_ (φ:=sl 1 blE (hollow s)) rfl rfl rfl rfl (List.mem_of_elem_eq_true rfl) (fun hgd=> ?_) ?_
    ·have hgd':=hgd
     try simp at hgd'
     exact fun _ _ _ gq kq=>lP (gq.1.trans rfl) rfl rfl T.one72 kq
    refine sg_ (φ:=ptr 7 b7 1) rfl rfl rfl rfl (List.mem_of_elem_eq_true rfl) (fun hgd=> ?_) ?_
    ·have hgd':=hgd
     try simp at hgd'
     exact fun _ _ _ gq kq=>fP (gq.1.trans rfl) T.fld69_1 kq
    refine sg_ (φ:=sl 1 intE ((ix s.states k).next)) rfl rfl rfl rfl (List.mem_of_elem_eq_true rfl) (fun hgd=> ?_) ?_
    ·have hgd':=hgd
     try simp at hgd'
     exact fun _ _ _ gq kq=>lP (gq.1.trans (gif_t hgd)) rfl rfl T.one28 kq
    refine sg_ (φ:=int (a:Int)) rfl rfl rfl rfl (List.mem_of_elem_eq_true rfl) (fun hgd=> ?_) ?_
    ·have hgd':=hgd
     try simp at hgd'
     exact fun _ _ _ gq kq=>mv' (gq.1.trans rfl) kq
    refine sg_ (φ:=fp [int (ix ((ix s.states k).next) a)]) rfl rfl rfl rfl (List.mem_of_elem_eq_true rfl) (fun hgd=> ?_) ?_
    ·have hgd':=hgd
     try simp at hgd'
     exact fun _ _ _ gq kq=>iF (gq.1.trans (gif_t hgd)) (gq.2.1.trans (gif_t hgd)) T.sl28 (by omega) (by first|exact gN (by omega)|exact gI (by omega) (by omega)) kq
    refine sg_ (φ:=int (ix ((ix s.states k).next) a)) rfl rfl rfl rfl (List.mem_of_elem_eq_true rfl) (fun hgd=> ?_) ?_
    ·have hgd':=hgd
     try simp at hgd'
     exact fun _ _ _ gq kq=>lF (gq.1.trans (gif_t hgd)) rfl T.one3 kq
    refine sg_ (φ:=fp [bl (ix (hollow s) ((ix ((ix s.states k).next) a).toNat))]) rfl rfl rfl rfl (List.mem_of_elem_eq_true rfl) (fun hgd=> ?_) ?_
    ·have hgd':=hgd
     try simp at hgd'
     exact fun _ _ _ gq kq=>iF (gq.1.trans (gif_t hgd)) (gq.2.1.trans (gif_t hgd)) T.sl72 (by omega) (by first|exact gN (by omega)|exact gI (by omega) (by omega)) kq
    refine sg_ (φ:=bl (ix (hollow s) ((ix ((ix s.states k).next) a).toNat))) rfl rfl rfl rfl (List.mem_of_elem_eq_true rfl) (fun hgd=> ?_) ?_
    ·have hgd':=hgd
     try simp at hgd'
     exact fun _ _ _ gq kq=>lF (gq.1.trans (gif_t hgd)) rfl T.one4 kq
    refine sg_ (φ:=bl (!(ix (hollow s) ((ix ((ix s.states k).next) a).toNat)))) rfl rfl rfl rfl (List.mem_of_elem_eq_true rfl) (fun hgd=> ?_) ?_
    ·have hgd':=hgd
     try simp at hgd'
     exact fun _ _ _ gq kq=>no (gq.1.trans (gif_t hgd)) kq
    refine st_ rfl (fun _ _ _ gq kq=>pk (gq.1.trans rfl) (pk_and (x:= .tmp 40) (gq.1.trans rfl) (gq.2.1.trans rfl) rfl) kq) ?_
    refine pn (sP (φ:=bl (fi&&(!(ix (hollow s) ((ix ((ix s.states k).next) a).toNat))))) rfl rfl rfl T.one4 rfl (nl (eb ?_)))
    have hN0:(fi&&(!(ix (hollow s) ((ix ((ix s.states k).next) a).toNat))))=(!ix (hollow s) k&&((listOf 63 (ix (ix s.states k).accept k1)).take (m0+1)).all (fun a=> !ix (hollow s) (ix (ix s.states k).next a.toNat).toNat)):=by
     rw[fine_snoc hx0,hR0];simp[Bool.and_assoc]
    exact rqN (fi&&(!(ix (hollow s) ((ix ((ix s.states k).next) a).toNat)))) hN0 ⟨⟨rfl,id⟩,⟨rfl,id⟩,⟨rfl,id⟩,⟨rfl,id⟩,⟨rfl,id⟩,⟨rfl,id⟩,⟨rfl,id⟩,trivial⟩
   ·intro fi hG0
    have hR0:fi=(!ix (hollow s) k&&((listOf 63 (ix (ix s.states k).accept k1)).take ((listOf 63 (ix (ix s.states k).accept k1)).length)).all (fun a=> !ix (hollow s) (ix (ix s.states k).next a.toNat).toNat)):=hG0
    refine eb (th (sq (rg (lP rfl rfl rfl T.one4 (nl (th ?_))))))
    refine cd rfl (fun hc2=> ?_) (fun hc2=> ?_)
    ·try simp at hc2
     have hxk:ix xss3 k=((ix s.states k).accept.take k1).filter (fun t=> !ix (hollow s) k&& !falls (ix s.states k) t (hollow s)):=by rw[hI1.2];exact keepL_at hc0 _
     have hxkl:(ix xss3 k).length≤256:=by
      rw[hxk]
      have h1:=List.length_filter_le (fun t=> !ix (hollow s) k&& !falls (ix s.states k) t (hollow s)) ((ix s.states k).accept.take k1)
      have h2:=List.length_take_le k1 (ix s.states k).accept
      omega
     refine rg (mv (mv (mv (mv (iO rfl rfl rfl T.sl134 (by omega) (by omega) (lO rfl rfl (by first|exact gN (by omega)|exact gI (by omega) (by omega)) rfl T.one28 (tkB 151 57 k rfl rfl (by decide) (gK (by omega)) (gK (by omega)) (kn 57 (osl 57 (ix us3 k)) rfl eq_osl (mv (bsE (enc:=intE) (xs:= [(ix ((ix s.states k).accept) k1)]) (css:= [[int (ix ((ix s.states k).accept) k1)]]) T.mk28 ⟨rfl,rfl,p1 (φ:=int (ix ((ix s.states k).accept) k1)) rfl,trivial⟩ rfl rfl rfl rfl (ap (key:=57) (zs:= [(ix ((ix s.states k).accept) k1)]) osl_eq rfl rfl rfl T.mk28 (by unfold maxL at*;simp;omega) (by unfold maxL at*;simp;omega) fun v60=>(iO rfl rfl rfl T.sl134 (by omega) (by omega) (sOO (k2:=57) rfl rfl osl_is rfl T.one28 (by first|exact gN (by omega)|exact gI (by omega) (by omega)) rfl (y':=v60) rfl (gvB (us:=us3) 151 57 k rfl rfl (by decide) (by omega) (nl (eb (th (rg (bi rfl rfl (b_add (by unfold I64;omega)) (mv (nl ?_)))))))))))))))))))))
     have hN0:(k1+1)≤((ix s.states k).accept).length:=by
      first|omega|simp_all
     have hN1:(us3.set k v60).length=s.states.length∧(xss3.set k ((ix xss3 k)++ [(ix ((ix s.states k).accept) k1)]))=keepL s k (fun x=>if x=k then((ix s.states k).accept.take (k1+1)).filter (fun t=> !ix (hollow s) k&& !falls (ix s.states k) t (hollow s)) else []):=by
      have hfi:(!ix (hollow s) k&& !falls (ix s.states k) (ix (ix s.states k).accept k1) (hollow s))=true:=by
       have h1:fi=(!ix (hollow s) k&&fine (ix s.states k) (ix (ix s.states k).accept k1) (hollow s)):=by rw[hR0,List.take_length];rfl
       rw[fine_eq hox hn8 (ix_mem hc1)] at h1
       rw[←h1];exact hc2
      refine⟨by simpa using hI1.1,?_⟩
      rw[hxk,hI1.2,keepL_put hc0,filter_take_succ hc1,hfi];rfl
     exact ln (⟨k1+1,us3.set k v60,xss3.set k ((ix xss3 k)++ [(ix ((ix s.states k).accept) k1)])⟩:Nat × (List Value) × (List (List Int))) ⟨hN0,hN1⟩ (by first|omega|(dsimp only;omega)) ⟨id,id,id,id,id,id,id,id,id,id,id,trivial⟩ ⟨⟨rfl,id⟩,⟨rfl,id⟩,⟨rfl,id⟩,⟨rfl,id⟩,⟨rfl,id⟩,trivial⟩
    ·try simp at hc2
     refine sk (eb (th (rg (bi rfl rfl (b_add (by unfold I64;omega)) (mv (nl ?_))))))
     have hN0:(k1+1)≤((ix s.states k).accept).length:=by
      first|omega|simp_all
     have hN1:us3.length=s.states.length∧xss3=keepL s k (fun x=>if x=k then((ix s.states k).accept.take (k1+1)).filter (fun t=> !ix (hollow s) k&& !falls (ix s.states k) t (hollow s)) else []):=by
      have hfi:(!ix (hollow s) k&& !falls (ix s.states k) (ix (ix s.states k).accept k1) (hollow s))=false:=by
       have h1:fi=(!ix (hollow s) k&&fine (ix s.states k) (ix (ix s.states k).accept k1) (hollow s)):=by rw[hR0,List.take_length];rfl
       rw[fine_eq hox hn8 (ix_mem hc1)] at h1
       rw[←h1];exact hc2
      refine⟨hI1.1,?_⟩
      rw[hI1.2,filter_take_succ hc1,hfi];simp
     exact ln (⟨k1+1,us3,xss3⟩:Nat × (List Value) × (List (List Int))) ⟨hN0,hN1⟩ (by first|omega|(dsimp only;omega)) ⟨id,id,id,id,id,id,id,id,id,id,id,trivial⟩ ⟨⟨rfl,id⟩,⟨rfl,id⟩,⟨rfl,id⟩,⟨rfl,id⟩,⟨rfl,id⟩,trivial⟩
  ·try simp at hc1
   refine ex (xt_ (xt_ (xb (eb (th (rg (bi rfl rfl (b_add (by unfold I64;omega)) (mv (nl ?_)))))))))
   have hN0:(k+1)≤s.states.length:=by
    first|omega|simp_all
   have hN1:us3.length=s.states.length∧xss3=keepL s (k+1) (fun _=> []):=by
    refine⟨hI1.1,?_⟩
    rw[hI1.2,show k1=(ix s.states k).accept.length by omega,List.take_length]
    exact keepL_out s k
   exact ln (⟨k+1,us3,xss3⟩:Nat × (List Value) × (List (List Int))) ⟨hN0,hN1⟩ (by first|omega|(dsimp only;omega)) ⟨id,id,id,id,id,id,trivial⟩ ⟨⟨rfl,id⟩,⟨rfl,id⟩,⟨rfl,id⟩,⟨rfl,id⟩,trivial⟩
 ·try simp at hc0
  refine ex (xt_ (xt_ (xb (th (sq (rg (mv (ag (nl (th (rt ?_)))))))))))
  refine fzBA 151 15 rfl rfl (by decide) ?_
  refine fzA 15 4 rfl rfl ?_
  have hr0:xss=(keeps s):=by
   rw[hI0.2,show k=s.states.length by omega];exact keepL_end s
  have hall:∀x0,xss=x0→resAV [sl 1 (fun xs=> [sl 1 intE xs]) xss]=resAV [sl 1 (fun xs=> [sl 1 intE xs]) x0]:=by rintro _ rfl;rfl
  exact rE () [.tmp 4] rfl [sl 1 (fun xs=> [sl 1 intE xs]) xss] ⟨.tmp rfl,trivial⟩ (hall _ hr0) trivial (by first|exact .inr rfl|exact .inl rfl)
end prog10
end Go.Proofs.YtolpjmllmlahfaaDoor
namespace Go.Proofs.YtolpjmllmlahfaaDoor
open AL ref01 ref03 ref04 ref06 Part Rungs LeftM TrimM Itoa Keys
namespace RoundM
theorem numBy_lt (rel:Nat→Nat→Bool):∀k,∀y∈(numBy rel k).2,0≤y∧y<(k:Int)
 |0,y,h=>by simp[numBy] at h
 |k+1,y,h=>by
  have ih:=numBy_lt rel k
  rw[numBy] at h
  split at h
  ·have:=ih y h;omega
  ·rcases List.mem_append.1 h with h|h
   ·have:=ih y h;omega
   ·have:y=(k:Int):=by simpa using h
    omega
theorem findIdx_congr {p q:Int→Bool}:∀{l:List Int},(∀y∈l,p y=q y)→l.findIdx? p=l.findIdx? q
 | [],_=>rfl
 |x::l,h=>by
  rw[List.findIdx?_cons,List.findIdx?_cons,h x (by simp),findIdx_congr (l:=l) (fun y hy=>h y (by simp[hy]))]
theorem numBy_cg {rel rel':Nat→Nat→Bool} {n:Nat} (h:∀x y,x<n→y<n→rel x y=rel' x y):∀k,k≤n→numBy rel k=numBy rel' k
 |0,_=>rfl
 |k+1,hk=>by
  have ih:=numBy_cg h k (by omega)
  have e:(numBy rel k).2.findIdx? (fun y=>rel k y.toNat)=(numBy rel' k).2.findIdx? (fun y=>rel' k y.toNat):=by
   rw[ih]
   exact findIdx_congr (fun y hy=>h k y.toNat (by omega) (by have:=numBy_lt rel' k y hy;omega))
  unfold numBy
  rw[e,ih]
theorem keep_bd {s:SSpec} (hs:okSpec s) (x:Nat):(∀t∈keep s x,0≤t∧t<256)∧(keep s x).length≤256:=by
 by_cases hx:x<s.states.length
 ·have hok:=hs.st x hx
  refine⟨fun t ht=>acc_bd hok (keep_mem ht).1,?_⟩
  have h1:=List.length_filter_le (fun t=> !ix (hollow s) x&& !falls (ix s.states x) t (hollow s)) (ix s.states x).accept
  have h2:=hok.acl
  unfold keep;omega
 ·have e:(ix s.states x).accept= []:=by
   have:ix s.states x=default:=by unfold ix;rw[List.getD_eq_getElem?_getD,List.getElem?_eq_none (by omega)];rfl
   rw[this];rfl
  have e2:keep s x= []:=by unfold keep;rw[e];rfl
  rw[e2];exact⟨fun t ht=>by simp at ht,by simp⟩
noncomputable def kf0 (s:SSpec) (x:Nat):ByteArray:=tailB (keep s x)
noncomputable def nbrs (s:SSpec) (cl:List Int) (x:Nat):List Int:=(listOf 63 (orAll (keep s x))).map fun a=>ix cl (ix (ix s.states x).next a.toNat).toNat
noncomputable def kf1 (s:SSpec) (cl:List Int) (x:Nat):ByteArray:=keyB (ix cl x) (nbrs s cl x)
theorem solid_next_ix {s:SSpec} (hs:okSpec s) {x:Nat} (hx:x<s.states.length) {a:Nat} (ha:a<(ix (solid s).states x).next.length):
 ix (ix (solid s).states x).next a=if has (orAll (keep s x)) (a:Int) then ix (ix s.states x).next a else-1:=by
 rw[solid_next hs hx,←(hs.st x hx).len] at ha
 rw[solid_at hx]
 exact cut_ix ha
theorem alike_keep {s:SSpec} {cl:List Int} {x y:Nat} (hx:x<s.states.length) (hy:y<s.states.length) (h:alike (solid s) cl x y=true):keep s x=keep s y:=by
 have:=(alike_iff.1 h).2.1
 rw[solid_at hx,solid_at hy] at this
 exact this
theorem alike_nbrs {s:SSpec} (hs:okSpec s) {cl:List Int} {x y:Nat} (hx:x<s.states.length) (hy:y<s.states.length):
 alike (solid s) cl x y=true↔ix cl x=ix cl y∧keep s x=keep s y∧nbrs s cl x=nbrs s cl y:=by
 have hlx:=(hs.st x hx).len
 have hly:=(hs.st y hy).len
 constructor
 ·intro h
  have hk:=alike_keep hx hy h
  obtain⟨h1,_,h3⟩:=alike_iff.1 h
  refine⟨h1,hk,?_⟩
  unfold nbrs
  rw[←hk]
  refine List.map_congr_left (fun a ha=> ?_)
  obtain⟨b,rfl,_,hb⟩:=listOf_mem.1 ha
  obtain⟨g1,g2,_,_⟩:=can_go hs hx hb
  have hb2:=hb
  rw[hk] at hb2
  have hbl:b<(ix (solid s).states x).next.length:=by rw[solid_next hs hx,←hlx];exact g1
  have hbl2:b<(ix (solid s).states y).next.length:=by rw[solid_next hs hy,←hlx];exact g1
  have:=(alikeNext_iff.1 h3 b hbl).2
  rw[solid_next_ix hs hx hbl,solid_next_ix hs hy hbl2,if_pos hb,if_pos hb2] at this
  rw[Int.toNat_natCast]
  exact this g2
 ·rintro⟨h1,h2,h3⟩
  refine alike_iff.2 ⟨h1,by rw[solid_at hx,solid_at hy];exact h2,alikeNext_iff.2 (fun b hb=> ?_)⟩
  have hb2:b<(ix (solid s).states y).next.length:=by rw[solid_next hs hy,←solid_next hs hx];exact hb
  rw[solid_next_ix hs hx hb,solid_next_ix hs hy hb2,←h2]
  by_cases hh:has (orAll (keep s x)) (b:Int)=true
  ·rw[if_pos hh,if_pos hh]
   have g:=can_go hs hx hh
   have g':=can_go hs hy (by rw[←h2];exact hh)
   refine⟨by omega,fun _=> ?_⟩
   unfold nbrs at h3
   rw[←h2] at h3
   have hm:(b:Int)∈listOf 63 (orAll (keep s x)):=listOf_mem.2 ⟨b,rfl,by have:=hs.n8;omega,hh⟩
   have:=List.map_inj_left.1 h3 (b:Int) hm
   rw[Int.toNat_natCast] at this
   exact this
  ·rw[if_neg hh,if_neg hh]
   exact⟨Iff.rfl,fun h=>by omega⟩
theorem bool_eq {a b:Bool} (h:a=true↔b=true):a=b:=by cases a<;>cases b<;>simp_all
theorem rel0 {s:SSpec} (hs:okSpec s) {x y:Nat} (hx:x<s.states.length) (hy:y<s.states.length):decide (kf0 s x=kf0 s y)=alike (solid s) (itR s 0).1 x y:=by
 refine bool_eq ?_
 rw[decide_eq_true_eq,alike_nbrs hs hx hy]
 have hz:∀i,ix (itR s 0).1 i=0:=fun i=>by
  show ix (List.replicate s.states.length (0:Int)) i=0
  unfold ix
  rw[List.getD_eq_getElem?_getD,List.getElem?_replicate]
  split<;>rfl
 constructor
 ·intro h
  have hk:keep s x=keep s y:=tailB_inj (fun t ht=>((keep_bd hs x).1 t ht).1) (fun t ht=>((keep_bd hs y).1 t ht).1) h
  refine⟨by rw[hz,hz],hk,?_⟩
  unfold nbrs
  rw[hk]
  exact List.map_congr_left (fun a _=>by rw[hz,hz])
 ·rintro⟨_,h,_⟩
  unfold kf0;rw[h]
theorem cl_bd {s:SSpec} (hs:okSpec s) (i:Nat) (x:Nat):0≤ix (itR s i).1 x∧ix (itR s i).1 x≤10000:=by
 by_cases hx:x<s.states.length
 ·cases i with
  |zero=>
   show 0≤ix (List.replicate s.states.length (0:Int)) x∧_
   unfold ix
   rw[show(itR s 0).1=List.replicate s.states.length (0:Int) from rfl,List.getD_eq_getElem?_getD,List.getElem?_replicate,if_pos hx]
   exact⟨Int.le_refl _,by decide⟩
  |succ i=>
   have h:=(numOK (itR_eqOn hs i) s.states.length (Nat.le_refl _)).cls x hx
   have h2:=num_le (rel:=alike (solid s) (itR s i).1) s.states.length
   have hf:=hs.few1
   show 0≤ix (numBy _ _).1 x∧ix (numBy _ _).1 x≤10000
   omega
 ·have:ix (itR s i).1 x=0:=by unfold ix;rw[List.getD_eq_getElem?_getD,List.getElem?_eq_none (by rw[itR_len];omega)];rfl
  rw[this];omega
theorem nbrs_bd {s:SSpec} (hs:okSpec s) (i x:Nat):∀y∈nbrs s (itR s i).1 x,0≤y∧y≤10000:=fun y hy=>by
 obtain⟨a,_,rfl⟩:=List.mem_map.1 hy
 exact cl_bd hs i _
theorem rel1 {s:SSpec} (hs:okSpec s) (i:Nat) {x y:Nat} (hx:x<s.states.length) (hy:y<s.states.length):decide (kf1 s (itR s (i+1)).1 x=kf1 s (itR s (i+1)).1 y)=alike (solid s) (itR s (i+1)).1 x y:=by
 refine bool_eq ?_
 rw[decide_eq_true_eq,alike_nbrs hs hx hy]
 constructor
 ·intro h
  obtain⟨h1,h2⟩:=keyB_inj (cl_bd hs _ _).1 (cl_bd hs _ _).1 (fun y hy=>(nbrs_bd hs _ _ y hy).1) (fun y hy=>(nbrs_bd hs _ _ y hy).1) h
  refine⟨h1,?_,h2⟩
  have:=((numOK (itR_eqOn hs i) s.states.length (Nat.le_refl _)).iff (itR_eqOn hs i) (Nat.le_refl _) hx hy).1 h1
  exact alike_keep hx hy this
 ·rintro⟨h1,_,h3⟩
  unfold kf1;rw[h1,h3]
theorem num0 {s:SSpec} (hs:okSpec s):((numBy (fun x y=>decide (kf0 s x=kf0 s y)) s.states.length).1,(numBy (fun x y=>decide (kf0 s x=kf0 s y)) s.states.length).2.length)=itR s 1:=by
 rw[numBy_cg (rel':=alike (solid s) (itR s 0).1) (fun x y hx hy=>rel0 hs hx hy) _ (Nat.le_refl _)];rfl
theorem num1 {s:SSpec} (hs:okSpec s) (i:Nat):((numBy (fun x y=>decide (kf1 s (itR s (i+1)).1 x=kf1 s (itR s (i+1)).1 y)) s.states.length).1,(numBy (fun x y=>decide (kf1 s (itR s (i+1)).1 x=kf1 s (itR s (i+1)).1 y)) s.states.length).2.length)=itR s (i+2):=by
 rw[numBy_cg (rel':=alike (solid s) (itR s (i+1)).1) (fun x y hx hy=>rel1 hs i hx hy) _ (Nat.le_refl _)];rfl
def stopP (s:SSpec) (r:Nat):Prop:=(itR s (r+2)).2=(itR s (r+1)).2
noncomputable instance (s:SSpec) (r:Nat):Decidable (stopP s r):=Nat.decEq _ _
noncomputable def stopR (s:SSpec):Nat:=(List.range (s.states.length+1)).findIdx fun r=>decide (stopP s r)
theorem grows {s:SSpec} (hs:okSpec s):∀j,(∀r,r<j→¬stopP s r)→j+1≤(itR s (j+1)).2
 |0,_=>num_pos (rel:=alike (solid s) (itR s 0).1) s.states.length hs.few0
 |j+1,h=>by
  have h1:=grows hs j (fun r hr=>h r (by omega))
  have h2:=(itR_step hs (j+1)).1
  have h3:(itR s (j+1+1)).2≠(itR s (j+1)).2:=h j (by omega)
  omega
theorem stop_lt {s:SSpec} (hs:okSpec s) {j:Nat} (h:∀r,r<j→¬stopP s r):j<s.states.length:=by
 have h1:=grows hs j h
 have h2:=itR_le (s:=s) (j+1)
 omega
theorem stop_ge {s:SSpec} (hs:okSpec s) {j:Nat} (h:∀r,r<j→¬stopP s r):j≤stopR s:=by
 have hj:=stop_lt hs h
 rcases Nat.lt_or_ge (stopR s) j with h1|h1
 ·have hl:stopR s<(List.range (s.states.length+1)).length:=by rw[List.length_range];omega
  have h5:decide (stopP s ((List.range (s.states.length+1))[stopR s]'hl))=true:=List.findIdx_getElem (w:=hl)
  rw[List.getElem_range,decide_eq_true_eq] at h5
  exact absurd h5 (h _ h1)
 ·exact h1
theorem stop_at {s:SSpec} (hs:okSpec s) {j:Nat} (h:∀r,r<j→¬stopP s r) (hP:stopP s j):stopR s=j:=by
 have hj:=stop_lt hs h
 have h1:=stop_ge hs h
 rcases Nat.lt_or_ge j (stopR s) with h2|h2
 ·have:=List.not_of_lt_findIdx h2
  simp only [List.getElem_range,decide_eq_false_iff_not] at this
  exact absurd hP this
 ·omega
theorem stop_spec {s:SSpec} (hs:okSpec s):stopP s (stopR s):=by
 have hno:∀r,r<stopR s→¬stopP s r:=fun r hr=>by
  have:=List.not_of_lt_findIdx hr
  simpa only [List.getElem_range,decide_eq_false_iff_not] using this
 have hl:=stop_lt hs hno
 have hl:stopR s<(List.range (s.states.length+1)).length:=by rw[List.length_range];omega
 have h5:decide (stopP s ((List.range (s.states.length+1))[stopR s]'hl))=true:=List.findIdx_getElem (w:=hl)
 rw[List.getElem_range,decide_eq_true_eq] at h5
 exact h5
noncomputable def roundsL (s:SSpec):List (List Int):=(List.range (stopR s+1)).map fun j=>(itR s (j+1)).1
theorem rounds_at {s:SSpec} (hs:okSpec s) {j:Nat} (h:∀r,r<j→¬stopP s r):(roundsL s)[j]?=some (itR s (j+1)).1:=by
 have:=stop_ge hs h
 unfold roundsL
 rw[List.getElem?_map,List.getElem?_range (by omega)];rfl
theorem rounds_len {s:SSpec} (hs:okSpec s) {j:Nat} (h:∀r,r<j→¬stopP s r) (hP:stopP s j):(roundsL s).length=j+1:=by
 unfold roundsL
 rw[List.length_map,List.length_range,stop_at hs h hP]
theorem rounds_get {s:SSpec} {j:Nat} {x:List Int} (h:(roundsL s)[j]?=some x):x=(itR s (j+1)).1:=by
 unfold roundsL at h
 rw[List.getElem?_map] at h
 cases hr:(List.range (stopR s+1))[j]? with
 |none=>rw[hr] at h;cases h
 |some k=>
  rw[hr] at h
  have:=List.getElem?_eq_some_iff.1 hr
  obtain⟨h1,h2⟩:=this
  simp at h2
  subst h2
  simpa using h.symm
theorem rounds_last {s:SSpec} (hs:okSpec s):(roundsL s).length=stopR s+1∧(itR s (stopR s+1)).1=classesR s:=by
 have hP:=stop_spec hs
 have hno:∀r,r<stopR s→¬stopP s r:=fun r hr=>by
  have:=List.not_of_lt_findIdx hr
  simpa only [List.getElem_range,decide_eq_false_iff_not] using this
 have hl:=stop_lt hs hno
 have e:(itR s (stopR s+1)).2=(itR s (stopR s+1+1)).2:=hP.symm
 refine⟨by simp[roundsL],?_⟩
 have h1:=(itR_step hs (stopR s+1)).2 e
 have h2:=itR_end hs (i:=stopR s+1) (by omega) e
 rw[h2,h1]
end RoundM
end Go.Proofs.YtolpjmllmlahfaaDoor
